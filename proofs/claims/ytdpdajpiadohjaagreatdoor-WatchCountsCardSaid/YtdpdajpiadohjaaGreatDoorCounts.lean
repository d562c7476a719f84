/-
  This text shows that the statement WatchCountsCardSaid holds of the program. Conditions: none for the last theorem, those that each theorem states for the others.
-/
import Derived.Test.YtdpdajpiadohjaaGreatDoorPd
import Derived.ChangeMaps5
import Derived.Deep.Strs
import Derived.LaidMore
import Derived.Lib.LaidTab
import Derived.Lib.SmallJoins
import Derived.SevenTiedAt
import Derived.Stop.LaidErr
import Derived.Test.YtdpdajpiadohjaaGreatDoorCards
import Derived.Test.YtdpdajpiadohjaaGreatDoorTie
set_option maxRecDepth 100000
set_option maxHeartbeats 1000000
namespace Go.Proofs.YtdpdajpiadohjaaGreatDoor
open Go.Abs
section
variable {W0:World} {m0:Inj Tryz.prog}
theorem head_kn (hhd:KC.Holds Tryz.prog W0 m0 ⟨7,[],[.bool true]⟩) (A':AW) {K:Value→AW→Prop} (hk:K (.bool true) A'):knW Tryz.prog W0 m0 7 [] A' K:=.inl ⟨[.bool true],by decide,hhd,rfl,fun v hv=>by
 obtain rfl:v=.bool true:=by simpa using hv
 exact hk⟩
end
end Go.Proofs.YtdpdajpiadohjaaGreatDoor
namespace Go.Proofs.YtdpdajpiadohjaaGreatDoor
open Go Go.Abs Go.ChangeShapes Go.WideShapes Go.ChangeAt Go.RowKit Go.Joins Go.Deep
open Hd (rowsG head_calls)
theorem head_kc {W:World} (hW:Go.Abs.Holds W rowsG) (m:Inj Tryz.prog):KC.Holds Tryz.prog W m ⟨7,[],[.bool true]⟩:=kc_true (by decide) head_calls hW m
theorem holds_none (W:World):Go.Abs.Holds W rowsG:=fun x hx=>by cases hx
theorem Tryz.cells9:Tryz.prog.cellsOf 9=1:=by kernel_rfl
theorem Tryz.cells44:Tryz.prog.cellsOf 44=1:=by kernel_rfl
theorem Tryz.cells46:Tryz.prog.cellsOf 46=3:=by kernel_rfl
section
variable {H:Type} {enc:TypeId × Value→H} {w:World} {q:Nat}
theorem read_num {t:TypeId} {c0:Value} {k:IntKind} {y:DataW H × List MemPlace} (hu:Tryz.prog.underlying t=some (.int k)) (hmin:k.min=0) (h:DataW.trod enc Tryz.prog w 0 (fun _=>true) true q t [c0]=some y):∃ n:Nat,c0=.int k (n:Int)∧(n:Int)≤k.max:=by
 obtain ⟨k,e0,_,wk⟩:=DataW.trod_int hu h
 cases e0
 simp only [Lit.wf,Bool.and_eq_true,decide_eq_true_eq] at wk
 have hk0:0≤k:=by have:=wk.1;rw [hmin] at this;exact this
 refine ⟨k.toNat,?_,?_⟩
 ·rw [Int.toNat_of_nonneg hk0]
 ·rw [Int.toNat_of_nonneg hk0];exact wk.2
theorem read_txt {c0:Value} {y:DataW H × List MemPlace} (h:DataW.trod enc Tryz.prog w 0 (fun _=>true) true q 9 [c0]=some y):∃ g:ByteArray,c0=.string g∧slen g < 9223372036854775808:=by
 obtain ⟨g,e1,_,h1⟩:=DataW.trod_string Tryz.underlying9 h
 cases e1
 exact ⟨g,rfl,Nat.lt_of_le_of_lt (show slen g≤maxLen from h1) (by decide)⟩
theorem read_xid {c0 c1 c2:Value} {y:DataW H × List MemPlace} (h:DataW.trod enc Tryz.prog w 0 (fun _=>true) true q 46 [c0,c1,c2]=some y):
  ∃ (f:Nat) (g b:ByteArray),c0=.int .u32 (f:Int)∧c1=.string g∧c2=.string b∧slen g < 9223372036854775808∧slen b < 9223372036854775808:=by
 obtain ⟨z0,z1,z2,n',_,_,g0,g1,g2⟩:=trod_struct3 Tryz.underlying46 h
 have g0:DataW.trod enc Tryz.prog w 0 (fun _=>true) true n' 44 [c0]=some z0:=by simpa [Tryz.cells44] using g0
 have g1:DataW.trod enc Tryz.prog w 0 (fun _=>true) true n' 9 [c1]=some z1:=by simpa [Tryz.cells9] using g1
 have g2:DataW.trod enc Tryz.prog w 0 (fun _=>true) true n' 9 [c2]=some z2:=by simpa [Tryz.cells9] using g2
 obtain ⟨f,e0,hf⟩:=read_num Tryz.underlying44 rfl g0
 obtain ⟨g,e1,h1⟩:=read_txt g1
 obtain ⟨b,e2,h2⟩:=read_txt g2
 cases e0;cases e1;cases e2
 exact ⟨f,g,b,rfl,rfl,rfl,h1,h2⟩
end
theorem Tryz.own:ownKnob Tryz.prog.godebug=none:=by kernel_rfl
theorem Tryz.laidOut:laidOutB Tryz.prog=true:=by kernel_rfl
noncomputable def doorW (os:Os):World:={ World.doorLaid Tryz.prog 400 os with heap:=(World.doorLaid Tryz.prog 400 os).heap.set! 1 (.cells ⟨Go.Pinned.utf8FirstZ.map fun (n:Nat)=>Value.int .u8 n⟩ 237 (0,0)) }
end Go.Proofs.YtdpdajpiadohjaaGreatDoor
namespace Go.Proofs.YtdpdajpiadohjaaGreatDoor
open Go.Abs
noncomputable def T6:Nat→List Item:=fun i=>match i with
 | 0=>[(.code (cd 6 [1,1,0,1,0,0])),(.inLoop (cd 6 [1,1,0,1,0,0])),(.inBlock 0),(.code (cd 6 [1,1,1]))]
 | _=>[]
def L6:Nat→List Tmp:=fun i=>match i with
 | 0=>[0,1,5]
 | _=>[]
theorem e6 (W0:World) (m0:Inj Tryz.prog) (S:Nat→List Value→AW→Prop) (Q:Value→AW→Prop) (a0 a1:Value) (A:AW):wpgo Tryz.prog theX W0 m0 6 T6 L6 S Q none 4000 (Tm.fill ⟨40,.nil⟩ 0 [a0,a1]) [.code (cd 6 [])] false 0 0 0 [] A=(pureW (lenA Tryz.prog A 51 a0) fun t0=>pureW (binA Tryz.prog .gtr 3 (.tmp 7) (.const (.int .i64 4)) t0 (.int .i64 4)) fun t1=>forkW t1 (knW Tryz.prog W0 m0 7 [] A fun t2 At2=>Q t2 At2) (cutW (T6 0) (T6 0) (S 0 [a0,a1,(.int .i64 0)] A))):=by kernel_rfl
theorem l6_0 (W0:World) (m0:Inj Tryz.prog) (S:Nat→List Value→AW→Prop) (Q:Value→AW→Prop) (d:Nat→Value) (A:AW):wpgo Tryz.prog theX W0 m0 6 T6 L6 S Q none 4000 (tmOf 40 d) (T6 0) false 0 0 0 [] A=(pureW (lenA Tryz.prog A 51 (d 0)) fun t0=>pureW (binA Tryz.prog .lss 3 (.tmp 10) (.tmp 12) (d 5) t0) fun t1=>forkW t1 (pureW (indexAddrA Tryz.prog 51 (d 0) (d 5)) fun t2=>pureW (loadP Tryz.prog A 37 t2) fun t3=>Wc Tryz.prog theX W0 m0 15 [t3] A fun t4 At4=>pureW (unA Tryz.prog .not t4) fun t5=>forkW t5 (knW Tryz.prog W0 m0 7 [] At4 fun t6 At6=>Q t6 At6) (pureW (binA Tryz.prog .add 3 (.tmp 14) (.const (.int .i64 1)) (d 5) (.int .i64 1)) fun t7=>cutW (T6 0) (T6 0) (S 0 [(d 0),(d 1),t7] At4))) (Wc Tryz.prog theX W0 m0 19 [(d 0)] A fun t8 At8=>Wc Tryz.prog theX W0 m0 20 [(d 0)] At8 fun t9 At9=>Wc Tryz.prog theX W0 m0 11 [t8,t9] At9 fun t10 At10=>forkW t10 (Wc Tryz.prog theX W0 m0 21 [(d 0),(d 1)] At10 fun t11 At11=>Wc Tryz.prog theX W0 m0 22 [(d 0),(d 1)] At11 fun t12 At12=>pureW (binA Tryz.prog .eql 3 (.tmp 31) (.tmp 34) t11 t12) fun t13=>forkW t13 (knW Tryz.prog W0 m0 7 [] At12 fun t14 At14=>Q t14 At14) (Q (.bool false) At12)) (Q (.bool false) At10))):=by kernel_rfl
theorem n6 (a0 a1:Value):enterA Tryz.prog 6 [a0,a1] .normal=some (frM 6 (Tm.fill ⟨40,.nil⟩ 0 [a0,a1]) [.code (cd 6 [])] false):=by kernel_rfl
theorem w6:Wf2 6 40 T6 L6:=wf2 n6 (by decide) fun _ _=>rfl
theorem c6:Cutf 6 40 T6 L6:=cutf (by decide)
noncomputable def T15:Nat→List Item:=fun i=>match i with
 | 0=>[(.code (cd 15 [1,1,0,1,0,0])),(.inLoop (cd 15 [1,1,0,1,0,0])),(.inBlock 0),(.code (cd 15 [1,1,1]))]
 | 2=>[(.code (cd 15 [1,1,0,1,0,0,1,0,0,1,1,0,0])),(.inLoop (cd 15 [1,1,0,1,0,0,1,0,0,1,1,0,0])),(.inBlock 2),(.inBlock 1),(.code (cd 15 [1,1,0,1,0,0,1,1])),(.inLoop (cd 15 [1,1,0,1,0,0])),(.inBlock 0),(.code (cd 15 [1,1,1]))]
 | 4=>[(.code (cd 15 [1,1,1,0,1,0,0])),(.inLoop (cd 15 [1,1,1,0,1,0,0])),(.inBlock 4),(.code (cd 15 [1,1,1,1]))]
 | _=>[]
def L15:Nat→List Tmp:=fun i=>match i with
 | 0=>[1,3]
 | 2=>[1,3,4]
 | 4=>[1,5]
 | _=>[]
theorem e15 (W0:World) (m0:Inj Tryz.prog) (S:Nat→List Value→AW→Prop) (Q:Value→AW→Prop) (a0:Value) (A:AW):wpgo Tryz.prog theX W0 m0 15 T15 L15 S Q none 4000 (Tm.fill ⟨119,.nil⟩ 0 [a0]) [.code (cd 15 [])] false 0 0 0 [] A=(bothW (newP A (Value.cells a0).toList 37) fun t0 At0=>pureW (fieldAddrA Tryz.prog 37 t0 1) fun t1=>pureW (loadP Tryz.prog At0 33 t1) fun t2=>pureW (lenA Tryz.prog At0 33 t2) fun t3=>pureW (binA Tryz.prog .gtr 3 (.tmp 8) (.const (.int .i64 12)) t3 (.int .i64 12)) fun t4=>forkW t4 (Q (.bool false) At0) (pureW (fieldAddrA Tryz.prog 37 t0 2) fun t5=>pureW (loadP Tryz.prog At0 34 t5) fun t6=>pureW (lenA Tryz.prog At0 34 t6) fun t7=>pureW (binA Tryz.prog .gtr 3 (.tmp 13) (.const (.int .i64 12)) t7 (.int .i64 12)) fun t8=>forkW t8 (Q (.bool false) At0) (pureW (fieldAddrA Tryz.prog 37 t0 3) fun t9=>pureW (loadP Tryz.prog At0 35 t9) fun t10=>pureW (lenA Tryz.prog At0 35 t10) fun t11=>pureW (binA Tryz.prog .gtr 3 (.tmp 19) (.const (.int .i64 40)) t11 (.int .i64 40)) fun t12=>forkW t12 (Q (.bool false) At0) (cutW (T15 0) (T15 0) (S 0 [t0,(.int .i64 0)] At0))))):=by kernel_rfl
theorem l15_0 (W0:World) (m0:Inj Tryz.prog) (S:Nat→List Value→AW→Prop) (Q:Value→AW→Prop) (d:Nat→Value) (A:AW):wpgo Tryz.prog theX W0 m0 15 T15 L15 S Q none 4000 (tmOf 119 d) (T15 0) false 0 0 0 [] A=(pureW (fieldAddrA Tryz.prog 37 (d 1) 1) fun t0=>pureW (loadP Tryz.prog A 33 t0) fun t1=>pureW (lenA Tryz.prog A 33 t1) fun t2=>pureW (binA Tryz.prog .lss 3 (.tmp 22) (.tmp 25) (d 3) t2) fun t3=>forkW t3 (pureW (fieldAddrA Tryz.prog 37 (d 1) 1) fun t4=>pureW (loadP Tryz.prog A 33 t4) fun t5=>pureW (indexAddrA Tryz.prog 33 t5 (d 3)) fun t6=>pureW (fieldAddrA Tryz.prog 75 t6 2) fun t7=>pureW (loadP Tryz.prog A 73 t7) fun t8=>pureW (lenA Tryz.prog A 73 t8) fun t9=>pureW (binA Tryz.prog .gtr 3 (.tmp 35) (.const (.int .i64 40)) t9 (.int .i64 40)) fun t10=>forkW t10 (Q (.bool false) A) (pureW (fieldAddrA Tryz.prog 37 (d 1) 1) fun t11=>pureW (loadP Tryz.prog A 33 t11) fun t12=>pureW (indexAddrA Tryz.prog 33 t12 (d 3)) fun t13=>pureW (fieldAddrA Tryz.prog 75 t13 0) fun t14=>pureW (loadP Tryz.prog A 9 t14) fun t15=>pureW (lenA Tryz.prog A 9 t15) fun t16=>pureW (binA Tryz.prog .gtr 3 (.tmp 44) (.const (.int .i64 200)) t16 (.int .i64 200)) fun t17=>forkW t17 (Q (.bool false) A) (cutW (T15 2) (T15 2) (S 2 [(d 1),(d 3),(.int .i64 0)] A)))) (cutW (T15 4) (T15 4) (S 4 [(d 1),(.int .i64 0)] A))):=by kernel_rfl
theorem l15_2 (W0:World) (m0:Inj Tryz.prog) (S:Nat→List Value→AW→Prop) (Q:Value→AW→Prop) (d:Nat→Value) (A:AW):wpgo Tryz.prog theX W0 m0 15 T15 L15 S Q none 4000 (tmOf 119 d) (T15 2) false 0 0 0 [] A=(pureW (fieldAddrA Tryz.prog 37 (d 1) 1) fun t0=>pureW (loadP Tryz.prog A 33 t0) fun t1=>pureW (indexAddrA Tryz.prog 33 t1 (d 3)) fun t2=>pureW (fieldAddrA Tryz.prog 75 t2 2) fun t3=>pureW (loadP Tryz.prog A 73 t3) fun t4=>pureW (lenA Tryz.prog A 73 t4) fun t5=>pureW (binA Tryz.prog .lss 3 (.tmp 47) (.tmp 54) (d 4) t5) fun t6=>forkW t6 (pureW (fieldAddrA Tryz.prog 37 (d 1) 1) fun t7=>pureW (loadP Tryz.prog A 33 t7) fun t8=>pureW (indexAddrA Tryz.prog 33 t8 (d 3)) fun t9=>pureW (fieldAddrA Tryz.prog 75 t9 2) fun t10=>pureW (loadP Tryz.prog A 73 t10) fun t11=>pureW (indexAddrA Tryz.prog 73 t11 (d 4)) fun t12=>pureW (fieldAddrA Tryz.prog 84 t12 2) fun t13=>pureW (loadP Tryz.prog A 9 t13) fun t14=>pureW (lenA Tryz.prog A 9 t14) fun t15=>pureW (binA Tryz.prog .gtr 3 (.tmp 68) (.const (.int .i64 5000)) t15 (.int .i64 5000)) fun t16=>forkW t16 (Q (.bool false) A) (pureW (fieldAddrA Tryz.prog 37 (d 1) 1) fun t17=>pureW (loadP Tryz.prog A 33 t17) fun t18=>pureW (indexAddrA Tryz.prog 33 t18 (d 3)) fun t19=>pureW (fieldAddrA Tryz.prog 75 t19 2) fun t20=>pureW (loadP Tryz.prog A 73 t20) fun t21=>pureW (indexAddrA Tryz.prog 73 t21 (d 4)) fun t22=>pureW (fieldAddrA Tryz.prog 84 t22 1) fun t23=>pureW (loadP Tryz.prog A 82 t23) fun t24=>Wc Tryz.prog theX W0 m0 34 [t24] A fun t25 At25=>pureW (unA Tryz.prog .not t25) fun t26=>forkW t26 (Q (.bool false) At25) (pureW (binA Tryz.prog .add 3 (.tmp 56) (.const (.int .i64 1)) (d 4) (.int .i64 1)) fun t27=>cutW (T15 2) (T15 2) (S 2 [(d 1),(d 3),t27] At25)))) (pureW (binA Tryz.prog .add 3 (.tmp 27) (.const (.int .i64 1)) (d 3) (.int .i64 1)) fun t28=>cutW (T15 0) (T15 0) (S 0 [(d 1),t28] A))):=by kernel_rfl
theorem l15_4 (W0:World) (m0:Inj Tryz.prog) (S:Nat→List Value→AW→Prop) (Q:Value→AW→Prop) (d:Nat→Value) (A:AW):wpgo Tryz.prog theX W0 m0 15 T15 L15 S Q none 4000 (tmOf 119 d) (T15 4) false 0 0 0 [] A=(pureW (fieldAddrA Tryz.prog 37 (d 1) 2) fun t0=>pureW (loadP Tryz.prog A 34 t0) fun t1=>pureW (lenA Tryz.prog A 34 t1) fun t2=>pureW (binA Tryz.prog .lss 3 (.tmp 84) (.tmp 87) (d 5) t2) fun t3=>forkW t3 (pureW (fieldAddrA Tryz.prog 37 (d 1) 2) fun t4=>pureW (loadP Tryz.prog A 34 t4) fun t5=>pureW (indexAddrA Tryz.prog 34 t5 (d 5)) fun t6=>pureW (fieldAddrA Tryz.prog 89 t6 1) fun t7=>pureW (loadP Tryz.prog A 86 t7) fun t8=>pureW (lenA Tryz.prog A 86 t8) fun t9=>pureW (binA Tryz.prog .gtr 3 (.tmp 97) (.const (.int .i64 20)) t9 (.int .i64 20)) fun t10=>forkW t10 (Q (.bool false) A) (pureW (fieldAddrA Tryz.prog 37 (d 1) 2) fun t11=>pureW (loadP Tryz.prog A 34 t11) fun t12=>pureW (indexAddrA Tryz.prog 34 t12 (d 5)) fun t13=>pureW (fieldAddrA Tryz.prog 89 t13 2) fun t14=>pureW (loadP Tryz.prog A 87 t14) fun t15=>pureW (lenA Tryz.prog A 87 t15) fun t16=>pureW (binA Tryz.prog .gtr 3 (.tmp 106) (.const (.int .i64 20)) t16 (.int .i64 20)) fun t17=>forkW t17 (Q (.bool false) A) (pureW (fieldAddrA Tryz.prog 37 (d 1) 2) fun t18=>pureW (loadP Tryz.prog A 34 t18) fun t19=>pureW (indexAddrA Tryz.prog 34 t19 (d 5)) fun t20=>pureW (loadP Tryz.prog A 89 t20) fun t21=>Wc Tryz.prog theX W0 m0 36 [t21] A fun t22 At22=>Wc Tryz.prog theX W0 m0 35 [t22] At22 fun t23 At23=>pureW (unA Tryz.prog .not t23) fun t24=>forkW t24 (Q (.bool false) At23) (pureW (binA Tryz.prog .add 3 (.tmp 89) (.const (.int .i64 1)) (d 5) (.int .i64 1)) fun t25=>cutW (T15 4) (T15 4) (S 4 [(d 1),t25] At23))))) (Q (.bool true) A)):=by kernel_rfl
theorem n15 (a0:Value):enterA Tryz.prog 15 [a0] .normal=some (frM 15 (Tm.fill ⟨119,.nil⟩ 0 [a0]) [.code (cd 15 [])] false):=by kernel_rfl
theorem w15:Wf1 15 119 T15 L15:=wf1 n15 (by decide) fun _=>rfl
theorem c15:Cutf 15 119 T15 L15:=cutf (by decide)
noncomputable def T34:Nat→List Item:=fun i=>match i with
 | _=>[]
def L34:Nat→List Tmp:=fun i=>match i with
 | _=>[]
theorem e34 (W0:World) (m0:Inj Tryz.prog) (S:Nat→List Value→AW→Prop) (Q:Value→AW→Prop) (a0:Value) (A:AW):wpgo Tryz.prog theX W0 m0 34 T34 L34 S Q none 4000 (Tm.fill ⟨18,.nil⟩ 0 [a0]) [.code (cd 34 [])] false 0 0 0 [] A=(bothW (newP A (Value.cells a0).toList 82) fun t0 At0=>pureW (fieldAddrA Tryz.prog 82 t0 0) fun t1=>pureW (loadP Tryz.prog At0 9 t1) fun t2=>pureW (lenA Tryz.prog At0 9 t2) fun t3=>pureW (binA Tryz.prog .leq 3 (.tmp 5) (.const (.int .i64 1000)) t3 (.int .i64 1000)) fun t4=>forkW t4 (pureW (fieldAddrA Tryz.prog 82 t0 3) fun t5=>pureW (loadP Tryz.prog At0 9 t5) fun t6=>pureW (lenA Tryz.prog At0 9 t6) fun t7=>pureW (binA Tryz.prog .leq 3 (.tmp 10) (.const (.int .i64 1000)) t7 (.int .i64 1000)) fun t8=>forkW t8 (pureW (fieldAddrA Tryz.prog 82 t0 4) fun t9=>pureW (loadP Tryz.prog At0 80 t9) fun t10=>knW Tryz.prog W0 m0 60 [t10] At0 fun t11 At11=>Q t11 At11) (Q (.bool false) At0)) (Q (.bool false) At0)):=by kernel_rfl
theorem n34 (a0:Value):enterA Tryz.prog 34 [a0] .normal=some (frM 34 (Tm.fill ⟨18,.nil⟩ 0 [a0]) [.code (cd 34 [])] false):=by kernel_rfl
theorem w34:Wf1 34 18 T34 L34:=wf1 n34 (by decide) fun _=>rfl
noncomputable def T35:Nat→List Item:=fun i=>match i with
 | 0=>[(.code (cd 35 [1,1,0,1,0,0])),(.inLoop (cd 35 [1,1,0,1,0,0])),(.inBlock 0),(.code (cd 35 [1,1,1]))]
 | _=>[]
def L35:Nat→List Tmp:=fun i=>match i with
 | 0=>[1,3]
 | _=>[]
theorem e35 (W0:World) (m0:Inj Tryz.prog) (S:Nat→List Value→AW→Prop) (Q:Value→AW→Prop) (a0:Value) (A:AW):wpgo Tryz.prog theX W0 m0 35 T35 L35 S Q none 4000 (Tm.fill ⟨35,.nil⟩ 0 [a0]) [.code (cd 35 [])] false 0 0 0 [] A=(bothW (newP A (Value.cells a0).toList 92) fun t0 At0=>pureW (fieldAddrA Tryz.prog 92 t0 5) fun t1=>pureW (loadP Tryz.prog At0 87 t1) fun t2=>pureW (lenA Tryz.prog At0 87 t2) fun t3=>pureW (binA Tryz.prog .gtr 3 (.tmp 6) (.const (.int .i64 110)) t3 (.int .i64 110)) fun t4=>forkW t4 (Q (.bool false) At0) (pureW (fieldAddrA Tryz.prog 92 t0 1) fun t5=>pureW (loadP Tryz.prog At0 9 t5) fun t6=>pureW (lenA Tryz.prog At0 9 t6) fun t7=>pureW (binA Tryz.prog .gtr 3 (.tmp 11) (.const (.int .i64 200)) t7 (.int .i64 200)) fun t8=>forkW t8 (Q (.bool false) At0) (pureW (fieldAddrA Tryz.prog 92 t0 4) fun t9=>pureW (loadP Tryz.prog At0 86 t9) fun t10=>Wc Tryz.prog theX W0 m0 61 [t10,(.int .i64 110)] At0 fun t11 At11=>pureW (unA Tryz.prog .not t11) fun t12=>forkW t12 (Q (.bool false) At11) (cutW (T35 0) (T35 0) (S 0 [t0,(.int .i64 0)] At11))))):=by kernel_rfl
theorem l35_0 (W0:World) (m0:Inj Tryz.prog) (S:Nat→List Value→AW→Prop) (Q:Value→AW→Prop) (d:Nat→Value) (A:AW):wpgo Tryz.prog theX W0 m0 35 T35 L35 S Q none 4000 (tmOf 35 d) (T35 0) false 0 0 0 [] A=(pureW (fieldAddrA Tryz.prog 92 (d 1) 5) fun t0=>pureW (loadP Tryz.prog A 87 t0) fun t1=>pureW (lenA Tryz.prog A 87 t1) fun t2=>pureW (binA Tryz.prog .lss 3 (.tmp 20) (.tmp 23) (d 3) t2) fun t3=>forkW t3 (pureW (fieldAddrA Tryz.prog 92 (d 1) 5) fun t4=>pureW (loadP Tryz.prog A 87 t4) fun t5=>pureW (indexAddrA Tryz.prog 87 t5 (d 3)) fun t6=>pureW (fieldAddrA Tryz.prog 120 t6 0) fun t7=>pureW (loadP Tryz.prog A 9 t7) fun t8=>pureW (lenA Tryz.prog A 9 t8) fun t9=>pureW (binA Tryz.prog .gtr 3 (.tmp 33) (.const (.int .i64 200)) t9 (.int .i64 200)) fun t10=>forkW t10 (Q (.bool false) A) (pureW (binA Tryz.prog .add 3 (.tmp 25) (.const (.int .i64 1)) (d 3) (.int .i64 1)) fun t11=>cutW (T35 0) (T35 0) (S 0 [(d 1),t11] A))) (Q (.bool true) A)):=by kernel_rfl
theorem n35 (a0:Value):enterA Tryz.prog 35 [a0] .normal=some (frM 35 (Tm.fill ⟨35,.nil⟩ 0 [a0]) [.code (cd 35 [])] false):=by kernel_rfl
theorem w35:Wf1 35 35 T35 L35:=wf1 n35 (by decide) fun _=>rfl
theorem c35:Cutf 35 35 T35 L35:=cutf (by decide)
noncomputable def T36:Nat→List Item:=fun i=>match i with
 | _=>[]
def L36:Nat→List Tmp:=fun i=>match i with
 | _=>[]
theorem e36 (W0:World) (m0:Inj Tryz.prog) (S:Nat→List Value→AW→Prop) (Q:Value→AW→Prop) (a0:Value) (A:AW):wpgo Tryz.prog theX W0 m0 36 T36 L36 S Q none 4000 (Tm.fill ⟨10,.nil⟩ 0 [a0]) [.code (cd 36 [])] false 0 0 0 [] A=(bothW (newP A (Value.cells a0).toList 89) fun t0 At0=>bothW (allocP Tryz.prog At0 92) fun t1 At1=>pureW (fieldAddrA Tryz.prog 89 t0 0) fun t2=>pureW (loadP Tryz.prog At1 46 t2) fun t3=>pureW (fieldAddrA Tryz.prog 89 t0 1) fun t4=>pureW (loadP Tryz.prog At1 86 t4) fun t5=>pureW (fieldAddrA Tryz.prog 89 t0 2) fun t6=>pureW (loadP Tryz.prog At1 87 t6) fun t7=>pureW (buildA Tryz.prog 92 [(0,(.int .u8 4)),(3,t3),(4,t5),(5,t7)]) fun t8=>effW (storeP Tryz.prog At1 92 t1 t8) fun At9=>pureW (loadP Tryz.prog At9 92 t1) fun t10=>Q t10 At9):=by kernel_rfl
theorem n36 (a0:Value):enterA Tryz.prog 36 [a0] .normal=some (frM 36 (Tm.fill ⟨10,.nil⟩ 0 [a0]) [.code (cd 36 [])] false):=by kernel_rfl
theorem w36:Wf1 36 10 T36 L36:=wf1 n36 (by decide) fun _=>rfl
noncomputable def T60:Nat→List Item:=fun i=>match i with
 | _=>[]
def L60:Nat→List Tmp:=fun i=>match i with
 | _=>[]
theorem e60 (W0:World) (m0:Inj Tryz.prog) (S:Nat→List Value→AW→Prop) (Q:Value→AW→Prop) (a0:Value) (A:AW):wpgo Tryz.prog theX W0 m0 60 T60 L60 S Q none 4000 (Tm.fill ⟨13,.nil⟩ 0 [a0]) [.code (cd 60 [])] false 0 0 0 [] A=(bothW (newP A (Value.cells a0).toList 80) fun t0 At0=>pureW (loadP Tryz.prog At0 80 t0) fun t1=>knW Tryz.prog W0 m0 86 [t1,(.int .i64 400)] At0 fun t2 At2=>pureW (binA Tryz.prog .lss 3 (.tmp 4) (.const (.int .i64 0)) t2 (.int .i64 0)) fun t3=>forkW t3 (Q (.bool false) At2) (pureW (loadP Tryz.prog At2 80 t0) fun t4=>knW Tryz.prog W0 m0 87 [t4,(.int .i64 40)] At2 fun t5 At5=>forkW t5 (Q (.bool false) At5) (pureW (loadP Tryz.prog At5 80 t0) fun t6=>knW Tryz.prog W0 m0 88 [t6,(.int .i64 20000)] At5 fun t7 At7=>pureW (binA Tryz.prog .geq 3 (.tmp 11) (.const (.int .i64 0)) t7 (.int .i64 0)) fun t8=>Q t8 At7))):=by kernel_rfl
theorem n60 (a0:Value):enterA Tryz.prog 60 [a0] .normal=some (frM 60 (Tm.fill ⟨13,.nil⟩ 0 [a0]) [.code (cd 60 [])] false):=by kernel_rfl
theorem w60:Wf1 60 13 T60 L60:=wf1 n60 (by decide) fun _=>rfl
noncomputable def T61:Nat→List Item:=fun i=>match i with
 | 0=>[(.code (cd 61 [1,1,1,0,1,0,0])),(.inLoop (cd 61 [1,1,1,0,1,0,0])),(.inBlock 0),(.code (cd 61 [1,1,1,1]))]
 | _=>[]
def L61:Nat→List Tmp:=fun i=>match i with
 | 0=>[0,5,6]
 | _=>[]
theorem e61 (W0:World) (m0:Inj Tryz.prog) (S:Nat→List Value→AW→Prop) (Q:Value→AW→Prop) (a0 a1:Value) (A:AW):wpgo Tryz.prog theX W0 m0 61 T61 L61 S Q none 4000 (Tm.fill ⟨51,.nil⟩ 0 [a0,a1]) [.code (cd 61 [])] false 0 0 0 [] A=(pureW (lenA Tryz.prog A 86 a0) fun t0=>pureW (binA Tryz.prog .gtr 3 (.tmp 8) (.tmp 9) t0 a1) fun t1=>forkW t1 (Q (.bool false) A) (cutW (T61 0) (T61 0) (S 0 [a0,(.int .i64 20000),(.int .i64 0)] A))):=by kernel_rfl
theorem l61_0 (W0:World) (m0:Inj Tryz.prog) (S:Nat→List Value→AW→Prop) (Q:Value→AW→Prop) (d:Nat→Value) (A:AW):wpgo Tryz.prog theX W0 m0 61 T61 L61 S Q none 4000 (tmOf 51 d) (T61 0) false 0 0 0 [] A=(pureW (lenA Tryz.prog A 86 (d 0)) fun t0=>pureW (binA Tryz.prog .lss 3 (.tmp 11) (.tmp 13) (d 6) t0) fun t1=>forkW t1 (pureW (indexAddrA Tryz.prog 86 (d 0) (d 6)) fun t2=>pureW (fieldAddrA Tryz.prog 134 t2 3) fun t3=>pureW (loadP Tryz.prog A 9 t3) fun t4=>pureW (lenA Tryz.prog A 9 t4) fun t5=>pureW (binA Tryz.prog .gtr 3 (.tmp 22) (.tmp 23) t5 (d 5)) fun t6=>forkW t6 (Q (.bool false) A) (pureW (indexAddrA Tryz.prog 86 (d 0) (d 6)) fun t7=>pureW (fieldAddrA Tryz.prog 134 t7 0) fun t8=>pureW (loadP Tryz.prog A 9 t8) fun t9=>pureW (lenA Tryz.prog A 9 t9) fun t10=>pureW (binA Tryz.prog .gtr 3 (.tmp 31) (.const (.int .i64 200)) t10 (.int .i64 200)) fun t11=>forkW t11 (Q (.bool false) A) (pureW (indexAddrA Tryz.prog 86 (d 0) (d 6)) fun t12=>pureW (fieldAddrA Tryz.prog 134 t12 2) fun t13=>pureW (loadP Tryz.prog A 82 t13) fun t14=>Wc Tryz.prog theX W0 m0 34 [t14] A fun t15 At15=>pureW (unA Tryz.prog .not t15) fun t16=>forkW t16 (Q (.bool false) At15) (pureW (indexAddrA Tryz.prog 86 (d 0) (d 6)) fun t17=>pureW (fieldAddrA Tryz.prog 134 t17 3) fun t18=>pureW (loadP Tryz.prog At15 9 t18) fun t19=>pureW (lenA Tryz.prog At15 9 t19) fun t20=>pureW (binA Tryz.prog .sub 3 (.tmp 43) (.tmp 49) (d 5) t20) fun t21=>pureW (binA Tryz.prog .add 3 (.tmp 15) (.const (.int .i64 1)) (d 6) (.int .i64 1)) fun t22=>cutW (T61 0) (T61 0) (S 0 [(d 0),t21,t22] At15))))) (Q (.bool true) A)):=by kernel_rfl
theorem n61 (a0 a1:Value):enterA Tryz.prog 61 [a0,a1] .normal=some (frM 61 (Tm.fill ⟨51,.nil⟩ 0 [a0,a1]) [.code (cd 61 [])] false):=by kernel_rfl
theorem w61:Wf2 61 51 T61 L61:=wf2 n61 (by decide) fun _ _=>rfl
theorem c61:Cutf 61 51 T61 L61:=cutf (by decide)
noncomputable def T86:Nat→List Item:=fun i=>match i with
 | 0=>[(.code (cd 86 [1,1,0,1,0,0])),(.inLoop (cd 86 [1,1,0,1,0,0])),(.inBlock 0),(.code (cd 86 [1,1,1]))]
 | _=>[]
def L86:Nat→List Tmp:=fun i=>match i with
 | 0=>[1,2,5]
 | _=>[]
theorem e86 (W0:World) (m0:Inj Tryz.prog) (S:Nat→List Value→AW→Prop) (Q:Value→AW→Prop) (a0 a1:Value) (A:AW):wpgo Tryz.prog theX W0 m0 86 T86 L86 S Q none 4000 (Tm.fill ⟨27,.nil⟩ 0 [a0,a1]) [.code (cd 86 [])] false 0 0 0 [] A=(bothW (newP A (Value.cells a0).toList 80) fun t0 At0=>pureW (binA Tryz.prog .sub 3 (.tmp 6) (.const (.int .i64 1)) a1 (.int .i64 1)) fun t1=>cutW (T86 0) (T86 0) (S 0 [t1,t0,(.int .i64 0)] At0)):=by kernel_rfl
theorem l86_0 (W0:World) (m0:Inj Tryz.prog) (S:Nat→List Value→AW→Prop) (Q:Value→AW→Prop) (d:Nat→Value) (A:AW):wpgo Tryz.prog theX W0 m0 86 T86 L86 S Q none 4000 (tmOf 27 d) (T86 0) false 0 0 0 [] A=(pureW (fieldAddrA Tryz.prog 80 (d 2) 4) fun t0=>pureW (loadP Tryz.prog A 78 t0) fun t1=>pureW (lenA Tryz.prog A 78 t1) fun t2=>pureW (binA Tryz.prog .lss 3 (.tmp 8) (.tmp 11) (d 5) t2) fun t3=>forkW t3 (pureW (binA Tryz.prog .geq 3 (.tmp 14) (.const (.int .i64 0)) (d 1) (.int .i64 0)) fun t4=>forkW t4 (pureW (fieldAddrA Tryz.prog 80 (d 2) 4) fun t5=>pureW (loadP Tryz.prog A 78 t5) fun t6=>pureW (indexAddrA Tryz.prog 78 t6 (d 5)) fun t7=>pureW (loadP Tryz.prog A 80 t7) fun t8=>knW Tryz.prog W0 m0 86 [t8,(d 1)] A fun t9 At9=>pureW (binA Tryz.prog .add 3 (.tmp 17) (.const (.int .i64 1)) (d 5) (.int .i64 1)) fun t10=>cutW (T86 0) (T86 0) (S 0 [t9,(d 2),t10] At9)) (Q (d 1) A)) (Q (d 1) A)):=by kernel_rfl
theorem n86 (a0 a1:Value):enterA Tryz.prog 86 [a0,a1] .normal=some (frM 86 (Tm.fill ⟨27,.nil⟩ 0 [a0,a1]) [.code (cd 86 [])] false):=by kernel_rfl
theorem w86:Wf2 86 27 T86 L86:=wf2 n86 (by decide) fun _ _=>rfl
theorem c86:Cutf 86 27 T86 L86:=cutf (by decide)
noncomputable def T87:Nat→List Item:=fun i=>match i with
 | 0=>[(.code (cd 87 [1,1,0,1,0,0])),(.inLoop (cd 87 [1,1,0,1,0,0])),(.inBlock 0),(.code (cd 87 [1,1,1]))]
 | _=>[]
def L87:Nat→List Tmp:=fun i=>match i with
 | 0=>[1,2,5]
 | _=>[]
theorem e87 (W0:World) (m0:Inj Tryz.prog) (S:Nat→List Value→AW→Prop) (Q:Value→AW→Prop) (a0 a1:Value) (A:AW):wpgo Tryz.prog theX W0 m0 87 T87 L87 S Q none 4000 (Tm.fill ⟨23,.nil⟩ 0 [a0,a1]) [.code (cd 87 [])] false 0 0 0 [] A=(bothW (newP A (Value.cells a0).toList 80) fun t0 At0=>pureW (binA Tryz.prog .eql 3 (.tmp 6) (.const (.int .i64 0)) a1 (.int .i64 0)) fun t1=>forkW t1 (Q (.bool true) At0) (cutW (T87 0) (T87 0) (S 0 [a1,t0,(.int .i64 0)] At0))):=by kernel_rfl
theorem l87_0 (W0:World) (m0:Inj Tryz.prog) (S:Nat→List Value→AW→Prop) (Q:Value→AW→Prop) (d:Nat→Value) (A:AW):wpgo Tryz.prog theX W0 m0 87 T87 L87 S Q none 4000 (tmOf 23 d) (T87 0) false 0 0 0 [] A=(pureW (fieldAddrA Tryz.prog 80 (d 2) 4) fun t0=>pureW (loadP Tryz.prog A 78 t0) fun t1=>pureW (lenA Tryz.prog A 78 t1) fun t2=>pureW (binA Tryz.prog .lss 3 (.tmp 8) (.tmp 11) (d 5) t2) fun t3=>forkW t3 (pureW (fieldAddrA Tryz.prog 80 (d 2) 4) fun t4=>pureW (loadP Tryz.prog A 78 t4) fun t5=>pureW (indexAddrA Tryz.prog 78 t5 (d 5)) fun t6=>pureW (loadP Tryz.prog A 80 t6) fun t7=>pureW (binA Tryz.prog .sub 3 (.tmp 20) (.const (.int .i64 1)) (d 1) (.int .i64 1)) fun t8=>knW Tryz.prog W0 m0 87 [t7,t8] A fun t9 At9=>forkW t9 (Q (.bool true) At9) (pureW (binA Tryz.prog .add 3 (.tmp 13) (.const (.int .i64 1)) (d 5) (.int .i64 1)) fun t10=>cutW (T87 0) (T87 0) (S 0 [(d 1),(d 2),t10] At9))) (Q (.bool false) A)):=by kernel_rfl
theorem n87 (a0 a1:Value):enterA Tryz.prog 87 [a0,a1] .normal=some (frM 87 (Tm.fill ⟨23,.nil⟩ 0 [a0,a1]) [.code (cd 87 [])] false):=by kernel_rfl
theorem w87:Wf2 87 23 T87 L87:=wf2 n87 (by decide) fun _ _=>rfl
theorem c87:Cutf 87 23 T87 L87:=cutf (by decide)
noncomputable def T88:Nat→List Item:=fun i=>match i with
 | 0=>[(.code (cd 88 [1,1,1,0,1,0,0])),(.inLoop (cd 88 [1,1,1,0,1,0,0])),(.inBlock 0),(.code (cd 88 [1,1,1,1]))]
 | 2=>[(.code (cd 88 [1,1,1,1,0,1,0,0])),(.inLoop (cd 88 [1,1,1,1,0,1,0,0])),(.inBlock 2),(.code (cd 88 [1,1,1,1,1]))]
 | _=>[]
def L88:Nat→List Tmp:=fun i=>match i with
 | 0=>[1,2,5]
 | 2=>[1,2,6]
 | _=>[]
theorem e88 (W0:World) (m0:Inj Tryz.prog) (S:Nat→List Value→AW→Prop) (Q:Value→AW→Prop) (a0 a1:Value) (A:AW):wpgo Tryz.prog theX W0 m0 88 T88 L88 S Q none 4000 (Tm.fill ⟨70,.nil⟩ 0 [a0,a1]) [.code (cd 88 [])] false 0 0 0 [] A=(bothW (newP A (Value.cells a0).toList 80) fun t0 At0=>pureW (fieldAddrA Tryz.prog 80 t0 2) fun t1=>pureW (loadP Tryz.prog At0 9 t1) fun t2=>pureW (lenA Tryz.prog At0 9 t2) fun t3=>pureW (binA Tryz.prog .gtr 3 (.tmp 9) (.tmp 10) t3 a1) fun t4=>forkW t4 (Q (.int .i64 (-1)) At0) (pureW (fieldAddrA Tryz.prog 80 t0 3) fun t5=>pureW (loadP Tryz.prog At0 77 t5) fun t6=>pureW (lenA Tryz.prog At0 77 t6) fun t7=>pureW (binA Tryz.prog .gtr 3 (.tmp 15) (.tmp 16) t7 a1) fun t8=>forkW t8 (Q (.int .i64 (-1)) At0) (pureW (fieldAddrA Tryz.prog 80 t0 2) fun t9=>pureW (loadP Tryz.prog At0 9 t9) fun t10=>pureW (lenA Tryz.prog At0 9 t10) fun t11=>pureW (binA Tryz.prog .sub 3 (.tmp 19) (.tmp 22) a1 t11) fun t12=>pureW (fieldAddrA Tryz.prog 80 t0 3) fun t13=>pureW (loadP Tryz.prog At0 77 t13) fun t14=>pureW (lenA Tryz.prog At0 77 t14) fun t15=>pureW (binA Tryz.prog .sub 3 (.tmp 23) (.tmp 26) t12 t15) fun t16=>cutW (T88 0) (T88 0) (S 0 [t16,t0,(.int .i64 0)] At0)))):=by kernel_rfl
theorem l88_0 (W0:World) (m0:Inj Tryz.prog) (S:Nat→List Value→AW→Prop) (Q:Value→AW→Prop) (d:Nat→Value) (A:AW):wpgo Tryz.prog theX W0 m0 88 T88 L88 S Q none 4000 (tmOf 70 d) (T88 0) false 0 0 0 [] A=(pureW (fieldAddrA Tryz.prog 80 (d 2) 3) fun t0=>pureW (loadP Tryz.prog A 77 t0) fun t1=>pureW (lenA Tryz.prog A 77 t1) fun t2=>pureW (binA Tryz.prog .lss 3 (.tmp 28) (.tmp 31) (d 5) t2) fun t3=>forkW t3 (pureW (fieldAddrA Tryz.prog 80 (d 2) 3) fun t4=>pureW (loadP Tryz.prog A 77 t4) fun t5=>pureW (indexAddrA Tryz.prog 77 t5 (d 5)) fun t6=>pureW (loadP Tryz.prog A 9 t6) fun t7=>pureW (lenA Tryz.prog A 9 t7) fun t8=>pureW (binA Tryz.prog .gtr 3 (.tmp 40) (.tmp 41) t8 (d 1)) fun t9=>forkW t9 (Q (.int .i64 (-1)) A) (pureW (fieldAddrA Tryz.prog 80 (d 2) 3) fun t10=>pureW (loadP Tryz.prog A 77 t10) fun t11=>pureW (indexAddrA Tryz.prog 77 t11 (d 5)) fun t12=>pureW (loadP Tryz.prog A 9 t12) fun t13=>pureW (lenA Tryz.prog A 9 t13) fun t14=>pureW (binA Tryz.prog .sub 3 (.tmp 43) (.tmp 49) (d 1) t14) fun t15=>pureW (binA Tryz.prog .add 3 (.tmp 33) (.const (.int .i64 1)) (d 5) (.int .i64 1)) fun t16=>cutW (T88 0) (T88 0) (S 0 [t15,(d 2),t16] A))) (cutW (T88 2) (T88 2) (S 2 [(d 1),(d 2),(.int .i64 0)] A))):=by kernel_rfl
theorem l88_2 (W0:World) (m0:Inj Tryz.prog) (S:Nat→List Value→AW→Prop) (Q:Value→AW→Prop) (d:Nat→Value) (A:AW):wpgo Tryz.prog theX W0 m0 88 T88 L88 S Q none 4000 (tmOf 70 d) (T88 2) false 0 0 0 [] A=(pureW (fieldAddrA Tryz.prog 80 (d 2) 4) fun t0=>pureW (loadP Tryz.prog A 78 t0) fun t1=>pureW (lenA Tryz.prog A 78 t1) fun t2=>pureW (binA Tryz.prog .lss 3 (.tmp 51) (.tmp 54) (d 6) t2) fun t3=>forkW t3 (pureW (binA Tryz.prog .geq 3 (.tmp 57) (.const (.int .i64 0)) (d 1) (.int .i64 0)) fun t4=>forkW t4 (pureW (fieldAddrA Tryz.prog 80 (d 2) 4) fun t5=>pureW (loadP Tryz.prog A 78 t5) fun t6=>pureW (indexAddrA Tryz.prog 78 t6 (d 6)) fun t7=>pureW (loadP Tryz.prog A 80 t7) fun t8=>knW Tryz.prog W0 m0 88 [t8,(d 1)] A fun t9 At9=>pureW (binA Tryz.prog .add 3 (.tmp 60) (.const (.int .i64 1)) (d 6) (.int .i64 1)) fun t10=>cutW (T88 2) (T88 2) (S 2 [t9,(d 2),t10] At9)) (Q (d 1) A)) (Q (d 1) A)):=by kernel_rfl
theorem n88 (a0 a1:Value):enterA Tryz.prog 88 [a0,a1] .normal=some (frM 88 (Tm.fill ⟨70,.nil⟩ 0 [a0,a1]) [.code (cd 88 [])] false):=by kernel_rfl
theorem w88:Wf2 88 70 T88 L88:=wf2 n88 (by decide) fun _ _=>rfl
theorem c88:Cutf 88 70 T88 L88:=cutf (by decide)
noncomputable def T19:Nat→List Item:=fun i=>match i with
 | 0=>[(.code (cd 19 [1,1,0,1,0,0])),(.inLoop (cd 19 [1,1,0,1,0,0])),(.inBlock 0),(.code (cd 19 [1,1,1]))]
 | 2=>[(.code (cd 19 [1,1,0,1,0,0,1,1,0,0,1,1,0,0])),(.inLoop (cd 19 [1,1,0,1,0,0,1,1,0,0,1,1,0,0])),(.inBlock 2),(.inBlock 1),(.code (cd 19 [1,1,0,1,0,0,1,1,1])),(.inLoop (cd 19 [1,1,0,1,0,0])),(.inBlock 0),(.code (cd 19 [1,1,1]))]
 | _=>[]
def L19:Nat→List Tmp:=fun i=>match i with
 | 0=>[3,8,9,10]
 | 2=>[3,8,9,10,15,16,17]
 | _=>[]
theorem e19 (W0:World) (m0:Inj Tryz.prog) (S:Nat→List Value→AW→Prop) (Q:Value→AW→Prop) (a0:Value) (A:AW):wpgo Tryz.prog theX W0 m0 19 T19 L19 S Q none 4000 (Tm.fill ⟨33,.nil⟩ 0 [a0]) [.code (cd 19 [])] false 0 0 0 [] A=(pureW (lenA Tryz.prog A 51 a0) fun t0=>cutW (T19 0) (T19 0) (S 0 [(.slice none 0 0),a0,t0,(.int .i64 0)] A)):=by kernel_rfl
theorem l19_0 (W0:World) (m0:Inj Tryz.prog) (S:Nat→List Value→AW→Prop) (Q:Value→AW→Prop) (d:Nat→Value) (A:AW):wpgo Tryz.prog theX W0 m0 19 T19 L19 S Q none 4000 (tmOf 33 d) (T19 0) false 0 0 0 [] A=(pureW (binA Tryz.prog .lss 3 (.tmp 10) (.tmp 9) (d 10) (d 9)) fun t0=>forkW t0 (pureW (indexAddrA Tryz.prog 51 (d 8) (d 10)) fun t1=>pureW (loadP Tryz.prog A 37 t1) fun t2=>bothW (allocP Tryz.prog A 37) fun t3 At3=>effW (storeP Tryz.prog At3 37 t3 t2) fun At4=>pureW (fieldAddrA Tryz.prog 37 t3 2) fun t5=>pureW (loadP Tryz.prog At4 34 t5) fun t6=>pureW (lenA Tryz.prog At4 34 t6) fun t7=>cutW (T19 2) (T19 2) (S 2 [(d 3),(d 8),(d 9),(d 10),t6,t7,(.int .i64 0)] At4)) (Wc Tryz.prog theX W0 m0 47 [(d 3)] A fun t8 At8=>Wc Tryz.prog theX W0 m0 25 [t8,(.func (.func 27) #[] #[])] At8 fun t9 At9=>Wc Tryz.prog theX W0 m0 46 [t9] At9 fun t10 At10=>Q t10 At10)):=by kernel_rfl
theorem l19_2 (W0:World) (m0:Inj Tryz.prog) (S:Nat→List Value→AW→Prop) (Q:Value→AW→Prop) (d:Nat→Value) (A:AW):wpgo Tryz.prog theX W0 m0 19 T19 L19 S Q none 4000 (tmOf 33 d) (T19 2) false 0 0 0 [] A=(pureW (binA Tryz.prog .lss 3 (.tmp 17) (.tmp 16) (d 17) (d 16)) fun t0=>forkW t0 (pureW (indexAddrA Tryz.prog 34 (d 15) (d 17)) fun t1=>pureW (loadP Tryz.prog A 89 t1) fun t2=>bothW (allocP Tryz.prog A 89) fun t3 At3=>effW (storeP Tryz.prog At3 89 t3 t2) fun At4=>pureW (fieldAddrA Tryz.prog 89 t3 0) fun t5=>pureW (loadP Tryz.prog At4 46 t5) fun t6=>Wc Tryz.prog theX W0 m0 23 [t6] At4 fun t7 At7=>bothW (buildSliceA Tryz.prog At7 28 1 [(0,t7)]) fun t8 At8=>bothW (appendA Tryz.prog At8 28 28 (d 3) t8) fun t9 At9=>pureW (binA Tryz.prog .add 3 (.tmp 17) (.const (.int .i64 1)) (d 17) (.int .i64 1)) fun t10=>cutW (T19 2) (T19 2) (S 2 [t9,(d 8),(d 9),(d 10),(d 15),(d 16),t10] At9)) (pureW (binA Tryz.prog .add 3 (.tmp 10) (.const (.int .i64 1)) (d 10) (.int .i64 1)) fun t11=>cutW (T19 0) (T19 0) (S 0 [(d 3),(d 8),(d 9),t11] A))):=by kernel_rfl
theorem n19 (a0:Value):enterA Tryz.prog 19 [a0] .normal=some (frM 19 (Tm.fill ⟨33,.nil⟩ 0 [a0]) [.code (cd 19 [])] false):=by kernel_rfl
theorem w19:Wf1 19 33 T19 L19:=wf1 n19 (by decide) fun _=>rfl
theorem c19:Cutf 19 33 T19 L19:=cutf (by decide)
noncomputable def T20:Nat→List Item:=fun i=>match i with
 | 0=>[(.code (cd 20 [1,1,0,1,0,0])),(.inLoop (cd 20 [1,1,0,1,0,0])),(.inBlock 0),(.code (cd 20 [1,1,1]))]
 | 2=>[(.code (cd 20 [1,1,0,1,0,0,1,0,0,1,0,0])),(.inLoop (cd 20 [1,1,0,1,0,0,1,0,0,1,0,0])),(.inBlock 2),(.inBlock 1),(.code (cd 20 [1,1,0,1,0,0,1,1])),(.inLoop (cd 20 [1,1,0,1,0,0])),(.inBlock 0),(.code (cd 20 [1,1,1]))]
 | _=>[]
def L20:Nat→List Tmp:=fun i=>match i with
 | 0=>[0,3,4]
 | 2=>[0,3,4,5]
 | _=>[]
theorem e20 (W0:World) (m0:Inj Tryz.prog) (S:Nat→List Value→AW→Prop) (Q:Value→AW→Prop) (a0:Value) (A:AW):wpgo Tryz.prog theX W0 m0 20 T20 L20 S Q none 4000 (Tm.fill ⟨35,.nil⟩ 0 [a0]) [.code (cd 20 [])] false 0 0 0 [] A=(cutW (T20 0) (T20 0) (S 0 [a0,(.slice none 0 0),(.int .i64 0)] A)):=by kernel_rfl
theorem l20_0 (W0:World) (m0:Inj Tryz.prog) (S:Nat→List Value→AW→Prop) (Q:Value→AW→Prop) (d:Nat→Value) (A:AW):wpgo Tryz.prog theX W0 m0 20 T20 L20 S Q none 4000 (tmOf 35 d) (T20 0) false 0 0 0 [] A=(pureW (lenA Tryz.prog A 51 (d 0)) fun t0=>pureW (binA Tryz.prog .lss 3 (.tmp 6) (.tmp 8) (d 4) t0) fun t1=>forkW t1 (cutW (T20 2) (T20 2) (S 2 [(d 0),(d 3),(d 4),(.int .i64 0)] A)) (Q (d 3) A)):=by kernel_rfl
theorem l20_2 (W0:World) (m0:Inj Tryz.prog) (S:Nat→List Value→AW→Prop) (Q:Value→AW→Prop) (d:Nat→Value) (A:AW):wpgo Tryz.prog theX W0 m0 20 T20 L20 S Q none 4000 (tmOf 35 d) (T20 2) false 0 0 0 [] A=(pureW (indexAddrA Tryz.prog 51 (d 0) (d 4)) fun t0=>pureW (fieldAddrA Tryz.prog 37 t0 2) fun t1=>pureW (loadP Tryz.prog A 34 t1) fun t2=>pureW (lenA Tryz.prog A 34 t2) fun t3=>pureW (binA Tryz.prog .lss 3 (.tmp 12) (.tmp 18) (d 5) t3) fun t4=>forkW t4 (pureW (indexAddrA Tryz.prog 51 (d 0) (d 4)) fun t5=>pureW (fieldAddrA Tryz.prog 37 t5 2) fun t6=>pureW (loadP Tryz.prog A 34 t6) fun t7=>pureW (indexAddrA Tryz.prog 34 t7 (d 5)) fun t8=>pureW (fieldAddrA Tryz.prog 89 t8 0) fun t9=>pureW (loadP Tryz.prog A 46 t9) fun t10=>Wc Tryz.prog theX W0 m0 29 [t10] A fun t11 At11=>Wc Tryz.prog theX W0 m0 28 [(d 3),t11] At11 fun t12 At12=>pureW (binA Tryz.prog .add 3 (.tmp 20) (.const (.int .i64 1)) (d 5) (.int .i64 1)) fun t13=>cutW (T20 2) (T20 2) (S 2 [(d 0),t12,(d 4),t13] At12)) (pureW (binA Tryz.prog .add 3 (.tmp 10) (.const (.int .i64 1)) (d 4) (.int .i64 1)) fun t14=>cutW (T20 0) (T20 0) (S 0 [(d 0),(d 3),t14] A))):=by kernel_rfl
theorem n20 (a0:Value):enterA Tryz.prog 20 [a0] .normal=some (frM 20 (Tm.fill ⟨35,.nil⟩ 0 [a0]) [.code (cd 20 [])] false):=by kernel_rfl
theorem w20:Wf1 20 35 T20 L20:=wf1 n20 (by decide) fun _=>rfl
theorem c20:Cutf 20 35 T20 L20:=cutf (by decide)
noncomputable def T21:Nat→List Item:=fun i=>match i with
 | 0=>[(.code (cd 21 [1,1,0,1,0,0])),(.inLoop (cd 21 [1,1,0,1,0,0])),(.inBlock 0),(.code (cd 21 [1,1,1]))]
 | 2=>[(.code (cd 21 [1,1,0,1,0,0,1,1,0,0,1,1,0,0])),(.inLoop (cd 21 [1,1,0,1,0,0,1,1,0,0,1,1,0,0])),(.inBlock 2),(.inBlock 1),(.code (cd 21 [1,1,0,1,0,0,1,1,1])),(.inLoop (cd 21 [1,1,0,1,0,0])),(.inBlock 0),(.code (cd 21 [1,1,1]))]
 | 4=>[(.code (cd 21 [1,1,0,1,0,0,1,1,0,0,1,1,0,0,1,1,0,0,1,1,0,0])),(.inLoop (cd 21 [1,1,0,1,0,0,1,1,0,0,1,1,0,0,1,1,0,0,1,1,0,0])),(.inBlock 4),(.inBlock 3),(.code (cd 21 [1,1,0,1,0,0,1,1,0,0,1,1,0,0,1,1,1])),(.inLoop (cd 21 [1,1,0,1,0,0,1,1,0,0,1,1,0,0])),(.inBlock 2),(.inBlock 1),(.code (cd 21 [1,1,0,1,0,0,1,1,1])),(.inLoop (cd 21 [1,1,0,1,0,0])),(.inBlock 0),(.code (cd 21 [1,1,1]))]
 | _=>[]
def L21:Nat→List Tmp:=fun i=>match i with
 | 0=>[1,5,12,13,14]
 | 2=>[1,5,12,13,14,19,20,21]
 | 4=>[1,5,12,13,14,19,20,21,26,27,28]
 | _=>[]
theorem e21 (W0:World) (m0:Inj Tryz.prog) (S:Nat→List Value→AW→Prop) (Q:Value→AW→Prop) (a0 a1:Value) (A:AW):wpgo Tryz.prog theX W0 m0 21 T21 L21 S Q none 4000 (Tm.fill ⟨43,.nil⟩ 0 [a0,a1]) [.code (cd 21 [])] false 0 0 0 [] A=(pureW (lenA Tryz.prog A 51 a0) fun t0=>cutW (T21 0) (T21 0) (S 0 [a1,(.int .i64 0),a0,t0,(.int .i64 0)] A)):=by kernel_rfl
theorem l21_0 (W0:World) (m0:Inj Tryz.prog) (S:Nat→List Value→AW→Prop) (Q:Value→AW→Prop) (d:Nat→Value) (A:AW):wpgo Tryz.prog theX W0 m0 21 T21 L21 S Q none 4000 (tmOf 43 d) (T21 0) false 0 0 0 [] A=(pureW (binA Tryz.prog .lss 3 (.tmp 14) (.tmp 13) (d 14) (d 13)) fun t0=>forkW t0 (pureW (indexAddrA Tryz.prog 51 (d 12) (d 14)) fun t1=>pureW (loadP Tryz.prog A 37 t1) fun t2=>bothW (allocP Tryz.prog A 37) fun t3 At3=>effW (storeP Tryz.prog At3 37 t3 t2) fun At4=>pureW (fieldAddrA Tryz.prog 37 t3 1) fun t5=>pureW (loadP Tryz.prog At4 33 t5) fun t6=>pureW (lenA Tryz.prog At4 33 t6) fun t7=>cutW (T21 2) (T21 2) (S 2 [(d 1),(d 5),(d 12),(d 13),(d 14),t6,t7,(.int .i64 0)] At4)) (Q (d 5) A)):=by kernel_rfl
theorem l21_2 (W0:World) (m0:Inj Tryz.prog) (S:Nat→List Value→AW→Prop) (Q:Value→AW→Prop) (d:Nat→Value) (A:AW):wpgo Tryz.prog theX W0 m0 21 T21 L21 S Q none 4000 (tmOf 43 d) (T21 2) false 0 0 0 [] A=(pureW (binA Tryz.prog .lss 3 (.tmp 21) (.tmp 20) (d 21) (d 20)) fun t0=>forkW t0 (pureW (indexAddrA Tryz.prog 33 (d 19) (d 21)) fun t1=>pureW (loadP Tryz.prog A 75 t1) fun t2=>bothW (allocP Tryz.prog A 75) fun t3 At3=>effW (storeP Tryz.prog At3 75 t3 t2) fun At4=>pureW (fieldAddrA Tryz.prog 75 t3 2) fun t5=>pureW (loadP Tryz.prog At4 73 t5) fun t6=>pureW (lenA Tryz.prog At4 73 t6) fun t7=>cutW (T21 4) (T21 4) (S 4 [(d 1),(d 5),(d 12),(d 13),(d 14),(d 19),(d 20),(d 21),t6,t7,(.int .i64 0)] At4)) (pureW (binA Tryz.prog .add 3 (.tmp 14) (.const (.int .i64 1)) (d 14) (.int .i64 1)) fun t8=>cutW (T21 0) (T21 0) (S 0 [(d 1),(d 5),(d 12),(d 13),t8] A))):=by kernel_rfl
theorem l21_4 (W0:World) (m0:Inj Tryz.prog) (S:Nat→List Value→AW→Prop) (Q:Value→AW→Prop) (d:Nat→Value) (A:AW):wpgo Tryz.prog theX W0 m0 21 T21 L21 S Q none 4000 (tmOf 43 d) (T21 4) false 0 0 0 [] A=(pureW (binA Tryz.prog .lss 3 (.tmp 28) (.tmp 27) (d 28) (d 27)) fun t0=>forkW t0 (pureW (indexAddrA Tryz.prog 73 (d 26) (d 28)) fun t1=>pureW (loadP Tryz.prog A 84 t1) fun t2=>bothW (allocP Tryz.prog A 84) fun t3 At3=>effW (storeP Tryz.prog At3 84 t3 t2) fun At4=>pureW (fieldAddrA Tryz.prog 84 t3 1) fun t5=>pureW (fieldAddrA Tryz.prog 82 t5 3) fun t6=>pureW (loadP Tryz.prog At4 9 t6) fun t7=>pureW (binA Tryz.prog .eql 9 (.tmp 34) (.tmp 35) t7 (d 1)) fun t8=>forkW t8 (pureW (binA Tryz.prog .add 3 (.tmp 37) (.const (.int .i64 1)) (d 5) (.int .i64 1)) fun t9=>pureW (binA Tryz.prog .add 3 (.tmp 28) (.const (.int .i64 1)) (d 28) (.int .i64 1)) fun t10=>cutW (T21 4) (T21 4) (S 4 [(d 1),t9,(d 12),(d 13),(d 14),(d 19),(d 20),(d 21),(d 26),(d 27),t10] At4)) (pureW (binA Tryz.prog .add 3 (.tmp 28) (.const (.int .i64 1)) (d 28) (.int .i64 1)) fun t11=>cutW (T21 4) (T21 4) (S 4 [(d 1),(d 5),(d 12),(d 13),(d 14),(d 19),(d 20),(d 21),(d 26),(d 27),t11] At4))) (pureW (binA Tryz.prog .add 3 (.tmp 21) (.const (.int .i64 1)) (d 21) (.int .i64 1)) fun t12=>cutW (T21 2) (T21 2) (S 2 [(d 1),(d 5),(d 12),(d 13),(d 14),(d 19),(d 20),t12] A))):=by kernel_rfl
theorem n21 (a0 a1:Value):enterA Tryz.prog 21 [a0,a1] .normal=some (frM 21 (Tm.fill ⟨43,.nil⟩ 0 [a0,a1]) [.code (cd 21 [])] false):=by kernel_rfl
theorem w21:Wf2 21 43 T21 L21:=wf2 n21 (by decide) fun _ _=>rfl
theorem c21:Cutf 21 43 T21 L21:=cutf (by decide)
noncomputable def T22:Nat→List Item:=fun i=>match i with
 | 0=>[(.code (cd 22 [1,1,0,1,0,0])),(.inLoop (cd 22 [1,1,0,1,0,0])),(.inBlock 0),(.code (cd 22 [1,1,1]))]
 | 2=>[(.code (cd 22 [1,1,0,1,0,0,1,0,0,1,0,0])),(.inLoop (cd 22 [1,1,0,1,0,0,1,0,0,1,0,0])),(.inBlock 2),(.inBlock 1),(.code (cd 22 [1,1,0,1,0,0,1,1])),(.inLoop (cd 22 [1,1,0,1,0,0])),(.inBlock 0),(.code (cd 22 [1,1,1]))]
 | 4=>[(.code (cd 22 [1,1,0,1,0,0,1,0,0,1,0,0,1,0,0,1,0,0])),(.inLoop (cd 22 [1,1,0,1,0,0,1,0,0,1,0,0,1,0,0,1,0,0])),(.inBlock 4),(.inBlock 3),(.code (cd 22 [1,1,0,1,0,0,1,0,0,1,0,0,1,1])),(.inLoop (cd 22 [1,1,0,1,0,0,1,0,0,1,0,0])),(.inBlock 2),(.inBlock 1),(.code (cd 22 [1,1,0,1,0,0,1,1])),(.inLoop (cd 22 [1,1,0,1,0,0])),(.inBlock 0),(.code (cd 22 [1,1,1]))]
 | _=>[]
def L22:Nat→List Tmp:=fun i=>match i with
 | 0=>[0,1,5,6]
 | 2=>[0,1,5,6,7]
 | 4=>[0,1,5,6,7,8]
 | _=>[]
theorem e22 (W0:World) (m0:Inj Tryz.prog) (S:Nat→List Value→AW→Prop) (Q:Value→AW→Prop) (a0 a1:Value) (A:AW):wpgo Tryz.prog theX W0 m0 22 T22 L22 S Q none 4000 (Tm.fill ⟨58,.nil⟩ 0 [a0,a1]) [.code (cd 22 [])] false 0 0 0 [] A=(cutW (T22 0) (T22 0) (S 0 [a0,a1,(.int .i64 0),(.int .i64 0)] A)):=by kernel_rfl
theorem l22_0 (W0:World) (m0:Inj Tryz.prog) (S:Nat→List Value→AW→Prop) (Q:Value→AW→Prop) (d:Nat→Value) (A:AW):wpgo Tryz.prog theX W0 m0 22 T22 L22 S Q none 4000 (tmOf 58 d) (T22 0) false 0 0 0 [] A=(pureW (lenA Tryz.prog A 51 (d 0)) fun t0=>pureW (binA Tryz.prog .lss 3 (.tmp 9) (.tmp 11) (d 6) t0) fun t1=>forkW t1 (cutW (T22 2) (T22 2) (S 2 [(d 0),(d 1),(d 5),(d 6),(.int .i64 0)] A)) (Q (d 5) A)):=by kernel_rfl
theorem l22_2 (W0:World) (m0:Inj Tryz.prog) (S:Nat→List Value→AW→Prop) (Q:Value→AW→Prop) (d:Nat→Value) (A:AW):wpgo Tryz.prog theX W0 m0 22 T22 L22 S Q none 4000 (tmOf 58 d) (T22 2) false 0 0 0 [] A=(pureW (indexAddrA Tryz.prog 51 (d 0) (d 6)) fun t0=>pureW (fieldAddrA Tryz.prog 37 t0 1) fun t1=>pureW (loadP Tryz.prog A 33 t1) fun t2=>pureW (lenA Tryz.prog A 33 t2) fun t3=>pureW (binA Tryz.prog .lss 3 (.tmp 15) (.tmp 21) (d 7) t3) fun t4=>forkW t4 (cutW (T22 4) (T22 4) (S 4 [(d 0),(d 1),(d 5),(d 6),(d 7),(.int .i64 0)] A)) (pureW (binA Tryz.prog .add 3 (.tmp 13) (.const (.int .i64 1)) (d 6) (.int .i64 1)) fun t5=>cutW (T22 0) (T22 0) (S 0 [(d 0),(d 1),(d 5),t5] A))):=by kernel_rfl
theorem l22_4 (W0:World) (m0:Inj Tryz.prog) (S:Nat→List Value→AW→Prop) (Q:Value→AW→Prop) (d:Nat→Value) (A:AW):wpgo Tryz.prog theX W0 m0 22 T22 L22 S Q none 4000 (tmOf 58 d) (T22 4) false 0 0 0 [] A=(pureW (indexAddrA Tryz.prog 51 (d 0) (d 6)) fun t0=>pureW (fieldAddrA Tryz.prog 37 t0 1) fun t1=>pureW (loadP Tryz.prog A 33 t1) fun t2=>pureW (indexAddrA Tryz.prog 33 t2 (d 7)) fun t3=>pureW (fieldAddrA Tryz.prog 75 t3 2) fun t4=>pureW (loadP Tryz.prog A 73 t4) fun t5=>pureW (lenA Tryz.prog A 73 t5) fun t6=>pureW (binA Tryz.prog .lss 3 (.tmp 25) (.tmp 35) (d 8) t6) fun t7=>forkW t7 (pureW (indexAddrA Tryz.prog 51 (d 0) (d 6)) fun t8=>pureW (fieldAddrA Tryz.prog 37 t8 1) fun t9=>pureW (loadP Tryz.prog A 33 t9) fun t10=>pureW (indexAddrA Tryz.prog 33 t10 (d 7)) fun t11=>pureW (fieldAddrA Tryz.prog 75 t11 2) fun t12=>pureW (loadP Tryz.prog A 73 t12) fun t13=>pureW (indexAddrA Tryz.prog 73 t13 (d 8)) fun t14=>pureW (fieldAddrA Tryz.prog 84 t14 1) fun t15=>pureW (fieldAddrA Tryz.prog 82 t15 3) fun t16=>pureW (loadP Tryz.prog A 9 t16) fun t17=>pureW (binA Tryz.prog .eql 9 (.tmp 52) (.tmp 53) t17 (d 1)) fun t18=>forkW t18 (pureW (binA Tryz.prog .add 3 (.tmp 55) (.const (.int .i64 1)) (d 5) (.int .i64 1)) fun t19=>pureW (binA Tryz.prog .add 3 (.tmp 37) (.const (.int .i64 1)) (d 8) (.int .i64 1)) fun t20=>cutW (T22 4) (T22 4) (S 4 [(d 0),(d 1),t19,(d 6),(d 7),t20] A)) (pureW (binA Tryz.prog .add 3 (.tmp 37) (.const (.int .i64 1)) (d 8) (.int .i64 1)) fun t21=>cutW (T22 4) (T22 4) (S 4 [(d 0),(d 1),(d 5),(d 6),(d 7),t21] A))) (pureW (binA Tryz.prog .add 3 (.tmp 23) (.const (.int .i64 1)) (d 7) (.int .i64 1)) fun t22=>cutW (T22 2) (T22 2) (S 2 [(d 0),(d 1),(d 5),(d 6),t22] A))):=by kernel_rfl
theorem n22 (a0 a1:Value):enterA Tryz.prog 22 [a0,a1] .normal=some (frM 22 (Tm.fill ⟨58,.nil⟩ 0 [a0,a1]) [.code (cd 22 [])] false):=by kernel_rfl
theorem w22:Wf2 22 58 T22 L22:=wf2 n22 (by decide) fun _ _=>rfl
theorem c22:Cutf 22 58 T22 L22:=cutf (by decide)
noncomputable def T46:Nat→List Item:=fun i=>match i with
 | 0=>[(.code (cd 46 [1,1,0,1,0,0])),(.inLoop (cd 46 [1,1,0,1,0,0])),(.inBlock 0),(.code (cd 46 [1,1,1]))]
 | 2=>[(.code (cd 46 [1,1,0,1,0,0,1,0,0,1,0,1,0,1,0,0])),(.inLoop (cd 46 [1,1,0,1,0,0,1,0,0,1,0,1,0,1,0,0])),(.inBlock 2),(.code (cd 46 [1,1,0,1,0,0,1,0,0,1,0,1,1])),(.inBlock 1),(.code (cd 46 [1,1,0,1,0,0,1,1])),(.inLoop (cd 46 [1,1,0,1,0,0])),(.inBlock 0),(.code (cd 46 [1,1,1]))]
 | _=>[]
def L46:Nat→List Tmp:=fun i=>match i with
 | 0=>[0,3]
 | 2=>[0,3,4,5]
 | _=>[]
theorem e46 (W0:World) (m0:Inj Tryz.prog) (S:Nat→List Value→AW→Prop) (Q:Value→AW→Prop) (a0:Value) (A:AW):wpgo Tryz.prog theX W0 m0 46 T46 L46 S Q none 4000 (Tm.fill ⟨61,.nil⟩ 0 [a0]) [.code (cd 46 [])] false 0 0 0 [] A=(pureW (lenA Tryz.prog A 28 a0) fun t0=>pureW (binA Tryz.prog .lss 3 (.tmp 7) (.const (.int .i64 2)) t0 (.int .i64 2)) fun t1=>forkW t1 (Q a0 A) (cutW (T46 0) (T46 0) (S 0 [a0,(.int .i64 1)] A))):=by kernel_rfl
theorem l46_0 (W0:World) (m0:Inj Tryz.prog) (S:Nat→List Value→AW→Prop) (Q:Value→AW→Prop) (d:Nat→Value) (A:AW):wpgo Tryz.prog theX W0 m0 46 T46 L46 S Q none 4000 (tmOf 61 d) (T46 0) false 0 0 0 [] A=(pureW (lenA Tryz.prog A 28 (d 0)) fun t0=>pureW (binA Tryz.prog .lss 3 (.tmp 10) (.tmp 12) (d 3) t0) fun t1=>forkW t1 (pureW (indexAddrA Tryz.prog 28 (d 0) (d 3)) fun t2=>pureW (loadP Tryz.prog A 46 t2) fun t3=>pureW (binA Tryz.prog .sub 3 (.tmp 21) (.const (.int .i64 1)) (d 3) (.int .i64 1)) fun t4=>pureW (indexAddrA Tryz.prog 28 (d 0) t4) fun t5=>pureW (loadP Tryz.prog A 46 t5) fun t6=>pureW (binA Tryz.prog .eql 46 (.tmp 19) (.tmp 24) t3 t6) fun t7=>forkW t7 (pureW (sliceA Tryz.prog A 28 (d 0) (some (d 3)) none none) fun t8=>cutW (T46 2) (T46 2) (S 2 [(d 0),(d 3),t8,(.int .i64 1)] A)) (pureW (binA Tryz.prog .add 3 (.tmp 14) (.const (.int .i64 1)) (d 3) (.int .i64 1)) fun t9=>cutW (T46 0) (T46 0) (S 0 [(d 0),t9] A))) (Q (d 0) A)):=by kernel_rfl
theorem l46_2 (W0:World) (m0:Inj Tryz.prog) (S:Nat→List Value→AW→Prop) (Q:Value→AW→Prop) (d:Nat→Value) (A:AW):wpgo Tryz.prog theX W0 m0 46 T46 L46 S Q none 4000 (tmOf 61 d) (T46 2) false 0 0 0 [] A=(pureW (lenA Tryz.prog A 28 (d 4)) fun t0=>pureW (binA Tryz.prog .lss 3 (.tmp 29) (.tmp 31) (d 5) t0) fun t1=>forkW t1 (pureW (indexAddrA Tryz.prog 28 (d 4) (d 5)) fun t2=>pureW (loadP Tryz.prog A 46 t2) fun t3=>pureW (binA Tryz.prog .sub 3 (.tmp 40) (.const (.int .i64 1)) (d 5) (.int .i64 1)) fun t4=>pureW (indexAddrA Tryz.prog 28 (d 4) t4) fun t5=>pureW (loadP Tryz.prog A 46 t5) fun t6=>pureW (binA Tryz.prog .neq 46 (.tmp 38) (.tmp 43) t3 t6) fun t7=>forkW t7 (pureW (indexAddrA Tryz.prog 28 (d 4) (d 5)) fun t8=>pureW (loadP Tryz.prog A 46 t8) fun t9=>pureW (indexAddrA Tryz.prog 28 (d 0) (d 3)) fun t10=>effW (storeP Tryz.prog A 46 t10 t9) fun At11=>pureW (binA Tryz.prog .add 3 (.tmp 52) (.const (.int .i64 1)) (d 3) (.int .i64 1)) fun t12=>pureW (binA Tryz.prog .add 3 (.tmp 33) (.const (.int .i64 1)) (d 5) (.int .i64 1)) fun t13=>cutW (T46 2) (T46 2) (S 2 [(d 0),t12,(d 4),t13] At11)) (pureW (binA Tryz.prog .add 3 (.tmp 33) (.const (.int .i64 1)) (d 5) (.int .i64 1)) fun t14=>cutW (T46 2) (T46 2) (S 2 [(d 0),(d 3),(d 4),t14] A))) (pureW (sliceA Tryz.prog A 28 (d 0) (some (d 3)) none none) fun t15=>effW (clearA Tryz.prog A 28 t15) fun At16=>pureW (sliceA Tryz.prog At16 28 (d 0) none (some (d 3)) none) fun t17=>Q t17 At16)):=by kernel_rfl
theorem n46 (a0:Value):enterA Tryz.prog 46 [a0] .normal=some (frM 46 (Tm.fill ⟨61,.nil⟩ 0 [a0]) [.code (cd 46 [])] false):=by kernel_rfl
theorem w46:Wf1 46 61 T46 L46:=wf1 n46 (by decide) fun _=>rfl
theorem c46:Cutf 46 61 T46 L46:=cutf (by decide)
noncomputable def T47:Nat→List Item:=fun i=>match i with
 | _=>[]
def L47:Nat→List Tmp:=fun i=>match i with
 | _=>[]
theorem e47 (W0:World) (m0:Inj Tryz.prog) (S:Nat→List Value→AW→Prop) (Q:Value→AW→Prop) (a0:Value) (A:AW):wpgo Tryz.prog theX W0 m0 47 T47 L47 S Q none 4000 (Tm.fill ⟨4,.nil⟩ 0 [a0]) [.code (cd 47 [])] false 0 0 0 [] A=(bothW (newP A (Value.cells a0).toList 28) fun t0 At0=>Q (.func (.func 79) ⟨[]⟩ ⟨[t0]⟩) At0):=by kernel_rfl
theorem n47 (a0:Value):enterA Tryz.prog 47 [a0] .normal=some (frM 47 (Tm.fill ⟨4,.nil⟩ 0 [a0]) [.code (cd 47 [])] false):=by kernel_rfl
theorem w47:Wf1 47 4 T47 L47:=wf1 n47 (by decide) fun _=>rfl
noncomputable def T79:Nat→List Item:=fun i=>match i with
 | 0=>[(.code (cd 79 [1,0,0])),(.inLoop (cd 79 [1,0,0])),(.inBlock 0)]
 | _=>[]
def L79:Nat→List Tmp:=fun i=>match i with
 | 0=>[0,5,6,7]
 | _=>[]
theorem e79 (W0:World) (m0:Inj Tryz.prog) (S:Nat→List Value→AW→Prop) (Q:Value→AW→Prop) (a0 a1:Value) (A:AW):wpgo Tryz.prog theX W0 m0 79 T79 L79 S Q none 4000 (Tm.fill ⟨16,.nil⟩ 0 [a0,a1]) [.code (cd 79 [])] false 0 0 0 [] A=(pureW (loadP Tryz.prog A 28 a1) fun t0=>pureW (lenA Tryz.prog A 28 t0) fun t1=>cutW (T79 0) (T79 0) (S 0 [a0,t0,t1,(.int .i64 0)] A)):=by kernel_rfl
theorem l79_0 (W0:World) (m0:Inj Tryz.prog) (S:Nat→List Value→AW→Prop) (Q:Value→AW→Prop) (d:Nat→Value) (A:AW):wpgo Tryz.prog theX W0 m0 79 T79 L79 S Q none 4000 (tmOf 16 d) (T79 0) false 0 0 0 [] A=(pureW (binA Tryz.prog .lss 3 (.tmp 7) (.tmp 6) (d 7) (d 6)) fun t0=>forkW t0 (pureW (indexAddrA Tryz.prog 28 (d 5) (d 7)) fun t1=>pureW (loadP Tryz.prog A 46 t1) fun t2=>bothW (allocP Tryz.prog A 46) fun t3 At3=>effW (storeP Tryz.prog At3 46 t3 t2) fun At4=>pureW (loadP Tryz.prog At4 46 t3) fun t5=>anW Tryz.prog theX W0 m0 (dynA Tryz.prog theX At4 (d 0) [t5]) fun t6 At6=>pureW (unA Tryz.prog .not t6) fun t7=>forkW t7 (Q (.tuple ⟨[]⟩) At6) (pureW (binA Tryz.prog .add 3 (.tmp 7) (.const (.int .i64 1)) (d 7) (.int .i64 1)) fun t8=>cutW (T79 0) (T79 0) (S 0 [(d 0),(d 5),(d 6),t8] At6))) (Q (.tuple ⟨[]⟩) A)):=by kernel_rfl
theorem n79 (a0 a1:Value):enterA Tryz.prog 79 [a0,a1] .normal=some (frM 79 (Tm.fill ⟨16,.nil⟩ 0 [a0,a1]) [.code (cd 79 [])] false):=by kernel_rfl
theorem w79:Wf2 79 16 T79 L79:=wf2 n79 (by decide) fun _ _=>rfl
theorem c79:Cutf 79 16 T79 L79:=cutf (by decide)
theorem fa_37_1 (b o:Nat):fieldAddrA Tryz.prog 37 (.pointer (some ⟨b,o,none⟩)) 1=some (.pointer (some ⟨b,o+1,none⟩)):=by kernel_rfl
theorem fa_37_2 (b o:Nat):fieldAddrA Tryz.prog 37 (.pointer (some ⟨b,o,none⟩)) 2=some (.pointer (some ⟨b,o+2,none⟩)):=by kernel_rfl
theorem fa_37_3 (b o:Nat):fieldAddrA Tryz.prog 37 (.pointer (some ⟨b,o,none⟩)) 3=some (.pointer (some ⟨b,o+3,none⟩)):=by kernel_rfl
theorem fa_75_0 (b o:Nat):fieldAddrA Tryz.prog 75 (.pointer (some ⟨b,o,none⟩)) 0=some (.pointer (some ⟨b,o,none⟩)):=by kernel_rfl
theorem fa_75_2 (b o:Nat):fieldAddrA Tryz.prog 75 (.pointer (some ⟨b,o,none⟩)) 2=some (.pointer (some ⟨b,o+2,none⟩)):=by kernel_rfl
theorem fa_80_2 (b o:Nat):fieldAddrA Tryz.prog 80 (.pointer (some ⟨b,o,none⟩)) 2=some (.pointer (some ⟨b,o+2,none⟩)):=by kernel_rfl
theorem fa_80_3 (b o:Nat):fieldAddrA Tryz.prog 80 (.pointer (some ⟨b,o,none⟩)) 3=some (.pointer (some ⟨b,o+3,none⟩)):=by kernel_rfl
theorem fa_80_4 (b o:Nat):fieldAddrA Tryz.prog 80 (.pointer (some ⟨b,o,none⟩)) 4=some (.pointer (some ⟨b,o+4,none⟩)):=by kernel_rfl
theorem fa_82_0 (b o:Nat):fieldAddrA Tryz.prog 82 (.pointer (some ⟨b,o,none⟩)) 0=some (.pointer (some ⟨b,o,none⟩)):=by kernel_rfl
theorem fa_82_3 (b o:Nat):fieldAddrA Tryz.prog 82 (.pointer (some ⟨b,o,none⟩)) 3=some (.pointer (some ⟨b,o+3,none⟩)):=by kernel_rfl
theorem fa_82_4 (b o:Nat):fieldAddrA Tryz.prog 82 (.pointer (some ⟨b,o,none⟩)) 4=some (.pointer (some ⟨b,o+4,none⟩)):=by kernel_rfl
theorem fa_84_1 (b o:Nat):fieldAddrA Tryz.prog 84 (.pointer (some ⟨b,o,none⟩)) 1=some (.pointer (some ⟨b,o+1,none⟩)):=by kernel_rfl
theorem fa_84_2 (b o:Nat):fieldAddrA Tryz.prog 84 (.pointer (some ⟨b,o,none⟩)) 2=some (.pointer (some ⟨b,o+10,none⟩)):=by kernel_rfl
theorem fa_89_0 (b o:Nat):fieldAddrA Tryz.prog 89 (.pointer (some ⟨b,o,none⟩)) 0=some (.pointer (some ⟨b,o,none⟩)):=by kernel_rfl
theorem fa_89_1 (b o:Nat):fieldAddrA Tryz.prog 89 (.pointer (some ⟨b,o,none⟩)) 1=some (.pointer (some ⟨b,o+3,none⟩)):=by kernel_rfl
theorem fa_89_2 (b o:Nat):fieldAddrA Tryz.prog 89 (.pointer (some ⟨b,o,none⟩)) 2=some (.pointer (some ⟨b,o+4,none⟩)):=by kernel_rfl
theorem fa_92_1 (b o:Nat):fieldAddrA Tryz.prog 92 (.pointer (some ⟨b,o,none⟩)) 1=some (.pointer (some ⟨b,o+1,none⟩)):=by kernel_rfl
theorem fa_92_4 (b o:Nat):fieldAddrA Tryz.prog 92 (.pointer (some ⟨b,o,none⟩)) 4=some (.pointer (some ⟨b,o+6,none⟩)):=by kernel_rfl
theorem fa_92_5 (b o:Nat):fieldAddrA Tryz.prog 92 (.pointer (some ⟨b,o,none⟩)) 5=some (.pointer (some ⟨b,o+7,none⟩)):=by kernel_rfl
theorem fa_120_0 (b o:Nat):fieldAddrA Tryz.prog 120 (.pointer (some ⟨b,o,none⟩)) 0=some (.pointer (some ⟨b,o,none⟩)):=by kernel_rfl
theorem fa_134_0 (b o:Nat):fieldAddrA Tryz.prog 134 (.pointer (some ⟨b,o,none⟩)) 0=some (.pointer (some ⟨b,o,none⟩)):=by kernel_rfl
theorem fa_134_2 (b o:Nat):fieldAddrA Tryz.prog 134 (.pointer (some ⟨b,o,none⟩)) 2=some (.pointer (some ⟨b,o+2,none⟩)):=by kernel_rfl
theorem fa_134_3 (b o:Nat):fieldAddrA Tryz.prog 134 (.pointer (some ⟨b,o,none⟩)) 3=some (.pointer (some ⟨b,o+11,none⟩)):=by kernel_rfl
theorem ld_33 (A:AW) (a:Addr):loadP Tryz.prog A 33 (.pointer (some a))=A.cell? a:=by kernel_rfl
theorem ld_34 (A:AW) (a:Addr):loadP Tryz.prog A 34 (.pointer (some a))=A.cell? a:=by kernel_rfl
theorem ld_35 (A:AW) (a:Addr):loadP Tryz.prog A 35 (.pointer (some a))=A.cell? a:=by kernel_rfl
theorem ld_37 (A:AW) (a:Addr):loadP Tryz.prog A 37 (.pointer (some a))=(match A.cells? a 4 with | some l=>some (.agg ⟨l⟩) | none=>none):=by kernel_rfl
theorem ld_73 (A:AW) (a:Addr):loadP Tryz.prog A 73 (.pointer (some a))=A.cell? a:=by kernel_rfl
theorem ld_77 (A:AW) (a:Addr):loadP Tryz.prog A 77 (.pointer (some a))=A.cell? a:=by kernel_rfl
theorem ld_78 (A:AW) (a:Addr):loadP Tryz.prog A 78 (.pointer (some a))=A.cell? a:=by kernel_rfl
theorem ld_80 (A:AW) (a:Addr):loadP Tryz.prog A 80 (.pointer (some a))=(match A.cells? a 5 with | some l=>some (.agg ⟨l⟩) | none=>none):=by kernel_rfl
theorem ld_82 (A:AW) (a:Addr):loadP Tryz.prog A 82 (.pointer (some a))=(match A.cells? a 9 with | some l=>some (.agg ⟨l⟩) | none=>none):=by kernel_rfl
theorem ld_86 (A:AW) (a:Addr):loadP Tryz.prog A 86 (.pointer (some a))=A.cell? a:=by kernel_rfl
theorem ld_87 (A:AW) (a:Addr):loadP Tryz.prog A 87 (.pointer (some a))=A.cell? a:=by kernel_rfl
theorem ld_92 (A:AW) (a:Addr):loadP Tryz.prog A 92 (.pointer (some a))=(match A.cells? a 8 with | some l=>some (.agg ⟨l⟩) | none=>none):=by kernel_rfl
theorem st_37 (A:AW) (a:Addr) (v:Value):storeP Tryz.prog A 37 (.pointer (some a)) v=(bif Nat.beq v.cells.toList.length 4 then A.setCells a v.cells.toList else none):=by kernel_rfl
theorem st_75 (A:AW) (a:Addr) (v:Value):storeP Tryz.prog A 75 (.pointer (some a)) v=(bif Nat.beq v.cells.toList.length 3 then A.setCells a v.cells.toList else none):=by kernel_rfl
theorem st_84 (A:AW) (a:Addr) (v:Value):storeP Tryz.prog A 84 (.pointer (some a)) v=(bif Nat.beq v.cells.toList.length 11 then A.setCells a v.cells.toList else none):=by kernel_rfl
theorem st_89 (A:AW) (a:Addr) (v:Value):storeP Tryz.prog A 89 (.pointer (some a)) v=(bif Nat.beq v.cells.toList.length 5 then A.setCells a v.cells.toList else none):=by kernel_rfl
theorem st_92 (A:AW) (a:Addr) (v:Value):storeP Tryz.prog A 92 (.pointer (some a)) v=(bif Nat.beq v.cells.toList.length 8 then A.setCells a v.cells.toList else none):=by kernel_rfl
theorem ia_77 (b o n c i:Nat) (k:IntKind):indexAddrA Tryz.prog 77 (.slice (some ⟨b,o,none⟩) n c) (.int k (.ofNat i))=(bif Nat.blt i n then some (.pointer (some (addA ⟨b,o,none⟩ (i * 1)))) else none):=by kernel_rfl
theorem ln_33 (A:AW) (a:Option Addr) (n c:Nat):lenA Tryz.prog A 33 (.slice a n c)=some (.int .i64 n):=by kernel_rfl
theorem ln_34 (A:AW) (a:Option Addr) (n c:Nat):lenA Tryz.prog A 34 (.slice a n c)=some (.int .i64 n):=by kernel_rfl
theorem ln_35 (A:AW) (a:Option Addr) (n c:Nat):lenA Tryz.prog A 35 (.slice a n c)=some (.int .i64 n):=by kernel_rfl
theorem ln_73 (A:AW) (a:Option Addr) (n c:Nat):lenA Tryz.prog A 73 (.slice a n c)=some (.int .i64 n):=by kernel_rfl
theorem ln_77 (A:AW) (a:Option Addr) (n c:Nat):lenA Tryz.prog A 77 (.slice a n c)=some (.int .i64 n):=by kernel_rfl
theorem ln_78 (A:AW) (a:Option Addr) (n c:Nat):lenA Tryz.prog A 78 (.slice a n c)=some (.int .i64 n):=by kernel_rfl
theorem ln_86 (A:AW) (a:Option Addr) (n c:Nat):lenA Tryz.prog A 86 (.slice a n c)=some (.int .i64 n):=by kernel_rfl
theorem ln_87 (A:AW) (a:Option Addr) (n c:Nat):lenA Tryz.prog A 87 (.slice a n c)=some (.int .i64 n):=by kernel_rfl
end Go.Proofs.YtdpdajpiadohjaaGreatDoor
namespace Go.Abs
open Go.ChangeShapes Go.WideShapes Go.ChangeAt Go.RowKit
structure VV where
 kind:Nat
 n:Nat
 s:ByteArray
 ko:Option Addr
 kl:Nat
 kc:Nat
 lo:Option Addr
 ll:Nat
 lc:Nat
def VV.keys (x:VV):Value:=.slice x.ko x.kl x.kc
def VV.list (x:VV):Value:=.slice x.lo x.ll x.lc
def fV (x:VV):List Value:=[.int .u8 (x.kind:Int),.int .u64 (x.n:Int),.string x.s,.slice x.ko x.kl x.kc,.slice x.lo x.ll x.lc]
theorem fV_length (x:VV):(fV x).length=4+1:=rfl
def fT (s:ByteArray):List Value:=[.string s]
def Tr:Nat→Type
 | 0=>Empty
 | k+1=>List (Tr k)
def Tr.kids {k:Nat} (t:Tr (k+1)):List (Tr k):=t
def goL {α:Type} (f:α→Int→Int):List α→Int→Int
 | [],n=>n
 | x::r,n=>if 0≤n then goL f r (f x n) else n
def leftS:(k:Nat)→Tr k→Int→Int
 | 0,t,_=>nomatch t
 | k+1,l,n=>goL (leftS k) (Tr.kids l) (n - 1)
def sizeS:(k:Nat)→Tr k→Nat
 | 0,t=>nomatch t
 | k+1,l=>1+((Tr.kids l).map (sizeS k)).sum
def TreeAt (W:World):(k:Nat)→VV→Tr k→Prop
 | 0,_,_=>False
 | k+1,v,t=>(∃ keys Ka,InSlice W fT v.keys keys Ka)∧∃ (l:List VV) (La:Arg),InSlice W fV v.list l La∧l.length=(Tr.kids t).length∧∀ (i:Nat) x y,l[i]? =some x→(Tr.kids t)[i]? =some y→TreeAt W k x y
theorem goL_spec {α:Type} {f:α→Int→Int} {sz:α→Nat}:∀ (l:List α),(∀ x∈l,∀ n:Int,0≤n→f x n=if (sz x:Int)≤n then n - sz x else -1)→∀ n:Int,-1≤n→goL f l n=if ((l.map sz).sum:Int)≤n then n - (l.map sz).sum else if n < 0 then n else -1
 | [],_,n,hn=>by
  simp only [goL,List.map_nil,List.sum_nil]
  by_cases h:(0:Int)≤n
  ·rw [if_pos (by simpa using h)];simp
  ·rw [if_neg (by simpa using h),if_pos (by omega)]
 | x::r,h,n,hn=>by
  have ih:=goL_spec r (fun y hy=>h y (by simp [hy]))
  unfold goL
  rw [List.map_cons,List.sum_cons]
  by_cases h0:(0:Int)≤n
  ·rw [if_pos h0,h x (by simp) n h0]
   by_cases h1:(sz x:Int)≤n
   ·rw [if_pos h1,ih _ (by omega)]
    by_cases h2:((r.map sz).sum:Int)≤n - sz x
    ·rw [if_pos h2,if_pos (by omega)];omega
    ·rw [if_neg h2,if_neg (by omega),if_neg (by omega),if_neg (by omega)]
   ·rw [if_neg h1,ih _ (by omega),if_neg (by omega),if_pos (by omega),if_neg (by omega),if_neg (by omega)]
  ·rw [if_neg h0,if_neg (by omega),if_pos (by omega)]
theorem sizeS_pos:∀ (k:Nat) (t:Tr k),1≤sizeS k t
 | 0,t=>nomatch t
 | k+1,l=>by unfold sizeS;omega
theorem leftS_spec:∀ (k:Nat) (t:Tr k) (n:Int),0≤n→leftS k t n=if (sizeS k t:Int)≤n then n - sizeS k t else -1
 | 0,t,_,_=>nomatch t
 | k+1,l,n,hn=>by
  have h:=goL_spec (f:=leftS k) (sz:=sizeS k) (Tr.kids l) (fun x _ n hn=>leftS_spec k x n hn) (n - 1) (by omega)
  show goL (leftS k) (Tr.kids l) (n - 1)=_
  rw [h]
  have e:sizeS (k+1) l=1+((Tr.kids l).map (sizeS k)).sum:=rfl
  rw [e]
  by_cases h1:((((Tr.kids l).map (sizeS k)).sum:Nat):Int)≤n - 1
  ·have h2:((1+((Tr.kids l).map (sizeS k)).sum:Nat):Int)≤n:=by omega
   rw [if_pos h1,if_pos h2];omega
  ·have h2:¬ ((1+((Tr.kids l).map (sizeS k)).sum:Nat):Int)≤n:=by omega
   rw [if_neg h1,if_neg h2]
   split <;> omega
def SameSl (a b:Value):Prop:=a=b∨∃ o1 o2,a=.slice o1 0 0∧b=.slice o2 0 0
theorem slice_same {P:Program} {m0 m:Inj P} (hle:m0.le m) {o:Option Addr} {n c:Nat} {a b:Value} (h1:VRel m0 (.slice o n c) a) (h2:VRel m (.slice o n c) b) (hc:c < capU):SameSl a b:=by
 cases h1 with
 | sliceNil=>cases h2 with | sliceNil=>exact .inl rfl
 | slice hc1 hn1 r1=>
  cases h2 with
  | slice hc2 hn2 r2=>
   rename_i a0 a1 c1 a2 c2
   have e1:c1=c:=by rcases hc1 with ⟨_,h⟩ | ⟨h,_⟩ <;> omega
   have e2:c2=c:=by rcases hc2 with ⟨_,h⟩ | ⟨h,_⟩ <;> omega
   subst e1
   subst e2
   by_cases h0:0 < c2
   ·obtain ⟨x1,x2,x3,x4,x5⟩:=r1 h0
    obtain ⟨y1,y2,y3,y4,y5⟩:=r2 h0
    have hm:=hle.map _ _ x4
    have hm:m a0.block=some (a1.block,x3):=hm
    rw [hm] at y4
    obtain ⟨e3,e4⟩:=Prod.mk.inj (Option.some.inj y4)
    left
    obtain ⟨b1,of1,s1⟩:=a1
    obtain ⟨b2,of2,s2⟩:=a2
    simp only at x2 y2 x5 y5 e3 e4
    subst x2 y2 e3 e4
    rw [x5,y5]
   ·have:c2=0:=by omega
    subst this
    have:n=0:=by omega
    subst this
    exact .inr ⟨_,_,rfl,rfl⟩
theorem InSlice.same {W:World} {β:Type} {f:β→List Value} {s s':Value} {l:List β} {La:Arg} (h:InSlice W f s l La) (e:SameSl s s'):∃ La',InSlice W f s' l La':=by
 rcases e with rfl | ⟨o1,o2,rfl,rfl⟩
 ·exact ⟨_,h⟩
 ·have hl:l=[]:=by
   cases h with
   | nil hl _ _=>exact hl
   | blk a c cs e' fr hs _ _ _ _ _ _=>
    simp only [Value.slice.injEq] at hs
    exact List.eq_nil_of_length_eq_zero hs.2.1.symm
  subst hl
  refine ⟨_,.nil rfl ?_ ⟨o2,0,rfl⟩⟩
  cases o2 with
  | none=>exact .inl rfl
  | some a=>exact .inr ⟨a,0,0,rfl,Nat.le_refl _,by unfold capU;omega,fun h=>by omega⟩
theorem InSlice.grow {W W':World} {β:Type} {f:β→List Value} {s:Value} {l:List β} {La:Arg} (h:InSlice W f s l La) (hb:Go.RowKit.Below W.heap.size W W'):InSlice W' f s l La:=by
 cases h with
 | nil hl hs h0=>exact .nil hl hs h0
 | blk a c cs e' fr hs hc hc2 hsp hbl ho hg=>exact .blk a c cs e' fr hs hc hc2 hsp (by rw [hb.block _ (Array.getElem?_eq_some_iff.1 hbl).1];exact hbl) ho hg
theorem InSlice.isSlice {W:World} {β:Type} {f:β→List Value} {s:Value} {l:List β} {La:Arg} (h:InSlice W f s l La):IsSlice s:=by
 cases h with
 | nil hl hs h0=>exact hs
 | blk a c cs e' fr hs hc hc2 hsp hbl ho hg=>exact .inr ⟨a,_,c,hs,hc,hc2,fun _=>hsp⟩
theorem TreeAt.grow {W W':World} (hb:Go.RowKit.Below W.heap.size W W'):∀ (k:Nat) (v:VV) (t:Tr k),TreeAt W k v t→TreeAt W' k v t
 | 0,_,_,h=>h
 | k+1,v,t,⟨⟨keys,Ka,hk⟩,l,La,hl,hlen,hx⟩=>⟨⟨keys,Ka,hk.grow hb⟩,l,La,hl.grow hb,hlen,fun i x y h1 h2=>TreeAt.grow hb k x y (hx i x y h1 h2)⟩
structure SameV (x y:VV):Prop where
 kind:x.kind=y.kind
 n:x.n=y.n
 s:x.s=y.s
 keys:SameSl x.keys y.keys
 list:SameSl x.list y.list
theorem TreeAt.same {W:World} {k:Nat} {v v':VV} {t:Tr k} (h:TreeAt W k v t) (e:SameV v v'):TreeAt W k v' t:=by
 cases k with
 | zero=>exact h
 | succ k=>
  obtain ⟨⟨keys,Ka,hk⟩,l,La,hl,hlen,hx⟩:=h
  obtain ⟨Ka',hk'⟩:=hk.same e.keys
  obtain ⟨La',hl'⟩:=hl.same e.list
  exact ⟨⟨keys,Ka',hk'⟩,l,La',hl',hlen,hx⟩
section
variable {P:Program}
structure ValRel (m:Inj P) (x' x:VV):Prop where
 kind:x'.kind=x.kind
 n:x'.n=x.n
 s:x'.s=x.s
 keys:VRel m x'.keys x.keys
 list:VRel m x'.list x.list
 kcap:x'.kc < capU
 lcap:x'.lc < capU
theorem ValRel.rels {m:Inj P} {x' x:VV} (h:ValRel m x' x):VRels m (fV x') (fV x):=by
 unfold fV
 rw [h.kind,h.n,h.s]
 exact .cons (.int _ _) (.cons (.int _ _) (.cons (.string _) (.cons h.keys (.cons h.list .nil))))
theorem ValRel.cells {m:Inj P} {x' x:VV} (h:ValRel m x' x):∀ (i:Nat) v,(fV x')[i]? =some v→∃ v',(fV x)[i]? =some v'∧VRel m v v':=by
 obtain ⟨h1,h2,h3,h4,h5,_,_⟩:=h
 obtain ⟨k,n,s,ko,kl,kc,lo,ll,lc⟩:=x
 obtain ⟨k',n',s',ko',kl',kc',lo',ll',lc'⟩:=x'
 simp only at h1 h2 h3
 subst h1 h2 h3
 intro i v hv
 match i,hv with
 | 0,hv=>cases hv;exact ⟨_,rfl,.int _ _⟩
 | 1,hv=>cases hv;exact ⟨_,rfl,.int _ _⟩
 | 2,hv=>cases hv;exact ⟨_,rfl,.string _⟩
 | 3,hv=>cases hv;exact ⟨_,rfl,h4⟩
 | 4,hv=>cases hv;exact ⟨_,rfl,h5⟩
 | i+5,hv=>simp [fV] at hv
theorem ValRel.back {m0 m:Inj P} (hle:m0.le m) {x' x:VV} (h:ValRel m0 x' x) {v:Value} (hv:VRel m (.agg ⟨fV x'⟩) v):∃ y:VV,v=.agg ⟨fV y⟩∧SameV x y:=by
 obtain ⟨h1,h2,h3,h4,h5,h6,h7⟩:=h
 cases hv with
 | agg hs=>
  unfold fV at hs
  cases hs with
  | cons a hs=>cases a;cases hs with
   | cons a hs=>cases a;cases hs with
    | cons a hs=>cases a;cases hs with
     | cons ak hs=>cases hs with
      | cons al hs=>cases hs with
       | nil=>
        rename_i vk vl
        have e1:=slice_same hle h4 ak h6
        have e2:=slice_same hle h5 al h7
        have sk:∃ o n c,vk=.slice o n c:=by
         rcases e1 with h | ⟨o1,o2,_,h⟩
         ·exact ⟨_,_,_,h.symm⟩
         ·exact ⟨_,_,_,h⟩
        have sl:∃ o n c,vl=.slice o n c:=by
         rcases e2 with h | ⟨o1,o2,_,h⟩
         ·exact ⟨_,_,_,h.symm⟩
         ·exact ⟨_,_,_,h⟩
        obtain ⟨ko,kn,kc,rfl⟩:=sk
        obtain ⟨lo,ln,lc,rfl⟩:=sl
        refine ⟨⟨x'.kind,x'.n,x'.s,ko,kn,kc,lo,ln,lc⟩,rfl,h1.symm,h2.symm,h3.symm,e1,e2⟩
theorem isSlice_caps {l:List (Nat × Nat)} {s:Value} (h:IsSlice s) (i:Nat) (hl:l[i]? =some (placeOf s)):∃ o n c,VRel (mA P l) (.slice o n c) s∧c < capU:=by
 rcases h with rfl | ⟨a,n,c,rfl,hn,hc,hs⟩
 ·exact ⟨none,0,0,closedV_rel 4 _ (by rfl),by unfold capU;omega⟩
 ·exact ⟨_,_,_,slice_rel (i:=i) hl hn hc hs,hc⟩
def RdT {β:Type} (n:Nat) (f:β→List Value) (A:AW) (x:Value) (len:Nat) (l:List β) (F:List Nat):Prop:=∃ o c,x=.slice o len c∧l.length≤len∧RdE n f A (.slice o l.length c) l F
theorem RdT.keeps {β:Type} {n:Nat} {f:β→List Value} {A A':AW} {x:Value} {len:Nat} {l:List β} {F S:List Nat} (h:RdT n f A x len l F) (k:Keeps A A' S) (hd:∀ y∈F,y∉S):RdT n f A' x len l F:=by
 obtain ⟨o,c,h1,h2,h3⟩:=h
 exact ⟨o,c,h1,h2,h3.keeps k hd⟩
theorem RdT.len {β:Type} {n:Nat} {f:β→List Value} {ts te:TypeId} (T:ET P ts te n f) {A B:AW} {x:Value} {len:Nat} {l:List β} {F:List Nat} (h:RdT n f A x len l F):lenA P B ts x=some (.int .i64 (len:Int)):=by
 obtain ⟨o,c,rfl,_,_⟩:=h
 unfold lenA
 simp only [T.us]
theorem RdT.at {β:Type} {n:Nat} {f:β→List Value} {ts te:TypeId} (T:ET P ts te n f) {A:AW} {x:Value} {len:Nat} {l:List β} {F:List Nat} (h:RdT n f A x len l F) {i:Nat} {p:β} (hi:l[i]? =some p):
  ∃ r o,indexAddrA P ts x (.int .i64 (i:Int))=some (.pointer (some ⟨r,o,none⟩))∧A.cells? ⟨r,o,none⟩ (n+1)=some (f p)∧loadP P A te (.pointer (some ⟨r,o,none⟩))=some (.agg ⟨f p⟩):=by
 obtain ⟨o,c,rfl,h2,h3⟩:=h
 have hlt:i < l.length:=(List.getElem?_eq_some_iff.1 hi).1
 obtain ⟨r,o',a1,a2,a3⟩:=h3.at T hi
 refine ⟨r,o',?_,a2,a3⟩
 rcases h3 with ⟨rfl,_⟩ | ⟨r2,o2,c2,cs,e,g,b,ro,hs,_⟩
 ·simp at hi
 ·simp only [Value.slice.injEq] at hs
  obtain ⟨rfl,_,rfl⟩:=hs
  rw [ia_elem T hlt] at a1
  rw [ia_elem T (by omega)]
  exact a1
theorem flat_relV {m:Inj P}:∀ {l' l:List VV},l'.length≤l.length→(∀ (i:Nat) p' p,l'[i]? =some p'→l[i]? =some p→ValRel m p' p)→∀ (i:Nat) v,(flat fV l')[i]? =some v→∃ v',(flat fV l)[i]? =some v'∧VRel m v v'
 | [],l,_,_,i,v,hv=>by simp [flat] at hv
 | p'::r',[],h,_,i,v,hv=>by simp at h
 | p'::r',p::r,h,ha,i,v,hv=>by
  have e1:flat fV (p'::r')=fV p'++flat fV r':=by simp [flat]
  have e2:flat fV (p::r)=fV p++flat fV r:=by simp [flat]
  rw [e1] at hv
  rw [e2]
  by_cases hi:i < 5
  ·rw [List.getElem?_append_left (by rw [fV_length];exact hi)] at hv
   rw [List.getElem?_append_left (by rw [fV_length];exact hi)]
   exact (ha 0 p' p rfl rfl).cells i v hv
  ·rw [List.getElem?_append_right (by rw [fV_length];omega),fV_length] at hv
   rw [List.getElem?_append_right (by rw [fV_length];omega),fV_length]
   exact flat_relV (by simpa using h) (fun j a b ha' hb=>ha (j+1) a b (by simpa using ha') (by simpa using hb)) (i - 5) v hv
theorem inSlice_row {β:Type} {W:World} {f:β→List Value} {s:Value} {l:List β} {La:Arg} (h:InSlice W f s l La):∃ (pl:Nat × Nat) (e:TypeId),pl=placeOf s∧(l≠[]→∃ cs' fr,W.heap[pl.1]? =some (.cells cs' e fr)∧pl.2≤cs'.size∧∀ i v,(flat f l)[i]? =some v→cs'[pl.2+i]? =some v):=by
 cases h with
 | nil hl hs h0=>exact ⟨_,0,rfl,fun hn=>absurd hl hn⟩
 | blk a c cs e' fr hs hc hc2 hsp hb ho hg=>exact ⟨(a.block,a.off),e',by rw [hs];rfl,fun _=>⟨cs,fr,hb,ho,hg⟩⟩
end
section
variable {P:Program}
theorem inSlice_at {β:Type} {W:World} {f:β→List Value} {s:Value} {l:List β} {La:Arg} (h:InSlice W f s l La) {ps:List (Nat × Nat)} {j:Nat} (hL:ps[j]? =some (placeOf s)):
  ∃ o n c,VRel (mA P ps) (.slice o n c) s∧c < capU∧((l=[]∧n=0)∨(o=some ⟨P.globals.size+j,0,none⟩∧n=l.length)):=by
 cases h with
 | nil hl hs h0=>
  obtain ⟨o,n,c,hv,hc⟩:=isSlice_caps (P:=P) hs j hL
  obtain ⟨o',c',rfl⟩:=h0
  exact ⟨o,n,c,hv,hc,.inl ⟨hl,by cases hv <;> rfl⟩⟩
 | blk a c cs e' fr hs hc hc2 hsp hb ho hg=>
  subst hs
  exact ⟨_,_,_,slice_rel hL hc hc2 (fun _=>hsp),hc2,.inr ⟨rfl,rfl⟩⟩
theorem fT_closed (p:ByteArray):(fT p).all (closedV 4)=true:=rfl
theorem fT_length (p:ByteArray):(fT p).length=0+1:=rfl
theorem rdT_of {β:Type} {n:Nat} {f:β→List Value} (hlen:∀ x,(f x).length=n+1) {N:Nat} {gl:List (Nat × List Value × TypeId)} {L:List Arg} {j:Nat} {o:Option Addr} {len c:Nat} {l l':List β} (hk:N+L.length+1≤maxId) (hl:l'.length≤l.length)
  (h:(l=[]∧len=0)∨(o=some ⟨N+j,0,none⟩∧len=l.length)) (hj:l≠[]→∃ p e,L[j]? =some (p,some (flat f l',e))):∃ F,RdT n f (wR N gl L) (.slice o len c) l.length l' F:=by
 rcases h with ⟨rfl,rfl⟩ | ⟨rfl,rfl⟩
 ·have:l'=[]:=List.eq_nil_of_length_eq_zero (by simpa using hl)
  subst this
  exact ⟨[],o,c,rfl,Nat.le_refl _,.inl ⟨rfl,rfl,_,_,rfl⟩⟩
 ·by_cases h0:l=[]
  ·subst h0
   have:l'=[]:=List.eq_nil_of_length_eq_zero (by simpa using hl)
   subst this
   exact ⟨[],_,c,rfl,Nat.le_refl _,.inl ⟨rfl,rfl,_,_,rfl⟩⟩
  ·obtain ⟨p,e,hj⟩:=hj h0
   exact ⟨_,_,c,rfl,hl,rdE_arg hlen hk hj⟩
theorem flat_take {β:Type} (f:β→List Value) (l:List β) (M:Nat):∀ (i:Nat) (v:Value),(flat f (l.take M))[i]? =some v→(flat f l)[i]? =some v:=by
 intro i v h
 have e:flat f (l.take M++l.drop M)=flat f (l.take M)++flat f (l.drop M):=by unfold flat;rw [List.flatMap_append]
 rw [List.take_append_drop] at e
 rw [e,List.getElem?_append_left (List.getElem?_eq_some_iff.1 h).1]
 exact h
theorem val_args {W:World} {v:VV} {keys:List ByteArray} {l:List VV} {Ka La:Arg} (hk:InSlice W fT v.keys keys Ka) (hl:InSlice W fV v.list l La) (hch:∀ x∈l,IsSlice x.keys∧IsSlice x.list) (KM M:Nat):
  ∃ (L:List Arg) (v':VV) (l':List VV),L.length≤2 * M+2∧Args P W L∧ValRel (mR P L) v' v∧l'.length=min l.length M∧(∀ (i:Nat) x' x,l'[i]? =some x'→l[i]? =some x→ValRel (mR P L) x' x)∧
   ∀ gl,P.globals.size+L.length+1≤maxId→(∃ F,RdT 4 fV (wR P.globals.size gl L) v'.list l.length l' F)∧∃ F,RdT 0 fT (wR P.globals.size gl L) v'.keys keys.length (keys.take KM) F:=by
 let t:=l.take M
 have htl:∀ x∈t,x∈l:=fun x hx=>List.mem_of_mem_take hx
 have htlen:t.length=min l.length M:=by rw [List.length_take,Nat.min_comm]
 let d0:VV:=⟨0,0,.empty,none,0,0,none,0,0⟩
 let kid:Nat→Value:=fun j=>if j % 2=0 then (t.getD (j / 2) d0).keys else (t.getD (j / 2) d0).list
 let R:List Arg:=(List.range (2 * t.length)).map fun j=>(placeOf (kid j),none)
 let ps:List (Nat × Nat):=placeOf v.list::placeOf v.keys::R.map (·.1)
 have hR:∀ j,j < 2 * t.length→R[j]? =some (placeOf (kid j),none):=fun j hj=>by
  show ((List.range (2 * t.length)).map _)[j]? =_
  rw [List.getElem?_map,List.getElem?_range hj];rfl
 have hps:∀ j,j < 2 * t.length→ps[j+2]? =some (placeOf (kid j)):=fun j hj=>by
  show (R.map (·.1))[j]? =_
  rw [List.getElem?_map,hR j hj];rfl
 obtain ⟨lo,ll,lc,vl,cl,al⟩:=inSlice_at (P:=P) (ps:=ps) (j:=0) hl rfl
 obtain ⟨ko,kl,kc,vk,ck,ak⟩:=inSlice_at (P:=P) (ps:=ps) (j:=1) hk rfl
 have hrel:∀ (i:Nat),∃ x':VV,∀ x,t[i]? =some x→ValRel (mA P ps) x' x:=by
  intro i
  cases hq:t[i]? with
  | none=>exact ⟨d0,fun x h=>by cases h⟩
  | some x=>
   have hi:=(List.getElem?_eq_some_iff.1 hq).1
   have hg:t.getD i d0=x:=by rw [List.getD_eq_getElem?_getD,hq];rfl
   obtain ⟨h1,h2⟩:=hch x (htl x (List.mem_of_getElem? hq))
   have k1:kid (2 * i)=x.keys:=by
    show (if 2 * i % 2=0 then (t.getD (2 * i / 2) d0).keys else _)=_
    rw [if_pos (by omega),show 2 * i / 2=i by omega,hg]
   have k2:kid (2 * i+1)=x.list:=by
    show (if (2 * i+1) % 2=0 then _ else (t.getD ((2 * i+1) / 2) d0).list)=_
    rw [if_neg (by omega),show (2 * i+1) / 2=i by omega,hg]
   obtain ⟨o1,n1,c1,v1,e1⟩:=isSlice_caps (P:=P) (l:=ps) h1 (2 * i+2) (by rw [hps (2 * i) (by omega),k1])
   obtain ⟨o2,n2,c2,v2,e2⟩:=isSlice_caps (P:=P) (l:=ps) h2 (2 * i+1+2) (by rw [hps (2 * i+1) (by omega),k2])
   exact ⟨⟨x.kind,x.n,x.s,o1,n1,c1,o2,n2,c2⟩,fun y hy=>by cases hy;exact ⟨rfl,rfl,rfl,v1,v2,e1,e2⟩⟩
 obtain ⟨G,hG⟩:=Classical.axiomOfChoice hrel
 let l':List VV:=(List.range t.length).map G
 have hl':∀ (i:Nat) p',l'[i]? =some p'→i < t.length∧p'=G i:=by
  intro i p' hp
  have hp:((List.range t.length).map G)[i]? =some p':=hp
  rw [List.getElem?_map] at hp
  by_cases hi:i < t.length
  ·rw [List.getElem?_range hi] at hp
   exact ⟨hi,by simpa using hp.symm⟩
  ·rw [List.getElem?_eq_none (by rw [List.length_range];omega)] at hp
   cases hp
 have hll:l'.length=t.length:=by simp [l']
 obtain ⟨pl,el,hpl,hrl⟩:=inSlice_row hl
 obtain ⟨pk,ek,hpk,hrk⟩:=inSlice_row hk
 let L:List Arg:=(placeOf v.list,if l=[] then none else some (flat fV l',el))::(placeOf v.keys,if keys=[] then none else some (flat fT (keys.take KM),ek))::R
 have hLm:L.map (·.1)=ps:=rfl
 have hmR:mR P L=mA P ps:=by unfold mR;rw [hLm]
 have hvals:∀ (i:Nat) x' x,l'[i]? =some x'→t[i]? =some x→ValRel (mA P ps) x' x:=by
  intro i x' x h1 h2
  obtain ⟨_,rfl⟩:=hl' i x' h1
  exact hG i x h2
 refine ⟨L,⟨v.kind,v.n,v.s,ko,kl,kc,lo,ll,lc⟩,l',?_,?_,by rw [hmR];exact ⟨rfl,rfl,rfl,vk,vl,ck,cl⟩,by rw [hll,htlen],?_,fun gl hkk=>⟨?_,?_⟩⟩
 ·show R.length+1+1≤_
  have:R.length=2 * t.length:=by simp [R]
  omega
 ·intro j p cs e hj
  rw [hmR]
  cases j with
  | zero=>
   have hj:some ((placeOf v.list,if l=[] then none else some (flat fV l',el)):Arg)=some (p,some (cs,e)):=hj
   obtain ⟨h1,h2⟩:=Prod.mk.inj (Option.some.inj hj)
   by_cases h0:l=[]
   ·rw [if_pos h0] at h2;cases h2
   ·rw [if_neg h0] at h2
    obtain ⟨h3,h4⟩:=Prod.mk.inj (Option.some.inj h2)
    obtain ⟨cs',fr,g1,g2,g3⟩:=hrl h0
    subst h1 h3 h4
    rw [hpl] at g1 g2 g3
    refine ⟨cs',fr,g1,g2,fun i w hw=>?_⟩
    obtain ⟨w',h5,h6⟩:=flat_relV (l:=t) (by rw [hll];exact Nat.le_refl _) hvals i w hw
    exact ⟨w',g3 i w' (flat_take fV l M i w' h5),h6⟩
  | succ j=>
   cases j with
   | zero=>
    have hj:some ((placeOf v.keys,if keys=[] then none else some (flat fT (keys.take KM),ek)):Arg)=some (p,some (cs,e)):=hj
    obtain ⟨h1,h2⟩:=Prod.mk.inj (Option.some.inj hj)
    by_cases h0:keys=[]
    ·rw [if_pos h0] at h2;cases h2
    ·rw [if_neg h0] at h2
     obtain ⟨h3,h4⟩:=Prod.mk.inj (Option.some.inj h2)
     obtain ⟨cs',fr,g1,g2,g3⟩:=hrk h0
     subst h1 h3 h4
     rw [hpk] at g1 g2 g3
     refine ⟨cs',fr,g1,g2,fun i w hw=>⟨w,g3 i w (flat_take fT keys KM i w hw),closedV_rel 4 w ?_⟩⟩
     have hm:=List.mem_of_getElem? hw
     unfold flat at hm
     obtain ⟨b,_,hb2⟩:=List.mem_flatMap.1 hm
     exact List.all_eq_true.1 (fT_closed b) w hb2
   | succ j=>
    have hj:R[j]? =some (p,some (cs,e)):=hj
    have hjl:j < 2 * t.length:=by
     have:=(List.getElem?_eq_some_iff.1 hj).1
     have e:R.length=2 * t.length:=by simp [R]
     omega
    rw [hR j hjl] at hj
    simp at hj
 ·intro i x' x h1 h2
  have hi:=(hl' i x' h1).1
  rw [hmR]
  refine hvals i x' x h1 ?_
  show (l.take M)[i]? =some x
  rw [List.getElem?_take_of_lt (by omega)]
  exact h2
 ·refine rdT_of fV_length (j:=0) hkk (by rw [hll,htlen];omega) al fun h0=>⟨placeOf v.list,el,?_⟩
  show some _=_
  rw [if_neg h0]
 ·refine rdT_of fT_length (j:=1) hkk (by rw [List.length_take];omega) ak fun h0=>⟨placeOf v.keys,ek,?_⟩
  show some _=_
  rw [if_neg h0]
end
end Go.Abs
namespace Go.Proofs.YtdpdajpiadohjaaGreatDoor
open Go.Abs
theorem etV:ET Tryz.prog 78 80 4 fV:=⟨by kernel_rfl,by kernel_rfl,by kernel_rfl,⟨80,by kernel_rfl,by decide⟩,by kernel_rfl,fun _=>rfl,fun _=>rfl,fun _=>rfl⟩
theorem esT_ld (A:AW) (a:Addr):loadP Tryz.prog A 9 (.pointer (some a))=A.cell? a:=by kernel_rfl
theorem ia77 {b o n c i:Nat} (h:i < n):indexAddrA Tryz.prog 77 (.slice (some ⟨b,o,none⟩) n c) (.int .i64 (i:Int))=some (.pointer (some ⟨b,o+i,none⟩)):=by
 show indexAddrA Tryz.prog 77 _ (.int .i64 (.ofNat i))=_
 rw [ia_77,blt_true.2 h,cond_true]
 unfold addA
 cases hb:Nat.beq (i * 1) 0 with
 | true=>rw [cond_true];have:=Nat.eq_of_beq_eq_true hb;rw [Nat.mul_one] at this;rw [this,Nat.add_zero]
 | false=>rw [cond_false,Nat.mul_one]
theorem txt_at {A:AW} {x:Value} {len:Nat} {l:List ByteArray} {F:List Nat} (h:RdT 0 fT A x len l F) {i:Nat} {p:ByteArray} (hi:l[i]? =some p):
  ∃ r o,indexAddrA Tryz.prog 77 x (.int .i64 (i:Int))=some (.pointer (some ⟨r,o,none⟩))∧loadP Tryz.prog A 9 (.pointer (some ⟨r,o,none⟩))=some (.string p):=by
 obtain ⟨o,c,rfl,h2,h3⟩:=h
 have hlt:i < l.length:=(List.getElem?_eq_some_iff.1 hi).1
 rcases h3 with ⟨rfl,_⟩ | ⟨r,o2,c2,cs,e,g,b,ro,hs,hg,_,_,h4⟩
 ·simp at hi
 ·simp only [Value.slice.injEq] at hs
  obtain ⟨rfl,_,rfl⟩:=hs
  obtain ⟨rest,hr⟩:=h4 i p hi
  refine ⟨r,o2+i,ia77 (by omega),?_⟩
  rw [esT_ld,cell_row hg]
  have:cs[o2+i * (0+1)]? =some (.string p):=by
   have h5:(cs.drop (o2+i * (0+1)))[0]? =some (.string p):=by rw [hr];rfl
   rw [List.getElem?_drop,Nat.add_zero] at h5
   exact h5
  exact cellOf_get (by rw [show o2+i=o2+i * (0+1) by omega];exact this) rfl
section
variable {W0:World} {m0:Inj Tryz.prog}
theorem knL {g:FuncId} {args vals:List Value} {A:AW} {K:Value→AW→Prop} (hg:g≠sameFn) (h:KC.Holds Tryz.prog W0 m0 ⟨g,args,vals⟩) (hc:vals.all (closedV 4)=true) (hk:∀ v∈vals,K v A):knW Tryz.prog W0 m0 g args A K:=.inl ⟨vals,hg,h,hc,hk⟩
theorem goL_neg {α:Type} {f:α→Int→Int} {l:List α} {m:Int} (h:¬ 0≤m):goL f l m=m:=by cases l with | nil=>rfl | cons x r=>unfold goL;rw [if_neg h]
theorem wc86 {A:AW} {x:VV} {k:Nat} {tk:List (Tr k)} {l':List VV} {F:List Nat} {n:Nat} {K:Value→AW→Prop} (hf:Fine A) (hA:A.next+5 < maxId) (hx:RdT 4 fV A x.list tk.length l' F) (hl:l'.length=min tk.length 401) (hn:n≤400)
  (hkc:∀ (i:Nat) x' y,l'[i]? =some x'→tk[i]? =some y→∀ m:Nat,m≤399→KC.Holds Tryz.prog W0 m0 ⟨86,[.agg ⟨fV x'⟩,.int .i64 (m:Int)],[.int .i64 (leftS k y m)]⟩)
  (hk:∀ A',K (.int .i64 (goL (leftS k) tk ((n:Int) - 1))) A'):Wc Tryz.prog theX W0 m0 86 [.agg ⟨fV x⟩,.int .i64 (n:Int)] A K:=by
 let I:Nat→Nat→List Value→AW→Prop:=fun g id vals A'=>id=0∧∃ (i:Nat) (m:Int),vals=[.int .i64 m,.pointer (some ⟨A.next,0,none⟩),.int .i64 (i:Int)]∧i≤tk.length∧-1≤m∧m≤(n:Int) - 1 - i∧goL (leftS k) (tk.drop i) m=goL (leftS k) tk ((n:Int) - 1)∧g=tk.length - i∧
  Go.Abs.Row1 A' A.next (fV x) 80∧Keeps A A' []
 refine w86 _ _ _ (c86 (I:=I) fun g id vals A' d hI hd=>?_) ?_
 ·obtain ⟨rfl,i,m,rfl,hi,hm1,hm2,hgo,rfl,hr,hkp⟩:=hI
  have hr:Go.Abs.Row1 A' A.next [.int .u8 (x.kind:Int),.int .u64 (x.n:Int),.string x.s,.slice x.ko x.kl x.kc,.slice x.lo x.ll x.lc] 80:=hr
  have hx':=hx.keeps hkp (by simp)
  have hll:(x.ll:Nat)=tk.length:=by
   obtain ⟨o,c,h,_⟩:=hx
   simp only [VV.list,Value.slice.injEq] at h
   exact h.2.1
  rw [l86_0]
  simp only [L86,List.map_cons,List.map_nil,List.cons.injEq,and_true] at hd
  obtain ⟨d1,d2,d5⟩:=hd
  simp only [d1,d2,d5,fa_80_4,ld_78,cell_row hr.row,cellOf,isT_int,isT_string,isT_slice,cond_false,pureW_some,ln_78,hll,bin_lss,bin_geq,forkW_dec,Nat.zero_add]
  refine ⟨fun hlt=>⟨fun h0=>?_,fun h0=>?_⟩,fun hge=>?_⟩
  ·have hlt:i < tk.length:=by omega
   obtain ⟨y,hy⟩:∃ y,tk[i]? =some y:=⟨_,List.getElem?_eq_getElem hlt⟩
   obtain ⟨x',hx1⟩:∃ x',l'[i]? =some x':=⟨_,List.getElem?_eq_getElem (by omega)⟩
   obtain ⟨r,o,a1,a2,a3⟩:=hx'.at etV hx1
   have a1:indexAddrA Tryz.prog 78 (.slice x.lo tk.length x.lc) (.int .i64 (i:Int))=some (.pointer (some ⟨r,o,none⟩)):=by rw [← hll];exact a1
   simp only [a1,pureW_some,a3]
   obtain ⟨m',rfl⟩:∃ m':Nat,m=(m':Int):=⟨m.toNat,by omega⟩
   refine knL (by decide) (hkc i x' y hx1 hy m' (by omega)) rfl fun v hv=>?_
   obtain rfl:=List.mem_singleton.1 hv
   simp only [bin_add,pureW_some]
   rw [wrap_i64 (by omega) (by omega)]
   have hsp:=leftS_spec k y (m':Int) (by omega)
   have hpos:=sizeS_pos k y
   refine cutW_self.2 ⟨tk.length - (i+1),by omega,rfl,i+1,leftS k y (m':Int),rfl,by omega,?_,?_,?_,rfl,hr,hkp⟩
   ·rw [hsp];split <;> omega
   ·rw [hsp];split <;> omega
   ·rw [← hgo]
    have hdr:tk.drop i=y::tk.drop (i+1):=by
     obtain ⟨h1,h2⟩:=List.getElem?_eq_some_iff.1 hy
     rw [List.drop_eq_getElem_cons h1,h2]
    rw [hdr]
    conv=>rhs;unfold goL
    rw [if_pos h0]
  ·rw [goL_neg h0] at hgo
   rw [← hgo] at hk
   exact hk A'
  ·have hi':i=tk.length:=by omega
   rw [hi',List.drop_length] at hgo
   have hgo:m=goL (leftS k) tk ((n:Int) - 1):=hgo
   rw [← hgo] at hk
   exact hk A'
 ·rw [e86]
  refine newP_made (cs:=fV x) hf (by omega) rfl fun A1 m1=>?_
  simp only [bin_sub,pureW_some]
  rw [wrap_i64 (by omega) (by omega)]
  exact cutW_self.2 ⟨tk.length - 0,rfl,0,(n:Int) - 1,rfl,by omega,by omega,by omega,by rw [List.drop_zero],rfl,m1.row1,m1.keeps hf⟩
theorem wc87 {A:AW} {x:VV} {l':List VV} {F:List Nat} {n:Nat} {K:Value→AW→Prop} (hf:Fine A) (hA:A.next+5 < maxId) (hx:RdT 4 fV A x.list l'.length l' F) (hn:n≤40) (hl:l'.length≤400)
  (hkc:∀ (i:Nat) x',l'[i]? =some x'→∀ m:Nat,m < n→KC.Holds Tryz.prog W0 m0 ⟨87,[.agg ⟨fV x'⟩,.int .i64 (m:Int)],[.bool true,.bool false]⟩)
  (hk:∀ b A',K (.bool b) A'):Wc Tryz.prog theX W0 m0 87 [.agg ⟨fV x⟩,.int .i64 (n:Int)] A K:=by
 let I:Nat→Nat→List Value→AW→Prop:=fun g id vals A'=>id=0∧∃ (i:Nat),vals=[.int .i64 (n:Int),.pointer (some ⟨A.next,0,none⟩),.int .i64 (i:Int)]∧i≤l'.length∧0 < n∧g=l'.length - i∧
  Go.Abs.Row1 A' A.next (fV x) 80∧Keeps A A' []
 refine w87 _ _ _ (c87 (I:=I) fun g id vals A' d hI hd=>?_) ?_
 ·obtain ⟨rfl,i,rfl,hi,hn0,rfl,hr,hkp⟩:=hI
  have hr:Go.Abs.Row1 A' A.next [.int .u8 (x.kind:Int),.int .u64 (x.n:Int),.string x.s,.slice x.ko x.kl x.kc,.slice x.lo x.ll x.lc] 80:=hr
  have hx':=hx.keeps hkp (by simp)
  have hll:(x.ll:Nat)=l'.length:=by
   obtain ⟨o,c,h,_⟩:=hx
   simp only [VV.list,Value.slice.injEq] at h
   exact h.2.1
  rw [l87_0]
  simp only [L87,List.map_cons,List.map_nil,List.cons.injEq,and_true] at hd
  obtain ⟨d1,d2,d5⟩:=hd
  simp only [d1,d2,d5,fa_80_4,ld_78,cell_row hr.row,cellOf,isT_int,isT_string,isT_slice,cond_false,pureW_some,ln_78,hll,bin_lss,forkW_dec,Nat.zero_add]
  refine ⟨fun hlt=>?_,fun hge=>hk _ _⟩
  have hlt:i < l'.length:=by omega
  obtain ⟨x',hx1⟩:∃ x',l'[i]? =some x':=⟨_,List.getElem?_eq_getElem (by omega)⟩
  obtain ⟨r,o,a1,a2,a3⟩:=hx'.at etV hx1
  have a1:indexAddrA Tryz.prog 78 (.slice x.lo l'.length x.lc) (.int .i64 (i:Int))=some (.pointer (some ⟨r,o,none⟩)):=by rw [← hll];exact a1
  simp only [a1,pureW_some,a3,bin_sub]
  rw [wrap_i64 (by omega) (by omega)]
  have e:(n:Int) - 1=((n - 1:Nat):Int):=by omega
  rw [e]
  refine knL (by decide) (hkc i x' hx1 (n - 1) (by omega)) rfl fun v hv=>?_
  have fin:forkW (.bool false) (K (.bool true) A') (pureW (binA Tryz.prog .add 3 (.tmp 13) (.const (.int .i64 1)) (.int .i64 (i:Int)) (.int .i64 1)) fun t10=>cutW (T87 0) (T87 0) (∃ g2,g2 < l'.length - i∧I g2 0 [.int .i64 (n:Int),.pointer (some ⟨A.next,0,none⟩),t10] A')):=by
   refine forkW_bool.2 ⟨fun h=>Bool.noConfusion h,fun _=>?_⟩
   simp only [bin_add,pureW_some]
   rw [wrap_i64 (by omega) (by omega)]
   exact cutW_self.2 ⟨l'.length - (i+1),by omega,rfl,i+1,rfl,by omega,hn0,rfl,hr,hkp⟩
  rcases List.mem_cons.1 hv with rfl | hv
  ·exact forkW_bool.2 ⟨fun _=>hk _ _,fun h=>Bool.noConfusion h⟩
  ·obtain rfl:=List.mem_singleton.1 hv
   exact fin
 ·rw [e87]
  refine newP_made (cs:=fV x) hf (by omega) rfl fun A1 m1=>?_
  simp only [bin_eql,pureW_some]
  refine forkW_beq.2 ⟨fun _=>hk _ _,fun h=>?_⟩
  exact cutW_self.2 ⟨l'.length - 0,rfl,0,rfl,by omega,by omega,rfl,m1.row1,m1.keeps hf⟩
def upTo (n:Nat):List Value:=(List.range (n+2)).map fun (j:Nat)=>Value.int .i64 ((j:Int) - 1)
theorem upTo_mem {n:Nat} {m:Int} (h1: -1≤m) (h2:m≤n):(.int .i64 m:Value)∈upTo n:=List.mem_map.2 ⟨(m+1).toNat,List.mem_range.2 (by omega),by show Value.int .i64 (((m+1).toNat:Int) - 1)=.int .i64 m;congr 1;omega⟩
theorem upTo_cases {n:Nat} {v:Value} (h:v∈upTo n):∃ m:Int,v=.int .i64 m∧-1≤m∧m≤n:=by
 obtain ⟨j,hj,rfl⟩:=List.mem_map.1 h
 have:=List.mem_range.1 hj
 exact ⟨_,rfl,by omega,by omega⟩
theorem upTo_closed (n:Nat):(upTo n).all (closedV 4)=true:=by
 rw [List.all_eq_true]
 intro v hv
 obtain ⟨m,rfl,_⟩:=upTo_cases hv
 rfl
theorem wc88 {A:AW} {x:VV} {l':List VV} {kl':List ByteArray} {F Fk:List Nat} {n:Nat} {K:Value→AW→Prop} (hf:Fine A) (hA:A.next+5 < maxId) (hx:RdT 4 fV A x.list l'.length l' F) (hkx:RdT 0 fT A x.keys x.kl kl' Fk) (hkl:kl'.length=min x.kl 20000) (hn:n≤20000) (hl:l'.length≤400)
  (hkc:∀ (i:Nat) x',l'[i]? =some x'→∀ m:Nat,m≤n→KC.Holds Tryz.prog W0 m0 ⟨88,[.agg ⟨fV x'⟩,.int .i64 (m:Int)],upTo m⟩)
  (hk:∀ m:Int,-1≤m→m≤n→∀ A',K (.int .i64 m) A'):Wc Tryz.prog theX W0 m0 88 [.agg ⟨fV x⟩,.int .i64 (n:Int)] A K:=by
 let I:Nat→Nat→List Value→AW→Prop:=fun g id vals A'=>
  (id=0∧∃ (i:Nat) (m:Int),vals=[.int .i64 m,.pointer (some ⟨A.next,0,none⟩),.int .i64 (i:Int)]∧i≤x.kl∧x.kl≤20000∧-20000≤m∧m≤n∧(m < 0→i < x.kl)∧g=100000 - i∧Go.Abs.Row1 A' A.next (fV x) 80∧Keeps A A' [])∨
  (id=2∧∃ (i:Nat) (m:Int),vals=[.int .i64 m,.pointer (some ⟨A.next,0,none⟩),.int .i64 (i:Int)]∧i≤l'.length∧-1≤m∧m≤n∧g=1000 - i∧Go.Abs.Row1 A' A.next (fV x) 80∧Keeps A A' [])
 have hll:(x.ll:Nat)=l'.length:=by
  obtain ⟨o,c,h,_⟩:=hx
  simp only [VV.list,Value.slice.injEq] at h
  exact h.2.1
 refine w88 _ _ _ (c88 (I:=I) fun g id vals A' d hI hd=>?_) ?_
 ·rcases hI with ⟨rfl,i,m,rfl,hi,hkl2,hm0,hm,hneg,rfl,hr,hkp⟩ | ⟨rfl,i,m,rfl,hi,hm1,hm2,rfl,hr,hkp⟩
  ·have hr:Go.Abs.Row1 A' A.next [.int .u8 (x.kind:Int),.int .u64 (x.n:Int),.string x.s,.slice x.ko x.kl x.kc,.slice x.lo x.ll x.lc] 80:=hr
   have hkx':=hkx.keeps hkp (by simp)
   rw [l88_0]
   simp only [L88,List.map_cons,List.map_nil,List.cons.injEq,and_true] at hd
   obtain ⟨d1,d2,d5⟩:=hd
   simp only [d1,d2,d5,fa_80_3,ld_77,cell_row hr.row,cellOf,isT_int,isT_string,isT_slice,cond_false,pureW_some,ln_77,bin_lss,forkW_dec,Nat.zero_add]
   refine ⟨fun hlt=>?_,fun hge=>?_⟩
   ·have hlt:i < x.kl:=by omega
    obtain ⟨p,hp⟩:∃ p,kl'[i]? =some p:=⟨_,List.getElem?_eq_getElem (by omega)⟩
    obtain ⟨r,o,a1,a2⟩:=txt_at hkx' hp
    have a1:indexAddrA Tryz.prog 77 (.slice x.ko x.kl x.kc) (.int .i64 (i:Int))=some (.pointer (some ⟨r,o,none⟩)):=a1
    simp only [a1,pureW_some,a2,ln_9,bin_gtr,forkW_dec]
    refine ⟨fun _=>hk _ (by omega) (by omega) _,fun h=>?_⟩
    simp only [bin_sub,bin_add,pureW_some]
    rw [wrap_i64 (by omega) (by omega),wrap_i64 (by omega) (by omega)]
    exact cutW_self.2 ⟨100000 - (i+1),by omega,.inl ⟨rfl,i+1,_,rfl,by omega,hkl2,by omega,by omega,by omega,rfl,hr,hkp⟩⟩
   ·exact cutW_self.2 ⟨1000 - 0,by omega,.inr ⟨rfl,0,m,rfl,by omega,by omega,by omega,rfl,hr,hkp⟩⟩
  ·have hr:Go.Abs.Row1 A' A.next [.int .u8 (x.kind:Int),.int .u64 (x.n:Int),.string x.s,.slice x.ko x.kl x.kc,.slice x.lo x.ll x.lc] 80:=hr
   have hx':=hx.keeps hkp (by simp)
   rw [l88_2]
   simp only [L88,List.map_cons,List.map_nil,List.cons.injEq,and_true] at hd
   obtain ⟨d1,d2,d6⟩:=hd
   simp only [d1,d2,d6,fa_80_4,ld_78,cell_row hr.row,cellOf,isT_int,isT_string,isT_slice,cond_false,pureW_some,ln_78,hll,bin_lss,bin_geq,forkW_dec,Nat.zero_add]
   refine ⟨fun hlt=>⟨fun h0=>?_,fun h0=>hk _ hm1 hm2 _⟩,fun hge=>hk _ hm1 hm2 _⟩
   have hlt:i < l'.length:=by omega
   obtain ⟨x',hx1⟩:∃ x',l'[i]? =some x':=⟨_,List.getElem?_eq_getElem (by omega)⟩
   obtain ⟨r,o,a1,a2,a3⟩:=hx'.at etV hx1
   have a1:indexAddrA Tryz.prog 78 (.slice x.lo l'.length x.lc) (.int .i64 (i:Int))=some (.pointer (some ⟨r,o,none⟩)):=by rw [← hll];exact a1
   simp only [a1,pureW_some,a3]
   obtain ⟨m',rfl⟩:∃ m':Nat,m=(m':Int):=⟨m.toNat,by omega⟩
   refine knL (by decide) (hkc i x' hx1 m' (by omega)) (upTo_closed _) fun v hv=>?_
   obtain ⟨m2,rfl,hq1,hq2⟩:=upTo_cases hv
   simp only [bin_add,pureW_some]
   rw [wrap_i64 (by omega) (by omega)]
   exact cutW_self.2 ⟨1000 - (i+1),by omega,.inr ⟨rfl,i+1,m2,rfl,by omega,by omega,by omega,rfl,hr,hkp⟩⟩
 ·rw [e88]
  refine newP_made (cs:=fV x) hf (by omega) rfl fun A1 m1=>?_
  have hr:Go.Abs.Row1 A1 A.next [.int .u8 (x.kind:Int),.int .u64 (x.n:Int),.string x.s,.slice x.ko x.kl x.kc,.slice x.lo x.ll x.lc] 80:=m1.row1
  simp only [fa_80_2,fa_80_3,ld_9,ld_77,cell_row hr.row,cellOf,isT_int,isT_string,isT_slice,cond_false,pureW_some,ln_9,ln_77,bin_gtr,forkW_dec,Nat.zero_add]
  refine ⟨fun _=>hk _ (by omega) (by omega) _,fun h1=>⟨fun _=>hk _ (by omega) (by omega) _,fun h2=>?_⟩⟩
  simp only [bin_sub,pureW_some]
  rw [wrap_i64 (n:=(n:Int) - (x.s.data.toList.length:Int)) (by omega) (by omega),wrap_i64 (by omega) (by omega)]
  exact cutW_self.2 ⟨100000 - 0,.inl ⟨rfl,0,_,rfl,by omega,by omega,by omega,by omega,by omega,rfl,m1.row1,m1.keeps hf⟩⟩
end
end Go.Proofs.YtdpdajpiadohjaaGreatDoor
namespace Go.Proofs.YtdpdajpiadohjaaGreatDoor
open Go Go.Abs
theorem okG0:okG Tryz.prog.globals.size ([]:List (Nat × List Value × TypeId))=true:=by kernel_rfl
theorem globs:Tryz.prog.globals.size≤1000:=by
 have:Nat.ble Tryz.prog.globals.size 1000=true:=by kernel_rfl
 exact Nat.le_of_ble_eq_true this
theorem calls_val {L:List Arg} {g:FuncId} {args args' vs:List Value} {W:World} (hk:Tryz.prog.globals.size+L.length+1≤maxId) (hvs:∀ v∈vs,(∃ k n,v=.int k n)∨∃ b,v=.bool b) (hA:Args Tryz.prog W L) (ha:VRels (mR Tryz.prog L) args args')
  (h:Wc Tryz.prog theX W (mR Tryz.prog L) g args (wR Tryz.prog.globals.size [] L) fun v _=>v∈vs):Calls Tryz.prog g ⟨args'⟩ W fun e W'=>∃ v∈vs,e=.returned v∧Low W W':=by
 refine (calls_of_wc gP h (relR okG0 hk (fun x hx=>by cases hx) hA) (fun i hi=>mA_var hi) (ownR okG0 (by omega)) ha).mono ?_
 rintro e w' ⟨v,v',m',A',h1,rfl,h2,h3⟩
 have hv:v'=v:=by
  rcases hvs v h1 with ⟨k,n,rfl⟩ | ⟨b,rfl⟩
  ·cases h2;rfl
  ·cases h2;rfl
 exact ⟨v,h1,by rw [hv],low_of h3 (ownR okG0 (by omega))⟩
theorem kc_val {g:FuncId} {vals:List Value} {k n:Nat} {W:World} {m0:Inj Tryz.prog} {x' x:VV} {y:Tr k} (hg:g≠sameFn) (hx:ValRel m0 x' x) (ht:TreeAt W k x y)
  (ih:∀ W v,TreeAt W k v y→Calls Tryz.prog g #[.agg ⟨fV v⟩,.int .i64 (n:Int)] W fun e W'=>∃ r∈vals,e=.returned r∧Low W W'):KC.Holds Tryz.prog W m0 ⟨g,[.agg ⟨fV x'⟩,.int .i64 (n:Int)],vals⟩:=by
 refine ⟨fun e=>absurd e hg,fun _ m args' W' hle hb ha=>?_⟩
 cases ha with
 | cons h1 h2=>
  cases h2 with
  | cons h3 h4=>
   cases h3
   cases h4
   obtain ⟨y',rfl,hs⟩:=hx.back hle h1
   exact ih W' y' ((TreeAt.grow hb k x y ht).same hs)
theorem kids_of {W:World} {k:Nat} {v:VV} {t:Tr (k+1)} (h:TreeAt W (k+1) v t):∃ (keys:List ByteArray) (Ka:Arg) (l:List VV) (La:Arg),InSlice W fT v.keys keys Ka∧InSlice W fV v.list l La∧l.length=t.kids.length∧(∀ (i:Nat) x y,l[i]? =some x→t.kids[i]? =some y→TreeAt W k x y)∧∀ x∈l,IsSlice x.keys∧IsSlice x.list:=by
 obtain ⟨⟨keys,Ka,hk⟩,l,La,hl,hlen,hch⟩:=h
 refine ⟨keys,Ka,l,La,hk,hl,hlen,hch,fun x hx=>?_⟩
 obtain ⟨i,hi⟩:=List.mem_iff_getElem?.1 hx
 have hil:=(List.getElem?_eq_some_iff.1 hi).1
 obtain ⟨y,hy⟩:∃ y,t.kids[i]? =some y:=⟨_,List.getElem?_eq_getElem (by omega)⟩
 have ht:=hch i x y hi hy
 cases k with
 | zero=>cases ht
 | succ k=>
  obtain ⟨⟨keys2,Ka2,hk2⟩,l2,La2,hl2,_⟩:=ht
  exact ⟨hk2.isSlice,hl2.isSlice⟩
theorem left_all:∀ (k:Nat) (t:Tr k) (W:World) (v:VV),TreeAt W k v t→∀ n:Nat,n≤400→Calls Tryz.prog 86 #[.agg ⟨fV v⟩,.int .i64 (n:Int)] W fun e W'=>∃ r∈[Value.int .i64 (leftS k t n)],e=.returned r∧Low W W'
 | 0,t,_,_,_,_,_=>nomatch t
 | k+1,t,W,v,h,n,hn=>by
  obtain ⟨keys,Ka,l,La,hk,hl,hlen,hch,hsl⟩:=kids_of h
  obtain ⟨L,v',l',hL,hA,hv',hll,hvals,hrd⟩:=val_args (P:=Tryz.prog) hk hl hsl 0 401
  have hg:=globs
  have hmax:maxId=4194304:=rfl
  have hkk:Tryz.prog.globals.size+L.length+1≤maxId:=by omega
  obtain ⟨⟨F,hr⟩,_⟩:=hrd [] hkk
  refine calls_val (args:=[.agg ⟨fV v'⟩,.int .i64 (n:Int)]) hkk (fun r hr=>.inl ⟨_,_,List.mem_singleton.1 hr⟩) hA (.cons (.agg hv'.rels) (.cons (.int _ _) .nil)) ?_
  refine wc86 (tk:=t.kids) (wR_fine okG0 hkk) (by show Tryz.prog.globals.size+L.length+1+5 < maxId;omega) (by rw [← hlen];exact hr) (by rw [hll,hlen]) hn (fun i x' y h1 h2 m hm=>?_) fun A'=>List.mem_singleton.2 rfl
  have hil:=(List.getElem?_eq_some_iff.1 h2).1
  obtain ⟨x,hx⟩:∃ x,l[i]? =some x:=⟨_,List.getElem?_eq_getElem (by omega)⟩
  exact kc_val (by decide) (hvals i x' x h1 hx) (hch i x y hx h2) fun W' v2 ht=>left_all k y W' v2 ht m (by omega)
theorem size_kid {k:Nat} {t:Tr (k+1)} {i:Nat} {y:Tr k} (h:t.kids[i]? =some y):sizeS k y < sizeS (k+1) t:=by
 have hm:=List.mem_of_getElem? h
 have key:∀ (l:List (Tr k)),y∈l→sizeS k y≤(l.map (sizeS k)).sum:=by
  intro l
  induction l with
  | nil=>intro h;cases h
  | cons a r ih=>
   intro h
   rw [List.map_cons,List.sum_cons]
   rcases List.mem_cons.1 h with rfl | h
   ·omega
   ·have:=ih h;omega
 have:=key _ hm
 show _ < 1+(t.kids.map (sizeS k)).sum
 omega
theorem size_len {k:Nat} {t:Tr (k+1)}:t.kids.length < sizeS (k+1) t:=by
 have key:∀ (l:List (Tr k)),l.length≤(l.map (sizeS k)).sum:=by
  intro l
  induction l with
  | nil=>simp
  | cons a r ih=>
   rw [List.map_cons,List.sum_cons,List.length_cons]
   have:=sizeS_pos k a
   omega
 have:=key t.kids
 show _ < 1+(t.kids.map (sizeS k)).sum
 omega
theorem deep_all:∀ (k:Nat) (t:Tr k) (W:World) (v:VV),TreeAt W k v t→sizeS k t≤400→∀ n:Nat,n≤40→Calls Tryz.prog 87 #[.agg ⟨fV v⟩,.int .i64 (n:Int)] W fun e W'=>∃ r∈[Value.bool true,.bool false],e=.returned r∧Low W W'
 | 0,t,_,_,_,_,_,_=>nomatch t
 | k+1,t,W,v,h,hsz,n,hn=>by
  obtain ⟨keys,Ka,l,La,hk,hl,hlen,hch,hsl⟩:=kids_of h
  obtain ⟨L,v',l',hL,hA,hv',hll,hvals,hrd⟩:=val_args (P:=Tryz.prog) hk hl hsl 0 401
  have hg:=globs
  have hmax:maxId=4194304:=rfl
  have hkk:Tryz.prog.globals.size+L.length+1≤maxId:=by omega
  obtain ⟨⟨F,hr⟩,_⟩:=hrd [] hkk
  have hkl:=size_len (t:=t)
  have hl':l'.length=l.length:=by rw [hll];omega
  refine calls_val (args:=[.agg ⟨fV v'⟩,.int .i64 (n:Int)]) hkk (fun r hr=>?_) hA (.cons (.agg hv'.rels) (.cons (.int _ _) .nil)) ?_
  ·rcases List.mem_cons.1 hr with rfl | hr
   ·exact .inr ⟨_,rfl⟩
   ·exact .inr ⟨_,List.mem_singleton.1 hr⟩
  refine wc87 (wR_fine okG0 hkk) (by show Tryz.prog.globals.size+L.length+1+5 < maxId;omega) (by rw [hl'];exact hr) hn (by omega) (fun i x' h1 m hm=>?_) fun b A'=>by cases b <;> simp
  have hil:=(List.getElem?_eq_some_iff.1 h1).1
  obtain ⟨x,hx⟩:∃ x,l[i]? =some x:=⟨_,List.getElem?_eq_getElem (by omega)⟩
  obtain ⟨y,hy⟩:∃ y,t.kids[i]? =some y:=⟨_,List.getElem?_eq_getElem (by omega)⟩
  have:=size_kid hy
  exact kc_val (by decide) (hvals i x' x h1 hx) (hch i x y hx hy) fun W' v2 ht=>deep_all k y W' v2 ht (by omega) m (by omega)
theorem small_all:∀ (k:Nat) (t:Tr k) (W:World) (v:VV),TreeAt W k v t→sizeS k t≤400→∀ n:Nat,n≤20000→Calls Tryz.prog 88 #[.agg ⟨fV v⟩,.int .i64 (n:Int)] W fun e W'=>∃ r∈upTo n,e=.returned r∧Low W W'
 | 0,t,_,_,_,_,_,_=>nomatch t
 | k+1,t,W,v,h,hsz,n,hn=>by
  obtain ⟨keys,Ka,l,La,hk,hl,hlen,hch,hsl⟩:=kids_of h
  obtain ⟨L,v',l',hL,hA,hv',hll,hvals,hrd⟩:=val_args (P:=Tryz.prog) hk hl hsl 20000 401
  have hg:=globs
  have hmax:maxId=4194304:=rfl
  have hkk:Tryz.prog.globals.size+L.length+1≤maxId:=by omega
  obtain ⟨⟨F,hr⟩,Fk,hrk⟩:=hrd [] hkk
  have hkl:=size_len (t:=t)
  have hl':l'.length=l.length:=by rw [hll];omega
  have hvk:v'.kl=keys.length:=by
   obtain ⟨o,c,h,_⟩:=hrk
   simp only [VV.keys,Value.slice.injEq] at h
   exact h.2.1
  refine calls_val (args:=[.agg ⟨fV v'⟩,.int .i64 (n:Int)]) hkk (fun r hr=>?_) hA (.cons (.agg hv'.rels) (.cons (.int _ _) .nil)) ?_
  ·obtain ⟨m,rfl,_⟩:=upTo_cases hr
   exact .inl ⟨_,_,rfl⟩
  refine wc88 (wR_fine okG0 hkk) (by show Tryz.prog.globals.size+L.length+1+5 < maxId;omega) (by rw [hl'];exact hr) (by rw [hvk];exact hrk) (by rw [List.length_take,hvk,Nat.min_comm]) hn (by omega) (fun i x' h1 m hm=>?_) fun m h1 h2 A'=>upTo_mem h1 h2
  have hil:=(List.getElem?_eq_some_iff.1 h1).1
  obtain ⟨x,hx⟩:∃ x,l[i]? =some x:=⟨_,List.getElem?_eq_getElem (by omega)⟩
  obtain ⟨y,hy⟩:∃ y,t.kids[i]? =some y:=⟨_,List.getElem?_eq_getElem (by omega)⟩
  have:=size_kid hy
  exact kc_val (by decide) (hvals i x' x h1 hx) (hch i x y hx hy) fun W' v2 ht=>small_all k y W' v2 ht (by omega) m (by omega)
section
variable {W0:World} {m0:Inj Tryz.prog}
theorem wc60 {A:AW} {x:VV} {k:Nat} {t:Tr k} {K:Value→AW→Prop} (hf:Fine A) (hA:A.next+5 < maxId)
  (hl:KC.Holds Tryz.prog W0 m0 ⟨86,[.agg ⟨fV x⟩,.int .i64 400],[.int .i64 (leftS k t 400)]⟩) (hd:sizeS k t≤400→KC.Holds Tryz.prog W0 m0 ⟨87,[.agg ⟨fV x⟩,.int .i64 40],[.bool true,.bool false]⟩) (hs:sizeS k t≤400→KC.Holds Tryz.prog W0 m0 ⟨88,[.agg ⟨fV x⟩,.int .i64 20000],upTo 20000⟩)
  (hk:∀ b A',K (.bool b) A'):Wc Tryz.prog theX W0 m0 60 [.agg ⟨fV x⟩] A K:=by
 refine w60 _ _ (cuts_none (S:=fun _ _ _=>False) fun _ _ _ h=>h) ?_
 rw [e60]
 refine newP_made (cs:=fV x) hf (by omega) rfl fun A1 m1=>?_
 have hc:A1.cells? ⟨A.next,0,none⟩ 5=some (fV x):=by rw [cells_row m1.row1.row];rfl
 simp only [ld_80,hc,pureW_some]
 refine knL (by decide) hl rfl fun v hv=>?_
 obtain rfl:=List.mem_singleton.1 hv
 simp only [bin_lss,pureW_some,forkW_dec]
 refine ⟨fun _=>hk _ _,fun h=>?_⟩
 have hsz:sizeS k t≤400:=by
  have:=leftS_spec k t 400 (by decide)
  rw [this] at h
  split at h <;> omega
 simp only [hc,pureW_some]
 refine knL (by decide) (hd hsz) rfl fun v hv=>?_
 rcases List.mem_cons.1 hv with rfl | hv
 ·exact forkW_bool.2 ⟨fun _=>hk _ _,fun h=>by cases h⟩
 ·obtain rfl:=List.mem_singleton.1 hv
  refine forkW_bool.2 ⟨fun h=>(by cases h),fun _=>?_⟩
  simp only [hc,pureW_some]
  refine knL (by decide) (hs hsz) (upTo_closed _) fun v hv=>?_
  obtain ⟨m,rfl,_⟩:=upTo_cases hv
  simp only [bin_geq,pureW_some]
  exact hk _ _
end
theorem value_all {k:Nat} {t:Tr k} {W:World} {v:VV} (h:TreeAt W k v t):Calls Tryz.prog 60 #[.agg ⟨fV v⟩] W fun e W'=>∃ r∈[Value.bool true,.bool false],e=.returned r∧Low W W':=by
 cases k with
 | zero=>cases h
 | succ k=>
  have h0:=h
  obtain ⟨keys,Ka,l,La,hk,hl,hlen,hch,hsl⟩:=kids_of h
  obtain ⟨L,v',l',hL,hA,hv',hll,hvals,hrd⟩:=val_args (P:=Tryz.prog) hk hl hsl 0 0
  have hg:=globs
  have hmax:maxId=4194304:=rfl
  have hkk:Tryz.prog.globals.size+L.length+1≤maxId:=by omega
  refine calls_val (args:=[.agg ⟨fV v'⟩]) hkk (fun r hr=>?_) hA (.cons (.agg hv'.rels) .nil) ?_
  ·rcases List.mem_cons.1 hr with rfl | hr
   ·exact .inr ⟨_,rfl⟩
   ·exact .inr ⟨_,List.mem_singleton.1 hr⟩
  exact wc60 (t:=t) (wR_fine okG0 hkk) (by show Tryz.prog.globals.size+L.length+1+5 < maxId;omega) (kc_val (n:=400) (by decide) hv' h0 fun W' v2 ht=>left_all _ t W' v2 ht 400 (by omega)) (fun hs=>kc_val (n:=40) (by decide) hv' h0 fun W' v2 ht=>deep_all _ t W' v2 ht hs 40 (by omega)) (fun hs=>kc_val (n:=20000) (by decide) hv' h0 fun W' v2 ht=>small_all _ t W' v2 ht hs 20000 (by omega)) fun b A'=>by cases b <;> simp
end Go.Proofs.YtdpdajpiadohjaaGreatDoor
namespace Go.Abs
theorem takeCells_part:∀ (k m:Nat) (l cs:List Value) (N:Nat),takeCells l N=some cs→k+m≤N→takeCells (l.drop k) m=some ((cs.drop k).take m)
 | 0,0,l,cs,N,_,_=>by simp [takeCells]
 | 0,m+1,l,cs,N,h,hN=>by
  obtain ⟨N,rfl⟩:∃ n,N=n+1:=⟨N - 1,by omega⟩
  cases l with
  | nil=>unfold takeCells at h;cases h
  | cons v l=>
   unfold takeCells at h
   cases hv:isTuple v with
   | true=>rw [hv] at h;cases h
   | false=>
    rw [hv,cond_false] at h
    cases hr:takeCells l N with
    | none=>rw [hr] at h;cases h
    | some q=>
     rw [hr] at h
     simp only [Option.some.injEq] at h
     subst h
     have ih:=takeCells_part 0 m l q N hr (by omega)
     rw [List.drop_zero,List.drop_zero] at ih
     rw [List.drop_zero,List.drop_zero,takeCells_cons hv,ih]
     rfl
 | k+1,m,l,cs,N,h,hN=>by
  obtain ⟨N,rfl⟩:∃ n,N=n+1:=⟨N - 1,by omega⟩
  cases l with
  | nil=>unfold takeCells at h;cases h
  | cons v l=>
   unfold takeCells at h
   cases hv:isTuple v with
   | true=>rw [hv] at h;cases h
   | false=>
    rw [hv,cond_false] at h
    cases hr:takeCells l N with
    | none=>rw [hr] at h;cases h
    | some q=>
     rw [hr] at h
     simp only [Option.some.injEq] at h
     subst h
     rw [List.drop_succ_cons,List.drop_succ_cons]
     exact takeCells_part k m l q N hr (by omega)
theorem cells_part {A:AW} {r o N:Nat} {cs cs':List Value} {k m:Nat} (h:A.cells? ⟨r,o,none⟩ (N+1)=some cs) (hN:k+(m+1)≤N+1) (hc:(cs.drop k).take (m+1)=cs'):A.cells? ⟨r,o+k,none⟩ (m+1)=some cs':=by
 unfold AW.cells? at h ⊢
 simp only at h ⊢
 cases hg:A.get r with
 | none=>rw [hg] at h;cases h
 | some ob=>
  rw [hg] at h
  cases ob with
  | row cs0 e g b ro=>
   simp only at h ⊢
   rw [← hc,← List.drop_drop]
   exact takeCells_part k (m+1) _ _ (N+1) h hN
  | _=>cases h
end Go.Abs
namespace Go.Proofs.YtdpdajpiadohjaaGreatDoor
open Go.Abs
structure SL where
 o:Option Addr
 len:Nat
 cap:Nat
def SL.val (x:SL):Value:=.slice x.o x.len x.cap
structure MV where
 id:Nat
 key:ByteArray
 dur:Bool
 red:Bool
 pid:ByteArray
 app:VV
 body:ByteArray
def MV.props (x:MV):List Value:=[.string x.key,.bool x.dur,.bool x.red,.string x.pid]++fV x.app
def fM (x:MV):List Value:=.int .u64 (x.id:Int)::(x.props++[.string x.body])
structure QV where
 name:ByteArray
 limit:Nat
 ms:SL
def fQ (x:QV):List Value:=[.string x.name,.int .u64 (x.limit:Int),x.ms.val]
structure BV where
 x:Nm
 ps:SL
 ts:SL
def fB (b:BV):List Value:=[.int .u32 (b.x.f:Int),.string b.x.g,.string b.x.b,b.ps.val,b.ts.val]
structure UV where
 queue:ByteArray
 m:MV
def fU (x:UV):List Value:=.string x.queue:: .int .u64 (x.m.id:Int)::(x.m.props++[.string x.m.body])
structure FV where
 queue:ByteArray
 id:Nat
def fF (x:FV):List Value:=[.string x.queue,.int .u64 (x.id:Int)]
structure SV where
 next:Nat
 qs:SL
 bs:SL
 hs:SL
def fS (x:SV):List Value:=[.int .u64 (x.next:Int),x.qs.val,x.bs.val,x.hs.val]
theorem etM:ET Tryz.prog 73 84 10 fM:=⟨by kernel_rfl,by kernel_rfl,by kernel_rfl,⟨144,by kernel_rfl,by decide⟩,by kernel_rfl,fun _=>rfl,fun _=>rfl,fun _=>rfl⟩
theorem etQ:ET Tryz.prog 33 75 2 fQ:=⟨by kernel_rfl,by kernel_rfl,by kernel_rfl,⟨48,by kernel_rfl,by decide⟩,by kernel_rfl,fun _=>rfl,fun _=>rfl,fun _=>rfl⟩
theorem etB:ET Tryz.prog 34 89 4 fB:=⟨by kernel_rfl,by kernel_rfl,by kernel_rfl,⟨88,by kernel_rfl,by decide⟩,by kernel_rfl,fun _=>rfl,fun _=>rfl,fun _=>rfl⟩
theorem etU:ET Tryz.prog 86 134 11 fU:=⟨by kernel_rfl,by kernel_rfl,by kernel_rfl,⟨160,by kernel_rfl,by decide⟩,by kernel_rfl,fun _=>rfl,fun _=>rfl,fun _=>rfl⟩
theorem etF:ET Tryz.prog 87 120 1 fF:=⟨by kernel_rfl,by kernel_rfl,by kernel_rfl,⟨24,by kernel_rfl,by decide⟩,by kernel_rfl,fun _=>rfl,fun _=>rfl,fun _=>rfl⟩
theorem etS':ET Tryz.prog 51 37 3 fS:=⟨by kernel_rfl,by kernel_rfl,by kernel_rfl,⟨80,by kernel_rfl,by decide⟩,by kernel_rfl,fun _=>rfl,fun _=>rfl,fun _=>rfl⟩
theorem rdT_ll {β:Type} {n:Nat} {f:β→List Value} {A:AW} {x:SL} {len:Nat} {l:List β} {F:List Nat} (h:RdT n f A x.val len l F):x.len=len:=by
 obtain ⟨o,c,h,_⟩:=h
 simp only [SL.val,Value.slice.injEq] at h
 exact h.2.1
def VK (W0:World) (m0:Inj Tryz.prog) (x:VV):Prop:=KC.Holds Tryz.prog W0 m0 ⟨60,[.agg ⟨fV x⟩],[.bool true,.bool false]⟩
section
variable {W0:World} {m0:Inj Tryz.prog}
theorem wc34 {A:AW} {x:MV} {K:Value→AW→Prop} (hf:Fine A) (hA:A.next+5 < maxId) (hv:VK W0 m0 x.app) (hk:∀ b A',Grow A A' 1→K (.bool b) A'):Wc Tryz.prog theX W0 m0 34 [.agg ⟨x.props⟩] A K:=by
 refine w34 _ _ (cuts_none (S:=fun _ _ _=>False) fun _ _ _ h=>h) ?_
 rw [e34]
 refine newP_made (cs:=x.props) hf (by omega) rfl fun A1 m1=>?_
 have g1:=Grow.made m1 hf
 have hr:Go.Abs.Row1 A1 A.next [.string x.key,.bool x.dur,.bool x.red,.string x.pid,.int .u8 (x.app.kind:Int),.int .u64 (x.app.n:Int),.string x.app.s,.slice x.app.ko x.app.kl x.app.kc,.slice x.app.lo x.app.ll x.app.lc] 82:=m1.row1
 have hc:A1.cells? ⟨A.next,4,none⟩ 5=some (fV x.app):=by rw [cells_row hr.row];rfl
 simp only [fa_82_0,fa_82_3,fa_82_4,ld_9,ld_80,hc,cell_row hr.row,cellOf,isT_bool,isT_string,cond_false,pureW_some,ln_9,bin_leq,forkW_dec,Nat.zero_add]
 refine ⟨fun _=>⟨fun _=>knL (by decide) hv rfl fun v hv=>?_,fun _=>hk _ _ g1⟩,fun _=>hk _ _ g1⟩
 rcases List.mem_cons.1 hv with rfl | hv
 ·exact hk _ _ g1
 ·rw [List.mem_singleton.1 hv];exact hk _ _ g1
theorem wc61 {A:AW} {v:Value} {l:List UV} {F:List Nat} {K:Value→AW→Prop} (hl:RdT 11 fU A v l.length l F) (hl2:l.length≤20) (hv:∀ x∈l,VK W0 m0 x.m.app) (hf:Fine A) (hA:A.next+50 < maxId) (hk:∀ b A',Grow A A' 20→K (.bool b) A'):Wc Tryz.prog theX W0 m0 61 [v,.int .i64 110] A K:=by
 let I:Nat→Nat→List Value→AW→Prop:=fun g id vals A'=>id=0∧∃ (i:Nat) (m:Int),vals=[v,.int .i64 m,.int .i64 (i:Int)]∧i≤l.length∧0≤m∧m≤20000∧g=l.length - i∧Grow A A' i
 refine w61 _ _ _ (c61 (I:=I) fun g id vals A' d hI hd=>?_) ?_
 ·obtain ⟨rfl,i,m,rfl,hi,hm0,hm1,rfl,hgr⟩:=hI
  have hl':=hl.keeps hgr.keeps (by simp)
  have hn:=hgr.next
  rw [l61_0]
  simp only [L61,List.map_cons,List.map_nil,List.cons.injEq,and_true] at hd
  obtain ⟨d0,d5,d6⟩:=hd
  simp only [d0,d5,d6,hl'.len etU,bin_lss,pureW_some,forkW_dec]
  refine ⟨fun hlt=>?_,fun hge=>hk _ _ (hgr.more (by omega))⟩
  have hlt:i < l.length:=by omega
  obtain ⟨x,hx⟩:∃ x,l[i]? =some x:=⟨_,List.getElem?_eq_getElem hlt⟩
  obtain ⟨r,o,a1,a2,a3⟩:=hl'.at etU hx
  have hb:A'.cell? ⟨r,o+11,none⟩=some (.string x.m.body):=cell_of a2 (k:=11) rfl
  have hq:A'.cell? ⟨r,o,none⟩=some (.string x.queue):=cell_of a2 (k:=0) rfl
  have hp:A'.cells? ⟨r,o+2,none⟩ 9=some x.m.props:=cells_part a2 (k:=2) (m:=8) (by omega) rfl
  simp only [a1,pureW_some,fa_134_0,fa_134_2,fa_134_3,ld_9,ld_82,hb,hq,hp,ln_9,bin_gtr,forkW_dec]
  refine ⟨fun _=>hk _ _ (hgr.more (by omega)),fun h1=>⟨fun _=>hk _ _ (hgr.more (by omega)),fun h2=>?_⟩⟩
  refine wc34 hgr.fine (by omega) (hv x (List.mem_of_getElem? hx)) fun b A2 g2=>?_
  have hgr2:=hgr.trans g2
  simp only [un_not,pureW_some]
  refine forkW_bool.2 ⟨fun _=>hk _ _ (hgr2.more (by omega)),fun _=>?_⟩
  have hl2':=hl.keeps hgr2.keeps (by simp)
  obtain ⟨r',o',b1,b2,b3⟩:=hl2'.at etU hx
  rw [a1] at b1
  simp only [Option.some.injEq,Value.pointer.injEq,Addr.mk.injEq] at b1
  obtain ⟨rfl,rfl,_⟩:=b1
  have hb2:A2.cell? ⟨r,o+11,none⟩=some (.string x.m.body):=cell_of b2 (k:=11) rfl
  simp only [pureW_some,hb2,ln_9,bin_sub,bin_add]
  rw [wrap_i64 (by omega) (by omega),wrap_i64 (by omega) (by omega)]
  exact cutW_self.2 ⟨l.length - (i+1),by omega,rfl,i+1,_,rfl,by omega,by omega,by omega,rfl,hgr2⟩
 ·rw [e61]
  simp only [hl.len etU,pureW_some,bin_gtr,forkW_dec]
  refine ⟨fun _=>hk _ _ ((Grow.refl hf).more (by omega)),fun _=>?_⟩
  exact cutW_self.2 ⟨l.length - 0,rfl,0,20000,rfl,by omega,by omega,by omega,rfl,Grow.refl hf⟩
end
end Go.Proofs.YtdpdajpiadohjaaGreatDoor
namespace Go.Abs
open Go.ChangeShapes Go.WideShapes Go.ChangeAt Go.RowKit
section
variable {P:Program} {H:Type} {enc:TypeId × Value→H}
theorem read_flatB {W:World} {t e:TypeId} {fuel:Nat} {cs:List Value} {x:DataW H × List MemPlace} {β:Type} {f:β→List Value} {ok:β→Prop} (b0:β) (hu:P.underlying t=some (.slice e)) (hz:0 < P.cellsOf e) (hn:∀ b,(f b).length=P.cellsOf e)
  (hel:∀ q,q < fuel→∀ cs y,DataW.trod enc P W 0 (fun _=>true) true q e cs=some y→∃ b,cs=f b∧ok b) (h:DataW.trod enc P W 0 (fun _=>true) true fuel t cs=some x):
  ∃ s l L,cs=[s]∧InSlice W f s l L∧(∀ b∈l,ok b):=by
 have hsl:=read_slice hu hz h
 rcases DataW.trod_slice hu h with ⟨rfl,_⟩ | ⟨a,n,m,elems,rest,q,rfl,rfl,_,_,hnm,hc,hlen,hx,_⟩
 ·exact ⟨_,[],_,rfl,.nil rfl (.inl rfl) ⟨none,0,rfl⟩,by simp⟩
 ·obtain ⟨s',hs1,hs2⟩:=hsl
  simp only [List.cons.injEq,and_true] at hs1
  subst hs1
  have hcap:m < capU:=by
   have h1:maxLen < capU:=by decide
   omega
  rcases Nat.eq_zero_or_pos n with h0 | hpos
  ·subst h0
   exact ⟨_,[],_,rfl,.nil rfl hs2 ⟨some a,m,rfl⟩,by simp⟩
  ·have key:∀ i,i < n→∃ b:β,ok b∧∀ j,j < P.cellsOf e→∃ v,(f b)[j]? =some v∧W.cell? ((a.add (i * P.cellsOf e)).add j)=some v:=by
    intro i hi
    have h1:=hx i hi
    obtain ⟨y,hy⟩:∃ y,elems[i]? =some y:=⟨_,List.getElem?_eq_getElem (by omega)⟩
    rw [hy] at h1
    obtain ⟨cs',g1,g2⟩:=Option.bind_eq_some_iff.1 h1
    obtain ⟨_,hl,g3⟩:=World.cells?_some g1
    obtain ⟨b,rfl,hok⟩:=hel q (by omega) _ _ g2
    refine ⟨b,hok,fun j hj=>?_⟩
    have h4:=g3 j (by omega)
    exact ⟨(f b)[j]'(by rw [hn];exact hj),List.getElem?_eq_getElem _,by rw [h4];exact List.getElem?_eq_getElem _⟩
   obtain ⟨bb,_,q'⟩:=key 0 hpos
   obtain ⟨v0,_,q2⟩:=q' 0 hz
   have hblk:a.spot=none∧∃ cs e' fr,W.heap[a.block]? =some (.cells cs e' fr)∧a.off≤cs.size:=by
    have:W.cell? a=some v0:=by simpa [Addr.add] using q2
    unfold World.cell? at this
    split at this
    ·rename_i cs e' fr hh
     split at this
     ·cases this
     ·rename_i hsp
      refine ⟨?_,cs,e',fr,hh,?_⟩
      ·cases hq:a.spot with
       | none=>rfl
       | some z=>exact absurd (by simp [hq]) hsp
      ·have:=(Array.getElem?_eq_some_iff.1 this).1
       omega
    ·cases this
   obtain ⟨hsp,cs,e',fr,hh,hoff⟩:=hblk
   let g:Nat→β:=fun i=>if h:i < n then Classical.choose (key i h) else b0
   have hg:∀ i (h:i < n),g i=Classical.choose (key i h):=fun i h=>dif_pos h
   have hfl:((List.range n).map g).length=n:=by simp
   refine ⟨_,(List.range n).map g,_,rfl,.blk a m cs e' fr (by rw [hfl]) (by rw [hfl];exact hnm) hcap hsp hh hoff fun i v hi=>?_,fun b hb=>?_⟩
   ·have hlt:i < n * P.cellsOf e:=by
     have:=(List.getElem?_eq_some_iff.1 hi).1
     rw [flat_length hn,hfl] at this
     exact this
    have hdiv:i / P.cellsOf e < n:=(Nat.div_lt_iff_lt_mul hz).2 hlt
    have hmod:i % P.cellsOf e < P.cellsOf e:=Nat.mod_lt _ hz
    have hie:i / P.cellsOf e * P.cellsOf e+i % P.cellsOf e=i:=by rw [Nat.mul_comm];exact Nat.div_add_mod i _
    have hget:((List.range n).map g)[i / P.cellsOf e]? =some (g (i / P.cellsOf e)):=by
     rw [List.getElem?_map,List.getElem?_range hdiv];rfl
    have:=flat_get hn hget hmod
    rw [hie,hi,hg _ hdiv] at this
    obtain ⟨_,p2⟩:=Classical.choose_spec (key _ hdiv)
    obtain ⟨v',p3,p4⟩:=p2 _ hmod
    rw [← this] at p3
    cases p3
    rw [addr_add0 a _ hsp,addr_add0 _ _ rfl] at p4
    unfold World.cell? at p4
    rw [hh] at p4
    simp only [Option.isSome_none,Bool.false_eq_true,if_false] at p4
    rw [show a.off+i / P.cellsOf e * P.cellsOf e+i % P.cellsOf e=a.off+i by omega] at p4
    simpa using p4
   ·simp only [List.mem_map,List.mem_range] at hb
    obtain ⟨i,hi,rfl⟩:=hb
    rw [hg i hi]
    exact (Classical.choose_spec (key i hi)).1
end
theorem lay_rows {P:Program} {W:World} (N:Nat) (pl:Nat→Nat × Nat) (C:Nat→List Value) (h:∀ x,x < N→C x≠[]→∃ cs' e fr,W.heap[(pl x).1]? =some (.cells cs' e fr)∧(pl x).2≤cs'.size∧∀ i v,(C x)[i]? =some v→∃ w,cs'[(pl x).2+i]? =some w∧VRel (mA P ((List.range N).map pl)) v w):
  ∃ L:List Arg,L.length=N∧L.map (·.1)=(List.range N).map pl∧Args P W L∧∀ x,x < N→C x≠[]→∃ p e,L[x]? =some (p,some (C x,e)):=by
 have h':∀ x,∃ e:TypeId,x < N→C x≠[]→∃ cs' fr,W.heap[(pl x).1]? =some (.cells cs' e fr)∧(pl x).2≤cs'.size∧∀ i v,(C x)[i]? =some v→∃ w,cs'[(pl x).2+i]? =some w∧VRel (mA P ((List.range N).map pl)) v w:=by
  intro x
  by_cases hx:x < N∧C x≠[]
  ·obtain ⟨cs',e,fr,h1⟩:=h x hx.1 hx.2
   exact ⟨e,fun _ _=>⟨cs',fr,h1⟩⟩
  ·exact ⟨0,fun h1 h2=>absurd ⟨h1,h2⟩ hx⟩
 obtain ⟨E,hE⟩:=Classical.axiomOfChoice h'
 let L:List Arg:=(List.range N).map fun x=>(pl x,if C x=[] then none else some (C x,E x))
 have hm:L.map (·.1)=(List.range N).map pl:=by simp [L,Function.comp_def]
 have hg:∀ x,x < N→L[x]? =some (pl x,if C x=[] then none else some (C x,E x)):=fun x hx=>by
  show ((List.range N).map _)[x]? =_
  rw [List.getElem?_map,List.getElem?_range hx];rfl
 refine ⟨L,by simp [L],hm,fun j p cs e hj=>?_,fun x hx hc=>⟨pl x,E x,?_⟩⟩
 ·have hjN:j < N:=by
   have:=(List.getElem?_eq_some_iff.1 hj).1
   simpa [L] using this
  rw [hg j hjN] at hj
  obtain ⟨h1,h2⟩:=Prod.mk.inj (Option.some.inj hj)
  by_cases h0:C j=[]
  ·rw [if_pos h0] at h2;cases h2
  ·rw [if_neg h0] at h2
   obtain ⟨h3,h4⟩:=Prod.mk.inj (Option.some.inj h2)
   obtain ⟨cs',fr,g1,g2,g3⟩:=hE j hjN h0
   subst h1 h3 h4
   refine ⟨cs',fr,g1,g2,?_⟩
   unfold mR
   rw [hm]
   exact g3
 ·rw [hg x hx,if_neg hc]
def layL {β:Type} (M:Nat) (g:Nat→β→β) (l:List β):List β:=(l.take M).mapIdx g
theorem lay_length {β:Type} (M:Nat) (g:Nat→β→β) (l:List β):(layL M g l).length=min l.length M:=by
 unfold layL
 rw [List.length_mapIdx,List.length_take,Nat.min_comm]
theorem lay_get {β:Type} {M:Nat} {g:Nat→β→β} {l:List β} {i:Nat} {x:β} (h:(layL M g l)[i]? =some x):∃ y,l[i]? =some y∧x=g i y∧i < M:=by
 unfold layL at h
 rw [List.getElem?_mapIdx] at h
 cases hq:(l.take M)[i]? with
 | none=>rw [hq] at h;cases h
 | some y=>
  rw [hq] at h
  have hi:=(List.getElem?_eq_some_iff.1 hq).1
  rw [List.length_take] at hi
  rw [List.getElem?_take_of_lt (by omega)] at hq
  exact ⟨y,hq,by simpa using h.symm,by omega⟩
theorem lay_mem {β:Type} {M:Nat} {g:Nat→β→β} {l:List β} {x:β} (h:x∈layL M g l):∃ i y,l[i]? =some y∧x=g i y∧i < M:=by
 obtain ⟨i,hi⟩:=List.mem_iff_getElem?.1 h
 obtain ⟨y,h⟩:=lay_get hi
 exact ⟨i,y,h⟩
theorem flat_relG {P:Program} {β:Type} {n:Nat} {f:β→List Value} (hlen:∀ x,(f x).length=n+1) {m:Inj P}:∀ {l' l:List β},(∀ (i:Nat) p',l'[i]? =some p'→∃ p,l[i]? =some p∧∀ (k:Nat) (v:Value),(f p')[k]? =some v→∃ v',(f p)[k]? =some v'∧VRel m v v')→∀ (i:Nat) v,(flat f l')[i]? =some v→∃ v',(flat f l)[i]? =some v'∧VRel m v v'
 | [],l,_,i,v,hv=>by simp [flat] at hv
 | p'::r',[],h,i,v,hv=>by
  obtain ⟨p,hp,_⟩:=h 0 p' rfl
  cases hp
 | p'::r',p::r,h,i,v,hv=>by
  have e1:flat f (p'::r')=f p'++flat f r':=by simp [flat]
  have e2:flat f (p::r)=f p++flat f r:=by simp [flat]
  rw [e1] at hv
  rw [e2]
  by_cases hi:i < n+1
  ·rw [List.getElem?_append_left (by rw [hlen];exact hi)] at hv
   rw [List.getElem?_append_left (by rw [hlen];exact hi)]
   obtain ⟨q,hq,h2⟩:=h 0 p' rfl
   obtain rfl:p=q:=by simpa using hq
   exact h2 i v hv
  ·rw [List.getElem?_append_right (by rw [hlen];omega),hlen] at hv
   rw [List.getElem?_append_right (by rw [hlen];omega),hlen]
   exact flat_relG hlen (fun j a ha=>by
    obtain ⟨q,hq,h2⟩:=h (j+1) a (by simpa using ha)
    exact ⟨q,by simpa using hq,h2⟩) (i - (n+1)) v hv
end Go.Abs
namespace Go.Proofs.YtdpdajpiadohjaaGreatDoor
open Go Go.Abs Go.ChangeShapes Go.WideShapes Go.ChangeAt Go.RowKit Go.Joins Go.Deep
theorem Tryz.cells4:Tryz.prog.cellsOf 4=1:=by kernel_rfl
theorem Tryz.cells32:Tryz.prog.cellsOf 32=1:=by kernel_rfl
theorem Tryz.cells33:Tryz.prog.cellsOf 33=1:=by kernel_rfl
theorem Tryz.cells34:Tryz.prog.cellsOf 34=1:=by kernel_rfl
theorem Tryz.cells35:Tryz.prog.cellsOf 35=1:=by kernel_rfl
theorem Tryz.cells37:Tryz.prog.cellsOf 37=4:=by kernel_rfl
theorem Tryz.cells73:Tryz.prog.cellsOf 73=1:=by kernel_rfl
theorem Tryz.cells75:Tryz.prog.cellsOf 75=3:=by kernel_rfl
theorem Tryz.cells76:Tryz.prog.cellsOf 76=1:=by kernel_rfl
theorem Tryz.cells77:Tryz.prog.cellsOf 77=1:=by kernel_rfl
theorem Tryz.cells78:Tryz.prog.cellsOf 78=1:=by kernel_rfl
theorem Tryz.cells80:Tryz.prog.cellsOf 80=5:=by kernel_rfl
theorem Tryz.cells82:Tryz.prog.cellsOf 82=9:=by kernel_rfl
theorem Tryz.cells84:Tryz.prog.cellsOf 84=11:=by kernel_rfl
theorem Tryz.cells86:Tryz.prog.cellsOf 86=1:=by kernel_rfl
theorem Tryz.cells87:Tryz.prog.cellsOf 87=1:=by kernel_rfl
theorem Tryz.cells89:Tryz.prog.cellsOf 89=5:=by kernel_rfl
theorem Tryz.cells102:Tryz.prog.cellsOf 102=4:=by kernel_rfl
theorem Tryz.cells120:Tryz.prog.cellsOf 120=2:=by kernel_rfl
theorem Tryz.cells134:Tryz.prog.cellsOf 134=12:=by kernel_rfl
theorem sl_of {W:World} {β:Type} {f:β→List Value} {s:Value} {l:List β} {La:Arg} (h:InSlice W f s l La):∃ p:SL,s=p.val:=by
 cases h with
 | nil _ _ h0=>obtain ⟨o,c,rfl⟩:=h0;exact ⟨⟨o,0,c⟩,rfl⟩
 | blk a c cs e' fr hs=>exact ⟨⟨_,_,_⟩,hs⟩
theorem sl_is {s:Value} (h:IsSlice s):∃ p:SL,s=p.val:=by
 rcases h with rfl | ⟨a,n,c,rfl,_⟩
 ·exact ⟨⟨none,0,0⟩,rfl⟩
 ·exact ⟨⟨_,_,_⟩,rfl⟩
def OkV (W:World) (v:VV):Prop:=∃ k t,TreeAt W k v t
def OkQ (W:World) (q:QV):Prop:=∃ l La,InSlice W fM q.ms.val l La∧∀ m∈l,OkV W m.app
def OkB (W:World) (b:BV):Prop:=slen b.x.g < 9223372036854775808∧(∃ l La,InSlice W fU b.ps.val l La∧∀ u∈l,OkV W u.m.app)∧∃ l La,InSlice W fF b.ts.val l La
def OkS (W:World) (s:SV):Prop:=(∃ l La,InSlice W fQ s.qs.val l La∧∀ q∈l,OkQ W q)∧(∃ l La,InSlice W fB s.bs.val l La∧∀ b∈l,OkB W b)∧IsSlice s.hs.val
section
variable {H:Type} {enc:TypeId × Value→H} {w:World} {q:Nat}
theorem read_bool {c0:Value} {y:DataW H × List MemPlace} (h:DataW.trod enc Tryz.prog w 0 (fun _=>true) true q 4 [c0]=some y):∃ b,c0=.bool b:=by
 obtain ⟨b,e1,_⟩:=DataW.trod_bool Tryz.underlying4 h
 cases e1
 exact ⟨b,rfl⟩
theorem tree_of {W:World} {m:Nat} {v:VV} {keys:List ByteArray} {Ka:Arg} {l:List VV} {La:Arg} (hk:InSlice W fT v.keys keys Ka) (hl:InSlice W fV v.list l La) (h:∀ b∈l,∃ t,TreeAt W m b t):∃ t,TreeAt W (m+1) v t:=by
 let t:List (Tr m):=l.attach.map fun b=>Classical.choose (h b.1 b.2)
 refine ⟨t,⟨keys,Ka,hk⟩,l,La,hl,?_,fun i x y h1 h2=>?_⟩
 ·show l.length=t.length
  simp [t]
 ·have h2:t[i]? =some y:=h2
  have hm:=List.mem_of_getElem? h1
  have e:t[i]? =some (Classical.choose (h x hm)):=by
   show (l.attach.map _)[i]? =_
   rw [List.getElem?_map]
   have hi:=(List.getElem?_eq_some_iff.1 h1).1
   have:l.attach[i]? =some ⟨x,hm⟩:=by
    rw [List.getElem?_eq_getElem (by simpa using hi)]
    congr 1
    apply Subtype.ext
    simp only [List.getElem_attach]
    exact (List.getElem?_eq_some_iff.1 h1).2
   rw [this];rfl
  rw [e] at h2
  obtain rfl:=Option.some.inj h2
  exact Classical.choose_spec (h x hm)
theorem read_valM:∀ (m:Nat) {q:Nat} {cs:List Value} {y:DataW H × List MemPlace},q≤2 * m→DataW.trod enc Tryz.prog w 0 (fun _=>true) true q 80 cs=some y→∃ v:VV,cs=fV v∧∃ t,TreeAt w m v t
 | 0,q,cs,y,hq,h=>by
  obtain ⟨xs,n,hn,_⟩:=DataW.trod_struct Tryz.underlying80 h
  omega
 | m+1,q,cs,y,hq,h=>by
  obtain ⟨xs,n,hn,_,hl,hlen,hg⟩:=DataW.trod_struct Tryz.underlying80 h
  have hl:cs.length=5:=hl.trans Tryz.cells80
  match cs,hl,xs,hlen with
  | [c0,c1,c2,c3,c4],_,[y0,y1,y2,y3,y4],_=>
   have g0:DataW.trod enc Tryz.prog w 0 (fun _=>true) true n 76 [c0]=some y0:=by simpa [Tryz.cells76] using hg 0 _ rfl
   have g1:DataW.trod enc Tryz.prog w 0 (fun _=>true) true n 32 [c1]=some y1:=by simpa [Tryz.cells32] using hg 1 _ rfl
   have g2:DataW.trod enc Tryz.prog w 0 (fun _=>true) true n 9 [c2]=some y2:=by simpa [Tryz.cells9] using hg 2 _ rfl
   have g3:DataW.trod enc Tryz.prog w 0 (fun _=>true) true n 77 [c3]=some y3:=by simpa [Tryz.cells77] using hg 3 _ rfl
   have g4:DataW.trod enc Tryz.prog w 0 (fun _=>true) true n 78 [c4]=some y4:=by simpa [Tryz.cells78] using hg 4 _ rfl
   obtain ⟨k0,rfl,_⟩:=read_num Tryz.underlying76 rfl g0
   obtain ⟨n0,rfl,_⟩:=read_num Tryz.underlying32 rfl g1
   obtain ⟨s0,rfl,_⟩:=read_txt g2
   obtain ⟨s3,keys,Ka,e3,hk,_⟩:=read_flat (f:=fT) (ok:=fun _=>True) .empty Tryz.underlying77 (by rw [Tryz.cells9];decide) (fun f=>by rw [Tryz.cells9];rfl) (fun q cs y hy=>by
    obtain ⟨g,rfl,_⟩:=DataW.trod_string Tryz.underlying9 hy
    exact ⟨g,rfl,trivial⟩) g3
   obtain ⟨s4,l,La,e4,hll,hw⟩:=read_flatB (f:=fV) (ok:=fun v=>∃ t,TreeAt w m v t) ⟨0,0,.empty,none,0,0,none,0,0⟩ Tryz.underlying78 (by rw [Tryz.cells80];decide) (fun f=>by rw [Tryz.cells80];rfl) (fun q' hq' cs y hy=>read_valM m (by omega) hy) g4
   obtain rfl:c3=s3:=by simpa using e3
   obtain rfl:c4=s4:=by simpa using e4
   obtain ⟨p3,rfl⟩:=sl_of hk
   obtain ⟨p4,rfl⟩:=sl_of hll
   exact ⟨⟨k0,n0,s0,p3.o,p3.len,p3.cap,p4.o,p4.len,p4.cap⟩,rfl,tree_of hk hll hw⟩
theorem read_val {cs:List Value} {y:DataW H × List MemPlace} (h:DataW.trod enc Tryz.prog w 0 (fun _=>true) true q 80 cs=some y):∃ v:VV,cs=fV v∧OkV w v:=by
 obtain ⟨v,rfl,t,ht⟩:=read_valM q (by omega) h
 exact ⟨v,rfl,q,t,ht⟩
theorem read_props {cs:List Value} {y:DataW H × List MemPlace} (h:DataW.trod enc Tryz.prog w 0 (fun _=>true) true q 82 cs=some y):∃ (key:ByteArray) (dur red:Bool) (pid:ByteArray) (app:VV),cs=[.string key,.bool dur,.bool red,.string pid]++fV app∧OkV w app:=by
 obtain ⟨xs,n,_,_,hl,hlen,hg⟩:=DataW.trod_struct Tryz.underlying82 h
 have hl:cs.length=9:=hl.trans Tryz.cells82
 match cs,hl,xs,hlen with
 | [c0,c1,c2,c3,c4,c5,c6,c7,c8],_,[y0,y1,y2,y3,y4],_=>
  have g0:DataW.trod enc Tryz.prog w 0 (fun _=>true) true n 9 [c0]=some y0:=by simpa [Tryz.cells9] using hg 0 _ rfl
  have g1:DataW.trod enc Tryz.prog w 0 (fun _=>true) true n 4 [c1]=some y1:=by simpa [Tryz.cells4] using hg 1 _ rfl
  have g2:DataW.trod enc Tryz.prog w 0 (fun _=>true) true n 4 [c2]=some y2:=by simpa [Tryz.cells4] using hg 2 _ rfl
  have g3:DataW.trod enc Tryz.prog w 0 (fun _=>true) true n 9 [c3]=some y3:=by simpa [Tryz.cells9] using hg 3 _ rfl
  have g4:DataW.trod enc Tryz.prog w 0 (fun _=>true) true n 80 [c4,c5,c6,c7,c8]=some y4:=by simpa [Tryz.cells80] using hg 4 _ rfl
  obtain ⟨key,rfl,_⟩:=read_txt g0
  obtain ⟨dur,rfl⟩:=read_bool g1
  obtain ⟨red,rfl⟩:=read_bool g2
  obtain ⟨pid,rfl,_⟩:=read_txt g3
  obtain ⟨app,ha,hok⟩:=read_val g4
  exact ⟨key,dur,red,pid,app,by rw [← ha];rfl,hok⟩
theorem read_msg {cs:List Value} {y:DataW H × List MemPlace} (h:DataW.trod enc Tryz.prog w 0 (fun _=>true) true q 84 cs=some y):∃ m:MV,cs=fM m∧OkV w m.app:=by
 obtain ⟨xs,n,_,_,hl,hlen,hg⟩:=DataW.trod_struct Tryz.underlying84 h
 have hl:cs.length=11:=hl.trans Tryz.cells84
 match cs,hl,xs,hlen with
 | [c0,c1,c2,c3,c4,c5,c6,c7,c8,c9,c10],_,[y0,y1,y2],_=>
  have g0:DataW.trod enc Tryz.prog w 0 (fun _=>true) true n 32 [c0]=some y0:=by simpa [Tryz.cells32] using hg 0 _ rfl
  have g1:DataW.trod enc Tryz.prog w 0 (fun _=>true) true n 82 [c1,c2,c3,c4,c5,c6,c7,c8,c9]=some y1:=by simpa [Tryz.cells82] using hg 1 _ rfl
  have g2:DataW.trod enc Tryz.prog w 0 (fun _=>true) true n 9 [c10]=some y2:=by simpa [Tryz.cells9] using hg 2 _ rfl
  obtain ⟨id,rfl,_⟩:=read_num Tryz.underlying32 rfl g0
  obtain ⟨key,dur,red,pid,app,ha,hok⟩:=read_props g1
  obtain ⟨body,rfl,_⟩:=read_txt g2
  refine ⟨⟨id,key,dur,red,pid,app,body⟩,?_,hok⟩
  show _=.int .u64 (id:Int)::((([.string key,.bool dur,.bool red,.string pid]++fV app:List Value))++[.string body])
  rw [← ha]
  rfl
theorem read_put {cs:List Value} {y:DataW H × List MemPlace} (h:DataW.trod enc Tryz.prog w 0 (fun _=>true) true q 134 cs=some y):∃ u:UV,cs=fU u∧OkV w u.m.app:=by
 obtain ⟨xs,n,_,_,hl,hlen,hg⟩:=DataW.trod_struct Tryz.underlying134 h
 have hl:cs.length=12:=hl.trans Tryz.cells134
 match cs,hl,xs,hlen with
 | [cq,c0,c1,c2,c3,c4,c5,c6,c7,c8,c9,c10],_,[yq,y0,y1,y2],_=>
  have gq:DataW.trod enc Tryz.prog w 0 (fun _=>true) true n 9 [cq]=some yq:=by simpa [Tryz.cells9] using hg 0 _ rfl
  have g0:DataW.trod enc Tryz.prog w 0 (fun _=>true) true n 32 [c0]=some y0:=by simpa [Tryz.cells32] using hg 1 _ rfl
  have g1:DataW.trod enc Tryz.prog w 0 (fun _=>true) true n 82 [c1,c2,c3,c4,c5,c6,c7,c8,c9]=some y1:=by simpa [Tryz.cells82] using hg 2 _ rfl
  have g2:DataW.trod enc Tryz.prog w 0 (fun _=>true) true n 9 [c10]=some y2:=by simpa [Tryz.cells9] using hg 3 _ rfl
  obtain ⟨queue,rfl,_⟩:=read_txt gq
  obtain ⟨id,rfl,_⟩:=read_num Tryz.underlying32 rfl g0
  obtain ⟨key,dur,red,pid,app,ha,hok⟩:=read_props g1
  obtain ⟨body,rfl,_⟩:=read_txt g2
  refine ⟨⟨queue,⟨id,key,dur,red,pid,app,body⟩⟩,?_,hok⟩
  show _=.string queue:: .int .u64 (id:Int)::((([.string key,.bool dur,.bool red,.string pid]++fV app:List Value))++[.string body])
  rw [← ha]
  rfl
theorem read_ref {cs:List Value} {y:DataW H × List MemPlace} (h:DataW.trod enc Tryz.prog w 0 (fun _=>true) true q 120 cs=some y):∃ u:FV,cs=fF u:=by
 obtain ⟨xs,n,_,_,hl,hlen,hg⟩:=DataW.trod_struct Tryz.underlying120 h
 have hl:cs.length=2:=hl.trans Tryz.cells120
 match cs,hl,xs,hlen with
 | [cq,c0],_,[yq,y0],_=>
  have gq:DataW.trod enc Tryz.prog w 0 (fun _=>true) true n 9 [cq]=some yq:=by simpa [Tryz.cells9] using hg 0 _ rfl
  have g0:DataW.trod enc Tryz.prog w 0 (fun _=>true) true n 32 [c0]=some y0:=by simpa [Tryz.cells32] using hg 1 _ rfl
  obtain ⟨queue,rfl,_⟩:=read_txt gq
  obtain ⟨id,rfl,_⟩:=read_num Tryz.underlying32 rfl g0
  exact ⟨⟨queue,id⟩,rfl⟩
theorem read_queue {cs:List Value} {y:DataW H × List MemPlace} (h:DataW.trod enc Tryz.prog w 0 (fun _=>true) true q 75 cs=some y):∃ u:QV,cs=fQ u∧OkQ w u:=by
 obtain ⟨xs,n,_,_,hl,hlen,hg⟩:=DataW.trod_struct Tryz.underlying75 h
 have hl:cs.length=3:=hl.trans Tryz.cells75
 match cs,hl,xs,hlen with
 | [c0,c1,c2],_,[y0,y1,y2],_=>
  have g0:DataW.trod enc Tryz.prog w 0 (fun _=>true) true n 9 [c0]=some y0:=by simpa [Tryz.cells9] using hg 0 _ rfl
  have g1:DataW.trod enc Tryz.prog w 0 (fun _=>true) true n 32 [c1]=some y1:=by simpa [Tryz.cells32] using hg 1 _ rfl
  have g2:DataW.trod enc Tryz.prog w 0 (fun _=>true) true n 73 [c2]=some y2:=by simpa [Tryz.cells73] using hg 2 _ rfl
  obtain ⟨name,rfl,_⟩:=read_txt g0
  obtain ⟨lim,rfl,_⟩:=read_num Tryz.underlying32 rfl g1
  obtain ⟨s4,l,La,e4,hll,hw⟩:=read_flat (f:=fM) (ok:=fun m=>OkV w m.app) ⟨0,.empty,false,false,.empty,⟨0,0,.empty,none,0,0,none,0,0⟩,.empty⟩ Tryz.underlying73 (by rw [Tryz.cells84];decide) (fun f=>by rw [Tryz.cells84];rfl) (fun q' cs y hy=>read_msg hy) g2
  obtain rfl:c2=s4:=by simpa using e4
  obtain ⟨p,rfl⟩:=sl_of hll
  exact ⟨⟨name,lim,p⟩,rfl,l,La,hll,hw⟩
theorem read_branch {cs:List Value} {y:DataW H × List MemPlace} (h:DataW.trod enc Tryz.prog w 0 (fun _=>true) true q 89 cs=some y):∃ u:BV,cs=fB u∧OkB w u:=by
 obtain ⟨xs,n,_,_,hl,hlen,hg⟩:=DataW.trod_struct Tryz.underlying89 h
 have hl:cs.length=5:=hl.trans Tryz.cells89
 match cs,hl,xs,hlen with
 | [c0,c1,c2,c3,c4],_,[y0,y1,y2],_=>
  have g0:DataW.trod enc Tryz.prog w 0 (fun _=>true) true n 46 [c0,c1,c2]=some y0:=by simpa [Tryz.cells46] using hg 0 _ rfl
  have g1:DataW.trod enc Tryz.prog w 0 (fun _=>true) true n 86 [c3]=some y1:=by simpa [Tryz.cells86] using hg 1 _ rfl
  have g2:DataW.trod enc Tryz.prog w 0 (fun _=>true) true n 87 [c4]=some y2:=by simpa [Tryz.cells87] using hg 2 _ rfl
  obtain ⟨f,g,b,rfl,rfl,rfl,w1,w2⟩:=read_xid g0
  obtain ⟨s4,l,La,e4,hll,hw⟩:=read_flat (f:=fU) (ok:=fun m=>OkV w m.m.app) ⟨.empty,0,.empty,false,false,.empty,⟨0,0,.empty,none,0,0,none,0,0⟩,.empty⟩ Tryz.underlying86 (by rw [Tryz.cells134];decide) (fun f=>by rw [Tryz.cells134];rfl) (fun q' cs y hy=>read_put hy) g1
  obtain ⟨s5,l2,La2,e5,hll2,_⟩:=read_flat (f:=fF) (ok:=fun _=>True) ⟨.empty,0⟩ Tryz.underlying87 (by rw [Tryz.cells120];decide) (fun f=>by rw [Tryz.cells120];rfl) (fun q' cs y hy=>by
   obtain ⟨u,hu⟩:=read_ref hy
   exact ⟨u,hu,trivial⟩) g2
  obtain rfl:c3=s4:=by simpa using e4
  obtain rfl:c4=s5:=by simpa using e5
  obtain ⟨p,rfl⟩:=sl_of hll
  obtain ⟨p2,rfl⟩:=sl_of hll2
  exact ⟨⟨⟨f,g,b⟩,p,p2⟩,rfl,w1,⟨l,La,hll,hw⟩,l2,La2,hll2⟩
theorem read_store {cs:List Value} {y:DataW H × List MemPlace} (h:DataW.trod enc Tryz.prog w 0 (fun _=>true) true q 37 cs=some y):∃ u:SV,cs=fS u∧OkS w u:=by
 obtain ⟨xs,n,_,_,hl,hlen,hg⟩:=DataW.trod_struct Tryz.underlying37 h
 have hl:cs.length=4:=hl.trans Tryz.cells37
 match cs,hl,xs,hlen with
 | [c0,c1,c2,c3],_,[y0,y1,y2,y3],_=>
  have g0:DataW.trod enc Tryz.prog w 0 (fun _=>true) true n 32 [c0]=some y0:=by simpa [Tryz.cells32] using hg 0 _ rfl
  have g1:DataW.trod enc Tryz.prog w 0 (fun _=>true) true n 33 [c1]=some y1:=by simpa [Tryz.cells33] using hg 1 _ rfl
  have g2:DataW.trod enc Tryz.prog w 0 (fun _=>true) true n 34 [c2]=some y2:=by simpa [Tryz.cells34] using hg 2 _ rfl
  have g3:DataW.trod enc Tryz.prog w 0 (fun _=>true) true n 35 [c3]=some y3:=by simpa [Tryz.cells35] using hg 3 _ rfl
  obtain ⟨next,rfl,_⟩:=read_num Tryz.underlying32 rfl g0
  obtain ⟨s4,l,La,e4,hll,hw⟩:=read_flat (f:=fQ) (ok:=OkQ w) ⟨.empty,0,none,0,0⟩ Tryz.underlying33 (by rw [Tryz.cells75];decide) (fun f=>by rw [Tryz.cells75];rfl) (fun q' cs y hy=>read_queue hy) g1
  obtain ⟨s5,l2,La2,e5,hll2,hw2⟩:=read_flat (f:=fB) (ok:=OkB w) ⟨⟨0,.empty,.empty⟩,⟨none,0,0⟩,none,0,0⟩ Tryz.underlying34 (by rw [Tryz.cells89];decide) (fun f=>by rw [Tryz.cells89];rfl) (fun q' cs y hy=>read_branch hy) g2
  obtain ⟨s6,e6,hs6⟩:=read_slice Tryz.underlying35 (by rw [Tryz.cells102];decide) g3
  obtain rfl:c1=s4:=by simpa using e4
  obtain rfl:c2=s5:=by simpa using e5
  obtain rfl:c3=s6:=by simpa using e6
  obtain ⟨p,rfl⟩:=sl_of hll
  obtain ⟨p2,rfl⟩:=sl_of hll2
  obtain ⟨p3,rfl⟩:=sl_is hs6
  exact ⟨⟨next,p,p2,p3⟩,rfl,⟨l,La,hll,hw⟩,⟨l2,La2,hll2,hw2⟩,hs6⟩
theorem read_stores {b0:Nat} {v:Value} {d:DataW H} {p:List MemPlace} (hv:Value.okWide Tryz.prog w .any b0 51 v) (h:DataW.Trod enc Tryz.prog w 0 (fun _=>true) true 51 v d p):
  ∃ (x:SL) (l:List SV) (La:Arg),v=x.val∧InSlice w fS x.val l La∧∀ s∈l,OkS w s:=by
 obtain ⟨fuel,hf⟩:=h
 obtain ⟨s,l,La,hc,hs,hw⟩:=read_flat (f:=fS) (ok:=OkS w) ⟨0,⟨none,0,0⟩,⟨none,0,0⟩,none,0,0⟩ Tryz.underlying51 (by rw [Tryz.cells37];decide) (fun f=>by rw [Tryz.cells37];rfl) (fun q cs y hy=>read_store hy) hf
 have hv0:v=s:=by
  obtain ⟨a,n,c,rfl⟩:=okWide_slice Tryz.underlying51 hv
  simpa [Value.cells] using hc
 subst hv0
 obtain ⟨x,rfl⟩:=sl_of hs
 exact ⟨x,l,La,rfl,hs,hw⟩
end
end Go.Proofs.YtdpdajpiadohjaaGreatDoor
namespace Go.Proofs.YtdpdajpiadohjaaGreatDoor
open Go.Abs
def fE (b:BV):List Value:=[.int .u8 4,.string ⟨⟨[]⟩⟩,.int .u64 0,.int .u32 (b.x.f:Int),.string b.x.g,.string b.x.b,b.ps.val,b.ts.val]
theorem zero92:zeroT Tryz.prog 92=some (.agg ⟨[.int .u8 0,.string ⟨⟨[]⟩⟩,.int .u64 0,.int .u32 0,.string ⟨⟨[]⟩⟩,.string ⟨⟨[]⟩⟩,.slice none 0 0,.slice none 0 0]⟩):=by kernel_rfl
theorem ba92 (f:Int) (g b:ByteArray) (o:Option Addr) (n c:Nat) (o2:Option Addr) (n2 c2:Nat):buildA Tryz.prog 92 [(0,.int .u8 4),(3,.agg ⟨[.int .u32 f,.string g,.string b]⟩),(4,.slice o n c),(5,.slice o2 n2 c2)]=some (.agg ⟨[.int .u8 4,.string ⟨⟨[]⟩⟩,.int .u64 0,.int .u32 f,.string g,.string b,.slice o n c,.slice o2 n2 c2]⟩):=by kernel_rfl
theorem ld_46' (A:AW) (a:Addr):loadP Tryz.prog A 46 (.pointer (some a))=(match A.cells? a 3 with | some l=>some (.agg ⟨l⟩) | none=>none):=by kernel_rfl
section
variable {W0:World} {m0:Inj Tryz.prog}
theorem wc36 {A:AW} {b:BV} {K:Value→AW→Prop} (hf:Fine A) (hA:A.next+5 < maxId) (hk:∀ A',Grow A A' 2→K (.agg ⟨fE b⟩) A'):Wc Tryz.prog theX W0 m0 36 [.agg ⟨fB b⟩] A K:=by
 refine w36 _ _ (cuts_none (S:=fun _ _ _=>False) fun _ _ _ h=>h) ?_
 rw [e36]
 refine newP_made (cs:=fB b) hf (by omega) rfl fun A1 m1=>?_
 have n1:=m1.next
 refine allocP_made zero92 m1.fine (by omega) rfl fun A2 m2=>?_
 have n2:=m2.next
 have k2:=m2.keeps m1.fine
 have hr:Go.Abs.Row1 A2 A.next [.int .u32 (b.x.f:Int),.string b.x.g,.string b.x.b,.slice b.ps.o b.ps.len b.ps.cap,.slice b.ts.o b.ts.len b.ts.cap] 89:=m1.row1.keeps k2 (by simp)
 have hc:A2.cells? ⟨A.next,0,none⟩ 3=some [.int .u32 (b.x.f:Int),.string b.x.g,.string b.x.b]:=by rw [cells_row hr.row];rfl
 simp only [fa_89_0,fa_89_1,fa_89_2,ld_46',ld_86,ld_87,hc,cell_row hr.row,cellOf,isT_slice,isT_string,isT_int,cond_false,pureW_some,ba92,Nat.zero_add]
 refine m2.row1.store m2.fine (by omega) (st_92 _ _ _) rfl (by show 0+8≤8;omega) rfl fun A3 r3 k3 n3 f3=>?_
 have r3:Go.Abs.Row1 A3 A1.next (fE b) 92:=r3
 have hc3:A3.cells? ⟨A1.next,0,none⟩ 8=some (fE b):=by rw [cells_row r3.row];rfl
 simp only [ld_92,hc3,pureW_some]
 exact hk A3 (((Grow.made m1 hf).trans (.made m2 m1.fine)).own k3 (by simp;omega) (m:=0) (by omega) f3)
theorem wc35 {A:AW} {b:BV} {us:List UV} {fs:List FV} {F F':List Nat} {K:Value→AW→Prop} (hu:RdT 11 fU A b.ps.val us.length us F) (hul:us.length≤20) (hv:∀ x∈us,VK W0 m0 x.m.app) (hfl:RdT 1 fF A b.ts.val fs.length fs F') (hfs:fs.length≤20) (hf:Fine A) (hA:A.next+80 < maxId)
  (hk:∀ r A',Grow A A' 21→K (.bool r) A'):Wc Tryz.prog theX W0 m0 35 [.agg ⟨fE b⟩] A K:=by
 let I:Nat→Nat→List Value→AW→Prop:=fun g id vals A'=>id=0∧∃ (i:Nat),vals=[.pointer (some ⟨A.next,0,none⟩),.int .i64 (i:Int)]∧i≤fs.length∧g=fs.length - i∧Go.Abs.Row1 A' A.next (fE b) 92∧Grow A A' 21
 refine w35 _ _ (c35 (I:=I) fun g id vals A' d hI hd=>?_) ?_
 ·obtain ⟨rfl,i,rfl,hi,rfl,hr,hgr⟩:=hI
  have hr:Go.Abs.Row1 A' A.next [.int .u8 4,.string ⟨⟨[]⟩⟩,.int .u64 0,.int .u32 (b.x.f:Int),.string b.x.g,.string b.x.b,.slice b.ps.o b.ps.len b.ps.cap,.slice b.ts.o b.ts.len b.ts.cap] 92:=hr
  have hfl':=hfl.keeps hgr.keeps (by simp)
  have hll:=rdT_ll hfl
  rw [l35_0]
  simp only [L35,List.map_cons,List.map_nil,List.cons.injEq,and_true] at hd
  obtain ⟨d1,d3⟩:=hd
  simp only [d1,d3,fa_92_5,ld_87,cell_row hr.row,cellOf,isT_slice,isT_string,isT_int,cond_false,pureW_some,ln_87,hll,bin_lss,forkW_dec,Nat.zero_add]
  refine ⟨fun hlt=>?_,fun hge=>hk _ _ hgr⟩
  have hlt:i < fs.length:=by omega
  obtain ⟨x,hx⟩:∃ x,fs[i]? =some x:=⟨_,List.getElem?_eq_getElem hlt⟩
  obtain ⟨r,o,a1,a2,a3⟩:=hfl'.at etF hx
  have a1:indexAddrA Tryz.prog 87 (.slice b.ts.o fs.length b.ts.cap) (.int .i64 (i:Int))=some (.pointer (some ⟨r,o,none⟩)):=by rw [← hll];exact a1
  have hq:A'.cell? ⟨r,o,none⟩=some (.string x.queue):=cell_of a2 (k:=0) rfl
  simp only [a1,pureW_some,fa_120_0,ld_9,hq,ln_9,bin_gtr,forkW_dec]
  refine ⟨fun _=>hk _ _ hgr,fun _=>?_⟩
  simp only [bin_add,pureW_some]
  rw [wrap_i64 (by omega) (by omega)]
  exact cutW_self.2 ⟨fs.length - (i+1),by omega,rfl,i+1,rfl,by omega,rfl,hr,hgr⟩
 ·rw [e35]
  refine newP_made (cs:=fE b) hf (by omega) rfl fun A1 m1=>?_
  have n1:=m1.next
  have k1:=m1.keeps hf
  have g1:=Grow.made m1 hf
  have hll:=rdT_ll hfl
  have hr:Go.Abs.Row1 A1 A.next [.int .u8 4,.string ⟨⟨[]⟩⟩,.int .u64 0,.int .u32 (b.x.f:Int),.string b.x.g,.string b.x.b,.slice b.ps.o b.ps.len b.ps.cap,.slice b.ts.o b.ts.len b.ts.cap] 92:=m1.row1
  simp only [fa_92_5,fa_92_1,fa_92_4,ld_87,ld_86,ld_9,cell_row hr.row,cellOf,isT_slice,isT_string,isT_int,cond_false,pureW_some,ln_87,ln_9,hll,bin_gtr,forkW_dec,Nat.zero_add]
  refine ⟨fun _=>hk _ _ (g1.more (by omega)),fun _=>⟨fun _=>hk _ _ (g1.more (by omega)),fun _=>?_⟩⟩
  refine wc61 (hu.keeps k1 (by simp)) hul hv m1.fine (by omega) fun r A2 g2=>?_
  have g12:=(g1.trans g2).more (n:=1+20) (m:=21) (by omega)
  simp only [un_not,pureW_some]
  refine forkW_bool.2 ⟨fun _=>hk _ _ g12,fun _=>?_⟩
  exact cutW_self.2 ⟨fs.length - 0,rfl,0,rfl,by omega,rfl,m1.row1.keeps g2.keeps (by simp),g12⟩
end
structure SR (W0:World) (m0:Inj Tryz.prog) (A:AW) (s:SV) (qs:List QV) (ms:Nat→List MV) (bs:List BV) (us:Nat→List UV) (fs:Nat→List FV):Prop where
 q:∃ F,RdT 2 fQ A s.qs.val s.qs.len qs F
 ql:qs.length=min s.qs.len 12
 m:∀ (k:Nat) q,qs[k]? =some q→∃ F,RdT 10 fM A q.ms.val q.ms.len (ms k) F
 ml:∀ (k:Nat) q,qs[k]? =some q→(ms k).length=min q.ms.len 40
 mv:∀ k,∀ x∈ms k,VK W0 m0 x.app
 b:∃ F,RdT 4 fB A s.bs.val s.bs.len bs F
 bl:bs.length=min s.bs.len 12
 u:∀ (k:Nat) b,bs[k]? =some b→∃ F,RdT 11 fU A b.ps.val b.ps.len (us k) F
 ul:∀ (k:Nat) b,bs[k]? =some b→(us k).length=min b.ps.len 20
 uv:∀ k,∀ x∈us k,VK W0 m0 x.m.app
 f:∀ (k:Nat) b,bs[k]? =some b→∃ F,RdT 1 fF A b.ts.val b.ts.len (fs k) F
 fl:∀ (k:Nat) b,bs[k]? =some b→(fs k).length=min b.ts.len 20
theorem SR.keeps {W0:World} {m0:Inj Tryz.prog} {A A':AW} {s:SV} {qs:List QV} {ms:Nat→List MV} {bs:List BV} {us:Nat→List UV} {fs:Nat→List FV} (h:SR W0 m0 A s qs ms bs us fs) (k:Keeps A A' []):SR W0 m0 A' s qs ms bs us fs:=by
 obtain ⟨⟨F,hq⟩,h1,h2,h3,h4,⟨F2,h5⟩,h6,h7,h8,h9,h10,h11⟩:=h
 exact ⟨⟨F,hq.keeps k (by simp)⟩,h1,fun i x hx=>(h2 i x hx).elim fun F h=>⟨F,h.keeps k (by simp)⟩,h3,h4,⟨F2,h5.keeps k (by simp)⟩,h6,fun i x hx=>(h7 i x hx).elim fun F h=>⟨F,h.keeps k (by simp)⟩,h8,h9,fun i x hx=>(h10 i x hx).elim fun F h=>⟨F,h.keeps k (by simp)⟩,h11⟩
section
variable {W0:World} {m0:Inj Tryz.prog}
theorem wc15 {A:AW} {s:SV} {qs:List QV} {ms:Nat→List MV} {bs:List BV} {us:Nat→List UV} {fs:Nat→List FV} {K:Value→AW→Prop} (h:SR W0 m0 A s qs ms bs us fs) (hf:Fine A) (hA:A.next+2000 < maxId)
  (hk:∀ r A',(r=true→s.qs.len≤12∧s.bs.len≤12∧∀ (k:Nat) q,qs[k]? =some q→q.ms.len≤40)→Grow A A' 1000→K (.bool r) A'):Wc Tryz.prog theX W0 m0 15 [.agg ⟨fS s⟩] A K:=by
 let M:Nat→AW→Prop:=fun n A'=>s.qs.len≤12∧s.bs.len≤12∧Go.Abs.Row1 A' A.next (fS s) 37∧Grow A A' n
 let I:Nat→Nat→List Value→AW→Prop:=fun g id vals A'=>
  (id=0∧∃ i:Nat,vals=[.pointer (some ⟨A.next,0,none⟩),.int .i64 (i:Int)]∧i≤s.qs.len∧(∀ (k:Nat) q,k < i→qs[k]? =some q→q.ms.len≤40)∧g=1000000 - i * 1000∧M (1+41 * i) A')∨
  (id=2∧∃ i k:Nat,vals=[.pointer (some ⟨A.next,0,none⟩),.int .i64 (i:Int),.int .i64 (k:Int)]∧i < s.qs.len∧(∀ (k:Nat) q,k < i+1→qs[k]? =some q→q.ms.len≤40)∧(∀ q,qs[i]? =some q→k≤q.ms.len)∧g=1000000 - i * 1000 - 1 - k∧M (1+41 * i+k) A')∨
  (id=4∧∃ i:Nat,vals=[.pointer (some ⟨A.next,0,none⟩),.int .i64 (i:Int)]∧i≤s.bs.len∧(∀ (k:Nat) q,qs[k]? =some q→q.ms.len≤40)∧g=1000 - i∧M (493+25 * i) A')
 refine w15 _ _ (c15 (I:=I) fun g id vals A' d hI hd=>?_) ?_
 ·rcases hI with ⟨rfl,i,rfl,hi,hq,rfl,h12,hb12,hr,hgr⟩ | ⟨rfl,i,k,rfl,hi,hq,hkq,rfl,h12,hb12,hr,hgr⟩ | ⟨rfl,i,rfl,hi,hq,rfl,h12,hb12,hr,hgr⟩
  ·have hr:Go.Abs.Row1 A' A.next [.int .u64 (s.next:Int),.slice s.qs.o s.qs.len s.qs.cap,.slice s.bs.o s.bs.len s.bs.cap,.slice s.hs.o s.hs.len s.hs.cap] 37:=hr
   have h':=h.keeps hgr.keeps
   have hn:=hgr.next
   rw [l15_0]
   simp only [L15,List.map_cons,List.map_nil,List.cons.injEq,and_true] at hd
   obtain ⟨d1,d3⟩:=hd
   simp only [d1,d3,fa_37_1,ld_33,cell_row hr.row,cellOf,isT_slice,isT_int,cond_false,pureW_some,ln_33,bin_lss,forkW_dec,Nat.zero_add]
   refine ⟨fun hlt=>?_,fun hge=>?_⟩
   ·have hlt:i < s.qs.len:=by omega
    have hql:=h.ql
    obtain ⟨x,hx⟩:∃ x,qs[i]? =some x:=⟨_,List.getElem?_eq_getElem (by omega)⟩
    obtain ⟨F,hqr⟩:=h'.q
    obtain ⟨r,o,a1,a2,a3⟩:=hqr.at etQ hx
    have a1:indexAddrA Tryz.prog 33 (.slice s.qs.o s.qs.len s.qs.cap) (.int .i64 (i:Int))=some (.pointer (some ⟨r,o,none⟩)):=a1
    have c0:A'.cell? ⟨r,o,none⟩=some (.string x.name):=cell_of a2 (k:=0) rfl
    have c2:A'.cell? ⟨r,o+2,none⟩=some (.slice x.ms.o x.ms.len x.ms.cap):=cell_of a2 (k:=2) rfl
    simp only [a1,pureW_some,fa_75_0,fa_75_2,ld_73,ld_9,c0,c2,ln_73,ln_9,bin_gtr,forkW_dec]
    refine ⟨fun _=>hk _ _ (fun h=>Bool.noConfusion h) (hgr.more (by omega)),fun hm=>⟨fun _=>hk _ _ (fun h=>Bool.noConfusion h) (hgr.more (by omega)),fun _=>?_⟩⟩
    refine cutW_self.2 ⟨1000000 - i * 1000 - 1 - 0,by omega,.inr (.inl ⟨rfl,i,0,rfl,hlt,fun k q hk hq'=>?_,fun q _=>Nat.zero_le _,rfl,h12,hb12,hr,hgr⟩)⟩
    by_cases hki:k=i
    ·subst hki
     rw [hx] at hq'
     obtain rfl:x=q:=by simpa using hq'
     omega
    ·exact hq k q (by omega) hq'
   ·exact cutW_self.2 ⟨1000 - 0,by omega,.inr (.inr ⟨rfl,0,rfl,by omega,fun k q hq'=>hq k q (by have:=(List.getElem?_eq_some_iff.1 hq').1;have:=h.ql;omega) hq',rfl,h12,hb12,hr,hgr.more (by omega)⟩)⟩
  ·have hr:Go.Abs.Row1 A' A.next [.int .u64 (s.next:Int),.slice s.qs.o s.qs.len s.qs.cap,.slice s.bs.o s.bs.len s.bs.cap,.slice s.hs.o s.hs.len s.hs.cap] 37:=hr
   have h':=h.keeps hgr.keeps
   have hn:=hgr.next
   have hql:=h.ql
   obtain ⟨x,hx⟩:∃ x,qs[i]? =some x:=⟨_,List.getElem?_eq_getElem (by omega)⟩
   have hxm:=hq i x (by omega) hx
   have hkx:=hkq x hx
   obtain ⟨F,hqr⟩:=h'.q
   obtain ⟨r,o,a1,a2,a3⟩:=hqr.at etQ hx
   have a1:indexAddrA Tryz.prog 33 (.slice s.qs.o s.qs.len s.qs.cap) (.int .i64 (i:Int))=some (.pointer (some ⟨r,o,none⟩)):=a1
   have c2:A'.cell? ⟨r,o+2,none⟩=some (.slice x.ms.o x.ms.len x.ms.cap):=cell_of a2 (k:=2) rfl
   rw [l15_2]
   simp only [L15,List.map_cons,List.map_nil,List.cons.injEq,and_true] at hd
   obtain ⟨d1,d3,d4⟩:=hd
   simp only [d1,d3,d4,fa_37_1,ld_33,cell_row hr.row,cellOf,isT_slice,isT_int,cond_false,pureW_some,a1,fa_75_2,ld_73,c2,ln_73,bin_lss,forkW_dec,Nat.zero_add]
   refine ⟨fun hlt=>?_,fun hge=>?_⟩
   ·have hlt:k < x.ms.len:=by omega
    have hml:=h.ml i x hx
    obtain ⟨y,hy⟩:∃ y,(ms i)[k]? =some y:=⟨_,List.getElem?_eq_getElem (by omega)⟩
    obtain ⟨F2,hmr⟩:=h'.m i x hx
    obtain ⟨r2,o2,b1,b2,b3⟩:=hmr.at etM hy
    have b1:indexAddrA Tryz.prog 73 (.slice x.ms.o x.ms.len x.ms.cap) (.int .i64 (k:Int))=some (.pointer (some ⟨r2,o2,none⟩)):=b1
    have e10:A'.cell? ⟨r2,o2+10,none⟩=some (.string y.body):=cell_of b2 (k:=10) rfl
    have e1:A'.cells? ⟨r2,o2+1,none⟩ 9=some y.props:=cells_part b2 (k:=1) (m:=8) (by omega) rfl
    simp only [b1,pureW_some,fa_84_1,fa_84_2,ld_9,ld_82,e10,e1,ln_9,bin_gtr,forkW_dec]
    refine ⟨fun _=>hk _ _ (fun h=>Bool.noConfusion h) (hgr.more (by omega)),fun _=>?_⟩
    refine wc34 hgr.fine (by omega) (h.mv i y (List.mem_of_getElem? hy)) fun b A2 g2=>?_
    have hg2:=hgr.trans g2
    simp only [un_not,pureW_some]
    refine forkW_bool.2 ⟨fun _=>hk _ _ (fun h=>Bool.noConfusion h) (hg2.more (by omega)),fun _=>?_⟩
    simp only [bin_add,pureW_some]
    rw [wrap_i64 (by omega) (by omega)]
    have hkn:∀ q,qs[i]? =some q→k+1≤q.ms.len:=fun q hq'=>by
     rw [hx] at hq'
     obtain rfl:x=q:=by simpa using hq'
     omega
    exact cutW_self.2 ⟨1000000 - i * 1000 - 1 - (k+1),by omega,.inr (.inl ⟨rfl,i,k+1,rfl,hi,hq,hkn,rfl,h12,hb12,hr.keeps g2.keeps (by simp),hg2.more (by omega)⟩)⟩
   ·simp only [bin_add,pureW_some]
    rw [wrap_i64 (by omega) (by omega)]
    exact cutW_self.2 ⟨1000000 - (i+1) * 1000,by omega,.inl ⟨rfl,i+1,rfl,by omega,hq,rfl,h12,hb12,hr,hgr.more (by omega)⟩⟩
  ·have hr:Go.Abs.Row1 A' A.next [.int .u64 (s.next:Int),.slice s.qs.o s.qs.len s.qs.cap,.slice s.bs.o s.bs.len s.bs.cap,.slice s.hs.o s.hs.len s.hs.cap] 37:=hr
   have h':=h.keeps hgr.keeps
   have hn:=hgr.next
   rw [l15_4]
   simp only [L15,List.map_cons,List.map_nil,List.cons.injEq,and_true] at hd
   obtain ⟨d1,d5⟩:=hd
   simp only [d1,d5,fa_37_2,ld_34,cell_row hr.row,cellOf,isT_slice,isT_int,cond_false,pureW_some,ln_34,bin_lss,forkW_dec,Nat.zero_add]
   refine ⟨fun hlt=>?_,fun hge=>hk _ _ (fun _=>⟨h12,hb12,hq⟩) (hgr.more (by omega))⟩
   have hlt:i < s.bs.len:=by omega
   have hbl:=h.bl
   obtain ⟨x,hx⟩:∃ x,bs[i]? =some x:=⟨_,List.getElem?_eq_getElem (by omega)⟩
   obtain ⟨F,hbr⟩:=h'.b
   obtain ⟨r,o,a1,a2,a3⟩:=hbr.at etB hx
   have a1:indexAddrA Tryz.prog 34 (.slice s.bs.o s.bs.len s.bs.cap) (.int .i64 (i:Int))=some (.pointer (some ⟨r,o,none⟩)):=a1
   have c3:A'.cell? ⟨r,o+3,none⟩=some (.slice x.ps.o x.ps.len x.ps.cap):=cell_of a2 (k:=3) rfl
   have c4:A'.cell? ⟨r,o+4,none⟩=some (.slice x.ts.o x.ts.len x.ts.cap):=cell_of a2 (k:=4) rfl
   simp only [a1,pureW_some,fa_89_1,fa_89_2,ld_86,ld_87,c3,c4,ln_86,ln_87,bin_gtr,forkW_dec,a3]
   refine ⟨fun _=>hk _ _ (fun h=>Bool.noConfusion h) (hgr.more (by omega)),fun h1=>⟨fun _=>hk _ _ (fun h=>Bool.noConfusion h) (hgr.more (by omega)),fun h2=>?_⟩⟩
   refine wc36 hgr.fine (by omega) fun A2 g2=>?_
   have hg2:=hgr.trans g2
   have hn2:=hg2.next
   have h2':=h.keeps hg2.keeps
   obtain ⟨F3,hu⟩:=h2'.u i x hx
   obtain ⟨F4,hfl⟩:=h2'.f i x hx
   have hul:=h.ul i x hx
   have hfll:=h.fl i x hx
   have eu:x.ps.len=(us i).length:=by omega
   have ef:x.ts.len=(fs i).length:=by omega
   refine wc35 (by rw [← eu];exact hu) (by omega) (h.uv i) (by rw [← ef];exact hfl) (by omega) hg2.fine (by omega) fun b A3 g3=>?_
   have hg3:=hg2.trans g3
   simp only [un_not,pureW_some]
   refine forkW_bool.2 ⟨fun _=>hk _ _ (fun h=>Bool.noConfusion h) (hg3.more (by omega)),fun _=>?_⟩
   simp only [bin_add,pureW_some]
   rw [wrap_i64 (by omega) (by omega)]
   exact cutW_self.2 ⟨1000 - (i+1),by omega,.inr (.inr ⟨rfl,i+1,rfl,by omega,hq,rfl,h12,hb12,(hr.keeps g2.keeps (by simp)).keeps g3.keeps (by simp),hg3.more (by omega)⟩)⟩
 ·rw [e15]
  refine newP_made (cs:=fS s) hf (by omega) rfl fun A1 m1=>?_
  have g1:=Grow.made m1 hf
  have hr:Go.Abs.Row1 A1 A.next [.int .u64 (s.next:Int),.slice s.qs.o s.qs.len s.qs.cap,.slice s.bs.o s.bs.len s.bs.cap,.slice s.hs.o s.hs.len s.hs.cap] 37:=m1.row1
  simp only [fa_37_1,fa_37_2,fa_37_3,ld_33,ld_34,ld_35,cell_row hr.row,cellOf,isT_slice,isT_int,cond_false,pureW_some,ln_33,ln_34,ln_35,bin_gtr,forkW_dec,Nat.zero_add]
  refine ⟨fun _=>hk _ _ (fun h=>Bool.noConfusion h) (g1.more (by omega)),fun h1=>⟨fun _=>hk _ _ (fun h=>Bool.noConfusion h) (g1.more (by omega)),fun h2=>⟨fun _=>hk _ _ (fun h=>Bool.noConfusion h) (g1.more (by omega)),fun _=>?_⟩⟩⟩
  exact cutW_self.2 ⟨1000000 - 0 * 1000,.inl ⟨rfl,0,rfl,by omega,fun k q hk=>by omega,rfl,by omega,by omega,m1.row1,g1.more (by omega)⟩⟩
end
noncomputable def ddS (a:List Nm) (x:Nm):List Nm:=@ite _ (a.getLast? =some x) (Classical.propDecidable _) a (a++[x])
noncomputable def dd (l:List Nm):List Nm:=l.foldl ddS []
theorem ddS_yes {a:List Nm} {x:Nm} (h:a.getLast? =some x):ddS a x=a:=if_pos h
theorem ddS_no {a:List Nm} {x:Nm} (h:a.getLast? ≠some x):ddS a x=a++[x]:=if_neg h
theorem ddS_last (a:List Nm) (x:Nm):(ddS a x).getLast? =some x:=by
 by_cases h:a.getLast? =some x
 ·rw [ddS_yes h,h]
 ·rw [ddS_no h];simp
theorem dd_step {l:List Nm} {j:Nat} {p:Nm} (h:l[j]? =some p):dd (l.take (j+1))=ddS (dd (l.take j)) p:=by
 unfold dd
 rw [List.take_add_one,h,List.foldl_append]
 rfl
theorem dd_last {l:List Nm} {j:Nat} {p:Nm} (h:l[j]? =some p):(dd (l.take (j+1))).getLast? =some p:=by
 rw [dd_step h];exact ddS_last _ _
theorem dd_same {l:List Nm} {j:Nat} {p q:Nm} (h:l[j]? =some p) (h1:l[j+1]? =some q) (e:q=p):dd (l.take (j+1+1))=dd (l.take (j+1)):=by
 subst e
 rw [dd_step h1,ddS_yes (dd_last h)]
theorem dd_other {l:List Nm} {j:Nat} {p q:Nm} (h:l[j]? =some p) (h1:l[j+1]? =some q) (e:q≠p):dd (l.take (j+1+1))=dd (l.take (j+1))++[q]:=by
 rw [dd_step h1,ddS_no]
 rw [dd_last h]
 exact fun hh=>e (Option.some.inj hh).symm
theorem dd_one {l:List Nm} {p:Nm} (h:l[0]? =some p):dd (l.take 1)=l.take 1:=by
 rw [dd_step h,List.take_zero,show dd []=[] from rfl,ddS_no (by simp),List.take_add_one,h]
 rfl
theorem below_last {a:List Nm} {x y:Nm} (h:a.Pairwise fun x y=>xcmp x y < 0) (hl:a.getLast? =some x) (hy:y∈a):y=x∨xcmp y x < 0:=by
 obtain ⟨b,rfl⟩:=List.getLast?_eq_some_iff.1 hl
 rw [List.pairwise_append] at h
 rcases List.mem_append.1 hy with hy | hy
 ·exact .inr (h.2.2 y hy x (by simp))
 ·exact .inl (List.mem_singleton.1 hy)
theorem dd_rises:∀ (l a:List Nm),a.Pairwise (fun x y=>xcmp x y < 0)→(∀ x∈a,∀ y∈l,xcmp x y≤0)→l.Pairwise (fun x y=>xcmp x y≤0)→
  (l.foldl ddS a).Pairwise (fun x y=>xcmp x y < 0)∧∀ k,k∈l.foldl ddS a↔k∈a∨k∈l
 | [],a,h,_,_=>⟨h,fun k=>by simp⟩
 | x::l,a,h,h1,h2=>by
  rw [List.foldl_cons]
  have h2:=List.pairwise_cons.1 h2
  by_cases hx:a.getLast? =some x
  ·rw [ddS_yes hx]
   obtain ⟨h3,h4⟩:=dd_rises l a h (fun x hx y hy=>h1 x hx y (List.mem_cons_of_mem _ hy)) h2.2
   refine ⟨h3,fun k=>?_⟩
   rw [h4,List.mem_cons]
   have:x∈a:=List.mem_of_getLast? hx
   constructor
   ·rintro (h | h)
    ·exact .inl h
    ·exact .inr (.inr h)
   ·rintro (h | rfl | h)
    ·exact .inl h
    ·exact .inl this
    ·exact .inr h
  ·rw [ddS_no hx]
   have ha:(a++[x]).Pairwise fun x y=>xcmp x y < 0:=by
    rw [List.pairwise_append]
    refine ⟨h,by simp,fun y hy z hz=>?_⟩
    obtain rfl:=List.mem_singleton.1 hz
    have hle:=h1 y hy z List.mem_cons_self
    by_cases he:y=z
    ·subst he
     exfalso
     obtain ⟨w,hw⟩:∃ w,a.getLast? =some w:=by
      cases hl:a.getLast? with
      | none=>rw [List.getLast?_eq_none_iff.1 hl] at hy;cases hy
      | some w=>exact ⟨w,rfl⟩
     have hwy:=h1 w (List.mem_of_getLast? hw) y List.mem_cons_self
     rcases below_last h hw hy with rfl | hlt
     ·exact hx hw
     ·rw [xcmp_swap] at hwy
      omega
    ·have:xcmp y z≠0:=fun h0=>he (xcmp_zero.1 h0)
     omega
   obtain ⟨h3,h4⟩:=dd_rises l (a++[x]) ha (fun y hy z hz=>by
    rcases List.mem_append.1 hy with hy | hy
    ·exact h1 y hy z (List.mem_cons_of_mem _ hz)
    ·rw [List.mem_singleton.1 hy];exact h2.1 z hz) h2.2
   refine ⟨h3,fun k=>?_⟩
   rw [h4]
   simp [or_assoc]
theorem adds_asc:∀ (l a:List Nm),a.Pairwise (fun x y=>xcmp x y < 0)→(l.foldl addN a).Pairwise (fun x y=>xcmp x y < 0)∧∀ k,k∈l.foldl addN a↔k∈a∨k∈l
 | [],a,h=>⟨h,fun k=>by simp⟩
 | x::l,a,h=>by
  obtain ⟨h1,h2⟩:=addN_asc (x:=x) h
  obtain ⟨h3,h4⟩:=adds_asc l _ h1
  refine ⟨h3,fun k=>?_⟩
  rw [List.foldl_cons,h4,h2,List.mem_cons,or_assoc]
theorem doubt_same (l:List Nm):dd (srt l)=l.foldl addN []:=by
 obtain ⟨h1,h2⟩:=dd_rises (srt l) [] .nil (by simp) (srt_pairwise l)
 obtain ⟨h3,h4⟩:=adds_asc l [] .nil
 refine asc_ext h1 h3 fun k=>?_
 rw [show dd (srt l)=(srt l).foldl ddS [] from rfl,h2,h4,mem_srt]
theorem adds_len:∀ (l a:List Nm),(l.foldl addN a).length≤a.length+l.length
 | [],a=>Nat.le_refl _
 | x::l,a=>by
  have:=adds_len l (addN a x)
  have h2:(addN a x).length≤a.length+1:=by
   by_cases h:a[Go.Abs.ahead a x]? =some x
   ·rw [show addN a x=a from if_pos h];omega
   ·rw [show addN a x=_ from if_neg h]
    simp only [List.length_append,List.length_cons,List.length_take,List.length_drop]
    omega
  simp only [List.foldl_cons,List.length_cons]
  omega
theorem dyn79 (A:AW) (l:Nat) (a:Addr):dynA Tryz.prog theX A (.func (.func 79) ⟨[]⟩ ⟨[.pointer (some a)]⟩) [.func (.yield l) #[] #[]]=.ok (.enter 79 [.func (.yield l) #[] #[],.pointer (some a)]) A:=by kernel_rfl
theorem tm80v (q b:Nat) (v:Value):(setAll (setsT ⟨13,.nil⟩ [(0,.slice none 0 0),(1,.func (.func 79) ⟨[]⟩ ⟨[.pointer (some ⟨q,0,none⟩)]⟩),(2,.pointer (some ⟨b,0,none⟩)),(4,.slice none 0 0),(6,.func (.func 79) ⟨[]⟩ ⟨[.pointer (some ⟨q,0,none⟩)]⟩)]) [(7,v)]).sz=13∧
  (setAll (setsT ⟨13,.nil⟩ [(0,.slice none 0 0),(1,.func (.func 79) ⟨[]⟩ ⟨[.pointer (some ⟨q,0,none⟩)]⟩),(2,.pointer (some ⟨b,0,none⟩)),(4,.slice none 0 0),(6,.func (.func 79) ⟨[]⟩ ⟨[.pointer (some ⟨q,0,none⟩)]⟩)]) [(7,v)]).get 2=.pointer (some ⟨b,0,none⟩)∧
  (setAll (setsT ⟨13,.nil⟩ [(0,.slice none 0 0),(1,.func (.func 79) ⟨[]⟩ ⟨[.pointer (some ⟨q,0,none⟩)]⟩),(2,.pointer (some ⟨b,0,none⟩)),(4,.slice none 0 0),(6,.func (.func 79) ⟨[]⟩ ⟨[.pointer (some ⟨q,0,none⟩)]⟩)]) [(7,v)]).get 7=v:=⟨by kernel_rfl,by kernel_rfl,by kernel_rfl⟩
section
variable {W0:World} {m0:Inj Tryz.prog}
theorem wc79 {A:AW} {q b l D:Nat} {src:Value} {ns:List Nm} {F0:List Nat} {tm:Tm} {ac bd:Code} {K:Value→AW→Prop} (has:ac=cd 80 [1,0,1,0,0]) (hbd:bd=cd 80 [1,0,1,0,1]) (hq:Go.Abs.Row1 A q [src] 28) (hs:OwnE 46 2 Nm.cells A src ns F0) (hb:Go.Abs.Row1 A b [.slice none 0 0] 28) (hl:LoopR A l (loopC tm D ac bd)) (hbl:b≠l) (hqb:q≠b) (hql:q≠l) (hFb:b∉F0) (hFl:l∉F0)
  (ht:∀ v,(setAll tm [(7,v)]).sz=13∧(setAll tm [(7,v)]).get 2=.pointer (some ⟨b,0,none⟩)∧(setAll tm [(7,v)]).get 7=v) (hf:Fine A) (hes:ns.length < 100000) (hA:A.next+20+6 * ns.length < maxId)
  (hk:∀ A' sv F,Go.Abs.Row1 A' b [sv] 28→LoopR A' l (loopC tm D ac bd)→OwnE 46 2 Nm.cells A' sv ns F→(∀ x∈F,A.next≤x)→Keeps A A' [b,l]→A'.next≤A.next+1+6 * ns.length→Fine A'→K (.tuple ⟨[]⟩) A'):
  Wc Tryz.prog theX W0 m0 79 [.func (.yield l) #[] #[],.pointer (some ⟨q,0,none⟩)] A K:=by
 have hblt:=hb.lt
 have hllt:=hl.lt
 have hqlt:=hq.lt
 have hF0:=hs.lt
 let I:Nat→Nat→List Value→AW→Prop:=fun g id vals A'=>id=0∧∃ (i:Nat) (sv:Value) (F:List Nat),vals=[.func (.yield l) #[] #[],src,.int .i64 (ns.length:Int),.int .i64 (i:Int)]∧i≤ns.length∧Go.Abs.Row1 A' b [sv] 28∧LoopR A' l (loopC tm D ac bd)∧
  OwnE 46 2 Nm.cells A' sv (ns.take i) F∧(∀ x∈F,A.next≤x)∧Keeps A A' [b,l]∧Fine A'∧A'.next≤A.next+6 * i∧g=ns.length - i
 refine w79 _ _ _ (c79 (I:=I) ?_) ?_
 ·rintro g id vals A' d ⟨rfl,i,sv,F,rfl,hi,hb',hl',ho,hF,k,f,nx,rfl⟩ hd
  rw [l79_0]
  simp only [L79,List.map_cons,List.map_nil,List.cons.injEq,and_true] at hd
  obtain ⟨d0,d5,d6,d7⟩:=hd
  simp only [d0,d5,d6,d7,bin_lss,pureW_some,forkW_dec]
  have hle0:=k.next
  refine ⟨fun hlt=>?_,fun hge=>?_⟩
  ·have hlt:i < ns.length:=by omega
   obtain ⟨p,hp⟩:∃ p,ns[i]? =some p:=⟨_,List.getElem?_eq_getElem hlt⟩
   have hs':=hs.keeps k (fun x hx hm=>by
    rcases List.mem_cons.1 hm with rfl | hm
    ·exact hFb hx
    ·rw [List.mem_singleton.1 hm] at hx;exact hFl hx)
   obtain ⟨r,o,a1,a2,a3⟩:=(hs'.rd fun _=>rfl).at etN hp
   simp only [a1,pureW_some,a3]
   refine allocP_made zero46 f (by omega) rfl fun A3 m3=>?_
   have n3:=m3.next
   have k3:=m3.keeps f
   refine putNm (p:=p) m3.row1 rfl m3.fine (by omega) fun A4 h4 k4 n4 f4=>?_
   have K24:Keeps A' A4 []:=k3.trans k4 (by simp)
   simp only [load46 h4,pureW_some]
   have hb4:=hb'.keeps K24 (by simp)
   have hl4:=hl'.keeps K24 (by simp)
   have ho4:=ho.keeps K24 (by simp)
   obtain ⟨t1,t2,t3⟩:=ht (kN p)
   refine yield_round hl4 rfl (round_of (T:=T80) (L:=L80) (N:=4000) gX gP gPlain (by decide) t1 ?_)
   rw [has,hbd,r80_0]
   have t2:(setAll tm (List.zip [7] [kN p])).get 2=.pointer (some ⟨b,0,none⟩):=t2
   have t3:(setAll tm (List.zip [7] [kN p])).get 7=.agg ⟨p.cells⟩:=t3
   refine allocP_made zero46 f4 (by omega) rfl fun A5 m5=>?_
   have n5:=m5.next
   have k5:=m5.keeps f4
   have t3':(setAll tm (List.zip [7] [Value.agg ⟨p.cells⟩])).get 7=.agg ⟨p.cells⟩:=t3
   have t2':(setAll tm (List.zip [7] [Value.agg ⟨p.cells⟩])).get 2=.pointer (some ⟨b,0,none⟩):=t2
   simp only [t3']
   refine putNm (p:=p) m5.row1 rfl m5.fine (by omega) fun A6 h6 k6 n6 f6=>?_
   have K46:Keeps A4 A6 []:=k5.trans k6 (by simp)
   refine beginW_made (hl4.keeps K46 (by simp)) rfl f6 (by omega) fun A7 hl7 k7 n7 f7=>?_
   have hb7:=(hb4.keeps K46 (by simp)).keeps k7 (by simp;omega)
   have ho7:=(ho4.keeps K46 (by simp)).keeps k7 (fun x hx=>by have:=hF x hx;simp;omega)
   have h7:=h6.keeps k7 (by simp;omega)
   have one7:=ho7.one
   simp only [t2',ld_28,cell_row hb7.row,cellOf,one7.2,cond_false,load46 h7,pureW_some]
   refine newNm1 f7 (by omega) fun A8 m8=>?_
   have n8:=m8.next
   have k8:=m8.keeps f7
   have htl:(ns.take i).length=i:=by rw [List.length_take];omega
   refine OwnE.append etN (ho7.keeps k8 (by simp)) m8.row1 m8.fine (by omega) (by rw [htl];omega) fun sv5 A9 F5 ho9 k9 hF9 n9 f9=>?_
   have hb9:=(hb7.keeps k8 (by simp)).keeps k9 (fun hm=>by have:=hF _ hm;omega)
   have hl9:=(hl7.keeps k8 (by simp)).keeps k9 (fun hm=>by have:=hF _ hm;omega)
   have hF9':∀ x∈F5,A.next≤x:=fun x hx=>by
    rcases hF9 x hx with h | h
    ·exact hF x h
    ·omega
   obtain ⟨o5,hx5⟩:∃ o n c,sv5=.slice o n c:=by
    rcases ho9 with ⟨rfl,_⟩ | ⟨_,_,rfl,_⟩
    ·exact ⟨_,_,_,rfl⟩
    ·exact ⟨_,_,_,rfl⟩
   refine hb9.store f9 (by omega) (st_28 _ _ _) (by obtain ⟨n,c,rfl⟩:=hx5;rfl) (by simp) (by obtain ⟨n,c,rfl⟩:=hx5;rfl) fun A10 hb10 k10 n10 f10=>?_
   have hb10:Go.Abs.Row1 A10 b [sv5] 28:=by obtain ⟨n,c,rfl⟩:=hx5;exact hb10
   refine leaveW_made (hl9.keeps k10 (by simp;omega)) f10 (by omega) fun A11 hl11 k11 n11 f11=>?_
   have hl11:LoopR A11 l (loopC tm D ac bd):=hl11
   simp only [un_not,pureW_some]
   refine forkW_bool.2 ⟨fun h=>Bool.noConfusion h,fun _=>?_⟩
   simp only [bin_add,pureW_some]
   rw [wrap_i64 (by omega) (by omega)]
   refine cutW_self.2 ⟨ns.length - (i+1),by omega,rfl,i+1,sv5,F5,rfl,by omega,hb10.keeps k11 (by simp;omega),hl11,?_,hF9',?_,f11,by omega,rfl⟩
   ·have:ns.take (i+1)=ns.take i++[p]:=by rw [List.take_add_one,hp];rfl
    rw [this]
    exact (ho9.keeps k10 (fun x hx=>by have:=hF9' x hx;simp;omega)).keeps k11 (fun x hx=>by have:=hF9' x hx;simp;omega)
   ·exact ((((((k.trans K24 (by simp)).trans K46 (by simp)).trans k7 (by simp)).trans k8 (by simp)).trans k9 (fun x hx=>.inr (hF x hx))).trans k10 (by simp)).trans k11 (by simp)
  ·have hi':i=ns.length:=by omega
   subst hi'
   rw [List.take_length] at ho
   exact hk A' sv F hb' hl' ho hF k (by omega) f
 ·rw [e79]
  have one:=hs.one
  simp only [ld_28,cell_row hq.row,cellOf,one.2,cond_false,pureW_some,(hs.rd fun _=>rfl).len etN]
  exact cutW_self.2 ⟨ns.length,rfl,0,.slice none 0 0,[],rfl,Nat.zero_le _,hb,hl,.nil _,by simp,.refl _ _,hf,by omega,rfl⟩
theorem wc80v {A:AW} {q:Nat} {src:Value} {ns:List Nm} {F0:List Nat} {K:Value→AW→Prop} (hq:Go.Abs.Row1 A q [src] 28) (hs:OwnE 46 2 Nm.cells A src ns F0) (hf:Fine A) (hes:ns.length < 100000) (hA:A.next+40+6 * ns.length < maxId)
  (hk:∀ A' sv F,OwnE 46 2 Nm.cells A' sv ns F→(∀ x∈F,A.next≤x)→Keeps A A' []→A'.next≤A.next+20+6 * ns.length→Fine A'→K sv A'):
  Wc Tryz.prog theX W0 m0 80 [.slice none 0 0,.func (.func 79) ⟨[]⟩ ⟨[.pointer (some ⟨q,0,none⟩)]⟩] A K:=by
 have hqlt:=hq.lt
 have hF0:=hs.lt
 refine w80 _ _ _ (cuts_none (S:=fun _ _ _=>False) fun _ _ _ h=>h) ?_
 rw [e80]
 refine newP_made (cs:=[.slice none 0 0]) hf (by omega) rfl fun A1 m1=>?_
 have n1:=m1.next
 have k1:=m1.keeps hf
 refine loopW_made m1.fine (by omega) fun A2 hD hl k2 n2 f2=>?_
 have K2:Keeps A A2 []:=k1.trans k2 (by simp)
 refine ⟨79,_,A2,dyn79 A2 _ ⟨q,0,none⟩,wc79 rfl rfl (hq.keeps K2 (by simp)) (hs.keeps K2 (by simp)) (m1.row1.keeps k2 (by simp)) hl (by omega) (by omega) (by omega) (fun hx=>by have:=hF0 _ hx;omega) (fun hx=>by have:=hF0 _ hx;omega) (fun v=>tm80v q _ v) f2 hes (by omega) fun A3 sv F hb3 hl3 ho3 hF k3 n3 f3=>?_⟩
 refine endLoopW_made hl3 (show LoopState.ready≠LoopState.busy from fun h=>by cases h) rfl f3 (by omega) fun A4 k4 n4 f4=>?_
 have hb4:=hb3.keeps k4 (by simp;omega)
 have ho4:=ho3.keeps k4 (fun x hx=>by have:=hF x hx;simp;omega)
 have one4:=ho4.one
 simp only [ld_28,cell_row hb4.row,cellOf,one4.2,cond_false,pureW_some]
 refine takeDs_one ((hD.keeps k3 (by simp;omega)).keeps k4 (by simp)) f4 (by omega) fun A5 k5 n5 f5=>?_
 refine hk A5 sv F (ho4.keeps k5 (fun x hx=>by have:=hF x hx;simp;omega)) (fun x hx=>by have:=hF x hx;omega) ?_ (by omega) f5
 exact ((K2.trans k3 (by simp;omega)).trans k4 (by simp;omega)).trans k5 (by simp;omega)
theorem wc25v {A:AW} {q:Nat} {src:Value} {ns:List Nm} {F0:List Nat} {K:Value→AW→Prop} (hq:Go.Abs.Row1 A q [src] 28) (hs:OwnE 46 2 Nm.cells A src ns F0) (hf:Fine A) (hes:ns.length < 100000) (hA:A.next+40+6 * ns.length < maxId)
  (hk:∀ A' sv F,OwnE 46 2 Nm.cells A' sv (srt ns) F→(∀ x∈F,A.next≤x)→Keeps A A' []→A'.next≤A.next+20+6 * ns.length→Fine A'→K sv A'):
  Wc Tryz.prog theX W0 m0 25 [.func (.func 79) ⟨[]⟩ ⟨[.pointer (some ⟨q,0,none⟩)]⟩,.func (.func 27) #[] #[]] A K:=by
 refine w25 _ _ _ (cuts_none (S:=fun _ _ _=>False) fun _ _ _ h=>h) ?_
 rw [e25]
 refine w53 _ _ (cuts_none (S:=fun _ _ _=>False) fun _ _ _ h=>h) ?_
 rw [e53]
 refine wc80v hq hs hf hes hA fun A1 sv F ho hF k1 n1 f1=>?_
 refine sort_names ho f1 (by omega) fun A2 ho2 k2 n2 f2=>?_
 exact hk A2 sv F ho2 hF (k1.trans k2 fun x hx=>.inr (hF x hx)) (by omega) f2
theorem wc47 {A:AW} {src:Value} {K:Value→AW→Prop} (hone:oneCell src=true) (hnt:src.cells.toList=[src]) (hf:Fine A) (hA:A.next < maxId) (hk:∀ A',Made A A' [src] 28→K (.func (.func 79) ⟨[]⟩ ⟨[.pointer (some ⟨A.next,0,none⟩)]⟩) A'):Wc Tryz.prog theX W0 m0 47 [src] A K:=by
 refine w47 _ _ (cuts_none (S:=fun _ _ _=>False) fun _ _ _ h=>h) ?_
 rw [e47,hnt]
 exact newP_made (cs:=[src]) hf hA (by simp [hone]) fun A1 m1=>hk A1 m1
end
section
variable {β:Type} {n:Nat} {f:β→List Value}
theorem flat_len (hlen:∀ x,(f x).length=n+1) (l:List β):(flat f l).length=l.length * (n+1):=by
 induction l with
 | nil=>simp [flat]
 | cons x l ih=>
  have:flat f (x::l)=f x++flat f l:=by simp [flat]
  rw [this,List.length_append,hlen,ih,List.length_cons,Nat.succ_mul]
  omega
theorem flat_put (hlen:∀ x,(f x).length=n+1) {a b b' c:List β} (h:b.length=b'.length):setL (flat f (a++(b++c))) (a.length * (n+1)) (flat f b')=flat f (a++(b'++c)):=by
 rw [flat_apps,flat_apps,flat_apps,flat_apps,← flat_len hlen a]
 exact setL_mid _ _ _ _ (by rw [flat_len hlen,flat_len hlen,h])
end
def nm0:Nm:=⟨0,.empty,.empty⟩
theorem zeros_nm:∀ k,zerosA [.int .u32 0,.string .empty,.string .empty] k=flat Nm.cells (List.replicate k nm0)
 | 0=>rfl
 | k+1=>by
  rw [zerosA,zeros_nm k,List.replicate_succ]
  simp [flat,nm0,Nm.cells]
theorem cl_28 (A:AW) (b o n c:Nat):clearA Tryz.prog A 28 (.slice (some ⟨b,o,none⟩) (n+1) c)=A.setCells ⟨b,o,none⟩ (zerosA [.int .u32 0,.string .empty,.string .empty] (n+1)):=by kernel_rfl
section
variable {W0:World} {m0:Inj Tryz.prog}
theorem putE {A:AW} {b n i:Nat} {l:List Nm} {F:List Nat} {p:Nm} {K:AW→Prop} (h:OwnE 46 2 Nm.cells A (.slice (some ⟨b,0,none⟩) l.length (capU+l.length)) l F) (hi:i < l.length) (hf:Fine A) (hb:A.next≤maxId) (hn:n=l.length)
  (hk:∀ A',OwnE 46 2 Nm.cells A' (.slice (some ⟨b,0,none⟩) n (capU+n)) (l.take i++(p::l.drop (i+1))) F→Keeps A A' F→A'.next=A.next→Fine A'→K A'):
  effW (storeP Tryz.prog A 46 (.pointer (some ⟨b,i * 3,none⟩)) (.agg ⟨p.cells⟩)) K:=by
 subst hn
 refine storeG (w:=.agg ⟨p.cells⟩) h hf hb (st_46 _ _ _) rfl ?_ rfl fun A' h1 k1 n1 f1=>hk A' ?_ k1 n1 f1
 ·rw [flat_len (n:=2) fun _=>rfl];omega
 ·show OwnG A' 46 3 _ _ _ F
  have hl:(l.take i++(p::l.drop (i+1))).length=l.length:=by simp;omega
  rw [hl]
  have he:l=l.take i++([l[i]]++l.drop (i+1)):=by simp
  have hp:=flat_put (n:=2) (f:=Nm.cells) (fun _=>rfl) (a:=l.take i) (b:=[l[i]]) (b':=[p]) (c:=l.drop (i+1)) rfl
  rw [← he,List.length_take,Nat.min_eq_left (Nat.le_of_lt hi)] at hp
  have hpp:flat Nm.cells [p]=p.cells:=by simp [flat]
  rw [hpp] at hp
  rw [show l.take i++(p::l.drop (i+1))=l.take i++([p]++l.drop (i+1)) from rfl,← hp]
  exact h1
theorem clearE {A:AW} {b n c:Nat} {a l:List Nm} {F:List Nat} {K:AW→Prop} (h:OwnE 46 2 Nm.cells A (.slice (some ⟨b,0,none⟩) n (capU+n)) (a++l) F) (hl:0 < l.length) (hf:Fine A) (hb:A.next≤maxId) (hn:n=a.length+l.length)
  (hk:∀ A',OwnE 46 2 Nm.cells A' (.slice (some ⟨b,0,none⟩) n (capU+n)) (a++List.replicate l.length nm0) F→Keeps A A' F→A'.next=A.next→Fine A'→K A'):
  effW (clearA Tryz.prog A 28 (.slice (some ⟨b,a.length * 3,none⟩) l.length c)) K:=by
 obtain ⟨k,hk'⟩:∃ k,l.length=k+1:=⟨l.length - 1,by omega⟩
 have hz:(zerosA [.int .u32 0,.string .empty,.string .empty] l.length).length=l.length * 3:=by rw [zeros_nm,flat_len (n:=2) fun _=>rfl,List.length_replicate]
 have hn':n=(a++l).length:=by simp [hn]
 subst hn'
 refine storeG (k:=l.length * 3) (w:=.agg ⟨zerosA [.int .u32 0,.string .empty,.string .empty] l.length⟩) h hf hb (off:=a.length * 3) ?_ hz ?_ ?_ fun A' h1 k1 n1 f1=>hk A' ?_ k1 n1 f1
 ·show _=bif Nat.beq (zerosA _ l.length).length (l.length * 3) then A.setCells _ (zerosA _ l.length) else none
  rw [hz,Nat.beq_refl,cond_true,hk',cl_28]
 ·rw [flat_len (n:=2) fun _=>rfl,List.length_append,Nat.add_mul]
  exact Nat.le_refl _
 ·show (zerosA _ l.length).all oneCell=true
  rw [zeros_nm]
  exact flat_one (fun _=>rfl) _
 ·show OwnG A' 46 3 _ _ _ F
  have hl:(a++List.replicate l.length nm0).length=(a++l).length:=by simp
  have hp:=flat_put (n:=2) (f:=Nm.cells) (fun _=>rfl) (a:=a) (b:=l) (b':=List.replicate l.length nm0) (c:=[]) (by simp)
  rw [List.append_nil,List.append_nil] at hp
  rw [hl,← hp]
  have e:flat Nm.cells (List.replicate l.length nm0)=zerosA [.int .u32 0,.string .empty,.string .empty] l.length:=(zeros_nm _).symm
  rw [e]
  exact h1
theorem wc46 {A:AW} {v:Value} {l:List Nm} {F:List Nat} {K:Value→AW→Prop} (h:OwnE 46 2 Nm.cells A v l F) (hl:l.length < 100000) (hf:Fine A) (hb:A.next≤maxId)
  (hk:∀ A' v' F',RdE 2 Nm.cells A' v' (dd l) F'→Keeps A A' F→A'.next=A.next→Fine A'→K v' A'):Wc Tryz.prog theX W0 m0 46 [v] A K:=by
 by_cases h2:l.length < 2
 ·refine w46 _ _ (c46 (I:=fun _ _ _ _=>False) fun g id vals A' d hI hd=>hI.elim) ?_
  rw [e46]
  simp only [(h.rd fun _=>rfl).len etN,bin_lss,pureW_some,forkW_dec]
  refine ⟨fun _=>?_,fun hge=>by omega⟩
  have he:dd l=l:=by
   match l,h2 with
   | [],_=>rfl
   | [x],_=>exact dd_one (l:=[x]) rfl
  refine hk A v F ?_ (.refl _ _) rfl hf
  rw [he]
  exact h.rd fun _=>rfl
 obtain ⟨b,rfl⟩:∃ b,v=.slice (some ⟨b,0,none⟩) l.length (capU+l.length):=by
  rcases h with ⟨_,h1,_⟩ | ⟨b,g,h1,_⟩
  ·omega
  ·exact ⟨b,h1⟩
 let I:Nat→Nat→List Value→AW→Prop:=fun g id vals A'=>
  (id=0∧∃ j:Nat,vals=[.slice (some ⟨b,0,none⟩) l.length (capU+l.length),.int .i64 ((j+1:Nat):Int)]∧j+1≤l.length∧dd (l.take (j+1))=l.take (j+1)∧g=1000000 - j∧A'=A)∨
  (id=2∧∃ k j:Nat,vals=[.slice (some ⟨b,0,none⟩) l.length (capU+l.length),.int .i64 ((dd (l.take (k+j+1))).length:Int),.slice (some ⟨b,k * 3,none⟩) (l.length - k) (capU+(l.length - k)),.int .i64 ((j+1:Nat):Int)]∧k+j+1≤l.length∧(dd (l.take (k+j+1))).length≤k+j∧0 < k∧g=500000 - j∧
   OwnE 46 2 Nm.cells A' (.slice (some ⟨b,0,none⟩) l.length (capU+l.length)) (dd (l.take (k+j+1))++l.drop (dd (l.take (k+j+1))).length) F∧Keeps A A' F∧A'.next=A.next∧Fine A')
 refine w46 _ _ (c46 (I:=I) fun g id vals A' d hI hd=>?_) ?_
 ·rcases hI with ⟨rfl,j,rfl,hj,hdd,rfl,rfl⟩ | ⟨rfl,k,j,rfl,hj,hle,hk0,rfl,ho,kp,nx,f⟩
  ·rw [l46_0]
   simp only [L46,List.map_cons,List.map_nil,List.cons.injEq,and_true] at hd
   obtain ⟨d0,d3⟩:=hd
   have hr:=h.rd fun _=>rfl
   simp only [d0,d3,hr.len etN,bin_lss,pureW_some,forkW_dec]
   refine ⟨fun hlt=>?_,fun hge=>?_⟩
   ·have hlt:j+1 < l.length:=by omega
    obtain ⟨p,hp⟩:∃ p,l[j]? =some p:=⟨_,List.getElem?_eq_getElem (by omega)⟩
    obtain ⟨q,hq⟩:∃ q,l[j+1]? =some q:=⟨_,List.getElem?_eq_getElem hlt⟩
    obtain ⟨r1,o1,a1,_,a2⟩:=hr.at etN hq
    obtain ⟨r2,o2,b1,_,b2⟩:=hr.at etN hp
    simp only [a1,a2,bin_sub,pureW_some]
    rw [wrap_i64 (by omega) (by omega),show (((j+1:Nat):Int) - 1)=(j:Int) by omega]
    simp only [b1,b2,pureW_some,eqN]
    refine forkW_bool.2 ⟨fun he=>?_,fun he=>?_⟩
    ·have hqp:q=p:=keqN_iff.1 he
     have hs:=dd_same hp hq hqp
     have hlen:(dd (l.take (j+1+0+1))).length=j+1:=by
      show (dd (l.take (j+1+1))).length=_
      rw [hs,hdd,List.length_take];omega
     obtain ⟨g',hrow⟩:∃ g',A'.get b=some (.row (flat Nm.cells l) 46 g' 0 false):=by
      rcases h with ⟨h1,_⟩ | ⟨b',g',h1,h3,_⟩
      ·cases h1
      ·simp only [Value.slice.injEq,Option.some.injEq,Addr.mk.injEq,and_true] at h1
       subst h1
       exact ⟨g',h3.row⟩
     simp only [slice_fromE etN hrow (i:=j+1) (by omega),pureW_some]
     refine cutW_self.2 ⟨500000 - 0,by omega,.inr ⟨rfl,j+1,0,?_,by omega,by rw [hlen];omega,by omega,rfl,?_,.refl _ _,rfl,hf⟩⟩
     ·rw [hlen];rfl
     ·rw [hlen]
      show OwnE 46 2 Nm.cells A' _ (dd (l.take (j+1+1))++_) F
      rw [hs,hdd,List.take_append_drop]
      exact h
    ·have hqp:q≠p:=keqN_not.1 he
     have hs:=dd_other hp hq hqp
     simp only [bin_add,pureW_some]
     rw [wrap_i64 (by omega) (by omega)]
     refine cutW_self.2 ⟨1000000 - (j+1),by omega,.inl ⟨rfl,j+1,?_,by omega,?_,rfl,rfl⟩⟩
     ·simp
     ·rw [hs,hdd,List.take_add_one (i:=j+1),hq]
      rfl
   ·have hj':j+1=l.length:=by omega
    rw [hj',List.take_length] at hdd
    refine hk A' _ F ?_ (.refl _ _) rfl hf
    rw [hdd]
    exact hr
  ·generalize hD:dd (l.take (k+j+1))=D at ho hle hd
   rw [l46_2]
   simp only [L46,List.map_cons,List.map_nil,List.cons.injEq,and_true] at hd
   obtain ⟨d0,d3,d4,d5⟩:=hd
   have hr:=ho.rd fun _=>rfl
   have hlc:(D++l.drop D.length).length=l.length:=by simp;omega
   simp only [d0,d3,d4,d5,ln_28,bin_lss,pureW_some,forkW_dec]
   obtain ⟨g',cs',hrow⟩:∃ g' cs',A'.get b=some (.row cs' 46 g' 0 false):=by
    rcases ho with ⟨h1,_⟩ | ⟨b',g',h1,h3,_⟩
    ·cases h1
    ·simp only [Value.slice.injEq,Option.some.injEq,Addr.mk.injEq,and_true] at h1
     obtain ⟨rfl,_⟩:=h1
     exact ⟨g',_,h3.row⟩
   have hat:∀ (i:Nat) p,k+i < l.length→D.length≤k+i→l[k+i]? =some p→loadP Tryz.prog A' 46 (.pointer (some ⟨b,k * 3+i * 3,none⟩))=some (.agg ⟨p.cells⟩):=by
    intro i p hi hge hp
    have hc:(D++l.drop D.length)[k+i]? =some p:=by
     rw [List.getElem?_append_right hge,List.getElem?_drop]
     rw [show D.length+(k+i - D.length)=k+i by omega]
     exact hp
    obtain ⟨r1,o1,a1,_,a2⟩:=hr.at etN hc
    have e:=ia_elem etN (b:=b) (o:=0) (len:=l.length) (c:=capU+l.length) (i:=k+i) hi
    have a1:indexAddrA Tryz.prog 28 (.slice (some ⟨b,0,none⟩) l.length (capU+l.length)) (.int .i64 ((k+i:Nat):Int))=some (.pointer (some ⟨r1,o1,none⟩)):=a1
    rw [e] at a1
    simp only [Option.some.injEq,Value.pointer.injEq,Addr.mk.injEq,and_true] at a1
    obtain ⟨rfl,rfl⟩:=a1
    rw [show k * 3+i * 3=0+(k+i) * (2+1) by omega]
    exact a2
   refine ⟨fun hlt=>?_,fun hge=>?_⟩
   ·have hlt:k+(j+1) < l.length:=by omega
    obtain ⟨p,hp⟩:∃ p,l[k+j]? =some p:=⟨_,List.getElem?_eq_getElem (by omega)⟩
    obtain ⟨q,hq⟩:∃ q,l[k+(j+1)]? =some q:=⟨_,List.getElem?_eq_getElem hlt⟩
    have i1:=ia_elem etN (b:=b) (o:=k * 3) (len:=l.length - k) (c:=capU+(l.length - k)) (i:=j+1) (by omega)
    have i0:=ia_elem etN (b:=b) (o:=k * 3) (len:=l.length - k) (c:=capU+(l.length - k)) (i:=j) (by omega)
    simp only [i1,hat (j+1) q hlt (by omega) hq,bin_sub,pureW_some]
    rw [wrap_i64 (by omega) (by omega),show (((j+1:Nat):Int) - 1)=(j:Int) by omega]
    simp only [i0,hat j p (by omega) (by omega) hp,pureW_some,neqN,bin_add]
    refine forkW_bool.2 ⟨fun he=>?_,fun he=>?_⟩
    ·have hqp:q≠p:=keqN_not.1 (by simpa using he)
     have hs:=dd_other hp hq hqp
     have i3:=ia_elem etN (b:=b) (o:=0) (len:=l.length) (c:=capU+l.length) (i:=D.length) (by omega)
     simp only [i3,pureW_some,Nat.zero_add]
     rw [hD] at hs
     have hlc':l.length=(D++l.drop D.length).length:=hlc.symm
     have ho2:OwnE 46 2 Nm.cells A' (.slice (some ⟨b,0,none⟩) (D++l.drop D.length).length (capU+(D++l.drop D.length).length)) (D++l.drop D.length) F:=by rw [hlc];exact ho
     refine putE (n:=l.length) (i:=D.length) ho2 (by omega) f (by omega) hlc' fun A2 h2 k2 n2 f2=>?_
     rw [wrap_i64 (by omega) (by omega),wrap_i64 (by omega) (by omega)]
     have e1:dd (l.take (k+(j+1)+1))=D++[q]:=hs
     refine cutW_self.2 ⟨500000 - (j+1),by omega,.inr ⟨rfl,k,j+1,?_,by omega,?_,hk0,rfl,?_,kp.trans k2 (fun x hx=>.inl hx),by omega,f2⟩⟩
     ·rw [e1];simp
     ·rw [e1];simp;omega
     ·rw [e1]
      have:(D++l.drop D.length).take D.length++(q::(D++l.drop D.length).drop (D.length+1))=D++[q]++l.drop (D++[q]).length:=by
       rw [List.take_left',List.drop_append]
       ·simp
       ·rfl
      rw [this] at h2
      exact h2
    ·have hqp:q=p:=keqN_iff.1 (by simpa using he)
     have hs:=dd_same hp hq hqp
     rw [hD] at hs
     have e1:dd (l.take (k+(j+1)+1))=D:=hs
     rw [wrap_i64 (by omega) (by omega)]
     refine cutW_self.2 ⟨500000 - (j+1),by omega,.inr ⟨rfl,k,j+1,?_,by omega,?_,hk0,rfl,?_,kp,nx,f⟩⟩
     ·rw [e1];simp
     ·rw [e1];omega
     ·rw [e1];exact ho
   ·have hkj:k+j+1=l.length:=by omega
    rw [hkj,List.take_length] at hD
    simp only [slice_fromE etN hrow (i:=D.length) (m:=l.length) (by omega),pureW_some]
    have hcl:l.length - D.length=(l.drop D.length).length:=by simp
    rw [hcl]
    refine clearE (n:=l.length) ho (by simp;omega) f (by omega) (by simp;omega) fun A2 h2 k2 n2 f2=>?_
    have ht:=OwnE.to etN (A:=A2) (v:=.slice (some ⟨b,0,none⟩) l.length (capU+l.length)) (i:=D.length) h2 (by simp) (by kernel_rfl)
    obtain ⟨v',F',t1,t2,t3⟩:=ht
    simp only [t1,pureW_some]
    refine hk A2 v' F' ?_ (kp.trans k2 (fun x hx=>.inl hx)) (by omega) f2
    rw [List.take_left'] at t2
    ·rw [hD];exact t2
    ·rfl
 ·rw [e46]
  simp only [(h.rd fun _=>rfl).len etN,bin_lss,pureW_some,forkW_dec]
  refine ⟨fun hlt=>absurd hlt (by omega),fun _=>?_⟩
  obtain ⟨p,hp⟩:∃ p,l[0]? =some p:=⟨_,List.getElem?_eq_getElem (by omega)⟩
  exact cutW_self.2 ⟨1000000,.inl ⟨rfl,0,rfl,by omega,dd_one hp,by simp,rfl⟩⟩
end
structure LR (A:AW) (x:Value) (ss:List SV) (qs:Nat→List QV) (ms:Nat→Nat→List MV) (bs:Nat→List BV):Prop where
 l:∃ F,RdT 3 fS A x ss.length ss F
 l4:ss.length≤4
 q:∀ (i:Nat) s,ss[i]? =some s→∃ F,RdT 2 fQ A s.qs.val s.qs.len (qs i) F
 ql:∀ (i:Nat) s,ss[i]? =some s→(qs i).length=s.qs.len∧s.qs.len≤12
 m:∀ (i k:Nat) s q,ss[i]? =some s→(qs i)[k]? =some q→∃ F,RdT 10 fM A q.ms.val q.ms.len (ms i k) F
 ml:∀ (i k:Nat) s q,ss[i]? =some s→(qs i)[k]? =some q→(ms i k).length=q.ms.len∧q.ms.len≤40
 b:∀ (i:Nat) s,ss[i]? =some s→∃ F,RdT 4 fB A s.bs.val s.bs.len (bs i) F
 bl:∀ (i:Nat) s,ss[i]? =some s→(bs i).length=s.bs.len∧s.bs.len≤12
section
variable {A A':AW} {x:Value} {ss:List SV} {qs:Nat→List QV} {ms:Nat→Nat→List MV} {bs:Nat→List BV}
theorem LR.keeps (h:LR A x ss qs ms bs) (k:Keeps A A' []):LR A' x ss qs ms bs:=by
 obtain ⟨⟨F,h1⟩,h2,h3,h4,h5,h6,h7,h8⟩:=h
 exact ⟨⟨F,h1.keeps k (by simp)⟩,h2,fun i s hs=>(h3 i s hs).elim fun F h=>⟨F,h.keeps k (by simp)⟩,h4,fun i j s q hs hq=>(h5 i j s q hs hq).elim fun F h=>⟨F,h.keeps k (by simp)⟩,h6,fun i s hs=>(h7 i s hs).elim fun F h=>⟨F,h.keeps k (by simp)⟩,h8⟩
end
def cq (id:ByteArray) (l:List MV):Nat:=l.countP fun m=>m.pid.data.toList==id.data.toList
def sumQ (id:ByteArray) (ms:Nat→Nat→List MV) (i k:Nat):Nat:=((List.range k).map fun b=>cq id (ms i b)).sum
def sumS (id:ByteArray) (qs:Nat→List QV) (ms:Nat→Nat→List MV) (i:Nat):Nat:=((List.range i).map fun a=>sumQ id ms a (qs a).length).sum
theorem sumQ_succ (id:ByteArray) (ms:Nat→Nat→List MV) (i k:Nat):sumQ id ms i (k+1)=sumQ id ms i k+cq id (ms i k):=by
 unfold sumQ
 rw [List.range_succ,List.map_append,List.sum_append]
 simp
theorem sumS_succ (id:ByteArray) (qs:Nat→List QV) (ms:Nat→Nat→List MV) (i:Nat):sumS id qs ms (i+1)=sumS id qs ms i+sumQ id ms i (qs i).length:=by
 unfold sumS
 rw [List.range_succ,List.map_append,List.sum_append]
 simp
theorem cq_take {id:ByteArray} {l:List MV} {j:Nat} {m:MV} (h:l[j]? =some m):cq id (l.take (j+1))=cq id (l.take j)+if (m.pid.data.toList==id.data.toList)=true then 1 else 0:=by
 unfold cq
 rw [List.take_add_one,h,List.countP_append]
 congr 1
 simp [List.countP_cons]
theorem cq_all (id:ByteArray) (l:List MV) {j:Nat} (h:l.length≤j):cq id (l.take j)=cq id l:=by rw [List.take_of_length_le h]
theorem zero37:zeroT Tryz.prog 37=some (.agg ⟨[.int .u64 0,.slice none 0 0,.slice none 0 0,.slice none 0 0]⟩):=by kernel_rfl
theorem zero75:zeroT Tryz.prog 75=some (.agg ⟨[.string ⟨⟨[]⟩⟩,.int .u64 0,.slice none 0 0]⟩):=by kernel_rfl
theorem zero84:zeroT Tryz.prog 84=some (.agg ⟨[.int .u64 0,.string ⟨⟨[]⟩⟩,.bool false,.bool false,.string ⟨⟨[]⟩⟩,.int .u8 0,.int .u64 0,.string ⟨⟨[]⟩⟩,.slice none 0 0,.slice none 0 0,.string ⟨⟨[]⟩⟩]⟩):=by kernel_rfl
section
variable {W0:World} {m0:Inj Tryz.prog} {x:Value} {ss:List SV} {qs:Nat→List QV} {ms:Nat→Nat→List MV} {bs:Nat→List BV} {id:ByteArray}
theorem wc21 {A:AW} {K:Value→AW→Prop} (h:LR A x ss qs ms bs) (hf:Fine A) (hA:A.next+3000 < maxId) (hk:∀ A',Grow A A' 2500→K (.int .i64 (sumS id qs ms ss.length:Int)) A'):Wc Tryz.prog theX W0 m0 21 [x,.string id] A K:=by
 let I:Nat→Nat→List Value→AW→Prop:=fun g d vals A'=>
  (d=0∧∃ i:Nat,vals=[.string id,.int .i64 (sumS id qs ms i:Int),x,.int .i64 (ss.length:Int),.int .i64 (i:Int)]∧i≤ss.length∧sumS id qs ms i≤480 * i∧g=1000000 - i * 10000∧Grow A A' (500 * i))∨
  (d=2∧∃ (i k:Nat) (s:SV),vals=[.string id,.int .i64 ((sumS id qs ms i+sumQ id ms i k:Nat):Int),x,.int .i64 (ss.length:Int),.int .i64 (i:Int),s.qs.val,.int .i64 (s.qs.len:Int),.int .i64 (k:Int)]∧ss[i]? =some s∧k≤s.qs.len∧sumS id qs ms i+sumQ id ms i k≤480 * i+40 * k∧g=1000000 - i * 10000 - 1 - k * 100∧Grow A A' (500 * i+1+41 * k))∨
  (d=4∧∃ (i k j:Nat) (s:SV) (q:QV),vals=[.string id,.int .i64 ((sumS id qs ms i+sumQ id ms i k+cq id ((ms i k).take j):Nat):Int),x,.int .i64 (ss.length:Int),.int .i64 (i:Int),s.qs.val,.int .i64 (s.qs.len:Int),.int .i64 (k:Int),q.ms.val,.int .i64 (q.ms.len:Int),.int .i64 (j:Int)]∧ss[i]? =some s∧(qs i)[k]? =some q∧j≤q.ms.len∧sumS id qs ms i+sumQ id ms i k+cq id ((ms i k).take j)≤480 * i+40 * k+j∧g=1000000 - i * 10000 - 1 - k * 100 - 1 - j∧Grow A A' (500 * i+1+41 * k+1+j))
 have h4:=h.l4
 refine w21 _ _ _ (c21 (I:=I) fun g d' vals A' d hI hd=>?_) ?_
 ·rcases hI with ⟨rfl,i,rfl,hi,hb,rfl,hgr⟩ | ⟨rfl,i,k,s,rfl,hs,hk',hb,rfl,hgr⟩ | ⟨rfl,i,k,j,s,q,rfl,hs,hq,hj,hb,rfl,hgr⟩
  ·have h':=h.keeps hgr.keeps
   have hn:=hgr.next
   rw [l21_0]
   simp only [L21,List.map_cons,List.map_nil,List.cons.injEq,and_true] at hd
   obtain ⟨d1,d5,d12,d13,d14⟩:=hd
   simp only [d1,d5,d12,d13,d14,bin_lss,pureW_some,forkW_dec]
   refine ⟨fun hlt=>?_,fun hge=>?_⟩
   ·have hlt:i < ss.length:=by omega
    obtain ⟨s,hs⟩:∃ s,ss[i]? =some s:=⟨_,List.getElem?_eq_getElem hlt⟩
    obtain ⟨F,hl⟩:=h'.l
    obtain ⟨r,o,a1,a2,a3⟩:=hl.at etS' hs
    simp only [a1,pureW_some,a3]
    refine allocP_made zero37 hgr.fine (by omega) rfl fun A1 m1=>?_
    have n1:=m1.next
    refine m1.row1.store m1.fine (by omega) (st_37 _ _ _) rfl (by show 0+4≤4;omega) rfl fun A2 r2 k2 n2 f2=>?_
    have r2:Go.Abs.Row1 A2 A'.next [.int .u64 (s.next:Int),.slice s.qs.o s.qs.len s.qs.cap,.slice s.bs.o s.bs.len s.bs.cap,.slice s.hs.o s.hs.len s.hs.cap] 37:=r2
    have g2:Grow A' A2 1:=(Grow.made m1 hgr.fine).own k2 (by simp) (m:=0) (by omega) f2
    simp only [fa_37_1,ld_33,cell_row r2.row,cellOf,isT_slice,isT_int,cond_false,pureW_some,ln_33,Nat.zero_add]
    exact cutW_self.2 ⟨1000000 - i * 10000 - 1 - 0 * 100,by omega,.inr (.inl ⟨rfl,i,0,s,by simp [sumQ,SL.val],hs,Nat.zero_le _,by simpa [sumQ] using hb,rfl,(hgr.trans g2).more (by omega)⟩)⟩
   ·have hi':i=ss.length:=by omega
    subst hi'
    exact hk _ (hgr.more (by omega))
  ·have h':=h.keeps hgr.keeps
   have hn:=hgr.next
   have hql:=h.ql i s hs
   have hil:=(List.getElem?_eq_some_iff.1 hs).1
   rw [l21_2]
   simp only [L21,List.map_cons,List.map_nil,List.cons.injEq,and_true] at hd
   obtain ⟨d1,d5,d12,d13,d14,d19,d20,d21⟩:=hd
   simp only [d1,d5,d12,d13,d14,d19,d20,d21,bin_lss,pureW_some,forkW_dec]
   refine ⟨fun hlt=>?_,fun hge=>?_⟩
   ·have hlt:k < s.qs.len:=by omega
    obtain ⟨q,hq⟩:∃ q,(qs i)[k]? =some q:=⟨_,List.getElem?_eq_getElem (by omega)⟩
    obtain ⟨F,hqr⟩:=h'.q i s hs
    obtain ⟨r,o,a1,a2,a3⟩:=hqr.at etQ hq
    simp only [a1,pureW_some,a3]
    refine allocP_made zero75 hgr.fine (by omega) rfl fun A1 m1=>?_
    have n1:=m1.next
    refine m1.row1.store m1.fine (by omega) (st_75 _ _ _) rfl (by show 0+3≤3;omega) rfl fun A2 r2 k2 n2 f2=>?_
    have r2:Go.Abs.Row1 A2 A'.next [.string q.name,.int .u64 (q.limit:Int),.slice q.ms.o q.ms.len q.ms.cap] 75:=r2
    have g2:Grow A' A2 1:=(Grow.made m1 hgr.fine).own k2 (by simp) (m:=0) (by omega) f2
    simp only [fa_75_2,ld_73,cell_row r2.row,cellOf,isT_slice,isT_int,isT_string,cond_false,pureW_some,ln_73,Nat.zero_add]
    exact cutW_self.2 ⟨1000000 - i * 10000 - 1 - k * 100 - 1 - 0,by omega,.inr (.inr ⟨rfl,i,k,0,s,q,by simp [cq,SL.val],hs,hq,Nat.zero_le _,by simpa [cq] using hb,rfl,(hgr.trans g2).more (by omega)⟩)⟩
   ·have hk2:k=(qs i).length:=by omega
    subst hk2
    simp only [bin_add,pureW_some]
    rw [wrap_i64 (by omega) (by omega)]
    refine cutW_self.2 ⟨1000000 - (i+1) * 10000,by omega,.inl ⟨rfl,i+1,?_,by omega,?_,rfl,hgr.more (by omega)⟩⟩
    ·rw [sumS_succ];rfl
    ·rw [sumS_succ];omega
  ·have h':=h.keeps hgr.keeps
   have hn:=hgr.next
   have hql:=h.ql i s hs
   have hil:=(List.getElem?_eq_some_iff.1 hs).1
   have hkl:=(List.getElem?_eq_some_iff.1 hq).1
   have hml:=h.ml i k s q hs hq
   rw [l21_4]
   simp only [L21,List.map_cons,List.map_nil,List.cons.injEq,and_true] at hd
   obtain ⟨d1,d5,d12,d13,d14,d19,d20,d21,d26,d27,d28⟩:=hd
   simp only [d1,d5,d12,d13,d14,d19,d20,d21,d26,d27,d28,bin_lss,pureW_some,forkW_dec]
   refine ⟨fun hlt=>?_,fun hge=>?_⟩
   ·have hlt:j < q.ms.len:=by omega
    obtain ⟨y,hy⟩:∃ y,(ms i k)[j]? =some y:=⟨_,List.getElem?_eq_getElem (by omega)⟩
    obtain ⟨F,hmr⟩:=h'.m i k s q hs hq
    obtain ⟨r,o,a1,a2,a3⟩:=hmr.at etM hy
    simp only [a1,pureW_some,a3]
    refine allocP_made zero84 hgr.fine (by omega) rfl fun A1 m1=>?_
    have n1:=m1.next
    refine m1.row1.store m1.fine (by omega) (st_84 _ _ _) rfl (by show 0+11≤11;omega) rfl fun A2 r2 k2 n2 f2=>?_
    have r2:Go.Abs.Row1 A2 A'.next [.int .u64 (y.id:Int),.string y.key,.bool y.dur,.bool y.red,.string y.pid,.int .u8 (y.app.kind:Int),.int .u64 (y.app.n:Int),.string y.app.s,.slice y.app.ko y.app.kl y.app.kc,.slice y.app.lo y.app.ll y.app.lc,.string y.body] 84:=r2
    have g2:Grow A' A2 1:=(Grow.made m1 hgr.fine).own k2 (by simp) (m:=0) (by omega) f2
    have hct:=cq_take (id:=id) hy
    simp only [fa_84_1,fa_82_3,ld_9,cell_row r2.row,cellOf,isT_slice,isT_int,isT_string,isT_bool,cond_false,pureW_some,bin_streq,Nat.zero_add,bin_add]
    refine forkW_bool.2 ⟨fun he=>?_,fun he=>?_⟩
    ·rw [if_pos he] at hct
     rw [wrap_i64 (n:=((sumS id qs ms i+sumQ id ms i k+cq id ((ms i k).take j):Nat):Int)+1) (by omega) (by omega),wrap_i64 (by omega) (by omega)]
     refine cutW_self.2 ⟨1000000 - i * 10000 - 1 - k * 100 - 1 - (j+1),by omega,.inr (.inr ⟨rfl,i,k,j+1,s,q,?_,hs,hq,by omega,by omega,rfl,(hgr.trans g2).more (by omega)⟩)⟩
     rw [hct]
     rfl
    ·rw [if_neg (by rw [he];simp)] at hct
     rw [wrap_i64 (by omega) (by omega)]
     refine cutW_self.2 ⟨1000000 - i * 10000 - 1 - k * 100 - 1 - (j+1),by omega,.inr (.inr ⟨rfl,i,k,j+1,s,q,?_,hs,hq,by omega,by omega,rfl,(hgr.trans g2).more (by omega)⟩)⟩
     rw [hct]
     rfl
   ·simp only [bin_add,pureW_some]
    rw [wrap_i64 (by omega) (by omega)]
    have hca:=cq_all id (ms i k) (j:=j) (by omega)
    rw [hca] at hb
    refine cutW_self.2 ⟨1000000 - i * 10000 - 1 - (k+1) * 100,by omega,.inr (.inl ⟨rfl,i,k+1,s,?_,hs,by omega,?_,rfl,hgr.more (by omega)⟩)⟩
    ·rw [sumQ_succ,hca,Nat.add_assoc];rfl
    ·rw [sumQ_succ];omega
 ·rw [e21]
  obtain ⟨F,hl⟩:=h.l
  simp only [hl.len etS',pureW_some]
  exact cutW_self.2 ⟨1000000 - 0 * 10000,.inl ⟨rfl,0,by simp [sumS],by omega,by simp [sumS],rfl,(Grow.refl hf).more (by omega)⟩⟩
theorem wc22 {A:AW} {K:Value→AW→Prop} (h:LR A x ss qs ms bs) (hk:K (.int .i64 (sumS id qs ms ss.length:Int)) A):Wc Tryz.prog theX W0 m0 22 [x,.string id] A K:=by
 let I:Nat→Nat→List Value→AW→Prop:=fun g d vals A'=>A'=A∧
  ((d=0∧∃ i:Nat,vals=[x,.string id,.int .i64 (sumS id qs ms i:Int),.int .i64 (i:Int)]∧i≤ss.length∧sumS id qs ms i≤480 * i∧g=1000000 - i * 10000)∨
  (d=2∧∃ (i k:Nat) (s:SV),vals=[x,.string id,.int .i64 ((sumS id qs ms i+sumQ id ms i k:Nat):Int),.int .i64 (i:Int),.int .i64 (k:Int)]∧ss[i]? =some s∧k≤s.qs.len∧sumS id qs ms i+sumQ id ms i k≤480 * i+40 * k∧g=1000000 - i * 10000 - 1 - k * 100)∨
  (d=4∧∃ (i k j:Nat) (s:SV) (q:QV),vals=[x,.string id,.int .i64 ((sumS id qs ms i+sumQ id ms i k+cq id ((ms i k).take j):Nat):Int),.int .i64 (i:Int),.int .i64 (k:Int),.int .i64 (j:Int)]∧ss[i]? =some s∧(qs i)[k]? =some q∧j≤q.ms.len∧sumS id qs ms i+sumQ id ms i k+cq id ((ms i k).take j)≤480 * i+40 * k+j∧g=1000000 - i * 10000 - 1 - k * 100 - 1 - j))
 have h4:=h.l4
 obtain ⟨F0,hl⟩:=h.l
 refine w22 _ _ _ (c22 (I:=I) fun g d' vals A' d hI hd=>?_) ?_
 ·obtain ⟨rfl,hI⟩:=hI
  rcases hI with ⟨rfl,i,rfl,hi,hb,rfl⟩ | ⟨rfl,i,k,s,rfl,hs,hk',hb,rfl⟩ | ⟨rfl,i,k,j,s,q,rfl,hs,hq,hj,hb,rfl⟩
  ·rw [l22_0]
   simp only [L22,List.map_cons,List.map_nil,List.cons.injEq,and_true] at hd
   obtain ⟨d0,d1,d5,d6⟩:=hd
   simp only [d0,d1,d5,d6,hl.len etS',bin_lss,pureW_some,forkW_dec]
   refine ⟨fun hlt=>?_,fun hge=>?_⟩
   ·have hlt:i < ss.length:=by omega
    obtain ⟨s,hs⟩:∃ s,ss[i]? =some s:=⟨_,List.getElem?_eq_getElem hlt⟩
    exact cutW_self.2 ⟨1000000 - i * 10000 - 1 - 0 * 100,by omega,rfl,.inr (.inl ⟨rfl,i,0,s,by simp [sumQ],hs,Nat.zero_le _,by simpa [sumQ] using hb,rfl⟩)⟩
   ·have hi':i=ss.length:=by omega
    subst hi'
    exact hk
  ·have hql:=h.ql i s hs
   have hil:=(List.getElem?_eq_some_iff.1 hs).1
   obtain ⟨r,o,a1,a2,a3⟩:=hl.at etS' hs
   have c1:A'.cell? ⟨r,o+1,none⟩=some (.slice s.qs.o s.qs.len s.qs.cap):=cell_of a2 (k:=1) rfl
   rw [l22_2]
   simp only [L22,List.map_cons,List.map_nil,List.cons.injEq,and_true] at hd
   obtain ⟨d0,d1,d5,d6,d7⟩:=hd
   simp only [d0,d1,d5,d6,d7,a1,pureW_some,fa_37_1,ld_33,c1,ln_33,bin_lss,forkW_dec]
   refine ⟨fun hlt=>?_,fun hge=>?_⟩
   ·have hlt:k < s.qs.len:=by omega
    obtain ⟨q,hq⟩:∃ q,(qs i)[k]? =some q:=⟨_,List.getElem?_eq_getElem (by omega)⟩
    exact cutW_self.2 ⟨1000000 - i * 10000 - 1 - k * 100 - 1 - 0,by omega,rfl,.inr (.inr ⟨rfl,i,k,0,s,q,by simp [cq],hs,hq,Nat.zero_le _,by simpa [cq] using hb,rfl⟩)⟩
   ·have hk2:k=(qs i).length:=by omega
    subst hk2
    simp only [bin_add,pureW_some]
    rw [wrap_i64 (by omega) (by omega)]
    refine cutW_self.2 ⟨1000000 - (i+1) * 10000,by omega,rfl,.inl ⟨rfl,i+1,?_,by omega,?_,rfl⟩⟩
    ·rw [sumS_succ];rfl
    ·rw [sumS_succ];omega
  ·have hql:=h.ql i s hs
   have hil:=(List.getElem?_eq_some_iff.1 hs).1
   have hkl:=(List.getElem?_eq_some_iff.1 hq).1
   have hml:=h.ml i k s q hs hq
   obtain ⟨r,o,a1,a2,a3⟩:=hl.at etS' hs
   have c1:A'.cell? ⟨r,o+1,none⟩=some (.slice s.qs.o s.qs.len s.qs.cap):=cell_of a2 (k:=1) rfl
   obtain ⟨F,hqr⟩:=h.q i s hs
   obtain ⟨r2,o2,b1,b2,b3⟩:=hqr.at etQ hq
   have b1:indexAddrA Tryz.prog 33 (.slice s.qs.o s.qs.len s.qs.cap) (.int .i64 (k:Int))=some (.pointer (some ⟨r2,o2,none⟩)):=b1
   have c2:A'.cell? ⟨r2,o2+2,none⟩=some (.slice q.ms.o q.ms.len q.ms.cap):=cell_of b2 (k:=2) rfl
   rw [l22_4]
   simp only [L22,List.map_cons,List.map_nil,List.cons.injEq,and_true] at hd
   obtain ⟨d0,d1,d5,d6,d7,d8⟩:=hd
   simp only [d0,d1,d5,d6,d7,d8,a1,pureW_some,fa_37_1,ld_33,c1,b1,fa_75_2,ld_73,c2,ln_73,bin_lss,forkW_dec]
   refine ⟨fun hlt=>?_,fun hge=>?_⟩
   ·have hlt:j < q.ms.len:=by omega
    obtain ⟨y,hy⟩:∃ y,(ms i k)[j]? =some y:=⟨_,List.getElem?_eq_getElem (by omega)⟩
    obtain ⟨F3,hmr⟩:=h.m i k s q hs hq
    obtain ⟨r3,o3,e1,e2,e3⟩:=hmr.at etM hy
    have e1:indexAddrA Tryz.prog 73 (.slice q.ms.o q.ms.len q.ms.cap) (.int .i64 (j:Int))=some (.pointer (some ⟨r3,o3,none⟩)):=e1
    have c4:A'.cell? ⟨r3,o3+1+3,none⟩=some (.string y.pid):=cell_of e2 (k:=4) rfl
    have hct:=cq_take (id:=id) hy
    simp only [e1,pureW_some,fa_84_1,fa_82_3,ld_9,c4,bin_streq,bin_add]
    refine forkW_bool.2 ⟨fun he=>?_,fun he=>?_⟩
    ·rw [if_pos he] at hct
     rw [wrap_i64 (n:=((sumS id qs ms i+sumQ id ms i k+cq id ((ms i k).take j):Nat):Int)+1) (by omega) (by omega),wrap_i64 (by omega) (by omega)]
     refine cutW_self.2 ⟨1000000 - i * 10000 - 1 - k * 100 - 1 - (j+1),by omega,rfl,.inr (.inr ⟨rfl,i,k,j+1,s,q,?_,hs,hq,by omega,by omega,rfl⟩)⟩
     rw [hct]
     rfl
    ·rw [if_neg (by rw [he];simp)] at hct
     rw [wrap_i64 (by omega) (by omega)]
     refine cutW_self.2 ⟨1000000 - i * 10000 - 1 - k * 100 - 1 - (j+1),by omega,rfl,.inr (.inr ⟨rfl,i,k,j+1,s,q,?_,hs,hq,by omega,by omega,rfl⟩)⟩
     rw [hct]
     rfl
   ·simp only [bin_add,pureW_some]
    rw [wrap_i64 (by omega) (by omega)]
    have hca:=cq_all id (ms i k) (j:=j) (by omega)
    rw [hca] at hb
    refine cutW_self.2 ⟨1000000 - i * 10000 - 1 - (k+1) * 100,by omega,rfl,.inr (.inl ⟨rfl,i,k+1,s,?_,hs,by omega,?_,rfl⟩)⟩
    ·rw [sumQ_succ,hca,Nat.add_assoc];rfl
    ·rw [sumQ_succ];omega
 ·rw [e22]
  exact cutW_self.2 ⟨1000000 - 0 * 10000,rfl,.inl ⟨rfl,0,by simp [sumS],by omega,by simp [sumS],rfl⟩⟩
end
def gB (bs:Nat→List BV) (i k:Nat):List Nm:=((bs i).take k).map fun b=>gl b.x
def gS (bs:Nat→List BV) (i:Nat):List Nm:=(List.range i).flatMap fun a=>(bs a).map fun b=>gl b.x
theorem gB_succ {bs:Nat→List BV} {i k:Nat} {b:BV} (h:(bs i)[k]? =some b):gB bs i (k+1)=gB bs i k++[gl b.x]:=by
 unfold gB
 rw [List.take_add_one,h]
 simp
theorem gS_succ {bs:Nat→List BV} {i k:Nat} (h:(bs i).length≤k):gS bs (i+1)=gS bs i++gB bs i k:=by
 unfold gS gB
 rw [List.range_succ,List.flatMap_append,List.take_of_length_le h]
 simp
theorem gB_zero (bs:Nat→List BV) (i:Nat):gB bs i 0=[]:=rfl
theorem gB_len (bs:Nat→List BV) (i k:Nat):(gB bs i k).length≤k:=by
 unfold gB
 rw [List.length_map,List.length_take]
 omega
theorem gB_mem {bs:Nat→List BV} {i k:Nat} {q:Nm} (h:q∈gB bs i k):∃ b∈bs i,q=gl b.x:=by
 unfold gB at h
 obtain ⟨b,hb,rfl⟩:=List.mem_map.1 h
 exact ⟨b,List.mem_of_mem_take hb,rfl⟩
theorem gS_mem {bs:Nat→List BV} {i:Nat} {q:Nm} (h:q∈gS bs i):∃ a,a < i∧∃ b∈bs a,q=gl b.x:=by
 unfold gS at h
 obtain ⟨a,ha,h⟩:=List.mem_flatMap.1 h
 obtain ⟨b,hb,rfl⟩:=List.mem_map.1 h
 exact ⟨a,List.mem_range.1 ha,b,hb,rfl⟩
def BT' (bs:Nat→List BV) (n:Nat):Prop:=∀ i,i < n→∀ b∈bs i,slen b.x.g < 9223372036854775808
theorem gl_small {p:Nm} (h:slen p.g < 9223372036854775808):slen (gl p).g < 9223372036854775808∧slen (gl p).b < 9223372036854775808:=⟨h,by show 0 < _;omega⟩
theorem zero89:zeroT Tryz.prog 89=some (.agg ⟨[.int .u32 0,.string ⟨⟨[]⟩⟩,.string ⟨⟨[]⟩⟩,.slice none 0 0,.slice none 0 0]⟩):=by kernel_rfl
section
variable {W0:World} {m0:Inj Tryz.prog} {x:Value} {ss:List SV} {qs:Nat→List QV} {ms:Nat→Nat→List MV} {bs:Nat→List BV}
theorem wc19 {A:AW} {K:Value→AW→Prop} (h:LR A x ss qs ms bs) (hf:Fine A) (hA:A.next+3000 < maxId) (hk:∀ A' v' F',RdE 2 Nm.cells A' v' (dd (srt (gS bs ss.length))) F'→Grow A A' 2500→K v' A'):Wc Tryz.prog theX W0 m0 19 [x] A K:=by
 let I:Nat→Nat→List Value→AW→Prop:=fun g d vals A'=>
  (d=0∧∃ (i:Nat) (sv:Value) (F:List Nat),vals=[sv,x,.int .i64 (ss.length:Int),.int .i64 (i:Int)]∧i≤ss.length∧OwnE 46 2 Nm.cells A' sv (gS bs i) F∧(∀ y∈F,A.next≤y)∧(gS bs i).length≤12 * i∧g=1000000 - i * 10000∧Grow A A' (200 * i))∨
  (d=2∧∃ (i k:Nat) (s:SV) (sv:Value) (F:List Nat),vals=[sv,x,.int .i64 (ss.length:Int),.int .i64 (i:Int),s.bs.val,.int .i64 (s.bs.len:Int),.int .i64 (k:Int)]∧ss[i]? =some s∧k≤s.bs.len∧OwnE 46 2 Nm.cells A' sv (gS bs i++gB bs i k) F∧(∀ y∈F,A.next≤y)∧(gS bs i).length≤12 * i∧g=1000000 - i * 10000 - 1 - k * 100∧Grow A A' (200 * i+1+5 * k))
 have h4:=h.l4
 refine w19 _ _ (c19 (I:=I) fun g d' vals A' d hI hd=>?_) ?_
 ·rcases hI with ⟨rfl,i,sv,F,rfl,hi,ho,hF,hlen,rfl,hgr⟩ | ⟨rfl,i,k,s,sv,F,rfl,hs,hk',ho,hF,hlen,rfl,hgr⟩
  ·have h':=h.keeps hgr.keeps
   have hn:=hgr.next
   have hnl:=hgr.le
   rw [l19_0]
   simp only [L19,List.map_cons,List.map_nil,List.cons.injEq,and_true] at hd
   obtain ⟨d3,d8,d9,d10⟩:=hd
   simp only [d3,d8,d9,d10,bin_lss,pureW_some,forkW_dec]
   refine ⟨fun hlt=>?_,fun hge=>?_⟩
   ·have hlt:i < ss.length:=by omega
    obtain ⟨s,hs⟩:∃ s,ss[i]? =some s:=⟨_,List.getElem?_eq_getElem hlt⟩
    obtain ⟨F1,hl⟩:=h'.l
    obtain ⟨r,o,a1,a2,a3⟩:=hl.at etS' hs
    simp only [a1,pureW_some,a3]
    refine allocP_made zero37 hgr.fine (by omega) rfl fun A1 m1=>?_
    have n1:=m1.next
    refine m1.row1.store m1.fine (by omega) (st_37 _ _ _) rfl (by show 0+4≤4;omega) rfl fun A2 r2 k2 n2 f2=>?_
    have r2:Go.Abs.Row1 A2 A'.next [.int .u64 (s.next:Int),.slice s.qs.o s.qs.len s.qs.cap,.slice s.bs.o s.bs.len s.bs.cap,.slice s.hs.o s.hs.len s.hs.cap] 37:=r2
    have g2:Grow A' A2 1:=(Grow.made m1 hgr.fine).own k2 (by simp) (m:=0) (by omega) f2
    simp only [fa_37_2,ld_34,cell_row r2.row,cellOf,isT_slice,isT_int,cond_false,pureW_some,ln_34,Nat.zero_add]
    refine cutW_self.2 ⟨1000000 - i * 10000 - 1 - 0 * 100,by omega,.inr ⟨rfl,i,0,s,sv,F,rfl,hs,Nat.zero_le _,?_,hF,hlen,rfl,(hgr.trans g2).more (by omega)⟩⟩
    rw [gB_zero,List.append_nil]
    exact ho.keeps g2.keeps (by simp)
   ·have hi':i=ss.length:=by omega
    subst hi'
    have one:=ho.one
    have hcl:sv.cells.toList=[sv]:=by
     rcases ho with ⟨rfl,_⟩ | ⟨_,_,rfl,_⟩ <;> rfl
    refine wc47 one.1 hcl hgr.fine (by omega) fun A1 m1=>?_
    have n1:=m1.next
    have k1:=m1.keeps hgr.fine
    refine wc25v m1.row1 (ho.keeps k1 (by simp)) m1.fine (by omega) (by omega) fun A2 sv2 F2 ho2 hF2 k2 n2 f2=>?_
    have hsl:(srt (gS bs ss.length)).length=(gS bs ss.length).length:=(List.mergeSort_perm _ _).length_eq
    refine wc46 ho2 (by omega) f2 (by have:=ho2.lt;omega) fun A3 v3 F3 hr3 k3 n3 f3=>?_
    have g1:=hgr.trans (Grow.made m1 hgr.fine)
    have gg:=(g1.own k2 (by simp) (m:=20+6 * (gS bs ss.length).length) (by omega) f2).own k3 (fun y hy=>by have:=hF2 y hy;omega) (m:=0) (by omega) f3
    exact hk A3 v3 F3 hr3 (gg.more (by omega))
  ·have h':=h.keeps hgr.keeps
   have hn:=hgr.next
   have hnl:=hgr.le
   have hbl:=h.bl i s hs
   have hil:=(List.getElem?_eq_some_iff.1 hs).1
   rw [l19_2]
   simp only [L19,List.map_cons,List.map_nil,List.cons.injEq,and_true] at hd
   obtain ⟨d3,d8,d9,d10,d15,d16,d17⟩:=hd
   simp only [d3,d8,d9,d10,d15,d16,d17,bin_lss,pureW_some,forkW_dec]
   refine ⟨fun hlt=>?_,fun hge=>?_⟩
   ·have hlt:k < s.bs.len:=by omega
    obtain ⟨b,hb⟩:∃ b,(bs i)[k]? =some b:=⟨_,List.getElem?_eq_getElem (by omega)⟩
    obtain ⟨F1,hbr⟩:=h'.b i s hs
    obtain ⟨r,o,a1,a2,a3⟩:=hbr.at etB hb
    simp only [a1,pureW_some,a3]
    refine allocP_made zero89 hgr.fine (by omega) rfl fun A1 m1=>?_
    have n1:=m1.next
    refine m1.row1.store m1.fine (by omega) (st_89 _ _ _) rfl (by show 0+5≤5;omega) rfl fun A2 r2 k2 n2 f2=>?_
    have r2:Go.Abs.Row1 A2 A'.next [.int .u32 (b.x.f:Int),.string b.x.g,.string b.x.b,.slice b.ps.o b.ps.len b.ps.cap,.slice b.ts.o b.ts.len b.ts.cap] 89:=r2
    have g2:Grow A' A2 1:=(Grow.made m1 hgr.fine).own k2 (by simp) (m:=0) (by omega) f2
    have hc:A2.cells? ⟨A'.next,0,none⟩ 3=some b.x.cells:=by rw [cells_row r2.row];rfl
    simp only [fa_89_0,ld_46',hc,pureW_some]
    refine wc23 g2.fine (by have:=g2.next;omega) fun A3 g3=>?_
    have g23:=(hgr.trans g2).trans g3
    have n3:=g23.next
    have l3:=g23.le
    refine newNm1 g3.fine (by omega) fun A4 m4=>?_
    have n4:=m4.next
    have k4:=m4.keeps g3.fine
    have gbl:=gB_len bs i k
    refine OwnE.append etN (((ho.keeps g2.keeps (by simp)).keeps g3.keeps (by simp)).keeps k4 (by simp)) m4.row1 m4.fine (by omega) (by rw [List.length_append];omega) fun sv5 A5 F5 ho5 k5 hF5 n5 f5=>?_
    simp only [bin_add,pureW_some]
    rw [wrap_i64 (by omega) (by omega)]
    refine cutW_self.2 ⟨1000000 - i * 10000 - 1 - (k+1) * 100,by omega,.inr ⟨rfl,i,k+1,s,sv5,F5,rfl,hs,by omega,?_,?_,hlen,rfl,?_⟩⟩
    ·rw [gB_succ hb,← List.append_assoc];exact ho5
    ·intro y hy
     rcases hF5 y hy with h | h
     ·exact hF y h
     ·omega
    ·exact ((g23.trans (Grow.made m4 g3.fine)).own k5 (fun y hy=>hF y hy) (m:=1) (by omega) f5).more (by omega)
   ·have hk2:(bs i).length≤k:=by omega
    simp only [bin_add,pureW_some]
    rw [wrap_i64 (by omega) (by omega)]
    rw [← gS_succ hk2] at ho
    refine cutW_self.2 ⟨1000000 - (i+1) * 10000,by omega,.inl ⟨rfl,i+1,sv,F,rfl,by omega,ho,hF,?_,rfl,hgr.more (by omega)⟩⟩
    rw [gS_succ hk2,List.length_append]
    have gbl:=gB_len bs i k
    omega
 ·rw [e19]
  obtain ⟨F,hl⟩:=h.l
  simp only [hl.len etS',pureW_some]
  exact cutW_self.2 ⟨1000000 - 0 * 10000,.inl ⟨rfl,0,_,[],rfl,by omega,.nil _,by simp,by simp [gS],rfl,(Grow.refl hf).more (by omega)⟩⟩
theorem wc20 {A:AW} {K:Value→AW→Prop} (h:LR A x ss qs ms bs) (ht:BT' bs ss.length) (hf:Fine A) (hA:A.next+10000 < maxId) (hk:∀ A' v' F',OwnE 46 2 Nm.cells A' v' ((gS bs ss.length).foldl addN []) F'→Grow A A' 8000→K v' A'):Wc Tryz.prog theX W0 m0 20 [x] A K:=by
 let I:Nat→Nat→List Value→AW→Prop:=fun g d vals A'=>
  (d=0∧∃ (i:Nat) (sv:Value) (F:List Nat),vals=[x,sv,.int .i64 (i:Int)]∧i≤ss.length∧OwnE 46 2 Nm.cells A' sv ((gS bs i).foldl addN []) F∧(∀ y∈F,A.next≤y)∧(gS bs i).length≤12 * i∧g=1000000 - i * 10000∧Grow A A' (1400 * i))∨
  (d=2∧∃ (i k:Nat) (s:SV) (sv:Value) (F:List Nat),vals=[x,sv,.int .i64 (i:Int),.int .i64 (k:Int)]∧ss[i]? =some s∧k≤s.bs.len∧OwnE 46 2 Nm.cells A' sv ((gS bs i++gB bs i k).foldl addN []) F∧(∀ y∈F,A.next≤y)∧(gS bs i).length≤12 * i∧g=1000000 - i * 10000 - 1 - k * 100∧Grow A A' (1400 * i+116 * k))
 have h4:=h.l4
 refine w20 _ _ (c20 (I:=I) fun g d' vals A' d hI hd=>?_) ?_
 ·rcases hI with ⟨rfl,i,sv,F,rfl,hi,ho,hF,hlen,rfl,hgr⟩ | ⟨rfl,i,k,s,sv,F,rfl,hs,hk',ho,hF,hlen,rfl,hgr⟩
  ·have h':=h.keeps hgr.keeps
   obtain ⟨F1,hl⟩:=h'.l
   rw [l20_0]
   simp only [L20,List.map_cons,List.map_nil,List.cons.injEq,and_true] at hd
   obtain ⟨d0,d3,d4⟩:=hd
   simp only [d0,d3,d4,hl.len etS',bin_lss,pureW_some,forkW_dec]
   refine ⟨fun hlt=>?_,fun hge=>?_⟩
   ·have hlt:i < ss.length:=by omega
    obtain ⟨s,hs⟩:∃ s,ss[i]? =some s:=⟨_,List.getElem?_eq_getElem hlt⟩
    refine cutW_self.2 ⟨1000000 - i * 10000 - 1 - 0 * 100,by omega,.inr ⟨rfl,i,0,s,sv,F,rfl,hs,Nat.zero_le _,?_,hF,hlen,rfl,hgr.more (by omega)⟩⟩
    rw [gB_zero,List.append_nil]
    exact ho
   ·have hi':i=ss.length:=by omega
    subst hi'
    exact hk A' sv F ho (hgr.more (by omega))
  ·have h':=h.keeps hgr.keeps
   have hn:=hgr.next
   have hnl:=hgr.le
   have hbl:=h.bl i s hs
   have hil:=(List.getElem?_eq_some_iff.1 hs).1
   obtain ⟨F1,hl⟩:=h'.l
   obtain ⟨r,o,a1,a2,a3⟩:=hl.at etS' hs
   have c2:A'.cell? ⟨r,o+2,none⟩=some (.slice s.bs.o s.bs.len s.bs.cap):=cell_of a2 (k:=2) rfl
   rw [l20_2]
   simp only [L20,List.map_cons,List.map_nil,List.cons.injEq,and_true] at hd
   obtain ⟨d0,d3,d4,d5⟩:=hd
   simp only [d0,d3,d4,d5,a1,pureW_some,fa_37_2,ld_34,c2,ln_34,bin_lss,forkW_dec]
   refine ⟨fun hlt=>?_,fun hge=>?_⟩
   ·have hlt:k < s.bs.len:=by omega
    obtain ⟨b,hb⟩:∃ b,(bs i)[k]? =some b:=⟨_,List.getElem?_eq_getElem (by omega)⟩
    obtain ⟨F2,hbr⟩:=h'.b i s hs
    obtain ⟨r2,o2,b1,b2,b3⟩:=hbr.at etB hb
    have b1:indexAddrA Tryz.prog 34 (.slice s.bs.o s.bs.len s.bs.cap) (.int .i64 (k:Int))=some (.pointer (some ⟨r2,o2,none⟩)):=b1
    have hc:A'.cells? ⟨r2,o2,none⟩ 3=some b.x.cells:=cells_part b2 (k:=0) (m:=2) (by omega) rfl
    simp only [b1,pureW_some,fa_89_0,ld_46',hc]
    refine wc29 hgr.fine (by omega) fun A3 g3=>?_
    have g23:=hgr.trans g3
    have n3:=g23.next
    have gbl:=gB_len bs i k
    have hfl:=adds_len (gS bs i++gB bs i k) []
    have hfm:=(adds_asc (gS bs i++gB bs i k) [] .nil).2
    simp only [List.length_append,List.length_nil] at hfl
    refine wc28 (ho.keeps g3.keeps (by simp)) (by omega) (fun q hq=>?_) g3.fine (by omega) fun A5 sv5 F5 ho5 hF5 g5=>?_
    ·rcases (hfm q).1 hq with h | h
     ·cases h
     ·rcases List.mem_append.1 h with h | h
      ·obtain ⟨a,ha,b,hb,rfl⟩:=gS_mem h
       exact gl_small (ht a (by omega) b hb)
      ·obtain ⟨b,hb,rfl⟩:=gB_mem h
       exact gl_small (ht i hil b hb)
    simp only [bin_add,pureW_some]
    rw [wrap_i64 (by omega) (by omega)]
    have nl3:=g23.le
    refine cutW_self.2 ⟨1000000 - i * 10000 - 1 - (k+1) * 100,by omega,.inr ⟨rfl,i,k+1,s,sv5,F5,rfl,hs,by omega,?_,?_,hlen,rfl,?_⟩⟩
    ·rw [gB_succ hb,← List.append_assoc,List.foldl_append];exact ho5
    ·intro y hy
     rcases hF5 y hy with h | h
     ·exact hF y h
     ·omega
    ·exact (g23.trans g5).more (by omega)
   ·have hk2:(bs i).length≤k:=by omega
    simp only [bin_add,pureW_some]
    rw [wrap_i64 (by omega) (by omega)]
    rw [← gS_succ hk2] at ho
    refine cutW_self.2 ⟨1000000 - (i+1) * 10000,by omega,.inl ⟨rfl,i+1,sv,F,rfl,by omega,ho,hF,?_,rfl,hgr.more (by omega)⟩⟩
    rw [gS_succ hk2,List.length_append]
    have gbl:=gB_len bs i k
    omega
 ·rw [e20]
  exact cutW_self.2 ⟨1000000 - 0 * 10000,.inl ⟨rfl,0,_,[],rfl,by omega,.nil _,by simp,by simp [gS],rfl,(Grow.refl hf).more (by omega)⟩⟩
end
end Go.Proofs.YtdpdajpiadohjaaGreatDoor
namespace Go.Proofs.YtdpdajpiadohjaaGreatDoor
open Go Go.Abs Go.ChangeShapes Go.WideShapes Go.ChangeAt Go.RowKit Go.Joins Go.Deep
theorem pick {α β:Type} {R:α→List β→Prop} (l:List α) (h:∀ a∈l,∃ b,R a b):∃ F:Nat→List β,(∀ (i:Nat) a,l[i]? =some a→R a (F i))∧∀ (i:Nat),l[i]? =none→F i=[]:=by
 have h':∀ i:Nat,∃ b:List β,(∀ a,l[i]? =some a→R a b)∧(l[i]? =none→b=[]):=by
  intro i
  cases hq:l[i]? with
  | none=>exact ⟨[],fun a h=>(by cases h),fun _=>rfl⟩
  | some a=>
   obtain ⟨b,hb⟩:=h a (List.mem_of_getElem? hq)
   exact ⟨b,fun a' h=>by cases h;exact hb,fun h=>(by cases h)⟩
 obtain ⟨F,hF⟩:=Classical.axiomOfChoice h'
 exact ⟨F,fun i=>(hF i).1,fun i=>(hF i).2⟩
theorem pick2 {α β:Type} {R:α→List β→Prop} (f:Nat→List α) (h:∀ i,∀ a∈f i,∃ b,R a b):∃ F:Nat→Nat→List β,(∀ (i k:Nat) a,(f i)[k]? =some a→R a (F i k))∧∀ (i k:Nat),(f i)[k]? =none→F i k=[]:=by
 obtain ⟨F,hF⟩:=Classical.axiomOfChoice fun i=>pick (f i) (h i)
 exact ⟨F,fun i=>(hF i).1,fun i=>(hF i).2⟩
structure SD where
 x:SL
 ss:List SV
 qs:Nat→List QV
 ms:Nat→Nat→List MV
 bs:Nat→List BV
 us:Nat→Nat→List UV
 fs:Nat→Nat→List FV
structure SD.Ok (W:World) (d:SD):Prop where
 s:∃ La,InSlice W fS d.x.val d.ss La
 q:∀ (i:Nat) s,d.ss[i]? =some s→(∃ La,InSlice W fQ s.qs.val (d.qs i) La)
 q0:∀ (i:Nat),d.ss[i]? =none→d.qs i=[]
 m:∀ (i k:Nat) q,(d.qs i)[k]? =some q→(∃ La,InSlice W fM q.ms.val (d.ms i k) La)∧∀ y∈d.ms i k,OkV W y.app
 m0:∀ (i k:Nat),(d.qs i)[k]? =none→d.ms i k=[]
 b:∀ (i:Nat) s,d.ss[i]? =some s→(∃ La,InSlice W fB s.bs.val (d.bs i) La)
 b0:∀ (i:Nat),d.ss[i]? =none→d.bs i=[]
 u:∀ (i k:Nat) b,(d.bs i)[k]? =some b→(∃ La,InSlice W fU b.ps.val (d.us i k) La)∧∀ y∈d.us i k,OkV W y.m.app
 u0:∀ (i k:Nat),(d.bs i)[k]? =none→d.us i k=[]
 f:∀ (i k:Nat) b,(d.bs i)[k]? =some b→∃ La,InSlice W fF b.ts.val (d.fs i k) La
 f0:∀ (i k:Nat),(d.bs i)[k]? =none→d.fs i k=[]
 h:∀ (i:Nat) s,d.ss[i]? =some s→IsSlice s.hs.val
 t:∀ (i:Nat),∀ b∈d.bs i,slen b.x.g < 9223372036854775808
theorem sd_of {W:World} {x:SL} {l:List SV} {La:Arg} (h:InSlice W fS x.val l La) (hok:∀ s∈l,OkS W s):∃ d:SD,d.x=x∧d.Ok W:=by
 obtain ⟨qs,q1,q0⟩:=pick (R:=fun s b=>(∃ La,InSlice W fQ (SV.qs s).val b La)∧∀ q∈b,OkQ W q) l fun s hs=>by
  obtain ⟨⟨b,La,h1,h2⟩,_⟩:=hok s hs
  exact ⟨b,⟨La,h1⟩,h2⟩
 obtain ⟨bs,b1,b0⟩:=pick (R:=fun s b=>(∃ La,InSlice W fB (SV.bs s).val b La)∧∀ q∈b,OkB W q) l fun s hs=>by
  obtain ⟨_,⟨b,La,h1,h2⟩,_⟩:=hok s hs
  exact ⟨b,⟨La,h1⟩,h2⟩
 have hq:∀ i,∀ q∈qs i,OkQ W q:=fun i q hq=>by
  cases hs:l[i]? with
  | none=>rw [q0 i hs] at hq;cases hq
  | some s=>exact (q1 i s hs).2 q hq
 have hb:∀ i,∀ q∈bs i,OkB W q:=fun i q hq=>by
  cases hs:l[i]? with
  | none=>rw [b0 i hs] at hq;cases hq
  | some s=>exact (b1 i s hs).2 q hq
 obtain ⟨ms,m1,m0⟩:=pick2 (R:=fun q b=>(∃ La,InSlice W fM (QV.ms q).val b La)∧∀ y∈b,OkV W y.app) qs fun i q h=>by
  obtain ⟨b,La,h1,h2⟩:=hq i q h
  exact ⟨b,⟨La,h1⟩,h2⟩
 obtain ⟨us,u1,u0⟩:=pick2 (R:=fun q b=>(∃ La,InSlice W fU (BV.ps q).val b La)∧∀ y∈b,OkV W y.m.app) bs fun i q h=>by
  obtain ⟨_,⟨b,La,h1,h2⟩,_⟩:=hb i q h
  exact ⟨b,⟨La,h1⟩,h2⟩
 obtain ⟨fs,f1,f0⟩:=pick2 (R:=fun q b=>∃ La,InSlice W fF (BV.ts q).val b La) bs fun i q h=>by
  obtain ⟨_,_,b,La,h1⟩:=hb i q h
  exact ⟨b,La,h1⟩
 exact ⟨⟨x,l,qs,ms,bs,us,fs⟩,rfl,⟨La,h⟩,fun i s hs=>(q1 i s hs).1,q0,m1,m0,fun i s hs=>(b1 i s hs).1,b0,u1,u0,f1,f0,fun i s hs=>(hok s (List.mem_of_getElem? hs)).2.2,fun i b h=>(hb i b h).1⟩
noncomputable def SL.ab (j:Nat) (p:SL):SL:=⟨p.o.map fun _=>⟨Tryz.prog.globals.size+j,0,none⟩,p.len,p.cap⟩
theorem ab_rel {ps:List (Nat × Nat)} {j:Nat} {p:SL} (h:IsSlice p.val) (hj:ps[j]? =some (placeOf p.val)):VRel (mA Tryz.prog ps) (p.ab j).val p.val∧p.cap < capU:=by
 obtain ⟨o,n,c⟩:=p
 rcases h with h | ⟨a,n',c',h,hn,hc,hs⟩
 ·simp only [SL.val,Value.slice.injEq] at h
  obtain ⟨rfl,rfl,rfl⟩:=h
  exact ⟨closedV_rel 4 _ (by rfl),by show 0 < capU;unfold capU;omega⟩
 ·simp only [SL.val,Value.slice.injEq] at h
  obtain ⟨rfl,rfl,rfl⟩:=h
  exact ⟨slice_rel hj hn hc hs,hc⟩
theorem ab_at {β:Type} {W:World} {f:β→List Value} {p:SL} {l:List β} {La:Arg} (h:InSlice W f p.val l La) (j:Nat):p.len=l.length∧((l=[]∧(p.ab j).len=0)∨((p.ab j).o=some ⟨Tryz.prog.globals.size+j,0,none⟩∧(p.ab j).len=l.length)):=by
 obtain ⟨o,n,c⟩:=p
 cases h with
 | nil hl hs h0=>
  obtain ⟨o',c',h0⟩:=h0
  simp only [SL.val,Value.slice.injEq] at h0
  obtain ⟨_,rfl,_⟩:=h0
  exact ⟨by rw [hl];rfl,.inl ⟨hl,rfl⟩⟩
 | blk a c' cs e' fr hs=>
  simp only [SL.val,Value.slice.injEq] at hs
  obtain ⟨rfl,rfl,rfl⟩:=hs
  exact ⟨rfl,.inr ⟨rfl,rfl⟩⟩
theorem flat_ne {β:Type} {n:Nat} {f:β→List Value} (hlen:∀ x,(f x).length=n+1) {l:List β} (h:l≠[]):flat f l≠[]:=by
 intro he
 have h1:=flat_len hlen l
 rw [he] at h1
 have:0 < l.length:=List.length_pos_iff.2 h
 have:=Nat.mul_pos this (show 0 < n+1 by omega)
 simp only [List.length_nil] at h1
 omega
theorem vrels_get {m:Inj Tryz.prog}:∀ {a b:List Value},VRels m a b→∀ (k:Nat) (v:Value),a[k]? =some v→∃ v',b[k]? =some v'∧VRel m v v'
 | _,_,.nil,k,v,h=>by cases h
 | _,_,.cons h1 t,0,v,h=>by cases h;exact ⟨_,rfl,h1⟩
 | _,_,.cons h1 t,k+1,v,h=>vrels_get t k v (by simpa using h)
theorem row_ok {β:Type} {n:Nat} {f:β→List Value} (hlen:∀ x,(f x).length=n+1) {W:World} {m:Inj Tryz.prog} {p:SL} {l l':List β} {La:Arg} (h:InSlice W f p.val l La) (hr:∀ (i:Nat) p',l'[i]? =some p'→∃ p,l[i]? =some p∧VRels m (f p') (f p)) (hne:flat f l'≠[]):
  ∃ cs' e fr,W.heap[(placeOf p.val).1]? =some (.cells cs' e fr)∧(placeOf p.val).2≤cs'.size∧∀ i v,(flat f l')[i]? =some v→∃ w,cs'[(placeOf p.val).2+i]? =some w∧VRel m v w:=by
 obtain ⟨pl,e,rfl,h1⟩:=inSlice_row h
 have hl:l≠[]:=by
  intro he
  subst he
  cases l' with
  | nil=>exact hne rfl
  | cons a r=>obtain ⟨p,hp,_⟩:=hr 0 a rfl;cases hp
 obtain ⟨cs',fr,g1,g2,g3⟩:=h1 hl
 refine ⟨cs',e,fr,g1,g2,fun i v hv=>?_⟩
 obtain ⟨w,h2,h3⟩:=flat_relG hlen (l':=l') (l:=l) (m:=m) (fun i p' hp=>by
  obtain ⟨p,a1,a2⟩:=hr i p' hp
  exact ⟨p,a1,vrels_get a2⟩) i v hv
 exact ⟨w,g3 i w h2,h3⟩
theorem rd_at {β:Type} {n:Nat} {f:β→List Value} (hlen:∀ x,(f x).length=n+1) {W:World} {gl:List (Nat × List Value × TypeId)} {L:List Arg} {j:Nat} {p:SL} {l l':List β} {La:Arg} (hk:Tryz.prog.globals.size+L.length+1≤maxId) (h:InSlice W f p.val l La) (hl:l'.length≤l.length) (hl0:l≠[]→l'≠[])
  (hj:flat f l'≠[]→∃ p e,L[j]? =some (p,some (flat f l',e))):∃ F,RdT n f (wR Tryz.prog.globals.size gl L) (p.ab j).val (p.ab j).len l' F:=by
 obtain ⟨h1,h2⟩:=ab_at h j
 have e:(p.ab j).len=l.length:=h1
 obtain ⟨F,hF⟩:=rdT_of (c:=(p.ab j).cap) (gl:=gl) hlen hk hl h2 fun h0=>hj (flat_ne hlen (hl0 h0))
 refine ⟨F,?_⟩
 rw [e]
 exact e▸hF
def cx (t i k j:Nat):Nat:=((t * 4+i) * 12+k) * 40+j
theorem cx_dec {t i k j:Nat} (hi:i < 4) (hk:k < 12) (hj:j < 40):cx t i k j / 1920=t∧cx t i k j / 480 % 4=i∧cx t i k j / 40 % 12=k∧cx t i k j % 40=j:=by
 unfold cx
 refine ⟨by omega,by omega,by omega,by omega⟩
theorem cx_lt {t i k j:Nat} (ht:t < 11) (hi:i < 4) (hk:k < 12) (hj:j < 40):cx t i k j < 21120:=by
 unfold cx
 omega
theorem cx0:cx 0 0 0 0=0:=rfl
def vks (v:VV):SL:=⟨v.ko,v.kl,v.kc⟩
def vls (v:VV):SL:=⟨v.lo,v.ll,v.lc⟩
def sl0:SL:=⟨none,0,0⟩
def oSl {α:Type} (f:α→SL):Option α→SL
 | none=>sl0
 | some a=>f a
def slT (d:SD) (t i k j:Nat):SL:=
 match t with
 | 0=>d.x
 | 1=>oSl SV.qs d.ss[i]?
 | 2=>oSl SV.bs d.ss[i]?
 | 3=>oSl SV.hs d.ss[i]?
 | 4=>oSl QV.ms (d.qs i)[k]?
 | 5=>oSl (fun m=>vks m.app) (d.ms i k)[j]?
 | 6=>oSl (fun m=>vls m.app) (d.ms i k)[j]?
 | 7=>oSl BV.ps (d.bs i)[k]?
 | 8=>oSl BV.ts (d.bs i)[k]?
 | 9=>oSl (fun u=>vks u.m.app) (d.us i k)[j]?
 | _=>oSl (fun u=>vls u.m.app) (d.us i k)[j]?
def sl (d:SD) (x:Nat):SL:=slT d (x / 1920) (x / 480 % 4) (x / 40 % 12) (x % 40)
theorem sl_cx (d:SD) {t i k j:Nat} (hi:i < 4) (hk:k < 12) (hj:j < 40):sl d (cx t i k j)=slT d t i k j:=by
 obtain ⟨h1,h2,h3,h4⟩:=cx_dec (t:=t) hi hk hj
 unfold sl
 rw [h1,h2,h3,h4]
def pls (d:SD):List (Nat × Nat):=(List.range 21120).map fun x=>placeOf (sl d x).val
theorem pls_get (d:SD) {t i k j:Nat} (ht:t < 11) (hi:i < 4) (hk:k < 12) (hj:j < 40):(pls d)[cx t i k j]? =some (placeOf (slT d t i k j).val):=by
 unfold pls
 rw [List.getElem?_map,List.getElem?_range (cx_lt ht hi hk hj),Option.map_some,sl_cx d hi hk hj]
noncomputable def aV (a b:Nat) (v:VV):VV:=⟨v.kind,v.n,v.s,((vks v).ab a).o,v.kl,v.kc,((vls v).ab b).o,v.ll,v.lc⟩
noncomputable def aS (i:Nat) (s:SV):SV:=⟨s.next,s.qs.ab (cx 1 i 0 0),s.bs.ab (cx 2 i 0 0),s.hs.ab (cx 3 i 0 0)⟩
noncomputable def aQ (i k:Nat) (q:QV):QV:=⟨q.name,q.limit,q.ms.ab (cx 4 i k 0)⟩
noncomputable def aM (i k j:Nat) (m:MV):MV:=⟨m.id,m.key,m.dur,m.red,m.pid,aV (cx 5 i k j) (cx 6 i k j) m.app,m.body⟩
noncomputable def aB (i k:Nat) (b:BV):BV:=⟨b.x,b.ps.ab (cx 7 i k 0),b.ts.ab (cx 8 i k 0)⟩
noncomputable def aU (i k j:Nat) (u:UV):UV:=⟨u.queue,u.m.id,u.m.key,u.m.dur,u.m.red,u.m.pid,aV (cx 9 i k j) (cx 10 i k j) u.m.app,u.m.body⟩
noncomputable def lS (d:SD):List SV:=layL 4 aS d.ss
noncomputable def lQ (d:SD) (i:Nat):List QV:=if i < 4 then layL 12 (aQ i) (d.qs i) else []
noncomputable def lM (d:SD) (i k:Nat):List MV:=if i < 4∧k < 12 then layL 40 (aM i k) (d.ms i k) else []
noncomputable def lB (d:SD) (i:Nat):List BV:=if i < 4 then layL 12 (aB i) (d.bs i) else []
noncomputable def lU (d:SD) (i k:Nat):List UV:=if i < 4∧k < 12 then layL 20 (aU i k) (d.us i k) else []
noncomputable def lF (d:SD) (i k:Nat):List FV:=if i < 4∧k < 12 then layL 20 (fun _ x=>x) (d.fs i k) else []
noncomputable def cT (d:SD) (t i k:Nat):List Value:=
 match t with
 | 0=>flat fS (lS d)
 | 1=>flat fQ (lQ d i)
 | 2=>flat fB (lB d i)
 | 4=>flat fM (lM d i k)
 | 7=>flat fU (lU d i k)
 | 8=>flat fF (lF d i k)
 | _=>[]
noncomputable def cC (d:SD) (x:Nat):List Value:=cT d (x / 1920) (x / 480 % 4) (x / 40 % 12)
theorem cC_cx (d:SD) {t i k j:Nat} (hi:i < 4) (hk:k < 12) (hj:j < 40):cC d (cx t i k j)=cT d t i k:=by
 obtain ⟨h1,h2,h3,_⟩:=cx_dec (t:=t) hi hk hj
 unfold cC
 rw [h1,h2,h3]
theorem okV_slices {W:World} {v:VV} (h:OkV W v):IsSlice (vks v).val∧IsSlice (vls v).val:=by
 obtain ⟨k,t,h⟩:=h
 cases k with
 | zero=>cases h
 | succ k=>
  obtain ⟨⟨keys,Ka,h1⟩,l,La,h2,_⟩:=h
  exact ⟨h1.isSlice,h2.isSlice⟩
section
variable {W:World} {d:SD}
theorem aV_rel {a b:Nat} {v:VV} (h:OkV W v) (ha:(pls d)[a]? =some (placeOf (vks v).val)) (hb:(pls d)[b]? =some (placeOf (vls v).val)):ValRel (mA Tryz.prog (pls d)) (aV a b v) v:=by
 obtain ⟨h1,h2⟩:=okV_slices h
 obtain ⟨r1,c1⟩:=ab_rel h1 ha
 obtain ⟨r2,c2⟩:=ab_rel h2 hb
 exact ⟨rfl,rfl,rfl,r1,r2,c1,c2⟩
theorem ms_ok (h:d.Ok W) (i k:Nat):∀ y∈d.ms i k,OkV W y.app:=by
 intro y hy
 cases hq:(d.qs i)[k]? with
 | none=>rw [h.m0 i k hq] at hy;cases hy
 | some q=>exact (h.m i k q hq).2 y hy
theorem us_ok (h:d.Ok W) (i k:Nat):∀ y∈d.us i k,OkV W y.m.app:=by
 intro y hy
 cases hq:(d.bs i)[k]? with
 | none=>rw [h.u0 i k hq] at hy;cases hy
 | some q=>exact (h.u i k q hq).2 y hy
theorem aM_rel (h:d.Ok W) {i k j:Nat} {m:MV} (hi:i < 4) (hk:k < 12) (hj:j < 40) (hm:(d.ms i k)[j]? =some m):ValRel (mA Tryz.prog (pls d)) (aM i k j m).app m.app:=by
 refine aV_rel (ms_ok h i k m (List.mem_of_getElem? hm)) ?_ ?_
 ·rw [pls_get d (by omega) hi hk hj];show some (placeOf (oSl _ _).val)=_;rw [hm];rfl
 ·rw [pls_get d (by omega) hi hk hj];show some (placeOf (oSl _ _).val)=_;rw [hm];rfl
theorem aU_rel (h:d.Ok W) {i k j:Nat} {m:UV} (hi:i < 4) (hk:k < 12) (hj:j < 40) (hm:(d.us i k)[j]? =some m):ValRel (mA Tryz.prog (pls d)) (aU i k j m).m.app m.m.app:=by
 refine aV_rel (us_ok h i k m (List.mem_of_getElem? hm)) ?_ ?_
 ·rw [pls_get d (by omega) hi hk hj];show some (placeOf (oSl _ _).val)=_;rw [hm];rfl
 ·rw [pls_get d (by omega) hi hk hj];show some (placeOf (oSl _ _).val)=_;rw [hm];rfl
theorem fM_rel {m:Inj Tryz.prog} {x' x:MV} (h:ValRel m x'.app x.app) (e:x'={ x with app:=x'.app }):VRels m (fM x') (fM x):=by
 obtain ⟨id,key,dur,red,pid,app,body⟩:=x
 obtain ⟨id',key',dur',red',pid',app',body'⟩:=x'
 simp only [MV.mk.injEq,true_and] at e
 obtain ⟨rfl,rfl,rfl,rfl,rfl,rfl⟩:=e
 obtain ⟨h1,h2,h3,h4,h5,_,_⟩:=h
 obtain ⟨k,n,s,ko,kl,kc,lo,ll,lc⟩:=app
 obtain ⟨k',n',s',ko',kl',kc',lo',ll',lc'⟩:=app'
 simp only at h1 h2 h3
 subst h1 h2 h3
 exact .cons (.int _ _) (.cons (.string _) (.cons (.bool _) (.cons (.bool _) (.cons (.string _) (.cons (.int _ _) (.cons (.int _ _) (.cons (.string _) (.cons h4 (.cons h5 (.cons (.string _) .nil))))))))))
theorem aS_cells (h:d.Ok W) {i:Nat} {s:SV} (hi:i < 4) (hs:d.ss[i]? =some s):VRels (mA Tryz.prog (pls d)) (fS (aS i s)) (fS s):=by
 obtain ⟨La,h1⟩:=h.q i s hs
 obtain ⟨La2,h2⟩:=h.b i s hs
 refine .cons (.int _ _) (.cons (ab_rel h1.isSlice ?_).1 (.cons (ab_rel h2.isSlice ?_).1 (.cons (ab_rel (h.h i s hs) ?_).1 .nil)))
 ·rw [pls_get d (by omega) hi (by omega) (by omega)];show some (placeOf (oSl _ _).val)=_;rw [hs];rfl
 ·rw [pls_get d (by omega) hi (by omega) (by omega)];show some (placeOf (oSl _ _).val)=_;rw [hs];rfl
 ·rw [pls_get d (by omega) hi (by omega) (by omega)];show some (placeOf (oSl _ _).val)=_;rw [hs];rfl
theorem aQ_cells (h:d.Ok W) {i k:Nat} {s:QV} (hi:i < 4) (hk:k < 12) (hs:(d.qs i)[k]? =some s):VRels (mA Tryz.prog (pls d)) (fQ (aQ i k s)) (fQ s):=by
 obtain ⟨⟨La,h1⟩,_⟩:=h.m i k s hs
 refine .cons (.string _) (.cons (.int _ _) (.cons (ab_rel h1.isSlice ?_).1 .nil))
 rw [pls_get d (by omega) hi hk (by omega)];show some (placeOf (oSl _ _).val)=_;rw [hs];rfl
theorem aB_cells (h:d.Ok W) {i k:Nat} {s:BV} (hi:i < 4) (hk:k < 12) (hs:(d.bs i)[k]? =some s):VRels (mA Tryz.prog (pls d)) (fB (aB i k s)) (fB s):=by
 obtain ⟨⟨La,h1⟩,_⟩:=h.u i k s hs
 obtain ⟨La2,h2⟩:=h.f i k s hs
 refine .cons (.int _ _) (.cons (.string _) (.cons (.string _) (.cons (ab_rel h1.isSlice ?_).1 (.cons (ab_rel h2.isSlice ?_).1 .nil))))
 ·rw [pls_get d (by omega) hi hk (by omega)];show some (placeOf (oSl _ _).val)=_;rw [hs];rfl
 ·rw [pls_get d (by omega) hi hk (by omega)];show some (placeOf (oSl _ _).val)=_;rw [hs];rfl
theorem flat_nil {β:Type} (f:β→List Value):flat f []=[]:=rfl
theorem rows_ok (h:d.Ok W):∀ x,x < 21120→cC d x≠[]→∃ cs' e fr,W.heap[(placeOf (sl d x).val).1]? =some (.cells cs' e fr)∧(placeOf (sl d x).val).2≤cs'.size∧∀ i v,(cC d x)[i]? =some v→∃ w,cs'[(placeOf (sl d x).val).2+i]? =some w∧VRel (mA Tryz.prog (pls d)) v w:=by
 intro x hx
 unfold cC sl
 have hi:x / 480 % 4 < 4:=by omega
 have hk:x / 40 % 12 < 12:=by omega
 have ht:x / 1920 < 11:=by omega
 revert hi hk ht
 generalize x / 1920=t
 generalize x / 480 % 4=i
 generalize x / 40 % 12=k
 generalize x % 40=j
 intro hi hk ht hne
 match t,ht,hne with
 | 0,_,hne=>
  obtain ⟨La,hs⟩:=h.s
  exact row_ok (n:=3) (fun _=>rfl) hs (fun i p' hp=>by
   obtain ⟨y,h1,rfl,h3⟩:=lay_get hp
   exact ⟨y,h1,aS_cells h h3 h1⟩) hne
 | 1,_,hne=>
  have hne:flat fQ (lQ d i)≠[]:=hne
  cases hs:d.ss[i]? with
  | none=>exact absurd (by unfold lQ;rw [h.q0 i hs];split <;> rfl) hne
  | some s=>
   obtain ⟨La,hq⟩:=h.q i s hs
   have e:slT d 1 i k j=s.qs:=by show oSl _ _=_;rw [hs];rfl
   rw [e]
   exact row_ok (n:=2) (l':=lQ d i) (fun _=>rfl) hq (fun i' p' hp=>by
    unfold lQ at hp
    rw [if_pos hi] at hp
    obtain ⟨y,h1,rfl,h3⟩:=lay_get hp
    exact ⟨y,h1,aQ_cells h hi h3 h1⟩) hne
 | 2,_,hne=>
  have hne:flat fB (lB d i)≠[]:=hne
  cases hs:d.ss[i]? with
  | none=>exact absurd (by unfold lB;rw [h.b0 i hs];split <;> rfl) hne
  | some s=>
   obtain ⟨La,hq⟩:=h.b i s hs
   have e:slT d 2 i k j=s.bs:=by show oSl _ _=_;rw [hs];rfl
   rw [e]
   exact row_ok (n:=4) (l':=lB d i) (fun _=>rfl) hq (fun i' p' hp=>by
    unfold lB at hp
    rw [if_pos hi] at hp
    obtain ⟨y,h1,rfl,h3⟩:=lay_get hp
    exact ⟨y,h1,aB_cells h hi h3 h1⟩) hne
 | 3,_,hne=>exact absurd rfl hne
 | 4,_,hne=>
  have hne:flat fM (lM d i k)≠[]:=hne
  cases hs:(d.qs i)[k]? with
  | none=>exact absurd (by unfold lM;rw [h.m0 i k hs];split <;> rfl) hne
  | some s=>
   obtain ⟨⟨La,hq⟩,_⟩:=h.m i k s hs
   have e:slT d 4 i k j=s.ms:=by show oSl _ _=_;rw [hs];rfl
   rw [e]
   exact row_ok (n:=10) (l':=lM d i k) (fun _=>rfl) hq (fun i' p' hp=>by
    unfold lM at hp
    rw [if_pos ⟨hi,hk⟩] at hp
    obtain ⟨y,h1,rfl,h3⟩:=lay_get hp
    exact ⟨y,h1,fM_rel (aM_rel h hi hk h3 h1) rfl⟩) hne
 | 5,_,hne=>exact absurd rfl hne
 | 6,_,hne=>exact absurd rfl hne
 | 7,_,hne=>
  have hne:flat fU (lU d i k)≠[]:=hne
  cases hs:(d.bs i)[k]? with
  | none=>exact absurd (by unfold lU;rw [h.u0 i k hs];split <;> rfl) hne
  | some s=>
   obtain ⟨⟨La,hq⟩,_⟩:=h.u i k s hs
   have e:slT d 7 i k j=s.ps:=by show oSl _ _=_;rw [hs];rfl
   rw [e]
   exact row_ok (n:=11) (l':=lU d i k) (fun _=>rfl) hq (fun i' p' hp=>by
    unfold lU at hp
    rw [if_pos ⟨hi,hk⟩] at hp
    obtain ⟨y,h1,rfl,h3⟩:=lay_get hp
    exact ⟨y,h1,.cons (.string _) (fM_rel (aU_rel h hi hk (by omega) h1) rfl)⟩) hne
 | 8,_,hne=>
  have hne:flat fF (lF d i k)≠[]:=hne
  cases hs:(d.bs i)[k]? with
  | none=>exact absurd (by unfold lF;rw [h.f0 i k hs];split <;> rfl) hne
  | some s=>
   obtain ⟨La,hq⟩:=h.f i k s hs
   have e:slT d 8 i k j=s.ts:=by show oSl _ _=_;rw [hs];rfl
   rw [e]
   exact row_ok (n:=1) (l':=lF d i k) (fun _=>rfl) hq (fun i' p' hp=>by
    unfold lF at hp
    rw [if_pos ⟨hi,hk⟩] at hp
    obtain ⟨y,h1,e1,h3⟩:=lay_get hp
    subst e1
    exact ⟨_,h1,.cons (.string _) (.cons (.int _ _) .nil)⟩) hne
 | 9,_,hne=>exact absurd rfl hne
 | 10,_,hne=>exact absurd rfl hne
end
theorem kc60 {W:World} {m0:Inj Tryz.prog} {x' x:VV} (hx:ValRel m0 x' x) (h:OkV W x):VK W m0 x':=by
 obtain ⟨k,t,ht⟩:=h
 refine ⟨fun e=>absurd e (show (60:Nat)≠sameFn by decide),fun _ m args' W' hle hb ha=>?_⟩
 cases ha with
 | cons h1 h2=>
  cases h2
  obtain ⟨y',rfl,hs⟩:=hx.back hle h1
  exact value_all ((TreeAt.grow hb k x t ht).same hs)
theorem lq_get {d:SD} {i k:Nat} {q:QV} (h:(lQ d i)[k]? =some q):∃ y,(d.qs i)[k]? =some y∧q=aQ i k y∧i < 4∧k < 12:=by
 unfold lQ at h
 split at h
 ·rename_i hi
  obtain ⟨y,h1,h2,h3⟩:=lay_get h
  exact ⟨y,h1,h2,hi,h3⟩
 ·cases h
theorem lb_get {d:SD} {i k:Nat} {q:BV} (h:(lB d i)[k]? =some q):∃ y,(d.bs i)[k]? =some y∧q=aB i k y∧i < 4∧k < 12:=by
 unfold lB at h
 split at h
 ·rename_i hi
  obtain ⟨y,h1,h2,h3⟩:=lay_get h
  exact ⟨y,h1,h2,hi,h3⟩
 ·cases h
theorem ne_of_len {α β:Type} {l:List α} {l':List β} {M:Nat} (hM:0 < M) (h:l'.length=min l.length M) (hl:l≠[]):l'≠[]:=by
 have:=List.length_pos_iff.2 hl
 refine List.length_pos_iff.1 ?_
 omega
theorem stores_args {W:World} {d:SD} (h:d.Ok W):∃ L:List Arg,L.length=21120∧Args Tryz.prog W L∧VRel (mR Tryz.prog L) (d.x.ab 0).val d.x.val∧(lS d).length=min (d.x.ab 0).len 4∧BT' (lB d) (lS d).length∧
  ∀ gl,Tryz.prog.globals.size+L.length+1≤maxId→(∃ F,RdT 3 fS (wR Tryz.prog.globals.size gl L) (d.x.ab 0).val (d.x.ab 0).len (lS d) F)∧∀ (i:Nat) s,(lS d)[i]? =some s→SR W (mR Tryz.prog L) (wR Tryz.prog.globals.size gl L) s (lQ d i) (lM d i) (lB d i) (lU d i) (lF d i):=by
 obtain ⟨L,hL,hm,hA,hrow⟩:=lay_rows (P:=Tryz.prog) (W:=W) 21120 (fun x=>placeOf (sl d x).val) (cC d) (rows_ok h)
 have hm:L.map (·.1)=pls d:=hm
 have hmR:mR Tryz.prog L=mA Tryz.prog (pls d):=by unfold mR;rw [hm]
 have hat:∀ {t i k:Nat},t < 11→i < 4→k < 12→cT d t i k≠[]→∃ p e,L[cx t i k 0]? =some (p,some (cT d t i k,e)):=by
  intro t i k ht hi hk hne
  have e:=cC_cx d (t:=t) hi hk (show 0 < 40 by omega)
  rw [← e] at hne ⊢
  exact hrow _ (cx_lt ht hi hk (by omega)) hne
 obtain ⟨La,hs⟩:=h.s
 have hx:=ab_at hs 0
 refine ⟨L,hL,hA,?_,?_,?_,fun gl hk=>⟨?_,fun i s hsi=>?_⟩⟩
 ·rw [hmR]
  exact (ab_rel hs.isSlice (by rw [← cx0,pls_get d (by omega) (by omega) (by omega) (by omega)];rfl)).1
 ·have e:(d.x.ab 0).len=d.ss.length:=hx.1
  rw [e]
  exact lay_length _ _ _
 ·intro i hi b hb
  unfold lB at hb
  split at hb
  ·obtain ⟨k,y,h1,rfl,_⟩:=lay_mem hb
   exact h.t i y (List.mem_of_getElem? h1)
  ·cases hb
 ·have e:=lay_length 4 aS d.ss
  exact rd_at (n:=3) (fun _=>rfl) hk hs (by show (layL 4 aS d.ss).length≤_;omega) (ne_of_len (by omega) e) fun hne=>by
   have:=hat (t:=0) (i:=0) (k:=0) (by omega) (by omega) (by omega) hne
   exact this
 ·obtain ⟨s0,h0,rfl,hi⟩:=lay_get hsi
  obtain ⟨Lq,hq⟩:=h.q i s0 h0
  obtain ⟨Lb,hb⟩:=h.b i s0 h0
  have eq:lQ d i=layL 12 (aQ i) (d.qs i):=if_pos hi
  have eb:lB d i=layL 12 (aB i) (d.bs i):=if_pos hi
  have nq:(lQ d i).length=min (d.qs i).length 12:=by rw [eq];exact lay_length _ _ _
  have nb:(lB d i).length=min (d.bs i).length 12:=by rw [eb];exact lay_length _ _ _
  have cq:s0.qs.len=(d.qs i).length:=(ab_at hq 0).1
  have cb:s0.bs.len=(d.bs i).length:=(ab_at hb 0).1
  refine ⟨?_,?_,fun k q hk2=>?_,fun k q hk2=>?_,fun k y hy=>?_,?_,?_,fun k q hk2=>?_,fun k q hk2=>?_,fun k y hy=>?_,fun k q hk2=>?_,fun k q hk2=>?_⟩
  ·exact rd_at (n:=2) (fun _=>rfl) hk hq (by omega) (ne_of_len (by omega) nq) fun hne=>hat (t:=1) (k:=0) (by omega) hi (by omega) hne
  ·rw [nq,← cq];rfl
  ·obtain ⟨y,h1,rfl,_,hk12⟩:=lq_get hk2
   obtain ⟨⟨Lm,hm2⟩,_⟩:=h.m i k y h1
   have e:lM d i k=layL 40 (aM i k) (d.ms i k):=if_pos ⟨hi,hk12⟩
   have n1:(lM d i k).length=min (d.ms i k).length 40:=by rw [e];exact lay_length _ _ _
   exact rd_at (n:=10) (fun _=>rfl) hk hm2 (by omega) (ne_of_len (by omega) n1) fun hne=>hat (t:=4) (by omega) hi hk12 hne
  ·obtain ⟨y,h1,rfl,_,hk12⟩:=lq_get hk2
   obtain ⟨⟨Lm,hm2⟩,_⟩:=h.m i k y h1
   have e:lM d i k=layL 40 (aM i k) (d.ms i k):=if_pos ⟨hi,hk12⟩
   have n1:(lM d i k).length=min (d.ms i k).length 40:=by rw [e];exact lay_length _ _ _
   have n2:y.ms.len=(d.ms i k).length:=(ab_at hm2 0).1
   rw [n1,← n2];rfl
  ·unfold lM at hy
   split at hy
   ·rename_i hik
    obtain ⟨j,z,h1,rfl,hj⟩:=lay_mem hy
    rw [hmR]
    exact kc60 (aM_rel h hik.1 hik.2 hj h1) (ms_ok h i k z (List.mem_of_getElem? h1))
   ·cases hy
  ·exact rd_at (n:=4) (fun _=>rfl) hk hb (by omega) (ne_of_len (by omega) nb) fun hne=>hat (t:=2) (k:=0) (by omega) hi (by omega) hne
  ·rw [nb,← cb];rfl
  ·obtain ⟨y,h1,rfl,_,hk12⟩:=lb_get hk2
   obtain ⟨⟨Lm,hm2⟩,_⟩:=h.u i k y h1
   have e:lU d i k=layL 20 (aU i k) (d.us i k):=if_pos ⟨hi,hk12⟩
   have n1:(lU d i k).length=min (d.us i k).length 20:=by rw [e];exact lay_length _ _ _
   exact rd_at (n:=11) (fun _=>rfl) hk hm2 (by omega) (ne_of_len (by omega) n1) fun hne=>hat (t:=7) (by omega) hi hk12 hne
  ·obtain ⟨y,h1,rfl,_,hk12⟩:=lb_get hk2
   obtain ⟨⟨Lm,hm2⟩,_⟩:=h.u i k y h1
   have e:lU d i k=layL 20 (aU i k) (d.us i k):=if_pos ⟨hi,hk12⟩
   have n1:(lU d i k).length=min (d.us i k).length 20:=by rw [e];exact lay_length _ _ _
   have n2:y.ps.len=(d.us i k).length:=(ab_at hm2 0).1
   rw [n1,← n2];rfl
  ·unfold lU at hy
   split at hy
   ·rename_i hik
    obtain ⟨j,z,h1,rfl,hj⟩:=lay_mem hy
    rw [hmR]
    exact kc60 (aU_rel h hik.1 hik.2 (by omega) h1) (us_ok h i k z (List.mem_of_getElem? h1))
   ·cases hy
  ·obtain ⟨y,h1,rfl,_,hk12⟩:=lb_get hk2
   obtain ⟨Lm,hm2⟩:=h.f i k y h1
   have e:lF d i k=layL 20 (fun _ x=>x) (d.fs i k):=if_pos ⟨hi,hk12⟩
   have n1:(lF d i k).length=min (d.fs i k).length 20:=by rw [e];exact lay_length _ _ _
   exact rd_at (n:=1) (fun _=>rfl) hk hm2 (by omega) (ne_of_len (by omega) n1) fun hne=>hat (t:=8) (by omega) hi hk12 hne
  ·obtain ⟨y,h1,rfl,_,hk12⟩:=lb_get hk2
   obtain ⟨Lm,hm2⟩:=h.f i k y h1
   have e:lF d i k=layL 20 (fun _ x=>x) (d.fs i k):=if_pos ⟨hi,hk12⟩
   have n1:(lF d i k).length=min (d.fs i k).length 20:=by rw [e];exact lay_length _ _ _
   have n2:y.ts.len=(d.fs i k).length:=(ab_at hm2 0).1
   rw [n1,← n2];rfl
end Go.Proofs.YtdpdajpiadohjaaGreatDoor
namespace Go.Proofs.YtdpdajpiadohjaaGreatDoor
open Go.Abs
section
variable {W0:World} {m0:Inj Tryz.prog}
theorem wc6 {A:AW} {x:Value} {n:Nat} {ss:List SV} {qs:Nat→List QV} {ms:Nat→Nat→List MV} {bs:Nat→List BV} {us:Nat→Nat→List UV} {fs:Nat→Nat→List FV} {id:ByteArray} (hhd:KC.Holds Tryz.prog W0 m0 ⟨7,[],[.bool true]⟩)
  (hl:∃ F,RdT 3 fS A x n ss F) (hln:ss.length=min n 4) (hsr:∀ (i:Nat) s,ss[i]? =some s→SR W0 m0 A s (qs i) (ms i) (bs i) (us i) (fs i)) (ht:BT' bs ss.length) (hf:Fine A) (hA:A.next+30000 < maxId):Wc Tryz.prog theX W0 m0 6 [x,.string id] A fun r _=>r=.bool true:=by
 obtain ⟨F,hl⟩:=hl
 let I:Nat→Nat→List Value→AW→Prop:=fun g d vals A'=>d=0∧n≤4∧∃ i:Nat,vals=[x,.string id,.int .i64 (i:Int)]∧i≤n∧(∀ (j:Nat) s,j < i→ss[j]? =some s→s.qs.len≤12∧s.bs.len≤12∧∀ (k:Nat) q,(qs j)[k]? =some q→q.ms.len≤40)∧g=10 - i∧Grow A A' (1000 * i)
 refine w6 _ _ _ (c6 (I:=I) fun g d' vals A' d hI hd=>?_) ?_
 ·obtain ⟨rfl,hn4,i,rfl,hi,hsm,rfl,hgr⟩:=hI
  have hl':=hl.keeps hgr.keeps (by simp)
  have hn:=hgr.next
  rw [l6_0]
  simp only [L6,List.map_cons,List.map_nil,List.cons.injEq,and_true] at hd
  obtain ⟨d0,d1,d5⟩:=hd
  simp only [d0,d1,d5,hl'.len etS',bin_lss,pureW_some,forkW_dec]
  refine ⟨fun hlt=>?_,fun hge=>?_⟩
  ·have hlt:i < ss.length:=by omega
   obtain ⟨s,hs⟩:∃ s,ss[i]? =some s:=⟨_,List.getElem?_eq_getElem hlt⟩
   obtain ⟨r,o,a1,a2,a3⟩:=hl'.at etS' hs
   simp only [a1,a3,pureW_some]
   refine wc15 ((hsr i s hs).keeps hgr.keeps) hgr.fine (by omega) fun r A2 hr g2=>?_
   simp only [un_not,pureW_some]
   refine forkW_bool.2 ⟨fun _=>head_kn hhd _ rfl,fun hrt=>?_⟩
   have hr:=hr (by simpa using hrt)
   simp only [bin_add,pureW_some]
   rw [wrap_i64 (by omega) (by omega)]
   refine cutW_self.2 ⟨10 - (i+1),by omega,rfl,hn4,i+1,rfl,by omega,fun j s' hj hs'=>?_,rfl,(hgr.trans g2).more (by omega)⟩
   by_cases hji:j=i
   ·subst hji
    rw [hs] at hs'
    obtain rfl:s=s':=by simpa using hs'
    exact hr
   ·exact hsm j s' (by omega) hs'
  ·have hi':i=n:=by omega
   subst hi'
   have hln:ss.length=i:=by omega
   have L:LR A' x ss qs ms bs:=by
    refine ⟨⟨F,by rw [hln];exact hl'⟩,by omega,fun j s hs=>((hsr j s hs).keeps hgr.keeps).q,fun j s hs=>?_,fun j k s q hs hq=>((hsr j s hs).keeps hgr.keeps).m k q hq,fun j k s q hs hq=>?_,fun j s hs=>((hsr j s hs).keeps hgr.keeps).b,fun j s hs=>?_⟩
    ·have h1:=hsm j s (by have:=(List.getElem?_eq_some_iff.1 hs).1;omega) hs
     have h2:=(hsr j s hs).ql
     omega
    ·have h1:=(hsm j s (by have:=(List.getElem?_eq_some_iff.1 hs).1;omega) hs).2.2 k q hq
     have h2:=(hsr j s hs).ml k q hq
     omega
    ·have h1:=hsm j s (by have:=(List.getElem?_eq_some_iff.1 hs).1;omega) hs
     have h2:=(hsr j s hs).bl
     omega
   refine wc19 L hgr.fine (by omega) fun A1 v1 F1 hr1 g1=>?_
   have n1:=g1.next
   refine wc20 (L.keeps g1.keeps) ht g1.fine (by omega) fun A2 v2 F2 ho2 g2=>?_
   have n2:=g2.next
   have L2:=(L.keeps g1.keeps).keeps g2.keeps
   have hdl:(dd (srt (gS bs ss.length))).length < 1000000:=by
    rw [doubt_same]
    have h1:=adds_len (gS bs ss.length) []
    have h2:(gS bs ss.length).length≤ss.length * 12:=by
     unfold gS
     rw [List.length_flatMap]
     have h3:∀ (m:Nat),m≤ss.length→((List.range m).map fun a=>((bs a).map fun b=>gl b.x).length).sum≤m * 12:=by
      intro m
      induction m with
      | zero=>intro _;simp
      | succ m ih=>
       intro hm
       have:=ih (by omega)
       rw [List.range_succ,List.map_append,List.sum_append]
       obtain ⟨s,hs⟩:∃ s,ss[m]? =some s:=⟨_,List.getElem?_eq_getElem (by omega)⟩
       have hb:=L.bl m s hs
       simp only [List.map_cons,List.map_nil,List.sum_cons,List.sum_nil,List.length_map] at this ⊢
       omega
     exact h3 _ (Nat.le_refl _)
    simp only [List.length_nil] at h1
    omega
   refine wc11 (hr1.keeps g2.keeps (by simp)) (ho2.rd fun _=>rfl) hdl ?_
   rw [eqL_true (doubt_same _)]
   refine forkW_bool.2 ⟨fun _=>?_,fun h=>Bool.noConfusion h⟩
   refine wc21 L2 g2.fine (by omega) fun A3 g3=>?_
   refine wc22 (L2.keeps g3.keeps) ?_
   simp only [bin_eql,pureW_some,beq_self_eq_true]
   exact forkW_bool.2 ⟨fun _=>head_kn hhd _ rfl,fun h=>Bool.noConfusion h⟩
 ·rw [e6]
  simp only [hl.len etS',bin_gtr,pureW_some,forkW_dec]
  refine ⟨fun _=>head_kn hhd _ rfl,fun hle=>?_⟩
  exact cutW_self.2 ⟨10,rfl,by omega,0,rfl,Nat.zero_le _,fun j s hj=>by omega,rfl,(Grow.refl hf).more (by omega)⟩
end
end Go.Proofs.YtdpdajpiadohjaaGreatDoor
namespace Go.Proofs.YtdpdajpiadohjaaGreatDoor
open Go Go.Abs Go.ChangeShapes Go.WideShapes Go.ChangeAt Go.RowKit Go.Joins Go.Deep
open Hd (rowsG head_calls)
theorem counts_calls {W:World} {x:SL} {l:List SV} {La:Arg} {id:ByteArray} (h:InSlice W fS x.val l La) (hok:∀ s∈l,OkS W s):Calls Tryz.prog 6 #[x.val,.string id] W fun e W'=>e=.returned (.bool true)∧Below W.heap.size W W':=by
 obtain ⟨d,rfl,hd⟩:=sd_of h hok
 obtain ⟨L,hL,hA,hv,hln,ht,hrd⟩:=stores_args hd
 have hk:Tryz.prog.globals.size+L.length+1≤maxId:=by rw [Hd.Tryz.nG,hL];decide
 obtain ⟨hr,hsr⟩:=hrd rowsG hk
 refine calls_trueR (L:=L) (gl:=rowsG) (args:=[(d.x.ab 0).val,.string id]) gP Hd.Tryz.okG hk (holds_none W) hA (.cons hv (.cons (.string _) .nil)) (wc6 (head_kc (holds_none W) _) hr hln hsr ht (wR_fine Hd.Tryz.okG hk) ?_)
 show Tryz.prog.globals.size+L.length+1+30000 < maxId
 rw [Hd.Tryz.nG,hL];decide
theorem door_met (os:Os) (args:Array Value):laidMetH Tryz.prog Rows.watchCountsRow.laid ((doorW os).forCall (fun _ _=>0) ⟨#[],args,[]⟩).memory:=
 laidMetH_of_parts3 (fuel:=8) (laidMet_of_run' 8 (by kernel_rfl) (by kernel_rfl)) (by kernel_rfl) (by kernel_rfl)
theorem watchCounts_lifted (os:Os) (started:os.Started) (H:Type) (enc:TypeId × Value→H):
  ReturnsInHanded {} Tryz.checked os 6 .any (fun w args=>(Rows.watchCountsSpec.pre enc Tryz.prog Tryz.f6 [] false w args∧laidMetH Tryz.prog Rows.watchCountsRow.laid w)∧sizedMet enc Tryz.prog Tryz.f6 (OpenSpec.ofChange Rows.watchCountsSpec) false w args)
   (Rows.watchCountsSpec.post enc Tryz.prog Tryz.f6 false true false false):=by
 refine returnsInHanded_and_shaped (C:=Tryz.checked) (X:=fun w _=>laidMetH Tryz.prog Rows.watchCountsRow.laid w) (fun _ _ _ hh h=>h.of_heap hh) Tryz.own started (by kernel_rfl) Tryz.func6
  (ChangeSpec.witness_shaped (enc:=enc) (C:=Tryz.checked) (os:=os) (X:=fun w _=>laidMetH Tryz.prog Rows.watchCountsRow.laid w) false (doorW os) #[.slice none 0 0,.string ⟨⟨[]⟩⟩] 8 rfl (World.shaped_of_RefB (by kernel_rfl) (by kernel_rfl)) (by kernel_rfl) (by kernel_rfl) (by kernel_rfl) (door_met os _)) ?_
 intro W base args ds gs before hval0 hW _ _ hL hsh
 have hval:∀ (j:Nat) t v,Tryz.f6.params[j]? =some t→args[j]? =some v→Value.okWide Tryz.prog W .any base t v:=hval0
 have hW':=hW
 obtain ⟨p,q,hA0,hV,rfl,hfz,hnd⟩:=hW
 have hA:DataW.TrodAll enc Tryz.prog W 0 (fun _=>true) true Tryz.f6.params.toList args.toList ds p:=hA0
 rw [Tryz.params6] at hA hval
 obtain ⟨v0,v1,d0,d1,p0,p1,rfl,rfl,rfl,h0,h1⟩:=trodAll_two hA
 obtain ⟨rfl,rfl⟩:=trodVars_none hV
 obtain ⟨x,l,La,rfl,hs,hok⟩:=read_stores (hval 0 51 v0 rfl rfl) h0
 obtain ⟨id,rfl⟩:=okWide_string Tryz.underlying9 (hval 1 9 v1 rfl rfl)
 clear hA0 hval0
 simp only [List.append_nil] at hW'
 have hlt:∀ x∈p0++p1,x.block < W.heap.size:=fun x hx=>by simpa using hW'.lt x (by simpa [List.append_assoc] using hx)
 refine (counts_calls hs hok).mono fun e W' ⟨he,hb⟩=>?_
 subst he
 exact ⟨_,rfl,post_of_below (pa:=p0++p1) (pv:=[]) hW' (fun _ _ _=>trodAll_mk1 (shut_bool Tryz.underlying4 _)) (fun sp hsp=>trodAll_mk2
   (WideElems.Trod_stays Tryz.laidOut (by kernel_rfl) (of_decide_eq_true (by kernel_rfl)) h0 (fun x hx=>hb.same (hlt x (by simp [hx]))) (fun x hx=>hsp x (by simp [hx])))
   (WideElems.Trod_stays Tryz.laidOut (by kernel_rfl) (of_decide_eq_true (by kernel_rfl)) h1 (fun x hx=>hb.same (hlt x (by simp [hx]))) (fun x hx=>hsp x (by simp [hx])))) (fun _ _=>rfl) (by simp) hb
  (ok_one (by kernel_rfl) rfl (okWide_bool_mk Tryz.underlying4 _))⟩
theorem watchCounts_holds:Rows.WatchCountsSaid:=
 OpenClaim.holds_of_wide 6 Tryz.f6 rfl rfl rfl rfl rfl rfl rfl ⟨rfl,rfl,rfl,rfl,rfl⟩ rfl rfl rfl rfl rfl (by kernel_rfl) Tryz.func6 (by kernel_rfl)
  (of_decide_eq_true (by kernel_rfl)) (by unfold Func.isWrapper;first | (rw [if_pos (by decide+kernel)];kernel_rfl) | (rw [if_neg (by decide+kernel)];exact ⟨rfl,rfl⟩))
  (fun os started H enc _=>watchCounts_lifted os started H enc)
theorem watchCounts_card:Rows.WatchCountsCardSaid:=
 Claim7.holds_tied_plain_at .later [] [.data,.pinned] true (true, "07e324f1c851c94f802127128f4957f374b4a3c929f7deab66645d302b31af41") false
  watchCounts_holds (fun _ h=>by cases h) (by kernel_rfl) (fun _ h=>by cases h) watchCounts_row_tie rfl ⟨rfl,rfl⟩ (by kernel_rfl) rfl
  (fun f fn hf hfn=>by
   obtain rfl:f=6:=Option.some.inj ((show Tryz.prog.funcNamed "posthouse/posthouselaw30.WatchCounts"=some 6 by kernel_rfl).symm.trans hf) |>.symm
   obtain rfl:fn=Tryz.f6:=(Option.some.inj (Tryz.func6.symm.trans hfn)).symm
   exact ⟨by kernel_rfl,fun j t ht=>by
    rw [Tryz.params6] at ht
    have hm:t∈[51,9]:=by simpa using Array.mem_of_getElem? ht
    have hall:([51,9].all fun u=>!Tryz.prog.wantsStandIn u)=true:=by kernel_rfl
    exact (show Tryz.prog.wantsStandIn t=false by simpa using List.all_eq_true.1 hall t hm)⟩)
  (by kernel_rfl)
#print axioms watchCounts_card
end Go.Proofs.YtdpdajpiadohjaaGreatDoor
