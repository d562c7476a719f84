/-
  Part 4 of 6: the abstract machine, then what the program does, then the statement. Printed short by a program of ours. Conditions: those of each theorem.
-/
import Derived.Test.YtebidlpekphaoaaGreatDoorPc
import Derived.DeepKeys2
import Derived.Lib.Bytealg
import Derived.Shelf.Strconv.AtoiInnerAll
import Derived.Shelf.Strconv.ParseUint10b32
import Derived.Shelf.Strconv.ParseUint10b64
import Derived.Shelf.Strconv.ParseUint10b8
import Derived.Shelf.Strconv.ParseUintEmpty
set_option maxRecDepth 100000
namespace Go.Proofs.YtebidlpekphaoaaGreatDoor
open Go.Abs
structure Ax where
 what:Nat
 ses:Nat
 queue:ByteArray
 tag:ByteArray
 x:Nm
 n:Nat
 a:Bool
 b:Bool
 refs:List (ByteArray × Nat)
 body:ByteArray
structure EvD where
 kind:Nat
 node:Nat
 to:Nat
 n:Int
 x:Nm
 nodes:List Nat
 keep:List Int
 s:ByteArray
 a:Bool
 call:Ax
abbrev Word:=List UInt8
abbrev U64 (n:Nat):Prop:=n < 18446744073709551616
structure Ax.Wf (c:Ax):Prop where
 what:c.what < 256
 ses:U64 c.ses
 x:KS c.x
 n:c.n < 4294967296
 refs:∀ r∈c.refs,U64 r.2
structure EvD.Wf (e:EvD):Prop where
 kind:e.kind < 256
 node:e.node < 256
 to:e.to < 256
 n: -9223372036854775808≤e.n∧e.n≤9223372036854775807
 x:KS e.x
 nodes:∀ k∈e.nodes,k < 256
 keep:∀ k∈e.keep,-9223372036854775808≤k∧k≤9223372036854775807
 call:e.call.Wf
def Zk:List (Word × Word):=[([],[]),
 ([97,116,116,97,99,104],[]),([100,101,116,97,99,104],[]),([100,101,99,108,97,114,101],[81,78]),([100,101,108,101,116,101],[81,101]),([112,117,114,103,101],[81]),([113,117,101,114,121],[81]),
 ([112,117,98,108,105,115,104],[81,84,66]),([115,117,98,115,99,114,105,98,101],[81,84]),([99,97,110,99,101,108],[84]),([102,108,111,119],[84,78]),([115,116,111,112],[84]),([100,101,108,105,118,101,114],[]),
 ([97,99,99,101,112,116],[82]),([114,101,108,101,97,115,101],[109,82]),([114,101,106,101,99,116],[82]),([115,101,108,101,99,116],[100]),([116,120,99,111,109,109,105,116],[]),([116,120,114,111,108,108,98,97,99,107],[]),
 ([115,116,97,114,116],[88,115]),([101,110,100],[88,102]),([116,105,109,101,111,117,116],[88,78])]
def ZA:List (Word × Word):=[([],[]),
 ([98,101,103,105,110],[98]),([101,110,100],[88,99]),([116,97,107,101],[110,116,105]),([100,114,111,112],[110,116,105]),([100,111,117,98,108,101],[110,116,105]),([116,105,99,107],[]),
 ([99,114,97,115,104],[110]),([119,97,107,101],[110,107]),([102,117,115,101],[110,105]),([100,101,99,105,100,101],[110,88,99]),([102,111,114,103,101,116],[88]),([99,111,110,110,101,99,116],[110]),
 ([102,101,101,100],[110,105,83]),([108,111,115,116],[110,105]),([102,101,116,99,104],[110,105]),([99,97,108,108],[110,67]),([99,97,108,109],[])]
def partsOf (n:Nat):Word × Word:=Zk.getD n ([],[])
def Aj (n:Nat):Word × Word:=ZA.getD n ([],[])
def CL (b:Bool) (x y:Word):Word:=if b=true then x else y
def FV (a b:Bool) (w0 w1 w2 w3:Word):Word:=if b=true then (if a=true then w3 else w2) else if a=true then w1 else w0
def DA (r:ByteArray × Nat):Word:=AY (bl r.1)++[58]++Lib.decDigits r.2
def Gm:Word:=[101,109,112,116,121]
def Vt:Word:=[97,110,121]
def Ih:Word:=[109,97,114,107]
def Qx:Word:=[107,101,101,112]
def MU:Word:=[100,116,120]
def MS:Word:=[108,111,99,97,108]
def Ob:Word:=[110,101,119]
def Jr:Word:=[106,111,105,110]
def FA:Word:=[114,101,115,117,109,101]
def EE:Word:=[98,111,116,104]
def Jt:Word:=[100,111,110,101]
def Js:Word:=[102,97,105,108]
def Ek:Word:=[115,117,115,112,101,110,100]
def DV:Word:=[99,111,109,109,105,116]
def OG:Word:=[98,97,99,107]
def J4 (c:Ax) (h:UInt8):Option (List Word):=
 if h=81 then some [AY (bl c.queue)] else if h=84 then some [AY (bl c.tag)] else if h=66 then some [AY (bl c.body)] else if h=78 then some [Lib.decDigits c.n]
 else if h=88 then (if okX c.x=true then some [C7 c.x] else none) else if h=101 then some [CL c.a Gm Vt] else if h=109 then some [CL c.a Ih Qx] else if h=100 then some [CL c.a MU MS]
 else if h=115 then some [FV c.a c.b Ob Jr FA EE] else if h=102 then some [FV c.a c.b Jt Js Ek EE] else if h=82 then some (c.refs.map DA) else some [[]]
def Dp (c:Ax) (h:UInt8):Ax:=
 if h=81 then { c with queue:=.empty } else if h=84 then { c with tag:=.empty } else if h=66 then { c with body:=.empty } else if h=78 then { c with n:=0 }
 else if h=88 then { c with x:=EM } else if h=101 then { c with a:=false } else if h=109 then { c with a:=false } else if h=100 then { c with a:=false }
 else if h=115 then { c with a:=false,b:=false } else if h=102 then { c with a:=false,b:=false } else if h=82 then { c with refs:=[] } else c
def goC (c:Ax):List UInt8→List Word→Ax→Option (List Word × Ax)
 | [],ws,left=>some (ws,left)
 | h::hs,ws,left=>match J4 c h with
  | none=>none
  | some w=>goC c hs (ws++w) (Dp left h)
def CT (c:Ax):Option (List Word × Ax):=goC c (partsOf c.what).2 [Lib.decDigits c.ses,(partsOf c.what).1] { c with what:=0,ses:=0 }
def Bf:Ax:=⟨0,0,.empty,.empty,EM,0,false,false,[],.empty⟩
def Ir (e:EvD) (h:UInt8):Option (List Word):=
 if h=110 then some [Lib.decDigits e.node] else if h=116 then some [Lib.decDigits e.to] else if h=105 then some [Lib.itoa e.n] else if h=88 then (if okX e.x=true then some [C7 e.x] else none)
 else if h=99 then some [CL e.a DV OG] else if h=83 then some [AY (bl e.s)] else if h=98 then some (e.nodes.map Lib.decDigits) else if h=107 then some (e.keep.map Lib.itoa)
 else if h=67 then (match CT e.call with | some (ws,_)=>if (partsOf e.call.what).1=[] then none else some ws | none=>none) else some [[]]
def MD (e:EvD) (h:UInt8) (left:EvD):EvD:=
 if h=110 then { left with node:=0 } else if h=116 then { left with to:=0 } else if h=105 then { left with n:=0 } else if h=88 then { left with x:=EM }
 else if h=99 then { left with a:=false } else if h=83 then { left with s:=.empty } else if h=98 then { left with nodes:=[] } else if h=107 then { left with keep:=[] }
 else if h=67 then (match CT e.call with | some (_,c)=>{ left with call:=c } | none=>left) else left
def goE (e:EvD):List UInt8→List Word→EvD→Option (List Word × EvD)
 | [],ws,left=>some (ws,left)
 | h::hs,ws,left=>match Ir e h with
  | none=>none
  | some w=>goE e hs (ws++w) (MD e h left)
def Cl:EvD:=⟨0,0,0,0,EM,[],[],.empty,false,Bf⟩
noncomputable def DE (e:EvD):Option (List Word):=open Classical in
 match goE e (Aj e.kind).2 [(Aj e.kind).1] { e with kind:=0 } with
 | none=>none
 | some (ws,left)=>if (Aj e.kind).1≠[]∧left=Cl then some ws else none
section
variable (W0:World) (m0:Inj Tp) (S:Nat→List Value→AW→Prop) (Q:Value→AW→Prop)
theorem e83 (A:AW):AR Tp Ai W0 m0 83 Tz Lz S Q none 4000 (Tm.fill ⟨3,.nil⟩ 0 []) [.code (cd 83 [])] false 0 0 0 [] A=(Ap (GZ A) fun t0 At0=>Bp (AH Tp At0 109 t0 (.string ⟨⟨[97,116,116,97,99,104]⟩⟩) (.int .u8 1)) fun At1=>Bp (AH Tp At1 109 t0 (.string ⟨⟨[100,101,116,97,99,104]⟩⟩) (.int .u8 2)) fun At2=>Bp (AH Tp At2 109 t0 (.string ⟨⟨[100,101,99,108,97,114,101]⟩⟩) (.int .u8 3)) fun At3=>Bp (AH Tp At3 109 t0 (.string ⟨⟨[100,101,108,101,116,101]⟩⟩) (.int .u8 4)) fun At4=>Bp (AH Tp At4 109 t0 (.string ⟨⟨[112,117,114,103,101]⟩⟩) (.int .u8 5)) fun At5=>Bp (AH Tp At5 109 t0 (.string ⟨⟨[113,117,101,114,121]⟩⟩) (.int .u8 6)) fun At6=>Bp (AH Tp At6 109 t0 (.string ⟨⟨[112,117,98,108,105,115,104]⟩⟩) (.int .u8 7)) fun At7=>Bp (AH Tp At7 109 t0 (.string ⟨⟨[115,117,98,115,99,114,105,98,101]⟩⟩) (.int .u8 8)) fun At8=>Bp (AH Tp At8 109 t0 (.string ⟨⟨[99,97,110,99,101,108]⟩⟩) (.int .u8 9)) fun At9=>Bp (AH Tp At9 109 t0 (.string ⟨⟨[102,108,111,119]⟩⟩) (.int .u8 10)) fun At10=>Bp (AH Tp At10 109 t0 (.string ⟨⟨[115,116,111,112]⟩⟩) (.int .u8 11)) fun At11=>Bp (AH Tp At11 109 t0 (.string ⟨⟨[100,101,108,105,118,101,114]⟩⟩) (.int .u8 12)) fun At12=>Bp (AH Tp At12 109 t0 (.string ⟨⟨[97,99,99,101,112,116]⟩⟩) (.int .u8 13)) fun At13=>Bp (AH Tp At13 109 t0 (.string ⟨⟨[114,101,108,101,97,115,101]⟩⟩) (.int .u8 14)) fun At14=>Bp (AH Tp At14 109 t0 (.string ⟨⟨[114,101,106,101,99,116]⟩⟩) (.int .u8 15)) fun At15=>Bp (AH Tp At15 109 t0 (.string ⟨⟨[115,101,108,101,99,116]⟩⟩) (.int .u8 16)) fun At16=>Bp (AH Tp At16 109 t0 (.string ⟨⟨[116,120,99,111,109,109,105,116]⟩⟩) (.int .u8 17)) fun At17=>Bp (AH Tp At17 109 t0 (.string ⟨⟨[116,120,114,111,108,108,98,97,99,107]⟩⟩) (.int .u8 18)) fun At18=>Bp (AH Tp At18 109 t0 (.string ⟨⟨[115,116,97,114,116]⟩⟩) (.int .u8 19)) fun At19=>Bp (AH Tp At19 109 t0 (.string ⟨⟨[101,110,100]⟩⟩) (.int .u8 20)) fun At20=>Bp (AH Tp At20 109 t0 (.string ⟨⟨[116,105,109,101,111,117,116]⟩⟩) (.int .u8 21)) fun At21=>Q t0 At21):=by kernel_rfl
theorem w83:Wf0 83 3 Tz Lz:=wf0 (by kernel_rfl) (by decide) rfl
theorem e84 (a0 a1:Value) (A:AW):AR Tp Ai W0 m0 84 Tz Lz S Q none 4000 (Tm.fill ⟨6,.nil⟩ 0 [a0,a1]) [.code (cd 84 [])] false 0 0 0 [] A=(lW A 56 a1 fun t0=>Ap (Bh Tp A 56 56 t0 a0) fun t1 At1=>sW At1 56 a1 t1 fun At2=>Q (.tuple ⟨[]⟩) At2):=by kernel_rfl
theorem w84:Wf2 84 6 Tz Lz:=wf2 (fun _ _=>by kernel_rfl) (by decide) fun _ _=>rfl
theorem e85 (a0:Value) (A:AW):AR Tp Ai W0 m0 85 Tz Lz S Q none 4000 (Tm.fill ⟨11,.nil⟩ 0 [a0]) [.code (cd 85 [])] false 0 0 0 [] A=(kW .lss 30 3 (.int .u32 0) a0 fun t0=>Af t0 (Ap (AD Tp A 30 2 a0) fun t1 At1=>cW W0 m0 78 [t1,(.int .i64 10)] At1 fun t2 At2=>Q t2 At2) (Ap (AD Tp A 30 35 a0) fun t3 At3=>cW W0 m0 79 [t3,(.int .i64 10)] At3 fun t4 At4=>Q t4 At4)):=by kernel_rfl
theorem w85:Wf1 85 11 Tz Lz:=wf1 (fun _=>by kernel_rfl) (by decide) fun _=>rfl
noncomputable def T86:Nat→List Item:=fun i=>match i with
 | 0=>[(.code (cd 86 [1,1,0,1,0,0])),(.inLoop (cd 86 [1,1,0,1,0,0])),(.inBlock 0),(.code (cd 86 [1,1,1]))]
 | _=>[]
def L86:Nat→List Tmp:=fun i=>match i with
 | 0=>[3,6,7,8]
 | _=>[]
theorem e86 (a0:Value) (A:AW):AR Tp Ai W0 m0 86 T86 L86 S Q none 4000 (Tm.fill ⟨25,.nil⟩ 0 [a0]) [.code (cd 86 [])] false 0 0 0 [] A=(Ab (Bm Tp A 36 a0) fun t0=>BA (T86 0) (T86 0) (S 0 [(.slice none 0 0),a0,t0,(.int .i64 0)] A)):=by kernel_rfl
theorem Aa1 (d:Nat→Value) (A:AW):AR Tp Ai W0 m0 86 T86 L86 S Q none 4000 (DR 25 d) (T86 0) false 0 0 0 [] A=(Ab (Ag Tp .lss 3 (.tmp 8) (.tmp 7) (d 8) (d 7)) fun t0=>Af t0 (Ab (Ao Tp 36 (d 6) (d 8)) fun t1=>lW A 54 t1 fun t2=>Ap (B5 Tp A 54) fun t3 At3=>sW At3 54 t3 t2 fun At4=>fW 54 t3 0 fun t5=>lW At4 9 t5 fun t6=>fW 54 t3 1 fun t7=>lW At4 35 t7 fun t8=>cW W0 m0 8 [t6] At4 fun t9 At9=>lW At9 35 t7 fun t10=>eqW t10 t8 (fW 54 t3 1 fun t11=>eqW t11 t7 (eqW (d 3) (d 3) (Ab (Ag Tp .add 9 (.tmp 15) (.const (.string ⟨⟨[58]⟩⟩)) t9 (.string ⟨⟨[58]⟩⟩)) fun t12=>cW W0 m0 48 [t8] At9 fun t13 At13=>Ab (Ag Tp .add 9 (.tmp 15) (.const (.string ⟨⟨[58]⟩⟩)) t9 (.string ⟨⟨[58]⟩⟩)) fun t14=>eqW t14 t12 (eqW (d 3) (d 3) (Ab (Ag Tp .add 9 (.tmp 16) (.tmp 19) t12 t13) fun t15=>Ap (Ar Tp At13 56 1 [(0,t15)]) fun t16 At16=>Bz (AT Tp (By (Tm.fill ⟨1,.nil⟩ 0 [t15])) (.buildSlice 56 1 #[(0,.tmp 0)])) At16 t16 (Ab (Ag Tp .add 9 (.tmp 16) (.tmp 19) t12 t13) fun t17=>eqW t17 t15 (lW At16 35 t7 fun t18=>eqW t18 t8 (fW 54 t3 1 fun t19=>eqW t19 t7 (Ab (Ag Tp .add 9 (.tmp 15) (.const (.string ⟨⟨[58]⟩⟩)) t9 (.string ⟨⟨[58]⟩⟩)) fun t20=>eqW t20 t12 (lW At16 9 t5 fun t21=>eqW t21 t6 (fW 54 t3 0 fun t22=>eqW t22 t5 (eqW (d 3) (d 3) (Ap (Bh Tp At16 56 56 (d 3) t16) fun t23 At23=>Ab (Ag Tp .add 3 (.tmp 8) (.const (.int .i64 1)) (d 8) (.int .i64 1)) fun t24=>BA (T86 0) (T86 0) (S 0 [t23,(d 6),(d 7),t24] At23))))))))))))))) (Q (d 3) A)):=by kernel_rfl
theorem w86:Wf1 86 25 T86 L86:=wf1 (fun _=>by kernel_rfl) (by decide) fun _=>rfl
theorem c86:Ge 86 25 T86 L86:=GF (by decide)
theorem e87 (a0 a1 a2:Value) (A:AW):AR Tp Ai W0 m0 87 Tz Lz S Q none 4000 (Tm.fill ⟨25,.nil⟩ 0 [a0,a1,a2]) [.code (cd 87 [])] false 0 0 0 [] A=(Ab (Ao Tp 56 a2 (.int .i64 3)) fun t0=>lW A 9 t0 fun t1=>Ab (Ao Tp 56 a2 (.int .i64 2)) fun t2=>lW A 9 t2 fun t3=>Ab (Ao Tp 56 a2 (.int .i64 1)) fun t4=>lW A 9 t4 fun t5=>Ab (Ao Tp 56 a2 (.int .i64 0)) fun t6=>lW A 9 t6 fun t7=>cW W0 m0 49 [a0,t1,t3] A fun t8 At8=>lW At8 9 t6 fun t9=>eqW t9 t7 (Ab (Ao Tp 56 a2 (.int .i64 0)) fun t10=>eqW t10 t6 (eqW a2 a2 (lW At8 9 t4 fun t11=>eqW t11 t5 (Ab (Ao Tp 56 a2 (.int .i64 1)) fun t12=>eqW t12 t4 (eqW a2 a2 (eqW a0 a0 (eqW a1 a1 (cW W0 m0 49 [a0,t5,t7] At8 fun t13 At13=>eqW a1 a1 (cW W0 m0 49 [a1,t8,t13] At13 fun t14 At14=>Q t14 At14)))))))))):=by kernel_rfl
theorem w87:Wf3 87 25 Tz Lz:=wf3 (fun _ _ _=>by kernel_rfl) (by decide) fun _ _ _=>rfl
noncomputable def T91:Nat→List Item:=fun i=>match i with
 | 0=>[(.code (cd 91 [1,1,1,1,0,0])),(.inLoop (cd 91 [1,1,1,1,0,0])),(.inBlock 0)]
 | _=>[]
def L91:Nat→List Tmp:=fun i=>match i with
 | 0=>[0,1,5]
 | _=>[]
theorem e91 (a0 a1:Value) (A:AW):AR Tp Ai W0 m0 91 T91 L91 S Q none 4000 (Tm.fill ⟨34,.nil⟩ 0 [a0,a1]) [.code (cd 91 [])] false 0 0 0 [] A=(Ab (Bm Tp A 9 a1) fun t0=>kW .eql 3 8 (.int .i64 0) t0 fun t1=>Af t1 (cW W0 m0 106 [a0] A fun t2 At2=>kW .add 3 11 (.int .i64 1) t2 fun t3=>Q t3 At2) (Ab (Bm Tp A 9 a1) fun t4=>kW .eql 3 14 (.int .i64 1) t4 fun t5=>Af t5 (Ab (BK Tp 9 a1 (.int .i64 0)) fun t6=>anW Tp Ai W0 m0 (BJ Tp Ai A 108 [a0,t6]) fun t7 At7=>Q t7 At7) (BA (T91 0) (T91 0) (S 0 [a0,a1,(.int .i64 0)] A)))):=by kernel_rfl
theorem w91:Wf2 91 34 T91 L91:=wf2 (fun _ _=>by kernel_rfl) (by decide) fun _ _=>rfl
theorem e92 (a0 a1:Value) (A:AW):AR Tp Ai W0 m0 92 Tz Lz S Q none 4000 (Tm.fill ⟨8,.nil⟩ 0 [a0,a1]) [.code (cd 92 [])] false 0 0 0 [] A=(cW W0 m0 109 [a0,a1] A fun t0 At0=>Q t0 At0):=by kernel_rfl
theorem w92:Wf2 92 8 Tz Lz:=wf2 (fun _ _=>by kernel_rfl) (by decide) fun _ _=>rfl
theorem e93 (a0 a1:Value) (A:AW):AR Tp Ai W0 m0 93 Tz Lz S Q none 4000 (Tm.fill ⟨26,.nil⟩ 0 [a0,a1]) [.code (cd 93 [])] false 0 0 0 [] A=(cW W0 m0 64 [a0] A fun t0 At0=>cW W0 m0 110 [t0,(.int .i64 10),a1] At0 fun t1 At1=>xW t1 0 fun t2=>xW t1 1 fun t3=>Ab (Ca a0) fun t4=>fW 96 t4 1 fun t5=>lW At1 4 t5 fun t6=>Af t6 (Ab (Ca a0) fun t7=>fW 96 t7 1 fun t8=>Bp (AZ Tp At1 4 t8 (.bool true)) fun At9=>Q t2 At9) (Ab (Ag Tp .neq 72 (.tmp 20) (.const .nilIface) t3 .nilIface) fun t10=>Ab (Ca a0) fun t11=>fW 96 t11 1 fun t12=>sW At1 4 t12 t10 fun At13=>Q t2 At13)):=by kernel_rfl
theorem w93:Wf2 93 26 Tz Lz:=wf2 (fun _ _=>by kernel_rfl) (by decide) fun _ _=>rfl
abbrev K0 (X1:AW) (x2:Value):Prop:=Ab (B0 Tp 32 []) fun t900=>sW X1 32 x2 t900 fun At903=>lW At903 32 x2 fun t904=>Q (.tuple ⟨[t904,(.int .i64 5)]⟩) At903
theorem e94 (a0:Value) (A:AW):AR Tp Ai W0 m0 94 Tz Lz S Q none 4000 (Tm.fill ⟨69,.nil⟩ 0 [a0]) [.code (cd 94 [])] false 0 0 0 [] A=(Ap (B5 Tp A 32) fun t0 At0=>cW W0 m0 37 [a0,(.string ⟨⟨[46]⟩⟩)] At0 fun t1 At1=>Ab (Bm Tp At1 56 t1) fun t2=>kW .neq 3 15 (.int .i64 3) t2 fun t3=>Af t3 (K0 Q At1 t0) (Ab (Ao Tp 56 t1 (.int .i64 0)) fun t7=>lW At1 9 t7 fun t8=>cW W0 m0 110 [t8,(.int .i64 10),(.int .i64 32)] At1 fun t9 At9=>xW t9 0 fun t10=>xW t9 1 fun t11=>Ab (Ao Tp 56 t1 (.int .i64 1)) fun t12=>lW At9 9 t12 fun t13=>cW W0 m0 111 [t13] At9 fun t14 At14=>xW t14 0 fun t15=>xW t14 1 fun t16=>Ab (Ao Tp 56 t1 (.int .i64 2)) fun t17=>lW At14 9 t17 fun t18=>cW W0 m0 111 [t18] At14 fun t19 At19=>xW t19 0 fun t20=>xW t19 1 fun t21=>Ap (AD Tp At19 35 30 t10) fun t22 At22=>Ab (B0 Tp 32 [(0,t22),(1,t15),(2,t20)]) fun t23=>Ap (B5 Tp At22 32) fun t24 At24=>sW At24 32 t24 t23 fun At25=>Ab (Ag Tp .neq 72 (.tmp 44) (.const .nilIface) t11 .nilIface) fun t26=>Af t26 (eqW undef undef (eqW undef undef (eqW undef undef (K0 Q At25 t0)))) (Ab (unA Tp .not t16) fun t30=>Af t30 (eqW undef undef (eqW undef undef (eqW undef undef (K0 Q At25 t0)))) (Ab (unA Tp .not t21) fun t34=>Af t34 (eqW undef undef (eqW undef undef (eqW undef undef (K0 Q At25 t0)))) (Ab (Ao Tp 56 t1 (.int .i64 0)) fun t38=>lW At25 9 t38 fun t39=>cW W0 m0 79 [t10,(.int .i64 10)] At25 fun t40 At40=>lW At40 9 t38 fun t41=>eqW t41 t39 (Ab (Ao Tp 56 t1 (.int .i64 0)) fun t42=>eqW t42 t38 (eqW t1 t1 (Ab (Ag Tp .neq 9 (.tmp 56) (.tmp 59) t40 t39) fun t43=>Af t43 (K0 Q At40 t0) (lW At40 32 t24 fun t47=>cW W0 m0 100 [t47] At40 fun t48 At48=>kW .neq 24 64 (.int .i64 0) t48 fun t49=>Af t49 (K0 Q At48 t0) (lW At48 32 t24 fun t53=>sW At48 32 t0 t53 fun At54=>lW At54 32 t0 fun t55=>Q (.tuple ⟨[t55,(.int .i64 0)]⟩) At54)))))))))):=by kernel_rfl
theorem w94:Wf1 94 69 Tz Lz:=wf1 (fun _=>by kernel_rfl) (by decide) fun _=>rfl
theorem e95 (a0:Value) (A:AW):AR Tp Ai W0 m0 95 Tz Lz S Q none 4000 (Tm.fill ⟨18,.nil⟩ 0 [a0]) [.code (cd 95 [])] false 0 0 0 [] A=(knW Tp W0 m0 112 [a0] A fun t0 At0=>xW t0 0 fun t1=>xW t0 1 fun t2=>Ab (Ag Tp .neq 72 (.tmp 11) (.const .nilIface) t2 .nilIface) fun t3=>Af t3 (cW W0 m0 113 [(.string ⟨⟨[65,116,111,105]⟩⟩),a0,(.int .i64 0),(.int .i64 0),t2] At0 fun t4 At4=>Q (.tuple ⟨[t1,t4]⟩) At4) (Q (.tuple ⟨[t1,.nilIface]⟩) At0)):=by kernel_rfl
theorem w95:Wf1 95 18 Tz Lz:=wf1 (fun _=>by kernel_rfl) (by decide) fun _=>rfl
noncomputable def T96:Nat→List Item:=fun i=>match i with
 | 0=>[(.code (cd 96 [1,1,0,0,0])),(.inLoop (cd 96 [1,1,0,0,0])),(.inBlock 0),(.code (cd 96 [1,1,1]))]
 | _=>[]
def L96:Nat→List Tmp:=fun i=>match i with
 | 0=>[0,1,5]
 | _=>[]
theorem e96 (a0 a1:Value) (A:AW):AR Tp Ai W0 m0 96 T96 L96 S Q none 4000 (Tm.fill ⟨25,.nil⟩ 0 [a0,a1]) [.code (cd 96 [])] false 0 0 0 [] A=(BA (T96 0) (T96 0) (S 0 [a0,a1,(.slice none 0 0)] A)):=by kernel_rfl
theorem AaZ (d:Nat→Value) (A:AW):AR Tp Ai W0 m0 96 T96 L96 S Q none 4000 (DR 25 d) (T96 0) false 0 0 0 [] A=(Ab (Ca (d 0)) fun t0=>fW 96 t0 0 fun t1=>lW A 56 t1 fun t2=>Ab (Bm Tp A 56 t2) fun t3=>kW .gtr 3 10 (.int .i64 0) t3 fun t4=>Af t4 (Ab (Ca (d 0)) fun t5=>fW 96 t5 1 fun t6=>lW A 4 t6 fun t7=>Ab (unA Tp .not t7) fun t8=>Af t8 (anW Tp Ai W0 m0 (Fo Tp Ai A (d 1) []) fun t9 At9=>Ap (Ar Tp At9 36 1 [(0,t9)]) fun t10 At10=>Ap (Bh Tp At10 36 36 (d 5) t10) fun t11 At11=>BA (T96 0) (T96 0) (S 0 [(d 0),(d 1),t11] At11)) (Q (d 5) A)) (Q (d 5) A)):=by kernel_rfl
theorem w96:Wf2 96 25 T96 L96:=wf2 (fun _ _=>by kernel_rfl) (by decide) fun _ _=>rfl
theorem c96:Ge 96 25 T96 L96:=GF (by decide)
theorem e97 (a0:Value) (A:AW):AR Tp Ai W0 m0 97 Tz Lz S Q none 4000 (Tm.fill ⟨39,.nil⟩ 0 [a0]) [.code (cd 97 [])] false 0 0 0 [] A=(Ap (B5 Tp A 54) fun t0 At0=>cW W0 m0 64 [a0] At0 fun t1 At1=>cW W0 m0 114 [t1,(.string ⟨⟨[58]⟩⟩)] At1 fun t2 At2=>xW t2 0 fun t3=>xW t2 1 fun t4=>xW t2 2 fun t5=>Ap (Ar Tp At2 56 2 [(0,t3),(1,t4)]) fun t6 At6=>Ab (B0 Tp 96 [(0,t6)]) fun t7=>Ap (Ep At6 (Value.cells t7).toList 96) fun t8 At8=>cW W0 m0 71 [t8] At8 fun t9 At9=>cW W0 m0 93 [t8,(.int .i64 64)] At9 fun t10 At10=>Ab (B0 Tp 54 [(0,t9),(1,t10)]) fun t11=>Ap (B5 Tp At10 54) fun t12 At12=>sW At12 54 t12 t11 fun At13=>Ab (Ca a0) fun t14=>fW 96 t14 1 fun t15=>lW At13 4 t15 fun t16=>Af t16 (Ab (Ca a0) fun t17=>fW 96 t17 1 fun t18=>Bp (AZ Tp At13 4 t18 (.bool true)) fun At19=>lW At19 54 t12 fun t20=>sW At19 54 t0 t20 fun At21=>lW At21 54 t0 fun t22=>Q t22 At21) (Ab (Ca t8) fun t23=>fW 96 t23 1 fun t24=>lW At13 4 t24 fun t25=>Ab (Ca a0) fun t26=>fW 96 t26 1 fun t27=>sW At13 4 t27 t25 fun At28=>lW At28 54 t12 fun t29=>sW At28 54 t0 t29 fun At30=>lW At30 54 t0 fun t31=>Q t31 At30)):=by kernel_rfl
theorem w97:Wf1 97 39 Tz Lz:=wf1 (fun _=>by kernel_rfl) (by decide) fun _=>rfl
theorem e98 (a0 a1:Value) (A:AW):AR Tp Ai W0 m0 98 Tz Lz S Q none 4000 (Tm.fill ⟨16,.nil⟩ 0 [a0,a1]) [.code (cd 98 [])] false 0 0 0 [] A=(cW W0 m0 64 [a0] A fun t0 At0=>cW W0 m0 115 [a1,t0] At0 fun t1 At1=>kW .and 3 11 (.int .i64 1) t1 fun t2=>kW .eql 3 12 (.int .i64 1) t2 fun t3=>kW .geq 3 14 (.int .i64 2) t1 fun t4=>Q (.tuple ⟨[t3,t4]⟩) At1):=by kernel_rfl
theorem w98:Wf2 98 16 Tz Lz:=wf2 (fun _ _=>by kernel_rfl) (by decide) fun _ _=>rfl
noncomputable def X3:Nat→List Item:=fun i=>match i with
 | 1=>[(.code (cd 109 [1,1,1,1,1,1,1,1,0,0,0])),(.inLoop (cd 109 [1,1,1,1,1,1,1,1,0,0,0])),(.inBlock 1),(.code (cd 109 [1,1,1,1,1,1,1,1,1]))]
 | _=>[]
def AbO:Nat→List Tmp:=fun i=>match i with
 | 1=>[0,1,5,6,7,8,9,10]
 | _=>[]
abbrev TD (a0:Value) (a1:Value) (A:AW) (x3:Value):Prop:=Ab (BK Tp 9 a1 (.int .i64 0)) fun t900=>Ab (BK Tp 9 a1 (.int .i64 1)) fun t901=>Ab (Bm Tp A 9 a0) fun t902=>Ab (Ag Tp .sub 3 (.tmp 53) (.tmp 54) t902 x3) fun t904=>kW .add 3 55 (.int .i64 1) t904 fun t905=>BA (X3 1) (X3 1) (S 1 [a0,a1,x3,t900,t901,(.int .i64 0),t905,(.int .i64 0)] A)
theorem ZH (a0 a1:Value) (A:AW):AR Tp Ai W0 m0 109 X3 AbO S Q none 4000 (Tm.fill ⟨143,.nil⟩ 0 [a0,a1]) [.code (cd 109 [])] false 0 0 0 [] A=(Ab (Bm Tp A 9 a1) fun t0=>kW .eql 3 17 (.int .i64 0) t0 fun t1=>Af t1 (Q (.int .i64 0) A) (Ab (Ag Tp .eql 9 (.tmp 20) (.tmp 21) a1 a0) fun t2=>Af t2 (Q (.int .i64 0) A) (kW .eql 3 25 (.int .i64 1) t0 fun t3=>Af t3 (Ab (BK Tp 9 a1 (.int .i64 0)) fun t4=>cW W0 m0 52 [a0,t4] A fun t5 At5=>Q t5 At5) (Ab (Bm Tp A 9 a0) fun t6=>Ab (Ag Tp .geq 3 (.tmp 32) (.tmp 34) t0 t6) fun t7=>Af t7 (Q (.int .i64 (-1)) A) (Ab (Au Tp A 3 (.pointer (some ⟨0,0,none⟩))) fun t8=>Ab (Ag Tp .leq 3 (.tmp 37) (.tmp 38) t0 t8) fun t9=>Af t9 (Ab (Bm Tp A 9 a0) fun t10=>kW .leq 3 42 (.int .i64 64) t10 fun t11=>Af t11 (anW Tp Ai W0 m0 (BJ Tp Ai A 122 [a0,a1]) fun t12 At12=>Q t12 At12) (TD S a0 a1 A t0)) (TD S a0 a1 A t0)))))):=by kernel_rfl
theorem AcC:Wf2 109 143 X3 AbO:=wf2 (fun _ _=>by kernel_rfl) (by decide) fun _ _=>rfl
theorem WD (a0 a1 a2:Value) (A:AW):AR Tp Ai W0 m0 110 Tz Lz S Q none 4000 (Tm.fill ⟨26,.nil⟩ 0 [a0,a1,a2]) [.code (cd 110 [])] false 0 0 0 [] A=(knW Tp W0 m0 125 [a0,a1,a2] A fun t0 At0=>xW t0 0 fun t1=>xW t0 1 fun t2=>Ab (Ag Tp .neq 72 (.tmp 17) (.const .nilIface) t2 .nilIface) fun t3=>Af t3 (cW W0 m0 113 [(.string ⟨⟨[80,97,114,115,101,85,105,110,116]⟩⟩),a0,a1,a2,t2] At0 fun t4 At4=>Q (.tuple ⟨[t1,t4]⟩) At4) (Q (.tuple ⟨[t1,.nilIface]⟩) At0)):=by kernel_rfl
theorem AcB:Wf3 110 26 Tz Lz:=wf3 (fun _ _ _=>by kernel_rfl) (by decide) fun _ _ _=>rfl
noncomputable def ED:Nat→List Item:=fun i=>match i with
 | 0=>[(.code (cd 111 [1,1,1,0,1,0,0])),(.inLoop (cd 111 [1,1,1,0,1,0,0])),(.inBlock 0),(.code (cd 111 [1,1,1,1]))]
 | _=>[]
def W6:Nat→List Tmp:=fun i=>match i with
 | 0=>[4,5,10]
 | _=>[]
theorem Adl (a0:Value) (A:AW):AR Tp Ai W0 m0 111 ED W6 S Q none 4000 (Tm.fill ⟨52,.nil⟩ 0 [a0]) [.code (cd 111 [])] false 0 0 0 [] A=(anW Tp Ai W0 m0 (JX Tp A 9 a0) fun t0 At0=>BA (ED 0) (ED 0) (S 0 [(.slice none 0 0),(.int .i64 (-1)),t0] At0)):=by kernel_rfl
abbrev OR (x0:Value) (X4:AW) (x9:Value) (x11:Value) (x12:Value):Prop:=kW .geq 21 25 (.int .i32 97) x0 fun t901=>Af t901 (kW .leq 21 28 (.int .i32 102) x0 fun t902=>Af t902 (kW .sub 21 31 (.int .i32 97) x0 fun t903=>Ap (AD Tp X4 21 3 t903) fun t905 At906=>kW .add 3 33 (.int .i64 10) t905 fun t907=>kW .lss 3 35 (.int .i64 0) t907 fun t908=>Af t908 (Q (.tuple ⟨[(.string ⟨⟨[]⟩⟩),(.bool false)]⟩) At906) (Ab (Ag Tp .lss 3 (.tmp 37) (.const (.int .i64 0)) x9 (.int .i64 0)) fun t910=>Af t910 (BA (ED 0) (ED 0) (S 0 [x11,t907,x12] At906)) (Ab (Ag Tp .shl 3 (.tmp 41) (.const (.int .u64 4)) x9 (.int .u64 4)) fun t913=>Ab (Ag Tp .or 3 (.tmp 42) (.tmp 43) t913 t907) fun t914=>Ap (AD Tp At906 3 5 t914) fun t915 At916=>Ap (Ar Tp At916 33 1 [(0,t915)]) fun t917 At918=>Ap (Bh Tp At918 33 33 x11 t917) fun t919 At920=>BA (ED 0) (ED 0) (S 0 [t919,(.int .i64 (-1)),x12] At920)))) (Ab (Ag Tp .lss 3 (.tmp 35) (.const (.int .i64 0)) (.int .i64 (-1)) (.int .i64 0)) fun t921=>Af t921 (Q (.tuple ⟨[(.string ⟨⟨[]⟩⟩),(.bool false)]⟩) X4) (Ab (Ag Tp .lss 3 (.tmp 37) (.const (.int .i64 0)) x9 (.int .i64 0)) fun t922=>Af t922 (BA (ED 0) (ED 0) (S 0 [x11,(.int .i64 (-1)),x12] X4)) (Ab (Ag Tp .shl 3 (.tmp 41) (.const (.int .u64 4)) x9 (.int .u64 4)) fun t923=>Ab (Ag Tp .or 3 (.tmp 42) (.tmp 43) t923 (.int .i64 (-1))) fun t924=>Ap (AD Tp X4 3 5 t924) fun t925 At926=>Ap (Ar Tp At926 33 1 [(0,t925)]) fun t927 At928=>Ap (Bh Tp At928 33 33 x11 t927) fun t929 At930=>BA (ED 0) (ED 0) (S 0 [t929,(.int .i64 (-1)),x12] At930))))) (Ab (Ag Tp .lss 3 (.tmp 35) (.const (.int .i64 0)) (.int .i64 (-1)) (.int .i64 0)) fun t931=>Af t931 (Q (.tuple ⟨[(.string ⟨⟨[]⟩⟩),(.bool false)]⟩) X4) (Ab (Ag Tp .lss 3 (.tmp 37) (.const (.int .i64 0)) x9 (.int .i64 0)) fun t932=>Af t932 (BA (ED 0) (ED 0) (S 0 [x11,(.int .i64 (-1)),x12] X4)) (Ab (Ag Tp .shl 3 (.tmp 41) (.const (.int .u64 4)) x9 (.int .u64 4)) fun t933=>Ab (Ag Tp .or 3 (.tmp 42) (.tmp 43) t933 (.int .i64 (-1))) fun t934=>Ap (AD Tp X4 3 5 t934) fun t935 At936=>Ap (Ar Tp At936 33 1 [(0,t935)]) fun t937 At938=>Ap (Bh Tp At938 33 33 x11 t937) fun t939 At940=>BA (ED 0) (ED 0) (S 0 [t939,(.int .i64 (-1)),x12] At940))))
theorem Zy (d:Nat→Value) (A:AW):AR Tp Ai W0 m0 111 ED W6 S Q none 4000 (DR 52 d) (ED 0) false 0 0 0 [] A=(anW Tp Ai W0 m0 (Ik A (d 10) true) fun t0 At0=>xW t0 0 fun t1=>Af t1 (xW t0 2 fun t2=>kW .geq 21 15 (.int .i32 48) t2 fun t3=>Af t3 (kW .leq 21 18 (.int .i32 57) t2 fun t4=>Af t4 (kW .sub 21 21 (.int .i32 48) t2 fun t5=>Ap (AD Tp At0 21 3 t5) fun t6 At6=>kW .lss 3 35 (.int .i64 0) t6 fun t7=>Af t7 (Q (.tuple ⟨[(.string ⟨⟨[]⟩⟩),(.bool false)]⟩) At6) (Ab (Ag Tp .lss 3 (.tmp 37) (.const (.int .i64 0)) (d 5) (.int .i64 0)) fun t8=>Af t8 (BA (ED 0) (ED 0) (S 0 [(d 4),t6,(d 10)] At6)) (Ab (Ag Tp .shl 3 (.tmp 41) (.const (.int .u64 4)) (d 5) (.int .u64 4)) fun t9=>Ab (Ag Tp .or 3 (.tmp 42) (.tmp 43) t9 t6) fun t10=>Ap (AD Tp At6 3 5 t10) fun t11 At11=>Ap (Ar Tp At11 33 1 [(0,t11)]) fun t12 At12=>Ap (Bh Tp At12 33 33 (d 4) t12) fun t13 At13=>BA (ED 0) (ED 0) (S 0 [t13,(.int .i64 (-1)),(d 10)] At13)))) (OR S Q t2 At0 (d 5) (d 4) (d 10))) (OR S Q t2 At0 (d 5) (d 4) (d 10))) (Ap (AD Tp At0 33 9 (d 4)) fun t66 At66=>Ab (Ag Tp .lss 3 (.tmp 50) (.const (.int .i64 0)) (d 5) (.int .i64 0)) fun t67=>Q (.tuple ⟨[t66,t67]⟩) At66)):=by kernel_rfl
theorem AcA:Wf1 111 52 ED W6:=wf1 (fun _=>by kernel_rfl) (by decide) fun _=>rfl
theorem Adp:Ge 111 52 ED W6:=GF (by decide)
theorem Adj (a0 a1:Value) (A:AW):AR Tp Ai W0 m0 114 Tz Lz S Q none 4000 (Tm.fill ⟨13,.nil⟩ 0 [a0,a1]) [.code (cd 114 [])] false 0 0 0 [] A=(cW W0 m0 131 [a0,a1] A fun t0 At0=>xW t0 0 fun t1=>xW t0 1 fun t2=>xW t0 2 fun t3=>Q (.tuple ⟨[t1,t2,t3]⟩) At0):=by kernel_rfl
theorem Acy:Wf2 114 13 Tz Lz:=wf2 (fun _ _=>by kernel_rfl) (by decide) fun _ _=>rfl
noncomputable def Qk:Nat→List Item:=fun i=>match i with
 | 0=>[(.code (cd 115 [1,0,1,0,0])),(.inLoop (cd 115 [1,0,1,0,0])),(.inBlock 0),(.code (cd 115 [1,1]))]
 | _=>[]
def W5:Nat→List Tmp:=fun i=>match i with
 | 0=>[0,1,7,8]
 | _=>[]
theorem ZG (a0 a1:Value) (A:AW):AR Tp Ai W0 m0 115 Qk W5 S Q none 4000 (Tm.fill ⟨19,.nil⟩ 0 [a0,a1]) [.code (cd 115 [])] false 0 0 0 [] A=(Ab (Bm Tp A 56 a0) fun t0=>BA (Qk 0) (Qk 0) (S 0 [a0,a1,t0,(.int .i64 0)] A)):=by kernel_rfl
theorem Zx (d:Nat→Value) (A:AW):AR Tp Ai W0 m0 115 Qk W5 S Q none 4000 (DR 19 d) (Qk 0) false 0 0 0 [] A=(Ab (Ag Tp .lss 3 (.tmp 8) (.tmp 7) (d 8) (d 7)) fun t0=>Af t0 (Ab (Ao Tp 56 (d 0) (d 8)) fun t1=>lW A 9 t1 fun t2=>Ab (Ag Tp .eql 9 (.tmp 11) (.tmp 15) (d 1) t2) fun t3=>Af t3 (Q (d 8) A) (Ab (Ag Tp .add 3 (.tmp 8) (.const (.int .i64 1)) (d 8) (.int .i64 1)) fun t4=>BA (Qk 0) (Qk 0) (S 0 [(d 0),(d 1),(d 7),t4] A))) (Q (.int .i64 (-1)) A)):=by kernel_rfl
theorem Acx:Wf2 115 19 Qk W5:=wf2 (fun _ _=>by kernel_rfl) (by decide) fun _ _=>rfl
theorem Ado:Ge 115 19 Qk W5:=GF (by decide)
theorem Adg (a0 a1:Value) (A:AW):AR Tp Ai W0 m0 131 Tz Lz S Q none 4000 (Tm.fill ⟨23,.nil⟩ 0 [a0,a1]) [.code (cd 131 [])] false 0 0 0 [] A=(cW W0 m0 109 [a0,a1] A fun t0 At0=>kW .geq 3 11 (.int .i64 0) t0 fun t1=>Af t1 (Ab (BM Tp At0 9 a0 none (some t0) none) fun t2=>Ab (Bm Tp At0 9 a1) fun t3=>Ab (Ag Tp .add 3 (.tmp 17) (.tmp 19) t0 t3) fun t4=>Ab (BM Tp At0 9 a0 (some t4) none none) fun t5=>Ab (BM Tp At0 9 a0 (some t4) none none) fun t6=>eqW t6 t5 (Ab (Ag Tp .add 3 (.tmp 17) (.tmp 19) t0 t3) fun t7=>eqW t7 t4 (Ab (Bm Tp At0 9 a1) fun t8=>eqW t8 t3 (eqW a1 a1 (eqW t0 t0 (eqW a0 a0 (Q (.tuple ⟨[t2,t5,(.bool true)]⟩) At0))))))) (Q (.tuple ⟨[a0,(.string ⟨⟨[]⟩⟩),(.bool false)]⟩) At0)):=by kernel_rfl
theorem Acu:Wf2 131 23 Tz Lz:=wf2 (fun _ _=>by kernel_rfl) (by decide) fun _ _=>rfl
theorem Adk (a0 a1 a2 a3 a4:Value) (A:AW):AR Tp Ai W0 m0 113 Tz Lz S Q none 4000 (Tm.fill ⟨43,.nil⟩ 0 [a0,a1,a2,a3,a4]) [.code (cd 113 [])] false 0 0 0 [] A=(Ab (Ey Tp 164 (.int .i64 2)) fun t0=>Ab (Ag Tp .eql 72 (.tmp 11) (.tmp 13) a4 t0) fun t1=>Af t1 (cW W0 m0 127 [a0,a1] A fun t2 At2=>Ab (Ey Tp 167 t2) fun t3=>Q t3 At2) (Ab (Ey Tp 164 (.int .i64 1)) fun t4=>Ab (Ag Tp .eql 72 (.tmp 11) (.tmp 20) a4 t4) fun t5=>Af t5 (cW W0 m0 128 [a0,a1] A fun t6 At6=>Ab (Ey Tp 167 t6) fun t7=>Q t7 At6) (Ab (Ey Tp 164 (.int .i64 3)) fun t8=>Ab (Ag Tp .eql 72 (.tmp 11) (.tmp 27) a4 t8) fun t9=>Af t9 (cW W0 m0 129 [a0,a1,a2] A fun t10 At10=>Ab (Ey Tp 167 t10) fun t11=>Q t11 At10) (Ab (Ey Tp 164 (.int .i64 4)) fun t12=>Ab (Ag Tp .eql 72 (.tmp 11) (.tmp 35) a4 t12) fun t13=>Af t13 (cW W0 m0 130 [a0,a1,a3] A fun t14 At14=>Ab (Ey Tp 167 t14) fun t15=>Q t15 At14) (Q a4 A))))):=by kernel_rfl
theorem Acz:Wf5 113 43 Tz Lz:=wf5 (fun _ _ _ _ _=>by kernel_rfl) (by decide) fun _ _ _ _ _=>rfl
end
def puR:Go.Shelf.Ren:=⟨fun | 287=>125 | 321=>138 | 322=>139 | x=>x,fun | 37=>33 | 46=>74 | 53=>35 | 75=>72 | 80=>78 | 167=>164 | x=>x,fun x=>x⟩
theorem puX:Go.Proofs.Lays.n287 Tp puR where
 mixed:=by kernel_rfl
 f287:=Tryz.func125.trans (congrArg some (by kernel_rfl))
 f321:=Tryz.func138.trans (congrArg some (by kernel_rfl))
 f322:=Tryz.func139.trans (congrArg some (by kernel_rfl))
 t0:=Tryz.underlying0
 a0:=Tryz.isAgg0
 z0:=Tryz.sizeOf0
 v0:=Tryz.zeroValue0
 t3:=Tryz.underlying3
 a3:=Tryz.isAgg3
 z3:=Tryz.sizeOf3
 v3:=Tryz.zeroValue3
 t4:=Tryz.underlying4
 a4:=Tryz.isAgg4
 z4:=Tryz.sizeOf4
 v4:=Tryz.zeroValue4
 t5:=Tryz.underlying5
 a5:=Tryz.isAgg5
 z5:=Tryz.sizeOf5
 v5:=Tryz.zeroValue5
 t9:=Tryz.underlying9
 a9:=Tryz.isAgg9
 z9:=Tryz.sizeOf9
 v9:=Tryz.zeroValue9
 t21:=Tryz.underlying21
 a21:=Tryz.isAgg21
 z21:=Tryz.sizeOf21
 v21:=Tryz.zeroValue21
 t37:=Tryz.underlying33
 a37:=Tryz.isAgg33
 z37:=Tryz.sizeOf33
 v37:=Tryz.zeroValue33
 t46:=Tryz.underlying74
 a46:=Tryz.isAgg74
 z46:=Tryz.sizeOf74
 v46:=Tryz.zeroValue74
 t53:=Tryz.underlying35
 a53:=Tryz.isAgg35
 z53:=Tryz.sizeOf35
 v53:=Tryz.zeroValue35
 t75:=Tryz.underlying72
 a75:=Tryz.isAgg72
 z75:=Tryz.sizeOf72
 v75:=Tryz.zeroValue72
 t167:=Tryz.underlying164
 a167:=Tryz.isAgg164
 z167:=Tryz.sizeOf164
 v167:=Tryz.zeroValue164
def atR:Go.Shelf.Ren:=⟨fun | 244=>112 | 247=>126 | 287=>125 | 321=>138 | 322=>139 | x=>x,fun | 37=>33 | 46=>74 | 53=>35 | 75=>72 | 80=>78 | 85=>165 | 167=>164 | 175=>151 | x=>x,fun x=>x⟩
theorem atX:Go.Proofs.LaysC.n244 Tp atR where
 mixed:=by kernel_rfl
 f244:=Tryz.func112.trans (congrArg some (by kernel_rfl))
 f247:=Tryz.func126.trans (congrArg some (by kernel_rfl))
 f287:=Tryz.func125.trans (congrArg some (by kernel_rfl))
 f321:=Tryz.func138.trans (congrArg some (by kernel_rfl))
 f322:=Tryz.func139.trans (congrArg some (by kernel_rfl))
 t0:=Tryz.underlying0
 a0:=Tryz.isAgg0
 z0:=Tryz.sizeOf0
 v0:=Tryz.zeroValue0
 t2:=Tryz.underlying2
 a2:=Tryz.isAgg2
 z2:=Tryz.sizeOf2
 v2:=Tryz.zeroValue2
 t3:=Tryz.underlying3
 a3:=Tryz.isAgg3
 z3:=Tryz.sizeOf3
 v3:=Tryz.zeroValue3
 t4:=Tryz.underlying4
 a4:=Tryz.isAgg4
 z4:=Tryz.sizeOf4
 v4:=Tryz.zeroValue4
 t5:=Tryz.underlying5
 a5:=Tryz.isAgg5
 z5:=Tryz.sizeOf5
 v5:=Tryz.zeroValue5
 t9:=Tryz.underlying9
 a9:=Tryz.isAgg9
 z9:=Tryz.sizeOf9
 v9:=Tryz.zeroValue9
 t21:=Tryz.underlying21
 a21:=Tryz.isAgg21
 z21:=Tryz.sizeOf21
 v21:=Tryz.zeroValue21
 t37:=Tryz.underlying33
 a37:=Tryz.isAgg33
 z37:=Tryz.sizeOf33
 v37:=Tryz.zeroValue33
 t46:=Tryz.underlying74
 a46:=Tryz.isAgg74
 z46:=Tryz.sizeOf74
 v46:=Tryz.zeroValue74
 t53:=Tryz.underlying35
 a53:=Tryz.isAgg35
 z53:=Tryz.sizeOf35
 v53:=Tryz.zeroValue35
 t75:=Tryz.underlying72
 a75:=Tryz.isAgg72
 z75:=Tryz.sizeOf72
 v75:=Tryz.zeroValue72
 t85:=Tryz.underlying165
 a85:=Tryz.isAgg165
 z85:=Tryz.sizeOf165
 v85:=Tryz.zeroValue165
 t167:=Tryz.underlying164
 a167:=Tryz.isAgg164
 z167:=Tryz.sizeOf164
 v167:=Tryz.zeroValue164
 t175:=Tryz.underlying151
 a175:=Tryz.isAgg151
 z175:=Tryz.sizeOf151
 v175:=Tryz.zeroValue151
 t80:=Tryz.underlying78
 a80:=Tryz.isAgg78
 z80:=Tryz.sizeOf78
 v80:=Tryz.zeroValue78
 i0:=by kernel_rfl
 i2:=by kernel_rfl
 i3:=by kernel_rfl
 i4:=by kernel_rfl
 i5:=by kernel_rfl
 i9:=by kernel_rfl
 i21:=by kernel_rfl
 i37:=by kernel_rfl
 i46:=by kernel_rfl
 i53:=by kernel_rfl
 i75:=by kernel_rfl
 i80:=by kernel_rfl
 i85:=by kernel_rfl
 i167:=by kernel_rfl
 i175:=by kernel_rfl
 c0:=by kernel_rfl
 c2:=by kernel_rfl
 c3:=by kernel_rfl
 c4:=by kernel_rfl
 c5:=by kernel_rfl
 c9:=by kernel_rfl
 c21:=by kernel_rfl
 c37:=by kernel_rfl
 c46:=by kernel_rfl
 c53:=by kernel_rfl
 c75:=by kernel_rfl
 c80:=by kernel_rfl
 c85:=by kernel_rfl
 c167:=by kernel_rfl
 c175:=by kernel_rfl
def UW (M:Nat) (w:Word) (n:Nat) (bad:Bool):Prop:=n≤M∧∀ m,m≤M→w=Lib.decDigits m→n=m∧bad=false
theorem OT (M:Nat):∀ (l r:List UInt8) (acc a:Nat),Lib.parseUintM M acc l=.ok a→Lib.parseUintM M acc (l++r)=Lib.parseUintM M a r
 | [],r,acc,a,h=>by
  simp only [Lib.parseUintM] at h
  cases h
  rfl
 | c::l,r,acc,a,h=>by
  simp only [List.cons_append,Lib.parseUintM] at h ⊢
  split at h
  ·rename_i h1
   rw [if_pos h1]
   split at h
   ·cases h
   ·rename_i h2
    rw [if_neg h2]
    split at h
    ·cases h
    ·rename_i h3
     rw [if_neg h3]
     exact OT M l r _ a h
  ·cases h
theorem Jd (M:Nat) (hM:M < 18446744073709551616) (m:Nat) (hm:m≤M):Lib.parseUintM M 0 (Lib.decDigits m)=.ok m:=by
 induction m using Nat.strongRecOn with
 | ind m ih=>
  by_cases h:m < 10
  ·rw [Fp h]
   have h1:(UInt8.ofNat (48+m)).toNat=48+m:=by rw [UInt8.toNat_ofNat'];omega
   simp only [Lib.parseUintM,h1]
   rw [if_pos ⟨by omega,by omega⟩,if_neg (by omega),if_neg (by omega)]
   congr 1;omega
  ·rw [HL h,OT M _ _ 0 (m / 10) (ih (m / 10) (by omega) (by omega))]
   have h1:(UInt8.ofNat (48+m % 10)).toNat=48+m % 10:=by rw [UInt8.toNat_ofNat'];omega
   simp only [Lib.parseUintM,h1]
   rw [if_pos ⟨by omega,by omega⟩,if_neg (by omega),if_neg (by omega)]
   congr 1;omega
theorem Q3 (M:Nat):∀ (l:List UInt8) (acc n:Nat),acc≤M→Lib.parseUintM M acc l=.ok n→n≤M
 | [],acc,n,h0,h=>by
  simp only [Lib.parseUintM] at h
  cases h;exact h0
 | c::l,acc,n,h0,h=>by
  simp only [Lib.parseUintM] at h
  split at h
  ·split at h
   ·cases h
   ·split at h
    ·cases h
    ·exact Q3 M l _ n (by omega) h
  ·cases h
def Zn (n:Nat) (er:Value):Value:=.tuple #[.int .u64 (n:Int),er]
def W9 (er:Value) (bad:Bool):Prop:=(bad=false∧er=.nilIface)∨(bad=true∧∃ c:Int,(c=1∨c=2)∧er=.iface 164 (.int .i64 c))
theorem PL (w:World) (t:ByteArray):Low w (Lib.bytesWorld w 5 t):=by
 refine ⟨⟨rfl,rfl,rfl,by rw [Lib.bytesWorld_size];omega,fun k hk=>Lib.bytesWorld_at_old w 5 t k (by omega)⟩,?_⟩
 simp [Lib.bytesWorld,World.freeze,World.alloc,World.drew,-World.alloc_eq,-World.drew_eq]
theorem Q9 (w:World):Low w w:=⟨⟨rfl,rfl,rfl,Nat.le_refl _,fun _ _=>rfl⟩,Nat.le_refl _⟩
section
variable {W0:World} {m0:Inj Tp}
theorem Nh (M:Nat) (e:Lib.NumEnd Nat) (w:Word) (he:e=Lib.parseUintM M 0 w) (hM:M < 18446744073709551616):∃ n er bad,Lib.uintTupleM 164 (M:Int) e=Zn n er∧W9 er bad∧UW M w n bad:=by
 cases hp:e
 case ok n=>exact ⟨n,.nilIface,false,rfl,.inl ⟨rfl,rfl⟩,Q3 M w 0 n (Nat.zero_le _) (he.symm.trans hp),fun m hm hw=>by
   rw [hw,Jd M hM m hm] at he
   rw [he] at hp;cases hp
   exact ⟨rfl,rfl⟩⟩
 case range=>exact ⟨M,_,true,rfl,.inr ⟨rfl,1,.inl rfl,rfl⟩,Nat.le_refl _,fun m hm hw=>by
   rw [hw,Jd M hM m hm] at he
   rw [he] at hp;cases hp⟩
 exact ⟨0,_,true,rfl,.inr ⟨rfl,2,.inr rfl,rfl⟩,Nat.zero_le _,fun m hm hw=>by
   rw [hw,Jd M hM m hm] at he
   rw [he] at hp;cases hp⟩
theorem Ld:∀ (l:List UInt8) (acc:Nat),Lib.parseUint10 acc l=Lib.parseUintM 18446744073709551615 acc l
 | [],acc=>rfl
 | c::l,acc=>by
  simp only [Lib.parseUint10,Lib.parseUintM]
  have h:(18446744073709551616≤acc * 10+(c.toNat - 48))=(18446744073709551615 < acc * 10+(c.toNat - 48)):=rfl
  simp only [h,Ld l]
def SC (bits:Int):Nat:=if bits=8 then 255 else if bits=32 then 4294967295 else 18446744073709551615
theorem Abp (s:ByteArray) {bits:Int} (hb:bits=8∨bits=32∨bits=64) (hs:(bl s).length < 100000000):∃ n er bad,KC.Holds Tp W0 m0 ⟨125,[.string s,.int .i64 10,.int .i64 bits],[Zn n er]⟩∧W9 er bad∧UW (SC bits) (bl s) n bad:=by
 have hsz:s.size=(bl s).length:=Lib.size_eq s
 have key:∀ (v:Value),(∀ W,Calls Tp 125 #[.string s,.int .i64 10,.int .i64 bits] W fun e W'=>e=.returned v∧Low W W')→KC.Holds Tp W0 m0 ⟨125,[.string s,.int .i64 10,.int .i64 bits],[v]⟩:=fun v hv=>by
  refine ⟨fun h=>absurd h (show (125:Nat)≠JS by decide),fun _ m args' W _ _ ha=>?_⟩
  cases ha with
  | cons h1 h2=>
   cases h2 with
   | cons h3 h4=>
    cases h4 with
    | cons h5 h6=>
     cases h6;cases h1;cases h3;cases h5
     exact (hv W).mono fun e W' ⟨he,hl⟩=>⟨v,List.mem_singleton.2 rfl,he,hl⟩
 by_cases h0:bl s=[]
 ·refine ⟨0,.iface 164 (.int .i64 2),true,key _ fun W=>?_,.inr ⟨rfl,2,.inr rfl,rfl⟩,Nat.zero_le _,fun m hm hw=>?_⟩
  ·have e:s=⟨#[]⟩:=by
    obtain ⟨⟨l⟩⟩:=s
    have h0:l=[]:=h0
    rw [h0]
   subst e
   exact (Any.internal_strconv_ParseUint_empty puX 10 bits W).mono fun e W' ⟨he,hw⟩=>⟨he,hw▸Q9 W⟩
  ·rw [h0] at hw
   have:=congrArg List.length hw
   rw [Lib.decDigits_length] at this
   rcases Nat.eq_zero_or_pos m with rfl | hp
   ·rw [Fp (by decide)] at hw;cases hw
   ·rw [← Lib.decDigits_length,← hw] at this
    by_cases h10:m < 10
    ·rw [Fp h10] at hw;cases hw
    ·rw [HL h10] at hw;simp at hw
 ·have hne:s.size≠0:=by rw [hsz];exact fun h=>h0 (List.eq_nil_of_length_eq_zero h)
  have hmax:s.size≤9223372036854775806:=by omega
  rcases hb with rfl | rfl | rfl
  ·obtain ⟨n,er,bad,e,h1,h2⟩:=Nh 255 _ (bl s) rfl (by decide)
   refine ⟨n,er,bad,key _ fun W=>?_,h1,h2⟩
   exact (Any.internal_strconv_ParseUint_10_b8 puX s hne hmax W).mono fun e' W' ⟨he,hw⟩=>⟨by rw [he];exact congrArg _ e,hw▸PL W s⟩
  ·obtain ⟨n,er,bad,e,h1,h2⟩:=Nh 4294967295 _ (bl s) rfl (by decide)
   refine ⟨n,er,bad,key _ fun W=>?_,h1,h2⟩
   exact (Any.internal_strconv_ParseUint_10_b32 puX s hne hmax W).mono fun e' W' ⟨he,hw⟩=>⟨by rw [he];exact congrArg _ e,hw▸PL W s⟩
  ·obtain ⟨n,er,bad,e,h1,h2⟩:=Nh 18446744073709551615 _ (bl s) rfl (by decide)
   refine ⟨n,er,bad,key _ fun W=>?_,h1,h2⟩
   exact (Any.internal_strconv_ParseUint_10_b64 puX s hne hmax W).mono fun e' W' ⟨he,hw⟩=>⟨by rw [he,Lib.uintTuple_eq,Ld];exact congrArg _ e,hw▸PL W s⟩
end
def To (n:Int):Prop:= -9223372036854775808≤n∧n≤9223372036854775807
def IW (w:Word) (n:Int) (bad:Bool):Prop:=To n∧∀ m:Int,To m→w=Lib.itoa m→n=m∧bad=false
theorem RD (m:Nat):∃ c r,Lib.decDigits m=c::r∧48≤c.toNat∧c.toNat≤57:=by
 induction m using Nat.strongRecOn with
 | ind m ih=>
  by_cases h:m < 10
  ·rw [Fp h]
   have h1:(UInt8.ofNat (48+m)).toNat=48+m:=by rw [UInt8.toNat_ofNat'];omega
   exact ⟨_,_,rfl,by omega,by omega⟩
  ·rw [HL h]
   obtain ⟨c,r,e,h1,h2⟩:=ih (m / 10) (by omega)
   exact ⟨c,r++[UInt8.ofNat (48+m % 10)],by rw [e];rfl,h1,h2⟩
theorem TL {m:Nat} (hm:m < 18446744073709551616):Lib.parseMag (Lib.decDigits m)=.ok m:=by
 obtain ⟨c,r,e,_,_⟩:=RD m
 unfold Lib.parseMag
 rw [if_neg (by rw [e];simp),Ld,Jd _ (by decide) m (by omega)]
theorem LB {m:Int} (hm:To m):Lib.atoiAll (Lib.itoa m)=.ok m:=by
 obtain ⟨h0,h1⟩:=hm
 rcases Int.lt_or_le m 0 with h | h
 ·obtain ⟨u,hu⟩:∃ u:Nat,m= -(u:Int):=⟨(-m).toNat,by omega⟩
  subst hu
  rw [Lib.itoa_neg _ (by omega)]
  have e:(45:UInt8).toNat=45:=rfl
  simp only [Lib.atoiAll,e,or_true,if_true,TL (show u < 18446744073709551616 by omega)]
  rw [if_neg (by simp),if_neg (by omega)]
 ·obtain ⟨u,rfl⟩:∃ u:Nat,m=(u:Int):=⟨m.toNat,by omega⟩
  rw [Lib.itoa_nonneg]
  obtain ⟨c,r,e,h2,h3⟩:=RD u
  have hm:=TL (show u < 18446744073709551616 by omega)
  rw [e] at hm ⊢
  simp only [Lib.atoiAll]
  rw [if_neg (by omega),hm]
  simp only
  rw [if_neg (by omega),if_neg (by omega),if_neg (by omega)]
theorem XS {l:Word} {n:Int} (h:Lib.atoiAll l=.ok n):To n:=by
 match l with
 | []=>cases h
 | c::r=>
  cases hp:Lib.parseMag (if c.toNat=43∨c.toNat=45 then r else c::r)
  case range=>simp only [Lib.atoiAll,hp] at h;cases h
  case ok u=>
   simp only [Lib.atoiAll,hp] at h
   split at h
   ·cases h
   ·rename_i h1
    split at h
    ·cases h
    ·rename_i h2
     cases h
     show _∧_
     split
     ·rename_i h3
      have:¬ (9223372036854775808 < u):=fun h4=>h2 ⟨h3,h4⟩
      omega
     ·rename_i h3
      have:¬ (9223372036854775808≤u):=fun h4=>h1 ⟨h3,h4⟩
      omega
  simp only [Lib.atoiAll,hp] at h;cases h
theorem Ze (l:Word):To (Lib.atoiSat l):=by
 unfold Lib.atoiSat
 split <;> exact ⟨by decide,by decide⟩
def RY (n:Int) (er:Value):Value:=.tuple #[.int .i64 n,er]
section
variable {W0:World} {m0:Inj Tp}
theorem WW (w:Word):∃ n er bad,Lib.intTuple 164 (Lib.atoiSat w) (Lib.atoiAll w)=RY n er∧W9 er bad∧IW w n bad:=by
 cases hp:Lib.atoiAll w
 case ok n=>exact ⟨n,.nilIface,false,rfl,.inl ⟨rfl,rfl⟩,XS hp,fun m hm hw=>by
   rw [hw,LB hm] at hp;cases hp
   exact ⟨rfl,rfl⟩⟩
 case range=>exact ⟨_,_,true,rfl,.inr ⟨rfl,1,.inl rfl,rfl⟩,Ze w,fun m hm hw=>by
   rw [hw,LB hm] at hp;cases hp⟩
 exact ⟨0,_,true,rfl,.inr ⟨rfl,2,.inr rfl,rfl⟩,⟨by decide,by decide⟩,fun m hm hw=>by
   rw [hw,LB hm] at hp;cases hp⟩
theorem Abq (s:ByteArray) (hs:(bl s).length < 100000000):∃ n er bad,KC.Holds Tp W0 m0 ⟨112,[.string s],[RY n er]⟩∧W9 er bad∧IW (bl s) n bad:=by
 have hsz:s.size=(bl s).length:=Lib.size_eq s
 obtain ⟨n,er,bad,e,h1,h2⟩:=WW (bl s)
 refine ⟨n,er,bad,⟨fun h=>absurd h (show (112:Nat)≠JS by decide),fun _ m args' W _ _ ha=>?_⟩,h1,h2⟩
 cases ha with
 | cons h3 h4=>
  cases h4;cases h3
  refine (Any.internal_strconv_Atoi_all atX s (by omega) W).mono fun e' W' ⟨he,hw⟩=>⟨_,List.mem_singleton.2 rfl,by rw [he];exact congrArg _ e,?_⟩
  rcases hw with rfl | ⟨t,rfl⟩
  ·exact Q9 _
  ·exact PL _ t
end
section
variable (W0:World) (m0:Inj Tp) (S:Nat→List Value→AW→Prop) (Q:Value→AW→Prop)
theorem Adi (a0 a1:Value) (A:AW):AR Tp Ai W0 m0 127 Tz Lz S Q none 4000 (Tm.fill ⟨11,.nil⟩ 0 [a0,a1]) [.code (cd 127 [])] false 0 0 0 [] A=(Ab (Au Tp A 72 (.pointer (some ⟨4,0,none⟩))) fun t0=>cW W0 m0 140 [a1] A fun t1 At1=>Ab (Au Tp At1 72 (.pointer (some ⟨4,0,none⟩))) fun t2=>eqW t2 t0 (eqW a0 a0 (Ab (B0 Tp 182 [(0,a0),(1,t1),(2,t0)]) fun t3=>Ap (Ep At1 (Value.cells t3).toList 182) fun t4 At4=>Bz (AT Tp (fun _=>t3) (.box 182 (.tmp 0))) At4 t4 (Ab (B0 Tp 182 [(0,a0),(1,t1),(2,t0)]) fun t5=>eqW t5 t3 (Ab (Au Tp At4 72 (.pointer (some ⟨4,0,none⟩))) fun t6=>eqW t6 t0 (eqW a1 a1 (eqW a0 a0 (Q t4 At4)))))))):=by kernel_rfl
theorem Acw:Wf2 127 11 Tz Lz:=wf2 (fun _ _=>by kernel_rfl) (by decide) fun _ _=>rfl
theorem Adh (a0 a1:Value) (A:AW):AR Tp Ai W0 m0 128 Tz Lz S Q none 4000 (Tm.fill ⟨11,.nil⟩ 0 [a0,a1]) [.code (cd 128 [])] false 0 0 0 [] A=(Ab (Au Tp A 72 (.pointer (some ⟨5,0,none⟩))) fun t0=>cW W0 m0 140 [a1] A fun t1 At1=>Ab (Au Tp At1 72 (.pointer (some ⟨5,0,none⟩))) fun t2=>eqW t2 t0 (eqW a0 a0 (Ab (B0 Tp 182 [(0,a0),(1,t1),(2,t0)]) fun t3=>Ap (Ep At1 (Value.cells t3).toList 182) fun t4 At4=>Bz (AT Tp (fun _=>t3) (.box 182 (.tmp 0))) At4 t4 (Ab (B0 Tp 182 [(0,a0),(1,t1),(2,t0)]) fun t5=>eqW t5 t3 (Ab (Au Tp At4 72 (.pointer (some ⟨5,0,none⟩))) fun t6=>eqW t6 t0 (eqW a1 a1 (eqW a0 a0 (Q t4 At4)))))))):=by kernel_rfl
theorem Acv:Wf2 128 11 Tz Lz:=wf2 (fun _ _=>by kernel_rfl) (by decide) fun _ _=>rfl
theorem Adf (a0:Value) (A:AW):AR Tp Ai W0 m0 140 Tz Lz S Q none 4000 (Tm.fill ⟨18,.nil⟩ 0 [a0]) [.code (cd 140 [])] false 0 0 0 [] A=(Ab (Bm Tp A 9 a0) fun t0=>kW .eql 3 5 (.int .i64 0) t0 fun t1=>Af t1 (Q (.string ⟨⟨[]⟩⟩) A) (Ab (Bm Tp A 9 a0) fun t2=>Ap (Cq Tp A 33 t2 t2) fun t3 At3=>Ap (Io Tp At3 33 t3 a0) fun t4 At4=>Ab (Ao Tp 33 t3 (.int .i64 0)) fun t5=>Ab (Bm Tp At4 33 t3) fun t6=>anW Tp Ai W0 m0 (B3 Tp At4 .unsafeString [107,3] 9 [t5,t6]) fun t7 At7=>Q t7 At7)):=by kernel_rfl
theorem Acs:Wf1 140 18 Tz Lz:=wf1 (fun _=>by kernel_rfl) (by decide) fun _=>rfl
end
section
variable {W0:World} {m0:Inj Tp}
theorem XP {A:AW} {b n dc:Nat} {cs:List Value} {s:ByteArray} {K:Value→AW→Prop} (hd:Go.Abs.AQ A b cs 5) (hf:AJ A) (hA:A.next≤Al) (hn:n=s.data.toList.length) (hcs:s.data.toList.length=cs.length)
  (hk:∀ A' v,Go.Abs.AQ A' b (AI s.data.toList) 5→Aw A A' [b]→A'.next=A.next→AJ A'→K v A'):Ap (Io Tp A 33 (.slice (some ⟨b,0,none⟩) n dc) (.string s)) K:=by
 have hlt:=hd.lt
 obtain ⟨A',h1,w⟩:=Eg (new:=AI s.data.toList) (off:=0) hd.row hd.mem (by rw [Bd];omega) (GI _) (by omega)
 have hc:Gj A 1 (least s.data.toList.length n) (.string s)=some (AI s.data.toList):=by
  rw [hn,O5,Nat.min_self]
  show some ((s.data.toList.take s.data.toList.length).map _)=_
  rw [List.take_length]
  rfl
 have e:Io Tp A 33 (.slice (some ⟨b,0,none⟩) n dc) (.string s)=.ok (.int .i64 (least s.data.toList.length n:Nat)) A':=by
  unfold Io
  simp only [E6.sl,E6.sz,show Nx (.string s)=some s.data.toList.length from rfl,hc,h1]
 rw [e]
 have hw:Ip cs 0 (AI s.data.toList)=AI s.data.toList:=by
  have:=HC [] cs (AI s.data.toList) [] (by rw [Bd];omega)
  simpa using this
 have hr:=w.row
 rw [hw] at hr
 exact Bi.2 (hk A' _ ⟨hr,by rw [w.mem];exact hd.mem,by rw [w.next];exact hd.lt⟩ (w.keeps hd.row) w.next (w.AG hf hd.row))
theorem X7 {s:ByteArray} {A:AW} {K:Value→AW→Prop} (hl:(bl s).length < 100000000) (hf:AJ A) (hA:A.next+5 < Al) (hk:∀ A',Grow A A' 1→K (.string s) A'):Wc Tp Ai W0 m0 140 [.string s] A K:=by
 have hroom:room=68719476736:=rfl
 have hl:s.data.toList.length < 100000000:=hl
 refine Acs _ _ (At (S:=fun _ _ _=>False) fun _ _ _ h=>h) ?_
 rw [Adf]
 refine Aa (FQ _ _) (Aa Ah (Ae.2 ⟨fun h=>?_,fun h=>?_⟩))
 ·have e:s=⟨⟨[]⟩⟩:=Fg (List.eq_nil_of_length_eq_zero (by omega))
  rw [e] at hk
  exact hk A ((Grow.refl hf).more (by omega))
 ·obtain ⟨n,hn⟩:∃ n,s.data.toList.length=n+1:=⟨s.data.toList.length - 1,by omega⟩
  refine Aa (FQ _ _) ?_
  refine UB E6 hf (by omega) (Nat.le_refl _) (by omega) fun A1 m1=>?_
  have n1:=m1.next
  refine XP m1.B7 m1.AG (by omega) rfl (by simp) fun A2 v r2 k2 n2 f2=>?_
  have ix:Ao Tp 33 (.slice (some ⟨A.next,0,none⟩) s.data.toList.length s.data.toList.length) (.int .i64 0)=some (.pointer (some ⟨A.next,0,none⟩)):=by
   have:=Yw A.next 0 s.data.toList.length s.data.toList.length 0 .i64
   rw [AA.2 (by omega),cond_true] at this
   exact this
  refine Aa ix (Aa (JB _ _ _ _) ?_)
  have hc:A2.cells? ⟨A.next,0,none⟩ (n+1)=some (AI s.data.toList):=by
   rw [CD r2.row,List.drop_zero]
   have:=CI (AI s.data.toList) [] (Fs _)
   rw [List.append_nil,Bd,hn] at this
   exact this
  rw [hn]
  refine .inl ⟨_,_,YV hc r2.row (by omega),?_⟩
  obtain ⟨a1,a2,a3⟩:=frozen (f:=A.next) f2 (fun i hi=>by
   have:=r2.mem
   rw [this] at hi
   rw [List.mem_singleton.1 hi]
   exact ⟨r2.lt,_,_,_,_,r2.row⟩) (by omega)
  refine hk _ ⟨((m1.keeps hf).trans k2 fun x hx=>.inr (by rw [List.mem_singleton.1 hx];exact Nat.le_refl _)).trans a1 fun x hx=>.inr (by rw [List.mem_singleton.1 hx];exact Nat.le_refl _),a3,by omega⟩
end
theorem Fi (l:List UInt8):(AY l).length≤3 * l.length+1:=by
 unfold AY
 split
 ·simp
 ·have:=IS l;omega
theorem ck {r:Option Value} {v:Value} {p:Prop} (h:r=some v) (hp:p):Ab r fun t=>eqW t v p:=⟨v,h,rfl,hp⟩
theorem DO {r:R Value} {v:Value} {A:AW} {K:Value→AW→Prop} (h:r=.ok v A) (hk:K v A):Ap r K:=⟨v,A,h,hk⟩
theorem AbL {x y:ByteArray} (h:(bl x).length+(bl y).length < 1099511627776):∃ S:ByteArray,bl S=bl x++bl y∧∀ xo yo,Ag Tp .add 9 xo yo (.string x) (.string y)=some (.string S):=
 ⟨⟨⟨bl x++bl y⟩⟩,rfl,fun _ _=>Is h⟩
theorem TN {n:Int} (h0: -9223372036854775808≤n) (h1:n≤9223372036854775807):(Lib.itoa n).length≤21:=by
 rcases Int.lt_or_le n 0 with h | h
 ·obtain ⟨u,hu⟩:∃ u:Nat,n= -(u:Int):=⟨(-n).toNat,by omega⟩
  subst hu
  rw [Lib.itoa_neg _ (by omega)]
  have:=FK (n:=u) (by omega)
  simp only [List.length_cons,List.length_append,List.length_nil]
  omega
 ·obtain ⟨u,rfl⟩:∃ u:Nat,n=(u:Int):=⟨n.toNat,by omega⟩
  rw [Lib.itoa_nonneg]
  have:=FK (n:=u) (by omega)
  omega
section
variable {W0:World} {m0:Inj Tp}
end
structure GE (A:AW):Prop where
 four:∃ (a f b:Nat) (ro:Bool),A.get 4=some (.row [.iface 185 (.pointer (some ⟨a,0,none⟩))] 72 f b ro)∧f < A.next∧f < 8
 five:∃ (a f b:Nat) (ro:Bool),A.get 5=some (.row [.iface 185 (.pointer (some ⟨a,0,none⟩))] 72 f b ro)∧f < A.next∧f < 8
 lt:8≤A.next
theorem GE.keeps {A A':AW} {S:List Nat} (h:GE A) (k:Aw A A' S) (hn:∀ x∈S,8≤x):GE A':=by
 obtain ⟨⟨a,f,b,ro,h1,h2,h3⟩,⟨a',f',b',ro',h1',h2',h3'⟩,h4⟩:=h
 have hle:=k.next
 exact ⟨⟨a,f,b,ro,k.get 4 _ h1 (show f < A.next from h2) (fun hx=>by have:8≤f:=hn _ hx;omega),by omega,h3⟩,⟨a',f',b',ro',k.get 5 _ h1' (show f' < A.next from h2') (fun hx=>by have:8≤f':=hn _ hx;omega),by omega,h3'⟩,by omega⟩
theorem Yt (A:AW) (a:Addr):Au Tp A 72 (.pointer (some a))=A.cell? a:=by kernel_rfl
theorem T6 (x y:ByteArray) (a:Nat):B0 Tp 182 [(0,.string x),(1,.string y),(2,.iface 185 (.pointer (some ⟨a,0,none⟩)))]=some (.agg ⟨[.string x,.string y,.iface 185 (.pointer (some ⟨a,0,none⟩))]⟩):=by kernel_rfl
def U1 (x y:ByteArray) (a:Nat):List Value:=[.string x,.string y,.iface 185 (.pointer (some ⟨a,0,none⟩))]
theorem Rr {A:AW} {q a:Nat} {x y:ByteArray} {p:Prop} (h:A.get q=some (.row (U1 x y a) 182 q 0 false)) (hp:p):Bz (AT Tp (fun _=>.agg ⟨U1 x y a⟩) (.box 182 (.tmp 0))) A (.pointer (some ⟨q,0,none⟩)) p:=by
 refine ⟨⟨.row (U1 x y a) 182,rfl,?_⟩,hp⟩
 have ha:Go.Abs.sameAddr ⟨a,0,none⟩ ⟨a,0,none⟩=true:=by simp [Go.Abs.sameAddr]
 simp only [Ck,Fh,h,U1,ER,FT,ha,Gq,Bool.and_self,Option.isNone_none,Bool.true_and,Nat.beq_refl]
section
variable {W0:World} {m0:Inj Tp}
theorem Aan {x s:ByteArray} {A:AW} {K:Value→AW→Prop} (hl:(bl s).length < 100000000) (hg:GE A) (hf:AJ A) (hA:A.next+8 < Al) (hk:∀ A' q,Grow A A' 2→K (.pointer (some ⟨q,0,none⟩)) A'):Wc Tp Ai W0 m0 127 [.string x,.string s] A K:=by
 refine Acw _ _ _ (At (S:=fun _ _ _=>False) fun _ _ _ h=>h) ?_
 rw [Adi]
 obtain ⟨⟨a,f,b,ro,h1,h2,h3⟩,h4,h5⟩:=hg
 have l0:∀ {B:AW},B.get 4=some (.row [.iface 185 (.pointer (some ⟨a,0,none⟩))] 72 f b ro)→Au Tp B 72 (.pointer (some ⟨4,0,none⟩))=some (.iface 185 (.pointer (some ⟨a,0,none⟩))):=fun h=>by rw [Yt,Ay h];rfl
 refine Aa (l0 h1) ?_
 refine X7 hl hf (by omega) fun A1 g1=>?_
 have n1:=g1.next
 have le1:=g1.le
 have h6:=g1.keeps.get 4 _ h1 (show f < A.next from h2) (by simp)
 refine ck (l0 h6) (Am.2 (Aa (T6 x s a) ?_))
 refine BI (cs:=U1 x s a) g1.AG (by omega) rfl fun A2 m2=>?_
 have n2:=m2.next
 have h7:=(m2.keeps g1.AG).get 4 _ h6 (show f < A1.next by omega) (by simp)
 refine Rr m2.row (ck (T6 x s a) (ck (l0 h7) (Am.2 (Am.2 ?_))))
 exact hk A2 A1.next ((g1.trans (.made m2 g1.AG)).more (by omega))
theorem Aam {x s:ByteArray} {A:AW} {K:Value→AW→Prop} (hl:(bl s).length < 100000000) (hg:GE A) (hf:AJ A) (hA:A.next+8 < Al) (hk:∀ A' q,Grow A A' 2→K (.pointer (some ⟨q,0,none⟩)) A'):Wc Tp Ai W0 m0 128 [.string x,.string s] A K:=by
 refine Acv _ _ _ (At (S:=fun _ _ _=>False) fun _ _ _ h=>h) ?_
 rw [Adh]
 obtain ⟨h4,⟨a,f,b,ro,h1,h2,h3⟩,h5⟩:=hg
 have l0:∀ {B:AW},B.get 5=some (.row [.iface 185 (.pointer (some ⟨a,0,none⟩))] 72 f b ro)→Au Tp B 72 (.pointer (some ⟨5,0,none⟩))=some (.iface 185 (.pointer (some ⟨a,0,none⟩))):=fun h=>by rw [Yt,Ay h];rfl
 refine Aa (l0 h1) ?_
 refine X7 hl hf (by omega) fun A1 g1=>?_
 have n1:=g1.next
 have le1:=g1.le
 have h6:=g1.keeps.get 5 _ h1 (show f < A.next from h2) (by simp)
 refine ck (l0 h6) (Am.2 (Aa (T6 x s a) ?_))
 refine BI (cs:=U1 x s a) g1.AG (by omega) rfl fun A2 m2=>?_
 have n2:=m2.next
 have h7:=(m2.keeps g1.AG).get 5 _ h6 (show f < A1.next by omega) (by simp)
 refine Rr m2.row (ck (T6 x s a) (ck (l0 h7) (Am.2 (Am.2 ?_))))
 exact hk A2 A1.next ((g1.trans (.made m2 g1.AG)).more (by omega))
theorem ifP (n:Int):Ey Tp 164 (.int .i64 n)=some (.iface 164 (.int .i64 n)):=by kernel_rfl
theorem XJ (xo yo:Operand):Ag Tp .eql 72 xo yo (.iface 164 (.int .i64 2)) (.iface 164 (.int .i64 2))=some (.bool true):=by kernel_rfl
theorem XK (xo yo:Operand):Ag Tp .eql 72 xo yo (.iface 164 (.int .i64 1)) (.iface 164 (.int .i64 2))=some (.bool false):=by kernel_rfl
theorem XL (xo yo:Operand):Ag Tp .eql 72 xo yo (.iface 164 (.int .i64 1)) (.iface 164 (.int .i64 1))=some (.bool true):=by kernel_rfl
def TM (q:Nat):Value:=.iface 167 (.pointer (some ⟨q,0,none⟩))
theorem ifM (q:Nat):Ey Tp 167 (.pointer (some ⟨q,0,none⟩))=some (TM q):=by kernel_rfl
theorem X8 {x s:ByteArray} {v2 v3:Value} {c:Int} {A:AW} {K:Value→AW→Prop} (hc:c=1∨c=2) (hl:(bl s).length < 100000000) (hg:GE A) (hf:AJ A) (hA:A.next+8 < Al) (hk:∀ A' q,Grow A A' 2→K (TM q) A'):Wc Tp Ai W0 m0 113 [.string x,.string s,v2,v3,.iface 164 (.int .i64 c)] A K:=by
 refine Acz _ _ _ _ _ _ (At (S:=fun _ _ _=>False) fun _ _ _ h=>h) ?_
 rw [Adk]
 rcases hc with rfl | rfl
 ·refine Aa (ifP _) (Aa (XK _ _) (Ak.2 ⟨fun h=>(by cases h),fun _=>?_⟩))
  refine Aa (ifP _) (Aa (XL _ _) (Ak.2 ⟨fun _=>?_,fun h=>(by cases h)⟩))
  exact Aam hl hg hf hA fun A' q g=>Aa (ifM q) (hk A' q g)
 ·refine Aa (ifP _) (Aa (XJ _ _) (Ak.2 ⟨fun _=>?_,fun h=>(by cases h)⟩))
  exact Aan hl hg hf hA fun A' q g=>Aa (ifM q) (hk A' q g)
end
def NE (v:Value) (bad:Bool):Prop:=(bad=false∧v=.nilIface)∨(bad=true∧∃ q,v=TM q)
theorem SA (k:Nat):Ag Tp .neq 72 (.tmp k) (.const .nilIface) .nilIface .nilIface=some (.bool false):=by kernel_rfl
theorem V6 (xo:Operand) (n:Int):Ag Tp .neq 72 xo (.const .nilIface) (.iface 164 (.int .i64 n)) .nilIface=some (.bool true):=by kernel_rfl
theorem Zp (xo:Operand) (q:Nat):Ag Tp .neq 72 xo (.const .nilIface) (TM q) .nilIface=some (.bool true):=by kernel_rfl
theorem NE.neq {v:Value} {bad:Bool} (h:NE v bad) (k:Nat):Ag Tp .neq 72 (.tmp k) (.const .nilIface) v .nilIface=some (.bool bad):=by
 rcases h with ⟨rfl,rfl⟩ | ⟨rfl,q,rfl⟩
 ·exact SA _
 ·exact Zp _ _
theorem AaM {k:IntKind} {n:Int} {er:Value} {bad:Bool} (h:W9 er bad):[Value.tuple #[.int k n,er]].all (AB 4)=true:=by
 rcases h with ⟨_,rfl⟩ | ⟨_,c,_,rfl⟩ <;> rfl
section
variable {W0:World} {m0:Inj Tp}
theorem Ya {s:ByteArray} {bits:Int} {A:AW} {K:Value→AW→Prop} (hb:bits=8∨bits=32∨bits=64) (hl:(bl s).length < 100000000) (hg:GE A) (hf:AJ A) (hA:A.next+8 < Al)
  (hk:∀ A' n er bad,Grow A A' 2→NE er bad→UW (SC bits) (bl s) n bad→K (.tuple ⟨[.int .u64 (n:Int),er]⟩) A'):Wc Tp Ai W0 m0 110 [.string s,.int .i64 10,.int .i64 bits] A K:=by
 refine AcB _ _ _ _ (At (S:=fun _ _ _=>False) fun _ _ _ h=>h) ?_
 rw [WD]
 obtain ⟨n,er,bad,hkc,he,hu⟩:=Abp (W0:=W0) (m0:=m0) s hb hl
 refine .inl ⟨_,by decide,hkc,AaM he,fun v hv=>?_⟩
 obtain rfl:v=Zn n er:=by simpa using hv
 refine Aa Eb (Aa Ea ?_)
 rcases he with ⟨rfl,rfl⟩ | ⟨rfl,c,hc,rfl⟩
 ·refine Aa (SA _) (Ak.2 ⟨fun h=>(by cases h),fun _=>?_⟩)
  exact hk A n _ false ((Grow.refl hf).more (by omega)) (.inl ⟨rfl,rfl⟩) hu
 ·refine Aa (V6 _ _) (Ak.2 ⟨fun _=>?_,fun h=>(by cases h)⟩)
  exact X8 hc hl hg hf hA fun A' q g=>hk A' n _ true g (.inr ⟨rfl,q,rfl⟩) hu
theorem AbU {s:ByteArray} {A:AW} {K:Value→AW→Prop} (hl:(bl s).length < 100000000) (hg:GE A) (hf:AJ A) (hA:A.next+8 < Al)
  (hk:∀ A' n er bad,Grow A A' 2→NE er bad→IW (bl s) n bad→K (.tuple ⟨[.int .i64 n,er]⟩) A'):Wc Tp Ai W0 m0 95 [.string s] A K:=by
 refine w95 _ _ (At (S:=fun _ _ _=>False) fun _ _ _ h=>h) ?_
 rw [e95]
 obtain ⟨n,er,bad,hkc,he,hu⟩:=Abq (W0:=W0) (m0:=m0) s hl
 refine .inl ⟨_,by decide,hkc,AaM he,fun v hv=>?_⟩
 obtain rfl:v=RY n er:=by simpa using hv
 refine Aa Eb (Aa Ea ?_)
 rcases he with ⟨rfl,rfl⟩ | ⟨rfl,c,hc,rfl⟩
 ·refine Aa (SA _) (Ak.2 ⟨fun h=>(by cases h),fun _=>?_⟩)
  exact hk A n _ false ((Grow.refl hf).more (by omega)) (.inl ⟨rfl,rfl⟩) hu
 ·refine Aa (V6 _ _) (Ak.2 ⟨fun _=>?_,fun h=>(by cases h)⟩)
  exact X8 hc hl hg hf hA fun A' q g=>hk A' n _ true g (.inr ⟨rfl,q,rfl⟩) hu
end
def RdW (A:AW) (v:Value) (ws:List ByteArray) (F:List Nat):Prop:=
 ∃ r o c cs g b ro,v=.slice (some ⟨r,o,none⟩) ws.length c∧ws.length≤c∧c < Bu∧A.get r=some (.row cs 9 g b ro)∧g < A.next∧F=[g]∧∀ (i:Nat) p,ws[i]? =some p→cs[o+i]? =some (.string p)
theorem RdW.keeps {A A':AW} {v:Value} {ws:List ByteArray} {F S:List Nat} (h:RdW A v ws F) (k:Aw A A' S) (hd:∀ x∈F,x∉S):RdW A' v ws F:=by
 obtain ⟨r,o,c,cs,g,b,ro,h1,h2,h3,h4,h5,rfl,h6⟩:=h
 exact ⟨r,o,c,cs,g,b,ro,h1,h2,h3,k.get r _ h4 h5 (hd g (by simp)),Nat.lt_of_lt_of_le h5 k.next,rfl,h6⟩
theorem RdW.one {A:AW} {v:Value} {ws:List ByteArray} {F:List Nat} (h:RdW A v ws F):AL v=true∧isTuple v=false:=by
 obtain ⟨r,o,c,cs,g,b,ro,rfl,_⟩:=h
 exact ⟨rfl,rfl⟩
theorem RdW.len {A B:AW} {v:Value} {ws:List ByteArray} {F:List Nat} (h:RdW A v ws F):Bm Tp B 56 v=some (.int .i64 (ws.length:Int)):=by
 obtain ⟨r,o,c,cs,g,b,ro,rfl,_⟩:=h
 exact Ys _ _ _ _
theorem RdW.at0 {A:AW} {v:Value} {w:ByteArray} {ws:List ByteArray} {F:List Nat} (h:RdW A v (w::ws) F):∃ a,Ao Tp 56 v (.int .i64 0)=some (.pointer (some a))∧Au Tp A 9 (.pointer (some a))=some (.string w):=by
 obtain ⟨r,o,c,cs,g,b,ro,rfl,h2,h3,h4,h5,_,h6⟩:=h
 have h7:=h6 0 w rfl
 refine ⟨⟨r,o,none⟩,?_,?_⟩
 ·have:=Wp r o (w::ws).length c 0 .i64
  rw [AA.2 (by simp),cond_true] at this
  rw [Nat.zero_mul] at this
  exact this
 ·rw [FH,Ay h4]
  exact Cd h7 rfl
theorem RdW.Abw {A:AW} {v:Value} {w:ByteArray} {ws:List ByteArray} {F:List Nat} (h:RdW A v (w::ws) F):∃ v',BM Tp A 56 v (some (.int .i64 1)) none none=some v'∧RdW A v' ws F:=by
 obtain ⟨r,o,c,cs,g,b,ro,rfl,h2,h3,h4,h5,hF,h6⟩:=h
 have us:Tp.underlying 56=some (.slice 9):=by kernel_rfl
 have sz:szT Tp 9=some 1:=by kernel_rfl
 have e:BM Tp A 56 (.slice (some ⟨r,o,none⟩) (w::ws).length c) (some (.int .i64 (.ofNat 1))) none none=some (.slice (bif Nat.beq c 1 then some ⟨r,o,none⟩ else Ky (some ⟨r,o,none⟩) (1 * 1)) ((w::ws).length - 1) (c - 1)):=by
  unfold BM
  have h1:1≤(w::ws).length:=by simp
  simp only [us,sz,BU.2 h3,cond_false,bounds,IF,E8,Bo.2 h1,Option.isSome_none,Bool.not_false,Bool.or_true,cond_true]
 refine ⟨_,e,?_⟩
 have hl:(w::ws).length - 1=ws.length:=by simp
 have h2:ws.length+1≤c:=h2
 rw [hl]
 cases hb:Nat.beq c 1 with
 | true=>
  have hc:c=1:=Nat.eq_of_beq_eq_true hb
  have hw:ws=[]:=List.eq_nil_of_length_eq_zero (by omega)
  subst hw
  exact ⟨r,o,c - 1,cs,g,b,ro,rfl,by simp,by omega,h4,h5,hF,fun i p hp=>by simp at hp⟩
 | false=>
  refine ⟨r,o+1,c - 1,cs,g,b,ro,?_,by omega,by omega,h4,h5,hF,fun i p hp=>?_⟩
  ·rw [cond_false,Wb]
  ·have:=h6 (i+1) p (by simpa using hp)
   rw [show o+1+i=o+(i+1) by omega]
   exact this
section
variable (W0:World) (m0:Inj Tp) (S:Nat→List Value→AW→Prop) (Q:Value→AW→Prop)
theorem e12 (a0:Value) (A:AW):AR Tp Ai W0 m0 12 Tz Lz S Q none 4000 (Tm.fill ⟨12,.nil⟩ 0 [a0]) [.code (cd 12 [])] false 0 0 0 [] A=(Ap (Ep A (Value.cells a0).toList 40) fun t0 At0=>lW At0 40 t0 fun t1=>cW W0 m0 27 [t1] At0 fun t2 At2=>Ab (unA Tp .not t2) fun t3=>Af t3 (Q (.bool true) At2) (fW 40 t0 7 fun t4=>lW At2 9 t4 fun t5=>Ab (Bm Tp At2 9 t5) fun t6=>kW .gtr 3 9 (.int .i64 2000) t6 fun t7=>Q t7 At2)):=by kernel_rfl
theorem w12:Wf1 12 12 Tz Lz:=wf1 (fun _=>by kernel_rfl) (by decide) fun _=>rfl
theorem e27 (a0:Value) (A:AW):AR Tp Ai W0 m0 27 Tz Lz S Q none 4000 (Tm.fill ⟨47,.nil⟩ 0 [a0]) [.code (cd 27 [])] false 0 0 0 [] A=(Ap (Ep A (Value.cells a0).toList 40) fun t0 At0=>fW 40 t0 5 fun t1=>lW At0 33 t1 fun t2=>Ab (Bm Tp At0 33 t2) fun t3=>kW .leq 3 5 (.int .i64 20) t3 fun t4=>Af t4 (fW 40 t0 6 fun t5=>lW At0 34 t5 fun t6=>Ab (Bm Tp At0 34 t6) fun t7=>kW .leq 3 10 (.int .i64 20) t7 fun t8=>Af t8 (fW 40 t0 7 fun t9=>lW At0 9 t9 fun t10=>Ab (Bm Tp At0 9 t10) fun t11=>kW .leq 3 16 (.int .i64 5000) t11 fun t12=>Af t12 (fW 40 t0 9 fun t13=>fW 38 t13 2 fun t14=>lW At0 9 t14 fun t15=>Ab (Bm Tp At0 9 t15) fun t16=>kW .leq 3 23 (.int .i64 60) t16 fun t17=>Af t17 (fW 40 t0 9 fun t18=>fW 38 t18 3 fun t19=>lW At0 9 t19 fun t20=>Ab (Bm Tp At0 9 t20) fun t21=>kW .leq 3 30 (.int .i64 60) t21 fun t22=>Af t22 (fW 40 t0 9 fun t23=>fW 38 t23 8 fun t24=>lW At0 36 t24 fun t25=>Ab (Bm Tp At0 36 t25) fun t26=>kW .leq 3 37 (.int .i64 120) t26 fun t27=>Af t27 (fW 40 t0 9 fun t28=>fW 38 t28 9 fun t29=>lW At0 9 t29 fun t30=>Ab (Bm Tp At0 9 t30) fun t31=>kW .leq 3 44 (.int .i64 5000) t31 fun t32=>Q t32 At0) (Q (.bool false) At0)) (Q (.bool false) At0)) (Q (.bool false) At0)) (Q (.bool false) At0)) (Q (.bool false) At0)) (Q (.bool false) At0)):=by kernel_rfl
theorem w27:Wf1 27 47 Tz Lz:=wf1 (fun _=>by kernel_rfl) (by decide) fun _=>rfl
theorem e13 (a0:Value) (A:AW):AR Tp Ai W0 m0 13 Tz Lz S Q none 4000 (Tm.fill ⟨23,.nil⟩ 0 [a0]) [.code (cd 13 [])] false 0 0 0 [] A=(Ap (Ep A (Value.cells a0).toList 40) fun t0 At0=>lW At0 40 t0 fun t1=>cW W0 m0 28 [t1] At0 fun t2 At2=>cW W0 m0 15 [t2] At2 fun t3 At3=>xW t3 0 fun t4=>xW t3 1 fun t5=>Ap (B5 Tp At3 40) fun t6 At6=>sW At6 40 t6 t4 fun At7=>kW .neq 24 14 (.int .i64 0) t5 fun t8=>Af t8 (Q (.tuple ⟨[(.string ⟨⟨[]⟩⟩),(.int .i64 310)]⟩) At7) (lW At7 40 t6 fun t9=>lW At7 40 t0 fun t10=>cW W0 m0 29 [t9,t10] At7 fun t11 At11=>Ab (unA Tp .not t11) fun t12=>Af t12 (Q (.tuple ⟨[(.string ⟨⟨[]⟩⟩),(.int .i64 310)]⟩) At11) (Q (.tuple ⟨[t2,(.int .i64 0)]⟩) At11))):=by kernel_rfl
theorem w13:Wf1 13 23 Tz Lz:=wf1 (fun _=>by kernel_rfl) (by decide) fun _=>rfl
noncomputable def T14:Nat→List Item:=fun i=>match i with
 | 0=>[(.code (cd 14 [1,1,1,1,1,0,1,0,0])),(.inLoop (cd 14 [1,1,1,1,1,0,1,0,0])),(.inBlock 0),(.code (cd 14 [1,1,1,1,1,1]))]
 | 3=>[(.code (cd 14 [1,1,1,1,1,0,1,0,0,1,0,0,1,0,1,0,1,1,1,1,1,1,1,1,1,1,1,1,1,0,0,1,0,0])),(.inLoop (cd 14 [1,1,1,1,1,0,1,0,0,1,0,0,1,0,1,0,1,1,1,1,1,1,1,1,1,1,1,1,1,0,0,1,0,0])),(.inBlock 3),(.code (cd 14 [1,1,1,1,1,0,1,0,0,1,0,0,1,0,1,0,1,1,1,1,1,1,1,1,1,1,1,1,1,0,1])),(.inBlock 2),(.code (cd 14 [1,1,1,1,1,0,1,0,0,1,0,0,1,1])),(.inBlock 1),(.code (cd 14 [1,1,1,1,1,0,1,0,0,1,1])),(.inLoop (cd 14 [1,1,1,1,1,0,1,0,0])),(.inBlock 0),(.code (cd 14 [1,1,1,1,1,1]))]
 | 5=>[(.code (cd 14 [1,1,1,1,1,0,1,0,0,1,0,0,1,0,1,0,1,1,1,1,1,1,1,1,1,1,1,1,1,1,1,0,0,1,0,0])),(.inLoop (cd 14 [1,1,1,1,1,0,1,0,0,1,0,0,1,0,1,0,1,1,1,1,1,1,1,1,1,1,1,1,1,1,1,0,0,1,0,0])),(.inBlock 5),(.code (cd 14 [1,1,1,1,1,0,1,0,0,1,0,0,1,0,1,0,1,1,1,1,1,1,1,1,1,1,1,1,1,1,1,0,1])),(.inBlock 2),(.code (cd 14 [1,1,1,1,1,0,1,0,0,1,0,0,1,1])),(.inBlock 1),(.code (cd 14 [1,1,1,1,1,0,1,0,0,1,1])),(.inLoop (cd 14 [1,1,1,1,1,0,1,0,0])),(.inBlock 0),(.code (cd 14 [1,1,1,1,1,1]))]
 | _=>[]
def L14:Nat→List Tmp:=fun i=>match i with
 | 0=>[1,4,5,6,7,8]
 | 3=>[1,4,5,6,7,8,12]
 | 5=>[1,4,5,6,7,8,13]
 | _=>[]
theorem e14 (a0:Value) (A:AW):AR Tp Ai W0 m0 14 T14 L14 S Q none 4000 (Tm.fill ⟨188,.nil⟩ 0 [a0]) [.code (cd 14 [])] false 0 0 0 [] A=(Ap (Ep A (Value.cells a0).toList 40) fun t0 At0=>fW 40 t0 0 fun t1=>lW At0 5 t1 fun t2=>cW W0 m0 30 [t2] At0 fun t3 At3=>xW t3 0 fun t4=>xW t3 1 fun t5=>lW At3 40 t0 fun t6=>Ap (B5 Tp At3 40) fun t7 At7=>sW At7 40 t7 t6 fun At8=>fW 40 t7 0 fun t9=>Bp (AZ Tp At8 5 t9 (.int .u8 0)) fun At10=>BA (T14 0) (T14 0) (S 0 [t0,t4,t5,t4,t7,(.int .i64 0)] At10)):=by kernel_rfl
abbrev Gt (x0:Value) (x2:Value) (x4:Value) (x6:Value) (x7:Value) (x8:Value) (x9:Value) (X10:AW):Prop:=Ab (Ag Tp .add 9 (.tmp 133) (.const (.string ⟨⟨[32]⟩⟩)) x0 (.string ⟨⟨[32]⟩⟩)) fun t901=>Ab (Ag Tp .add 9 (.tmp 134) (.tmp 135) t901 x2) fun t903=>Ab (Ag Tp .add 3 (.tmp 30) (.const (.int .i64 1)) x4 (.int .i64 1)) fun t905=>BA (T14 0) (T14 0) (S 0 [x6,x7,x8,t903,x9,t905] X10)
theorem Abm (d:Nat→Value) (A:AW):AR Tp Ai W0 m0 14 T14 L14 S Q none 4000 (DR 188 d) (T14 0) false 0 0 0 [] A=(Ab (Bm Tp A 9 (d 5)) fun t0=>Ab (Ag Tp .lss 3 (.tmp 26) (.tmp 28) (d 8) t0) fun t1=>Af t1 (Ab (BK Tp 9 (d 5) (d 8)) fun t2=>kW .eql 5 34 (.int .u8 110) t2 fun t3=>Af t3 (Ab (Ac Tp 40 (d 1) 1) fun t4=>lW A 5 t4 fun t5=>Ap (AD Tp A 5 35 t5) fun t6 At6=>cW W0 m0 31 [t6] At6 fun t7 At7=>Ab (Ac Tp 40 (d 7) 1) fun t8=>Bp (AZ Tp At7 5 t8 (.int .u8 0)) fun At9=>Gt S (d 6) t7 (d 8) (d 1) (d 4) (d 5) (d 7) At9) (kW .eql 5 34 (.int .u8 116) t2 fun t13=>Af t13 (Ab (Ac Tp 40 (d 1) 2) fun t14=>lW A 5 t14 fun t15=>Ap (AD Tp A 5 35 t15) fun t16 At16=>cW W0 m0 31 [t16] At16 fun t17 At17=>Ab (Ac Tp 40 (d 7) 2) fun t18=>Bp (AZ Tp At17 5 t18 (.int .u8 0)) fun At19=>Gt S (d 6) t17 (d 8) (d 1) (d 4) (d 5) (d 7) At19) (kW .eql 5 34 (.int .u8 105) t2 fun t23=>Af t23 (Ab (Ac Tp 40 (d 1) 3) fun t24=>lW A 3 t24 fun t25=>cW W0 m0 32 [t25] A fun t26 At26=>Ab (Ac Tp 40 (d 7) 3) fun t27=>Bp (AZ Tp At26 3 t27 (.int .i64 0)) fun At28=>Gt S (d 6) t26 (d 8) (d 1) (d 4) (d 5) (d 7) At28) (kW .eql 5 34 (.int .u8 88) t2 fun t32=>Af t32 (Ab (Ac Tp 40 (d 1) 4) fun t33=>lW A 32 t33 fun t34=>cW W0 m0 33 [t34] A fun t35 At35=>xW t35 0 fun t36=>xW t35 1 fun t37=>Ab (unA Tp .not t37) fun t38=>Af t38 (Q (.tuple ⟨[(.string ⟨⟨[]⟩⟩),(.int .i64 310)]⟩) At35) (Ab (B0 Tp 32 []) fun t39=>Ab (Ac Tp 40 (d 7) 4) fun t40=>sW At35 32 t40 t39 fun At41=>Gt S (d 6) t36 (d 8) (d 1) (d 4) (d 5) (d 7) At41)) (kW .eql 5 34 (.int .u8 99) t2 fun t45=>Af t45 (Ab (Ac Tp 40 (d 1) 8) fun t46=>lW A 4 t46 fun t47=>cW W0 m0 34 [t47,(.string ⟨⟨[99,111,109,109,105,116]⟩⟩),(.string ⟨⟨[98,97,99,107]⟩⟩)] A fun t48 At48=>Ab (Ac Tp 40 (d 7) 8) fun t49=>Bp (AZ Tp At48 4 t49 (.bool false)) fun At50=>Gt S (d 6) t48 (d 8) (d 1) (d 4) (d 5) (d 7) At50) (kW .eql 5 34 (.int .u8 83) t2 fun t54=>Af t54 (Ab (Ac Tp 40 (d 1) 7) fun t55=>lW A 9 t55 fun t56=>cW W0 m0 11 [t56] A fun t57 At57=>Ab (Ac Tp 40 (d 7) 7) fun t58=>Bp (AZ Tp At57 9 t58 (.string ⟨⟨[]⟩⟩)) fun At59=>Gt S (d 6) t57 (d 8) (d 1) (d 4) (d 5) (d 7) At59) (kW .eql 5 34 (.int .u8 98) t2 fun t63=>Af t63 (BA (T14 3) (T14 3) (S 3 [(d 1),(d 4),(d 5),(d 6),(d 7),(d 8),(.int .i64 0)] A)) (kW .eql 5 34 (.int .u8 107) t2 fun t64=>Af t64 (BA (T14 5) (T14 5) (S 5 [(d 1),(d 4),(d 5),(d 6),(d 7),(d 8),(.int .i64 0)] A)) (kW .eql 5 34 (.int .u8 67) t2 fun t65=>Af t65 (Ab (Ac Tp 40 (d 1) 9) fun t66=>lW A 38 t66 fun t67=>cW W0 m0 35 [t67] A fun t68 At68=>xW t68 0 fun t69=>xW t68 1 fun t70=>xW t68 2 fun t71=>Ap (B5 Tp At68 38) fun t72 At72=>sW At72 38 t72 t70 fun At73=>Ab (unA Tp .not t71) fun t74=>Af t74 (Q (.tuple ⟨[(.string ⟨⟨[]⟩⟩),(.int .i64 310)]⟩) At73) (lW At73 38 t72 fun t75=>Ab (Ac Tp 40 (d 7) 9) fun t76=>sW At73 38 t76 t75 fun At77=>Gt S (d 6) t69 (d 8) (d 1) (d 4) (d 5) (d 7) At77)) (Ab (Ag Tp .add 9 (.tmp 133) (.const (.string ⟨⟨[32]⟩⟩)) (d 6) (.string ⟨⟨[32]⟩⟩)) fun t81=>Ab (Ag Tp .add 9 (.tmp 134) (.tmp 135) t81 (.string ⟨⟨[]⟩⟩)) fun t82=>Ab (Ag Tp .add 3 (.tmp 30) (.const (.int .i64 1)) (d 8) (.int .i64 1)) fun t83=>BA (T14 0) (T14 0) (S 0 [(d 1),(d 4),(d 5),t82,(d 7),t83] A))))))))))) (Ab (Ag Tp .eql 9 (.tmp 137) (.const (.string ⟨⟨[]⟩⟩)) (d 4) (.string ⟨⟨[]⟩⟩)) fun t84=>Af t84 (Q (.tuple ⟨[(.string ⟨⟨[]⟩⟩),(.int .i64 310)]⟩) A) (Ab (Ac Tp 40 (d 7) 1) fun t85=>lW A 5 t85 fun t86=>kW .neq 5 141 (.int .u8 0) t86 fun t87=>Af t87 (Q (.tuple ⟨[(.string ⟨⟨[]⟩⟩),(.int .i64 310)]⟩) A) (Ab (Ac Tp 40 (d 7) 2) fun t88=>lW A 5 t88 fun t89=>kW .neq 5 146 (.int .u8 0) t89 fun t90=>Af t90 (Q (.tuple ⟨[(.string ⟨⟨[]⟩⟩),(.int .i64 310)]⟩) A) (Ab (Ac Tp 40 (d 7) 3) fun t91=>lW A 3 t91 fun t92=>kW .neq 3 151 (.int .i64 0) t92 fun t93=>Af t93 (Q (.tuple ⟨[(.string ⟨⟨[]⟩⟩),(.int .i64 310)]⟩) A) (Ab (Ac Tp 40 (d 7) 4) fun t94=>lW A 32 t94 fun t95=>Ab (B0 Tp 32 []) fun t96=>Ab (Ag Tp .neq 32 (.tmp 156) (.tmp 157) t95 t96) fun t97=>Af t97 (Q (.tuple ⟨[(.string ⟨⟨[]⟩⟩),(.int .i64 310)]⟩) A) (Ab (Ac Tp 40 (d 7) 5) fun t98=>lW A 33 t98 fun t99=>Ab (Bm Tp A 33 t99) fun t100=>kW .gtr 3 163 (.int .i64 0) t100 fun t101=>Af t101 (Q (.tuple ⟨[(.string ⟨⟨[]⟩⟩),(.int .i64 310)]⟩) A) (Ab (Ac Tp 40 (d 7) 6) fun t102=>lW A 34 t102 fun t103=>Ab (Bm Tp A 34 t103) fun t104=>kW .gtr 3 169 (.int .i64 0) t104 fun t105=>Af t105 (Q (.tuple ⟨[(.string ⟨⟨[]⟩⟩),(.int .i64 310)]⟩) A) (Ab (Ac Tp 40 (d 7) 7) fun t106=>lW A 9 t106 fun t107=>Ab (Ag Tp .neq 9 (.tmp 174) (.const (.string ⟨⟨[]⟩⟩)) t107 (.string ⟨⟨[]⟩⟩)) fun t108=>Af t108 (Q (.tuple ⟨[(.string ⟨⟨[]⟩⟩),(.int .i64 310)]⟩) A) (Ab (Ac Tp 40 (d 7) 8) fun t109=>lW A 4 t109 fun t110=>Af t110 (Q (.tuple ⟨[(.string ⟨⟨[]⟩⟩),(.int .i64 310)]⟩) A) (Ab (Ac Tp 40 (d 7) 9) fun t111=>lW A 38 t111 fun t112=>cW W0 m0 36 [t112] A fun t113 At113=>Ab (unA Tp .not t113) fun t114=>Af t114 (Q (.tuple ⟨[(.string ⟨⟨[]⟩⟩),(.int .i64 310)]⟩) At113) (Q (.tuple ⟨[(d 6),(.int .i64 0)]⟩) At113)))))))))))):=by kernel_rfl
theorem Abl (d:Nat→Value) (A:AW):AR Tp Ai W0 m0 14 T14 L14 S Q none 4000 (DR 188 d) (T14 3) false 0 0 0 [] A=(Ab (Ac Tp 40 (d 1) 5) fun t0=>lW A 33 t0 fun t1=>Ab (Bm Tp A 33 t1) fun t2=>Ab (Ag Tp .lss 3 (.tmp 82) (.tmp 85) (d 12) t2) fun t3=>Af t3 (Ab (Ag Tp .add 9 (.tmp 89) (.const (.string ⟨⟨[32]⟩⟩)) (d 6) (.string ⟨⟨[32]⟩⟩)) fun t4=>Ab (Ac Tp 40 (d 1) 5) fun t5=>lW A 33 t5 fun t6=>Ab (Ao Tp 33 t6 (d 12)) fun t7=>lW A 5 t7 fun t8=>Ap (AD Tp A 5 35 t8) fun t9 At9=>cW W0 m0 31 [t9] At9 fun t10 At10=>Ab (Ag Tp .add 9 (.tmp 90) (.tmp 97) t4 t10) fun t11=>Ab (Ag Tp .add 3 (.tmp 87) (.const (.int .i64 1)) (d 12) (.int .i64 1)) fun t12=>BA (T14 3) (T14 3) (S 3 [(d 1),(d 4),(d 5),t11,(d 7),(d 8),t12] At10)) (Ab (Ac Tp 40 (d 7) 5) fun t13=>Bp (AZ Tp A 33 t13 (.slice none 0 0)) fun At14=>Ab (Ag Tp .add 3 (.tmp 30) (.const (.int .i64 1)) (d 8) (.int .i64 1)) fun t15=>BA (T14 0) (T14 0) (S 0 [(d 1),(d 4),(d 5),(d 6),(d 7),t15] At14))):=by kernel_rfl
theorem Abk (d:Nat→Value) (A:AW):AR Tp Ai W0 m0 14 T14 L14 S Q none 4000 (DR 188 d) (T14 5) false 0 0 0 [] A=(Ab (Ac Tp 40 (d 1) 6) fun t0=>lW A 34 t0 fun t1=>Ab (Bm Tp A 34 t1) fun t2=>Ab (Ag Tp .lss 3 (.tmp 102) (.tmp 105) (d 13) t2) fun t3=>Af t3 (Ab (Ag Tp .add 9 (.tmp 109) (.const (.string ⟨⟨[32]⟩⟩)) (d 6) (.string ⟨⟨[32]⟩⟩)) fun t4=>Ab (Ac Tp 40 (d 1) 6) fun t5=>lW A 34 t5 fun t6=>Ab (Ao Tp 34 t6 (d 13)) fun t7=>lW A 3 t7 fun t8=>cW W0 m0 32 [t8] A fun t9 At9=>Ab (Ag Tp .add 9 (.tmp 110) (.tmp 116) t4 t9) fun t10=>Ab (Ag Tp .add 3 (.tmp 107) (.const (.int .i64 1)) (d 13) (.int .i64 1)) fun t11=>BA (T14 5) (T14 5) (S 5 [(d 1),(d 4),(d 5),t10,(d 7),(d 8),t11] At9)) (Ab (Ac Tp 40 (d 7) 6) fun t12=>Bp (AZ Tp A 34 t12 (.slice none 0 0)) fun At13=>Ab (Ag Tp .add 3 (.tmp 30) (.const (.int .i64 1)) (d 8) (.int .i64 1)) fun t14=>BA (T14 0) (T14 0) (S 0 [(d 1),(d 4),(d 5),(d 6),(d 7),t14] At13))):=by kernel_rfl
theorem w14:Wf1 14 188 T14 L14:=wf1 (fun _=>by kernel_rfl) (by decide) fun _=>rfl
theorem c14:Ge 14 188 T14 L14:=GF (by decide)
abbrev Ng (X1:AW) (x2:Value):Prop:=Ab (B0 Tp 40 []) fun t900=>sW X1 40 x2 t900 fun At903=>lW At903 40 x2 fun t904=>Q (.tuple ⟨[t904,(.int .i64 310)]⟩) At903
abbrev VN (a0:Value) (X0:AW) (x1:Value) (x6:Value):Prop:=lW X0 40 x1 fun t902=>cW W0 m0 28 [t902] X0 fun t903 At904=>Ab (Ag Tp .neq 9 (.tmp 42) (.tmp 43) t903 a0) fun t905=>Af t905 (Ng Q At904 x6) (lW At904 40 x1 fun t907=>sW At904 40 x6 t907 fun At908=>lW At908 40 x6 fun t909=>Q (.tuple ⟨[t909,(.int .i64 0)]⟩) At908)
theorem e15 (a0:Value) (A:AW):AR Tp Ai W0 m0 15 Tz Lz S Q none 4000 (Tm.fill ⟨48,.nil⟩ 0 [a0]) [.code (cd 15 [])] false 0 0 0 [] A=(Ap (B5 Tp A 40) fun t0 At0=>cW W0 m0 37 [a0,(.string ⟨⟨[32]⟩⟩)] At0 fun t1 At1=>Ab (B0 Tp 96 [(0,t1)]) fun t2=>Ap (Ep At1 (Value.cells t2).toList 96) fun t3 At3=>cW W0 m0 38 [t3] At3 fun t4 At4=>Ap (B5 Tp At4 40) fun t5 At5=>sW At5 40 t5 t4 fun At6=>Ab (Ca t3) fun t7=>fW 96 t7 1 fun t8=>lW At6 4 t8 fun t9=>Af t9 (Ng Q At6 t0) (Ab (Ca t3) fun t13=>fW 96 t13 0 fun t14=>lW At6 56 t14 fun t15=>Ab (Bm Tp At6 56 t15) fun t16=>kW .gtr 3 21 (.int .i64 0) t16 fun t17=>Af t17 (Ng Q At6 t0) (fW 40 t5 0 fun t21=>lW At6 5 t21 fun t22=>kW .eql 5 26 (.int .u8 0) t22 fun t23=>Af t23 (Ng Q At6 t0) (fW 40 t5 0 fun t27=>lW At6 5 t27 fun t28=>kW .eql 5 31 (.int .u8 16) t28 fun t29=>Af t29 (fW 40 t5 9 fun t30=>fW 38 t30 0 fun t31=>lW At6 5 t31 fun t32=>kW .eql 5 36 (.int .u8 0) t32 fun t33=>Af t33 (Ng Q At6 t0) (VN W0 m0 Q a0 At6 t5 t0)) (VN W0 m0 Q a0 At6 t5 t0))))):=by kernel_rfl
theorem w15:Wf1 15 48 Tz Lz:=wf1 (fun _=>by kernel_rfl) (by decide) fun _=>rfl
noncomputable def T16:Nat→List Item:=fun i=>match i with
 | 0=>[(.code (cd 16 [1,1,0,1,0,0])),(.inLoop (cd 16 [1,1,0,1,0,0])),(.inBlock 0),(.code (cd 16 [1,1,1]))]
 | 2=>[(.code (cd 16 [1,1,1,0,1,0,0])),(.inLoop (cd 16 [1,1,1,0,1,0,0])),(.inBlock 2),(.code (cd 16 [1,1,1,1]))]
 | 4=>[(.code (cd 16 [1,1,1,1,0,1,0,0])),(.inLoop (cd 16 [1,1,1,1,0,1,0,0])),(.inBlock 4),(.code (cd 16 [1,1,1,1,1]))]
 | _=>[]
def L16:Nat→List Tmp:=fun i=>match i with
 | 0=>[2,3,5]
 | 2=>[2,3,6]
 | 4=>[2,3,7]
 | _=>[]
theorem e16 (a0 a1:Value) (A:AW):AR Tp Ai W0 m0 16 T16 L16 S Q none 4000 (Tm.fill ⟨208,.nil⟩ 0 [a0,a1]) [.code (cd 16 [])] false 0 0 0 [] A=(Ap (Ep A (Value.cells a0).toList 40) fun t0 At0=>Ap (Ep At0 (Value.cells a1).toList 40) fun t1 At1=>fW 40 t0 5 fun t2=>lW At1 33 t2 fun t3=>Ab (Bm Tp At1 33 t3) fun t4=>fW 40 t1 5 fun t5=>lW At1 33 t5 fun t6=>Ab (Bm Tp At1 33 t6) fun t7=>Ab (Ag Tp .neq 3 (.tmp 12) (.tmp 15) t4 t7) fun t8=>Af t8 (Q (.bool false) At1) (fW 40 t0 6 fun t9=>lW At1 34 t9 fun t10=>Ab (Bm Tp At1 34 t10) fun t11=>fW 40 t1 6 fun t12=>lW At1 34 t12 fun t13=>Ab (Bm Tp At1 34 t13) fun t14=>Ab (Ag Tp .neq 3 (.tmp 20) (.tmp 23) t11 t14) fun t15=>Af t15 (Q (.bool false) At1) (fW 40 t0 9 fun t16=>fW 38 t16 8 fun t17=>lW At1 36 t17 fun t18=>Ab (Bm Tp At1 36 t18) fun t19=>fW 40 t1 9 fun t20=>fW 38 t20 8 fun t21=>lW At1 36 t21 fun t22=>Ab (Bm Tp At1 36 t22) fun t23=>Ab (Ag Tp .neq 3 (.tmp 30) (.tmp 34) t19 t23) fun t24=>Af t24 (Q (.bool false) At1) (BA (T16 0) (T16 0) (S 0 [t0,t1,(.int .i64 0)] At1))))):=by kernel_rfl
theorem Abj (d:Nat→Value) (A:AW):AR Tp Ai W0 m0 16 T16 L16 S Q none 4000 (DR 208 d) (T16 0) false 0 0 0 [] A=(Ab (Ac Tp 40 (d 2) 5) fun t0=>lW A 33 t0 fun t1=>Ab (Bm Tp A 33 t1) fun t2=>Ab (Ag Tp .lss 3 (.tmp 37) (.tmp 40) (d 5) t2) fun t3=>Af t3 (Ab (Ac Tp 40 (d 2) 5) fun t4=>lW A 33 t4 fun t5=>Ab (Ao Tp 33 t5 (d 5)) fun t6=>lW A 5 t6 fun t7=>Ab (Ac Tp 40 (d 3) 5) fun t8=>lW A 33 t8 fun t9=>Ab (Ao Tp 33 t9 (d 5)) fun t10=>lW A 5 t10 fun t11=>Ab (Ag Tp .neq 5 (.tmp 48) (.tmp 53) t7 t11) fun t12=>Af t12 (Q (.bool false) A) (Ab (Ag Tp .add 3 (.tmp 42) (.const (.int .i64 1)) (d 5) (.int .i64 1)) fun t13=>BA (T16 0) (T16 0) (S 0 [(d 2),(d 3),t13] A))) (BA (T16 2) (T16 2) (S 2 [(d 2),(d 3),(.int .i64 0)] A))):=by kernel_rfl
theorem Abi (d:Nat→Value) (A:AW):AR Tp Ai W0 m0 16 T16 L16 S Q none 4000 (DR 208 d) (T16 2) false 0 0 0 [] A=(Ab (Ac Tp 40 (d 2) 6) fun t0=>lW A 34 t0 fun t1=>Ab (Bm Tp A 34 t1) fun t2=>Ab (Ag Tp .lss 3 (.tmp 55) (.tmp 58) (d 6) t2) fun t3=>Af t3 (Ab (Ac Tp 40 (d 2) 6) fun t4=>lW A 34 t4 fun t5=>Ab (Ao Tp 34 t5 (d 6)) fun t6=>lW A 3 t6 fun t7=>Ab (Ac Tp 40 (d 3) 6) fun t8=>lW A 34 t8 fun t9=>Ab (Ao Tp 34 t9 (d 6)) fun t10=>lW A 3 t10 fun t11=>Ab (Ag Tp .neq 3 (.tmp 66) (.tmp 71) t7 t11) fun t12=>Af t12 (Q (.bool false) A) (Ab (Ag Tp .add 3 (.tmp 60) (.const (.int .i64 1)) (d 6) (.int .i64 1)) fun t13=>BA (T16 2) (T16 2) (S 2 [(d 2),(d 3),t13] A))) (BA (T16 4) (T16 4) (S 4 [(d 2),(d 3),(.int .i64 0)] A))):=by kernel_rfl
theorem Abh (d:Nat→Value) (A:AW):AR Tp Ai W0 m0 16 T16 L16 S Q none 4000 (DR 208 d) (T16 4) false 0 0 0 [] A=(Ab (Ac Tp 40 (d 2) 9) fun t0=>fW 38 t0 8 fun t1=>lW A 36 t1 fun t2=>Ab (Bm Tp A 36 t2) fun t3=>Ab (Ag Tp .lss 3 (.tmp 73) (.tmp 77) (d 7) t3) fun t4=>Af t4 (Ab (Ac Tp 40 (d 2) 9) fun t5=>fW 38 t5 8 fun t6=>lW A 36 t6 fun t7=>Ab (Ao Tp 36 t7 (d 7)) fun t8=>lW A 54 t8 fun t9=>Ab (Ac Tp 40 (d 3) 9) fun t10=>fW 38 t10 8 fun t11=>lW A 36 t11 fun t12=>Ab (Ao Tp 36 t12 (d 7)) fun t13=>lW A 54 t13 fun t14=>Ab (Ag Tp .neq 54 (.tmp 86) (.tmp 92) t9 t14) fun t15=>Af t15 (Q (.bool false) A) (Ab (Ag Tp .add 3 (.tmp 79) (.const (.int .i64 1)) (d 7) (.int .i64 1)) fun t16=>BA (T16 4) (T16 4) (S 4 [(d 2),(d 3),t16] A))) (Ap (B5 Tp A 38) fun t17 At17=>Bz (AT Tp (fun _=>undef) (.alloc 38)) At17 t17 (Ap (B5 Tp At17 38) fun t18 At18=>Bz (AT Tp (fun _=>undef) (.alloc 38)) At18 t18 (Bz (AT Tp (fun _=>undef) (.alloc 38)) At18 t17 (Ab (Ac Tp 40 (d 2) 9) fun t19=>lW At18 38 t19 fun t20=>Ab (Ac Tp 40 (d 3) 9) fun t21=>lW At18 38 t21 fun t22=>sW At18 38 t17 t20 fun At23=>lW At23 38 t21 fun t24=>eqW t24 t22 (Ab (Ac Tp 40 (d 3) 9) fun t25=>eqW t25 t21 (sW At23 38 t18 t22 fun At26=>Ab (Ac Tp 40 (d 2) 0) fun t27=>lW At26 5 t27 fun t28=>Ab (Ac Tp 40 (d 3) 0) fun t29=>lW At26 5 t29 fun t30=>Ab (Ag Tp .eql 5 (.tmp 99) (.tmp 101) t28 t30) fun t31=>Af t31 (Ab (Ac Tp 40 (d 2) 1) fun t32=>lW At26 5 t32 fun t33=>Ab (Ac Tp 40 (d 3) 1) fun t34=>lW At26 5 t34 fun t35=>Ab (Ag Tp .eql 5 (.tmp 105) (.tmp 107) t33 t35) fun t36=>Af t36 (Ab (Ac Tp 40 (d 2) 2) fun t37=>lW At26 5 t37 fun t38=>Ab (Ac Tp 40 (d 3) 2) fun t39=>lW At26 5 t39 fun t40=>Ab (Ag Tp .eql 5 (.tmp 112) (.tmp 114) t38 t40) fun t41=>Af t41 (Ab (Ac Tp 40 (d 2) 3) fun t42=>lW At26 3 t42 fun t43=>Ab (Ac Tp 40 (d 3) 3) fun t44=>lW At26 3 t44 fun t45=>Ab (Ag Tp .eql 3 (.tmp 119) (.tmp 121) t43 t45) fun t46=>Af t46 (Ab (Ac Tp 40 (d 2) 4) fun t47=>lW At26 32 t47 fun t48=>Ab (Ac Tp 40 (d 3) 4) fun t49=>lW At26 32 t49 fun t50=>Ab (Ag Tp .eql 32 (.tmp 126) (.tmp 128) t48 t50) fun t51=>Af t51 (Ab (Ac Tp 40 (d 2) 7) fun t52=>lW At26 9 t52 fun t53=>Ab (Ac Tp 40 (d 3) 7) fun t54=>lW At26 9 t54 fun t55=>Ab (Ag Tp .eql 9 (.tmp 133) (.tmp 135) t53 t55) fun t56=>Af t56 (Ab (Ac Tp 40 (d 2) 8) fun t57=>lW At26 4 t57 fun t58=>Ab (Ac Tp 40 (d 3) 8) fun t59=>lW At26 4 t59 fun t60=>Ab (Ag Tp .eql 4 (.tmp 140) (.tmp 142) t58 t60) fun t61=>Af t61 (fW 38 t17 0 fun t62=>lW At26 5 t62 fun t63=>fW 38 t18 0 fun t64=>lW At26 5 t64 fun t65=>Ab (Ag Tp .eql 5 (.tmp 147) (.tmp 149) t63 t65) fun t66=>Af t66 (fW 38 t17 1 fun t67=>lW At26 35 t67 fun t68=>fW 38 t18 1 fun t69=>lW At26 35 t69 fun t70=>Ab (Ag Tp .eql 35 (.tmp 154) (.tmp 156) t68 t70) fun t71=>Af t71 (fW 38 t17 2 fun t72=>lW At26 9 t72 fun t73=>fW 38 t18 2 fun t74=>lW At26 9 t74 fun t75=>Ab (Ag Tp .eql 9 (.tmp 161) (.tmp 163) t73 t75) fun t76=>Af t76 (fW 38 t17 3 fun t77=>lW At26 9 t77 fun t78=>fW 38 t18 3 fun t79=>lW At26 9 t79 fun t80=>Ab (Ag Tp .eql 9 (.tmp 168) (.tmp 170) t78 t80) fun t81=>Af t81 (fW 38 t17 4 fun t82=>lW At26 32 t82 fun t83=>fW 38 t18 4 fun t84=>lW At26 32 t84 fun t85=>Ab (Ag Tp .eql 32 (.tmp 175) (.tmp 177) t83 t85) fun t86=>Af t86 (fW 38 t17 5 fun t87=>lW At26 30 t87 fun t88=>fW 38 t18 5 fun t89=>lW At26 30 t89 fun t90=>Ab (Ag Tp .eql 30 (.tmp 182) (.tmp 184) t88 t90) fun t91=>Af t91 (fW 38 t17 6 fun t92=>lW At26 4 t92 fun t93=>fW 38 t18 6 fun t94=>lW At26 4 t94 fun t95=>Ab (Ag Tp .eql 4 (.tmp 189) (.tmp 191) t93 t95) fun t96=>Af t96 (fW 38 t17 7 fun t97=>lW At26 4 t97 fun t98=>fW 38 t18 7 fun t99=>lW At26 4 t99 fun t100=>Ab (Ag Tp .eql 4 (.tmp 196) (.tmp 198) t98 t100) fun t101=>Af t101 (fW 38 t17 9 fun t102=>lW At26 9 t102 fun t103=>fW 38 t18 9 fun t104=>lW At26 9 t104 fun t105=>Ab (Ag Tp .eql 9 (.tmp 203) (.tmp 205) t103 t105) fun t106=>Q t106 At26) (Q (.bool false) At26)) (Q (.bool false) At26)) (Q (.bool false) At26)) (Q (.bool false) At26)) (Q (.bool false) At26)) (Q (.bool false) At26)) (Q (.bool false) At26)) (Q (.bool false) At26)) (Q (.bool false) At26)) (Q (.bool false) At26)) (Q (.bool false) At26)) (Q (.bool false) At26)) (Q (.bool false) At26)) (Q (.bool false) At26)) (Q (.bool false) At26)))))))):=by kernel_rfl
theorem w16:Wf2 16 208 T16 L16:=wf2 (fun _ _=>by kernel_rfl) (by decide) fun _ _=>rfl
theorem c16:Ge 16 208 T16 L16:=GF (by decide)
noncomputable def T28:Nat→List Item:=fun i=>match i with
 | 1=>[(.code (cd 28 [1,1,1,0,1,0,1,0,1,0,0])),(.inLoop (cd 28 [1,1,1,0,1,0,1,0,1,0,0])),(.inBlock 1),(.inBlock 0),(.code (cd 28 [1,1,1,1]))]
 | 3=>[(.code (cd 28 [1,1,1,0,1,0,1,1,1,1,1,1,1,1,1,1,1,0,1,1,0,0])),(.inLoop (cd 28 [1,1,1,0,1,0,1,1,1,1,1,1,1,1,1,1,1,0,1,1,0,0])),(.inBlock 3),(.inBlock 0),(.code (cd 28 [1,1,1,1]))]
 | _=>[]
def L28:Nat→List Tmp:=fun i=>match i with
 | 1=>[3,4,20,21,22]
 | 3=>[3,4,91,92,93]
 | _=>[]
abbrev So (x0:Value) (X2:AW) (x14:Value):Prop:=fW 40 x0 1 fun t901=>lW X2 5 t901 fun t903=>fW 40 x0 2 fun t904=>lW X2 5 t904 fun t905=>fW 40 x0 3 fun t906=>lW X2 3 t906 fun t907=>cW W0 m0 47 [t903] X2 fun t908 At909=>lW At909 3 t906 fun t910=>eqW t910 t907 (fW 40 x0 3 fun t911=>eqW t911 t906 (lW At909 5 t904 fun t912=>eqW t912 t905 (fW 40 x0 2 fun t913=>eqW t913 t904 (eqW (.func (.func 55) ⟨[]⟩ ⟨[x14]⟩) (.func (.func 55) ⟨[]⟩ ⟨[x14]⟩) (cW W0 m0 47 [t905] At909 fun t915 At916=>lW At916 3 t906 fun t917=>eqW t917 t907 (fW 40 x0 3 fun t918=>eqW t918 t906 (eqW (.func (.func 55) ⟨[]⟩ ⟨[x14]⟩) (.func (.func 55) ⟨[]⟩ ⟨[x14]⟩) (cW W0 m0 46 [t907] At916 fun t919 At920=>eqW (.func (.func 55) ⟨[]⟩ ⟨[x14]⟩) (.func (.func 55) ⟨[]⟩ ⟨[x14]⟩) (Ap (Ar Tp At920 56 3 [(0,t908),(1,t915),(2,t919)]) fun t921 At922=>Bz (AT Tp (By (Tm.fill ⟨3,.nil⟩ 0 [t908,t915,t919])) (.buildSlice 56 3 #[(0,.tmp 0),(1,.tmp 1),(2,.tmp 2)])) At922 t921 (lW At922 3 t906 fun t923=>eqW t923 t907 (fW 40 x0 3 fun t924=>eqW t924 t906 (lW At922 5 t904 fun t925=>eqW t925 t905 (fW 40 x0 2 fun t926=>eqW t926 t904 (lW At922 5 t901 fun t927=>eqW t927 t903 (fW 40 x0 1 fun t928=>eqW t928 t901 (eqW (.func (.func 55) ⟨[]⟩ ⟨[x14]⟩) (.func (.func 55) ⟨[]⟩ ⟨[x14]⟩) (anW Tp Ai W0 m0 (Fo Tp Ai At922 (.func (.func 55) ⟨[]⟩ ⟨[x14]⟩) [t921]) fun t929 At930=>lW At930 56 x14 fun t931=>cW W0 m0 45 [t931,(.string ⟨⟨[32]⟩⟩)] At930 fun t932 At933=>Q t932 At933)))))))))))))))))
abbrev Sn (x0:Value) (X2:AW) (x10:Value):Prop:=fW 40 x0 1 fun t901=>lW X2 5 t901 fun t903=>fW 40 x0 3 fun t904=>lW X2 3 t904 fun t905=>cW W0 m0 47 [t903] X2 fun t906 At907=>lW At907 3 t904 fun t908=>eqW t908 t905 (fW 40 x0 3 fun t909=>eqW t909 t904 (eqW (.func (.func 55) ⟨[]⟩ ⟨[x10]⟩) (.func (.func 55) ⟨[]⟩ ⟨[x10]⟩) (cW W0 m0 46 [t905] At907 fun t911 At912=>eqW (.func (.func 55) ⟨[]⟩ ⟨[x10]⟩) (.func (.func 55) ⟨[]⟩ ⟨[x10]⟩) (Ap (Ar Tp At912 56 2 [(0,t906),(1,t911)]) fun t913 At914=>Bz (AT Tp (By (Tm.fill ⟨2,.nil⟩ 0 [t906,t911])) (.buildSlice 56 2 #[(0,.tmp 0),(1,.tmp 1)])) At914 t913 (lW At914 3 t904 fun t915=>eqW t915 t905 (fW 40 x0 3 fun t916=>eqW t916 t904 (lW At914 5 t901 fun t917=>eqW t917 t903 (fW 40 x0 1 fun t918=>eqW t918 t901 (eqW (.func (.func 55) ⟨[]⟩ ⟨[x10]⟩) (.func (.func 55) ⟨[]⟩ ⟨[x10]⟩) (anW Tp Ai W0 m0 (Fo Tp Ai At914 (.func (.func 55) ⟨[]⟩ ⟨[x10]⟩) [t913]) fun t919 At920=>lW At920 56 x10 fun t921=>cW W0 m0 45 [t921,(.string ⟨⟨[32]⟩⟩)] At920 fun t922 At923=>Q t922 At923))))))))))
abbrev JZ (X0:AW) (x1:Value) (x2:Value):Prop:=anW Tp Ai W0 m0 (Fo Tp Ai X0 (.func (.func 55) ⟨[]⟩ ⟨[x1]⟩) [x2]) fun t903 At904=>lW At904 56 x1 fun t905=>cW W0 m0 45 [t905,(.string ⟨⟨[32]⟩⟩)] At904 fun t906 At907=>Q t906 At907
theorem e28 (a0:Value) (A:AW):AR Tp Ai W0 m0 28 T28 L28 S Q none 4000 (Tm.fill ⟨153,.nil⟩ 0 [a0]) [.code (cd 28 [])] false 0 0 0 [] A=(Ap (Ep A (Value.cells a0).toList 40) fun t0 At0=>Ap (B5 Tp At0 56) fun t1 At1=>Bz (AT Tp (fun _=>undef) (.alloc 56)) At1 t1 (fW 40 t0 0 fun t2=>lW At1 5 t2 fun t3=>cW W0 m0 54 [] At1 fun t4 At4=>Bz (AT Tp (fun _=>undef) (.alloc 56)) At4 t1 (lW At4 5 t2 fun t5=>eqW t5 t3 (fW 40 t0 0 fun t6=>eqW t6 t2 (cW W0 m0 53 [t4,t3] At4 fun t7 At7=>Bz (AT Tp (fun _=>undef) (.alloc 56)) At7 t1 (Ap (Ar Tp At7 56 1 [(0,t7)]) fun t8 At8=>Bz (AT Tp (fun _=>undef) (.alloc 56)) At8 t1 (Bz (AT Tp (By (Tm.fill ⟨1,.nil⟩ 0 [t7])) (.buildSlice 56 1 #[(0,.tmp 0)])) At8 t8 (lW At8 5 t2 fun t9=>eqW t9 t3 (fW 40 t0 0 fun t10=>eqW t10 t2 (sW At8 56 t1 t8 fun At11=>fW 40 t0 0 fun t12=>lW At11 5 t12 fun t13=>kW .eql 5 16 (.int .u8 1) t13 fun t14=>Af t14 (fW 40 t0 5 fun t15=>lW At11 33 t15 fun t16=>Ab (Bm Tp At11 33 t16) fun t17=>BA (T28 1) (T28 1) (S 1 [t1,(.func (.func 55) ⟨[]⟩ ⟨[t1]⟩),t16,t17,(.int .i64 0)] At11)) (kW .eql 5 16 (.int .u8 2) t13 fun t18=>Af t18 (fW 40 t0 4 fun t19=>lW At11 32 t19 fun t20=>fW 40 t0 8 fun t21=>lW At11 4 t21 fun t22=>cW W0 m0 44 [t20] At11 fun t23 At23=>lW At23 4 t21 fun t24=>eqW t24 t22 (fW 40 t0 8 fun t25=>eqW t25 t21 (eqW (.func (.func 55) ⟨[]⟩ ⟨[t1]⟩) (.func (.func 55) ⟨[]⟩ ⟨[t1]⟩) (cW W0 m0 49 [t22,(.string ⟨⟨[99,111,109,109,105,116]⟩⟩),(.string ⟨⟨[98,97,99,107]⟩⟩)] At23 fun t26 At26=>eqW (.func (.func 55) ⟨[]⟩ ⟨[t1]⟩) (.func (.func 55) ⟨[]⟩ ⟨[t1]⟩) (Ap (Ar Tp At26 56 2 [(0,t23),(1,t26)]) fun t27 At27=>Bz (AT Tp (By (Tm.fill ⟨2,.nil⟩ 0 [t23,t26])) (.buildSlice 56 2 #[(0,.tmp 0),(1,.tmp 1)])) At27 t27 (lW At27 4 t21 fun t28=>eqW t28 t22 (fW 40 t0 8 fun t29=>eqW t29 t21 (lW At27 32 t19 fun t30=>eqW t30 t20 (fW 40 t0 4 fun t31=>eqW t31 t19 (eqW (.func (.func 55) ⟨[]⟩ ⟨[t1]⟩) (.func (.func 55) ⟨[]⟩ ⟨[t1]⟩) (JZ W0 m0 Q At27 t1 t27))))))))))) (kW .eql 5 16 (.int .u8 10) t13 fun t35=>Af t35 (fW 40 t0 1 fun t36=>lW At11 5 t36 fun t37=>fW 40 t0 4 fun t38=>lW At11 32 t38 fun t39=>fW 40 t0 8 fun t40=>lW At11 4 t40 fun t41=>cW W0 m0 47 [t37] At11 fun t42 At42=>lW At42 4 t40 fun t43=>eqW t43 t41 (fW 40 t0 8 fun t44=>eqW t44 t40 (lW At42 32 t38 fun t45=>eqW t45 t39 (fW 40 t0 4 fun t46=>eqW t46 t38 (eqW (.func (.func 55) ⟨[]⟩ ⟨[t1]⟩) (.func (.func 55) ⟨[]⟩ ⟨[t1]⟩) (cW W0 m0 44 [t39] At42 fun t47 At47=>lW At47 4 t40 fun t48=>eqW t48 t41 (fW 40 t0 8 fun t49=>eqW t49 t40 (eqW (.func (.func 55) ⟨[]⟩ ⟨[t1]⟩) (.func (.func 55) ⟨[]⟩ ⟨[t1]⟩) (cW W0 m0 49 [t41,(.string ⟨⟨[99,111,109,109,105,116]⟩⟩),(.string ⟨⟨[98,97,99,107]⟩⟩)] At47 fun t50 At50=>eqW (.func (.func 55) ⟨[]⟩ ⟨[t1]⟩) (.func (.func 55) ⟨[]⟩ ⟨[t1]⟩) (Ap (Ar Tp At50 56 3 [(0,t42),(1,t47),(2,t50)]) fun t51 At51=>Bz (AT Tp (By (Tm.fill ⟨3,.nil⟩ 0 [t42,t47,t50])) (.buildSlice 56 3 #[(0,.tmp 0),(1,.tmp 1),(2,.tmp 2)])) At51 t51 (lW At51 4 t40 fun t52=>eqW t52 t41 (fW 40 t0 8 fun t53=>eqW t53 t40 (lW At51 32 t38 fun t54=>eqW t54 t39 (fW 40 t0 4 fun t55=>eqW t55 t38 (lW At51 5 t36 fun t56=>eqW t56 t37 (fW 40 t0 1 fun t57=>eqW t57 t36 (eqW (.func (.func 55) ⟨[]⟩ ⟨[t1]⟩) (.func (.func 55) ⟨[]⟩ ⟨[t1]⟩) (JZ W0 m0 Q At51 t1 t51)))))))))))))))))) (kW .eql 5 16 (.int .u8 3) t13 fun t61=>Af t61 (So W0 m0 Q t0 At11 t1) (kW .eql 5 16 (.int .u8 4) t13 fun t87=>Af t87 (So W0 m0 Q t0 At11 t1) (kW .eql 5 16 (.int .u8 5) t13 fun t113=>Af t113 (So W0 m0 Q t0 At11 t1) (kW .eql 5 16 (.int .u8 7) t13 fun t139=>Af t139 (fW 40 t0 1 fun t140=>lW At11 5 t140 fun t141=>cW W0 m0 47 [t141] At11 fun t142 At142=>Ap (Ar Tp At142 56 1 [(0,t142)]) fun t143 At143=>JZ W0 m0 Q At143 t1 t143) (kW .eql 5 16 (.int .u8 12) t13 fun t147=>Af t147 (fW 40 t0 1 fun t148=>lW At11 5 t148 fun t149=>cW W0 m0 47 [t149] At11 fun t150 At150=>Ap (Ar Tp At150 56 1 [(0,t150)]) fun t151 At151=>JZ W0 m0 Q At151 t1 t151) (kW .eql 5 16 (.int .u8 8) t13 fun t155=>Af t155 (fW 40 t0 1 fun t156=>lW At11 5 t156 fun t157=>cW W0 m0 47 [t157] At11 fun t158 At158=>Ap (Ar Tp At158 56 1 [(0,t158)]) fun t159 At159=>anW Tp Ai W0 m0 (Fo Tp Ai At159 (.func (.func 55) ⟨[]⟩ ⟨[t1]⟩) [t159]) fun t160 At160=>fW 40 t0 6 fun t161=>lW At160 34 t161 fun t162=>Ab (Bm Tp At160 34 t162) fun t163=>BA (T28 3) (T28 3) (S 3 [t1,(.func (.func 55) ⟨[]⟩ ⟨[t1]⟩),t162,t163,(.int .i64 0)] At160)) (kW .eql 5 16 (.int .u8 9) t13 fun t164=>Af t164 (Sn W0 m0 Q t0 At11 t1) (kW .eql 5 16 (.int .u8 14) t13 fun t181=>Af t181 (Sn W0 m0 Q t0 At11 t1) (kW .eql 5 16 (.int .u8 15) t13 fun t198=>Af t198 (Sn W0 m0 Q t0 At11 t1) (kW .eql 5 16 (.int .u8 11) t13 fun t215=>Af t215 (fW 40 t0 4 fun t216=>lW At11 32 t216 fun t217=>cW W0 m0 44 [t217] At11 fun t218 At218=>Ap (Ar Tp At218 56 1 [(0,t218)]) fun t219 At219=>JZ W0 m0 Q At219 t1 t219) (kW .eql 5 16 (.int .u8 13) t13 fun t223=>Af t223 (fW 40 t0 1 fun t224=>lW At11 5 t224 fun t225=>fW 40 t0 3 fun t226=>lW At11 3 t226 fun t227=>fW 40 t0 7 fun t228=>lW At11 9 t228 fun t229=>cW W0 m0 47 [t225] At11 fun t230 At230=>lW At230 9 t228 fun t231=>eqW t231 t229 (fW 40 t0 7 fun t232=>eqW t232 t228 (lW At230 3 t226 fun t233=>eqW t233 t227 (fW 40 t0 3 fun t234=>eqW t234 t226 (eqW (.func (.func 55) ⟨[]⟩ ⟨[t1]⟩) (.func (.func 55) ⟨[]⟩ ⟨[t1]⟩) (cW W0 m0 46 [t227] At230 fun t235 At235=>lW At235 9 t228 fun t236=>eqW t236 t229 (fW 40 t0 7 fun t237=>eqW t237 t228 (eqW (.func (.func 55) ⟨[]⟩ ⟨[t1]⟩) (.func (.func 55) ⟨[]⟩ ⟨[t1]⟩) (cW W0 m0 8 [t229] At235 fun t238 At238=>eqW (.func (.func 55) ⟨[]⟩ ⟨[t1]⟩) (.func (.func 55) ⟨[]⟩ ⟨[t1]⟩) (Ap (Ar Tp At238 56 3 [(0,t230),(1,t235),(2,t238)]) fun t239 At239=>Bz (AT Tp (By (Tm.fill ⟨3,.nil⟩ 0 [t230,t235,t238])) (.buildSlice 56 3 #[(0,.tmp 0),(1,.tmp 1),(2,.tmp 2)])) At239 t239 (lW At239 9 t228 fun t240=>eqW t240 t229 (fW 40 t0 7 fun t241=>eqW t241 t228 (lW At239 3 t226 fun t242=>eqW t242 t227 (fW 40 t0 3 fun t243=>eqW t243 t226 (lW At239 5 t224 fun t244=>eqW t244 t225 (fW 40 t0 1 fun t245=>eqW t245 t224 (eqW (.func (.func 55) ⟨[]⟩ ⟨[t1]⟩) (.func (.func 55) ⟨[]⟩ ⟨[t1]⟩) (JZ W0 m0 Q At239 t1 t239)))))))))))))))))) (kW .eql 5 16 (.int .u8 16) t13 fun t249=>Af t249 (fW 40 t0 1 fun t250=>lW At11 5 t250 fun t251=>cW W0 m0 47 [t251] At11 fun t252 At252=>Ap (Ar Tp At252 56 1 [(0,t252)]) fun t253 At253=>anW Tp Ai W0 m0 (Fo Tp Ai At253 (.func (.func 55) ⟨[]⟩ ⟨[t1]⟩) [t253]) fun t254 At254=>fW 40 t0 9 fun t255=>lW At254 38 t255 fun t256=>cW W0 m0 56 [t256] At254 fun t257 At257=>JZ W0 m0 Q At257 t1 t257) (lW At11 56 t1 fun t261=>cW W0 m0 45 [t261,(.string ⟨⟨[32]⟩⟩)] At11 fun t262 At262=>Q t262 At262))))))))))))))))))))))))):=by kernel_rfl
theorem Abf (d:Nat→Value) (A:AW):AR Tp Ai W0 m0 28 T28 L28 S Q none 4000 (DR 153 d) (T28 1) false 0 0 0 [] A=(Ab (Ag Tp .lss 3 (.tmp 22) (.tmp 21) (d 22) (d 21)) fun t0=>Af t0 (Ab (Ao Tp 33 (d 20) (d 22)) fun t1=>lW A 5 t1 fun t2=>cW W0 m0 47 [t2] A fun t3 At3=>Ap (Ar Tp At3 56 1 [(0,t3)]) fun t4 At4=>anW Tp Ai W0 m0 (Fo Tp Ai At4 (d 4) [t4]) fun t5 At5=>Ab (Ag Tp .add 3 (.tmp 22) (.const (.int .i64 1)) (d 22) (.int .i64 1)) fun t6=>BA (T28 1) (T28 1) (S 1 [(d 3),(d 4),(d 20),(d 21),t6] At5)) (Ab (Au Tp A 56 (d 3)) fun t7=>cW W0 m0 45 [t7,(.string ⟨⟨[32]⟩⟩)] A fun t8 At8=>Q t8 At8)):=by kernel_rfl
theorem Abe (d:Nat→Value) (A:AW):AR Tp Ai W0 m0 28 T28 L28 S Q none 4000 (DR 153 d) (T28 3) false 0 0 0 [] A=(Ab (Ag Tp .lss 3 (.tmp 93) (.tmp 92) (d 93) (d 92)) fun t0=>Af t0 (Ab (Ao Tp 34 (d 91) (d 93)) fun t1=>lW A 3 t1 fun t2=>cW W0 m0 46 [t2] A fun t3 At3=>Ap (Ar Tp At3 56 1 [(0,t3)]) fun t4 At4=>anW Tp Ai W0 m0 (Fo Tp Ai At4 (d 4) [t4]) fun t5 At5=>Ab (Ag Tp .add 3 (.tmp 93) (.const (.int .i64 1)) (d 93) (.int .i64 1)) fun t6=>BA (T28 3) (T28 3) (S 3 [(d 3),(d 4),(d 91),(d 92),t6] At5)) (Ab (Au Tp A 56 (d 3)) fun t7=>cW W0 m0 45 [t7,(.string ⟨⟨[32]⟩⟩)] A fun t8 At8=>Q t8 At8)):=by kernel_rfl
theorem w28:Wf1 28 153 T28 L28:=wf1 (fun _=>by kernel_rfl) (by decide) fun _=>rfl
theorem c28:Ge 28 153 T28 L28:=GF (by decide)
theorem e29 (a0 a1:Value) (A:AW):AR Tp Ai W0 m0 29 Tz Lz S Q none 4000 (Tm.fill ⟨142,.nil⟩ 0 [a0,a1]) [.code (cd 29 [])] false 0 0 0 [] A=(Ap (Ep A (Value.cells a0).toList 40) fun t0 At0=>Ap (Ep At0 (Value.cells a1).toList 40) fun t1 At1=>Ap (B5 Tp At1 38) fun t2 At2=>Bz (AT Tp (fun _=>undef) (.alloc 38)) At2 t2 (Ap (B5 Tp At2 38) fun t3 At3=>Bz (AT Tp (fun _=>undef) (.alloc 38)) At3 t3 (Bz (AT Tp (fun _=>undef) (.alloc 38)) At3 t2 (fW 40 t0 9 fun t4=>lW At3 38 t4 fun t5=>fW 40 t1 9 fun t6=>lW At3 38 t6 fun t7=>sW At3 38 t2 t5 fun At8=>lW At8 38 t6 fun t9=>eqW t9 t7 (fW 40 t1 9 fun t10=>eqW t10 t6 (sW At8 38 t3 t7 fun At11=>fW 40 t0 0 fun t12=>lW At11 5 t12 fun t13=>fW 40 t1 0 fun t14=>lW At11 5 t14 fun t15=>Ab (Ag Tp .eql 5 (.tmp 12) (.tmp 14) t13 t15) fun t16=>Af t16 (fW 40 t0 1 fun t17=>lW At11 5 t17 fun t18=>fW 40 t1 1 fun t19=>lW At11 5 t19 fun t20=>Ab (Ag Tp .eql 5 (.tmp 18) (.tmp 20) t18 t20) fun t21=>Af t21 (fW 40 t0 2 fun t22=>lW At11 5 t22 fun t23=>fW 40 t1 2 fun t24=>lW At11 5 t24 fun t25=>Ab (Ag Tp .eql 5 (.tmp 25) (.tmp 27) t23 t25) fun t26=>Af t26 (fW 40 t0 3 fun t27=>lW At11 3 t27 fun t28=>fW 40 t1 3 fun t29=>lW At11 3 t29 fun t30=>Ab (Ag Tp .eql 3 (.tmp 32) (.tmp 34) t28 t30) fun t31=>Af t31 (fW 40 t0 4 fun t32=>lW At11 32 t32 fun t33=>fW 40 t1 4 fun t34=>lW At11 32 t34 fun t35=>Ab (Ag Tp .eql 32 (.tmp 39) (.tmp 41) t33 t35) fun t36=>Af t36 (fW 40 t0 5 fun t37=>lW At11 33 t37 fun t38=>fW 40 t1 5 fun t39=>lW At11 33 t39 fun t40=>cW W0 m0 57 [t38,t40] At11 fun t41 At41=>Af t41 (fW 40 t0 6 fun t42=>lW At41 34 t42 fun t43=>fW 40 t1 6 fun t44=>lW At41 34 t44 fun t45=>cW W0 m0 58 [t43,t45] At41 fun t46 At46=>Af t46 (fW 40 t0 7 fun t47=>lW At46 9 t47 fun t48=>fW 40 t1 7 fun t49=>lW At46 9 t49 fun t50=>Ab (Ag Tp .eql 9 (.tmp 60) (.tmp 62) t48 t50) fun t51=>Af t51 (fW 40 t0 8 fun t52=>lW At46 4 t52 fun t53=>fW 40 t1 8 fun t54=>lW At46 4 t54 fun t55=>Ab (Ag Tp .eql 4 (.tmp 67) (.tmp 69) t53 t55) fun t56=>Af t56 (fW 38 t2 0 fun t57=>lW At46 5 t57 fun t58=>fW 38 t3 0 fun t59=>lW At46 5 t59 fun t60=>Ab (Ag Tp .eql 5 (.tmp 74) (.tmp 76) t58 t60) fun t61=>Af t61 (fW 38 t2 1 fun t62=>lW At46 35 t62 fun t63=>fW 38 t3 1 fun t64=>lW At46 35 t64 fun t65=>Ab (Ag Tp .eql 35 (.tmp 81) (.tmp 83) t63 t65) fun t66=>Af t66 (fW 38 t2 2 fun t67=>lW At46 9 t67 fun t68=>fW 38 t3 2 fun t69=>lW At46 9 t69 fun t70=>Ab (Ag Tp .eql 9 (.tmp 88) (.tmp 90) t68 t70) fun t71=>Af t71 (fW 38 t2 3 fun t72=>lW At46 9 t72 fun t73=>fW 38 t3 3 fun t74=>lW At46 9 t74 fun t75=>Ab (Ag Tp .eql 9 (.tmp 95) (.tmp 97) t73 t75) fun t76=>Af t76 (fW 38 t2 4 fun t77=>lW At46 32 t77 fun t78=>fW 38 t3 4 fun t79=>lW At46 32 t79 fun t80=>Ab (Ag Tp .eql 32 (.tmp 102) (.tmp 104) t78 t80) fun t81=>Af t81 (fW 38 t2 5 fun t82=>lW At46 30 t82 fun t83=>fW 38 t3 5 fun t84=>lW At46 30 t84 fun t85=>Ab (Ag Tp .eql 30 (.tmp 109) (.tmp 111) t83 t85) fun t86=>Af t86 (fW 38 t2 6 fun t87=>lW At46 4 t87 fun t88=>fW 38 t3 6 fun t89=>lW At46 4 t89 fun t90=>Ab (Ag Tp .eql 4 (.tmp 116) (.tmp 118) t88 t90) fun t91=>Af t91 (fW 38 t2 7 fun t92=>lW At46 4 t92 fun t93=>fW 38 t3 7 fun t94=>lW At46 4 t94 fun t95=>Ab (Ag Tp .eql 4 (.tmp 123) (.tmp 125) t93 t95) fun t96=>Af t96 (fW 38 t2 8 fun t97=>lW At46 36 t97 fun t98=>fW 38 t3 8 fun t99=>lW At46 36 t99 fun t100=>cW W0 m0 59 [t98,t100] At46 fun t101 At101=>Af t101 (fW 38 t2 9 fun t102=>lW At101 9 t102 fun t103=>fW 38 t3 9 fun t104=>lW At101 9 t104 fun t105=>Ab (Ag Tp .eql 9 (.tmp 137) (.tmp 139) t103 t105) fun t106=>Q t106 At101) (Q (.bool false) At101)) (Q (.bool false) At46)) (Q (.bool false) At46)) (Q (.bool false) At46)) (Q (.bool false) At46)) (Q (.bool false) At46)) (Q (.bool false) At46)) (Q (.bool false) At46)) (Q (.bool false) At46)) (Q (.bool false) At46)) (Q (.bool false) At46)) (Q (.bool false) At46)) (Q (.bool false) At41)) (Q (.bool false) At11)) (Q (.bool false) At11)) (Q (.bool false) At11)) (Q (.bool false) At11)) (Q (.bool false) At11))))))):=by kernel_rfl
theorem w29:Wf2 29 142 Tz Lz:=wf2 (fun _ _=>by kernel_rfl) (by decide) fun _ _=>rfl
theorem e30 (a0:Value) (A:AW):AR Tp Ai W0 m0 30 Tz Lz S Q none 4000 (Tm.fill ⟨39,.nil⟩ 0 [a0]) [.code (cd 30 [])] false 0 0 0 [] A=(kW .eql 5 4 (.int .u8 1) a0 fun t0=>Af t0 (Q (.tuple ⟨[(.string ⟨⟨[98,101,103,105,110]⟩⟩),(.string ⟨⟨[98]⟩⟩)]⟩) A) (kW .eql 5 4 (.int .u8 2) a0 fun t1=>Af t1 (Q (.tuple ⟨[(.string ⟨⟨[101,110,100]⟩⟩),(.string ⟨⟨[88,99]⟩⟩)]⟩) A) (kW .eql 5 4 (.int .u8 3) a0 fun t2=>Af t2 (Q (.tuple ⟨[(.string ⟨⟨[116,97,107,101]⟩⟩),(.string ⟨⟨[110,116,105]⟩⟩)]⟩) A) (kW .eql 5 4 (.int .u8 4) a0 fun t3=>Af t3 (Q (.tuple ⟨[(.string ⟨⟨[100,114,111,112]⟩⟩),(.string ⟨⟨[110,116,105]⟩⟩)]⟩) A) (kW .eql 5 4 (.int .u8 5) a0 fun t4=>Af t4 (Q (.tuple ⟨[(.string ⟨⟨[100,111,117,98,108,101]⟩⟩),(.string ⟨⟨[110,116,105]⟩⟩)]⟩) A) (kW .eql 5 4 (.int .u8 6) a0 fun t5=>Af t5 (Q (.tuple ⟨[(.string ⟨⟨[116,105,99,107]⟩⟩),(.string ⟨⟨[]⟩⟩)]⟩) A) (kW .eql 5 4 (.int .u8 7) a0 fun t6=>Af t6 (Q (.tuple ⟨[(.string ⟨⟨[99,114,97,115,104]⟩⟩),(.string ⟨⟨[110]⟩⟩)]⟩) A) (kW .eql 5 4 (.int .u8 8) a0 fun t7=>Af t7 (Q (.tuple ⟨[(.string ⟨⟨[119,97,107,101]⟩⟩),(.string ⟨⟨[110,107]⟩⟩)]⟩) A) (kW .eql 5 4 (.int .u8 9) a0 fun t8=>Af t8 (Q (.tuple ⟨[(.string ⟨⟨[102,117,115,101]⟩⟩),(.string ⟨⟨[110,105]⟩⟩)]⟩) A) (kW .eql 5 4 (.int .u8 10) a0 fun t9=>Af t9 (Q (.tuple ⟨[(.string ⟨⟨[100,101,99,105,100,101]⟩⟩),(.string ⟨⟨[110,88,99]⟩⟩)]⟩) A) (kW .eql 5 4 (.int .u8 11) a0 fun t10=>Af t10 (Q (.tuple ⟨[(.string ⟨⟨[102,111,114,103,101,116]⟩⟩),(.string ⟨⟨[88]⟩⟩)]⟩) A) (kW .eql 5 4 (.int .u8 12) a0 fun t11=>Af t11 (Q (.tuple ⟨[(.string ⟨⟨[99,111,110,110,101,99,116]⟩⟩),(.string ⟨⟨[110]⟩⟩)]⟩) A) (kW .eql 5 4 (.int .u8 13) a0 fun t12=>Af t12 (Q (.tuple ⟨[(.string ⟨⟨[102,101,101,100]⟩⟩),(.string ⟨⟨[110,105,83]⟩⟩)]⟩) A) (kW .eql 5 4 (.int .u8 14) a0 fun t13=>Af t13 (Q (.tuple ⟨[(.string ⟨⟨[108,111,115,116]⟩⟩),(.string ⟨⟨[110,105]⟩⟩)]⟩) A) (kW .eql 5 4 (.int .u8 15) a0 fun t14=>Af t14 (Q (.tuple ⟨[(.string ⟨⟨[102,101,116,99,104]⟩⟩),(.string ⟨⟨[110,105]⟩⟩)]⟩) A) (kW .eql 5 4 (.int .u8 16) a0 fun t15=>Af t15 (Q (.tuple ⟨[(.string ⟨⟨[99,97,108,108]⟩⟩),(.string ⟨⟨[110,67]⟩⟩)]⟩) A) (kW .eql 5 4 (.int .u8 17) a0 fun t16=>Af t16 (Q (.tuple ⟨[(.string ⟨⟨[99,97,108,109]⟩⟩),(.string ⟨⟨[]⟩⟩)]⟩) A) (Q (.tuple ⟨[(.string ⟨⟨[]⟩⟩),(.string ⟨⟨[]⟩⟩)]⟩) A)))))))))))))))))):=by kernel_rfl
theorem w30:Wf1 30 39 Tz Lz:=wf1 (fun _=>by kernel_rfl) (by decide) fun _=>rfl
noncomputable def T35:Nat→List Item:=fun i=>match i with
 | 0=>[(.code (cd 35 [1,1,1,1,1,1,0,1,0,0])),(.inLoop (cd 35 [1,1,1,1,1,1,0,1,0,0])),(.inBlock 0),(.code (cd 35 [1,1,1,1,1,1,1]))]
 | 3=>[(.code (cd 35 [1,1,1,1,1,1,0,1,0,0,1,0,0,1,0,1,0,1,1,1,1,1,1,1,1,1,1,1,1,1,1,1,1,1,1,1,1,1,0,0,1,0,0])),(.inLoop (cd 35 [1,1,1,1,1,1,0,1,0,0,1,0,0,1,0,1,0,1,1,1,1,1,1,1,1,1,1,1,1,1,1,1,1,1,1,1,1,1,0,0,1,0,0])),(.inBlock 3),(.code (cd 35 [1,1,1,1,1,1,0,1,0,0,1,0,0,1,0,1,0,1,1,1,1,1,1,1,1,1,1,1,1,1,1,1,1,1,1,1,1,1,0,1])),(.inBlock 2),(.code (cd 35 [1,1,1,1,1,1,0,1,0,0,1,0,0,1,1])),(.inBlock 1),(.code (cd 35 [1,1,1,1,1,1,0,1,0,0,1,1])),(.inLoop (cd 35 [1,1,1,1,1,1,0,1,0,0])),(.inBlock 0),(.code (cd 35 [1,1,1,1,1,1,1]))]
 | _=>[]
def L35:Nat→List Tmp:=fun i=>match i with
 | 0=>[1,3,5,6,7,8,9]
 | 3=>[1,3,5,6,7,8,9,13]
 | _=>[]
theorem e35 (a0:Value) (A:AW):AR Tp Ai W0 m0 35 T35 L35 S Q none 4000 (Tm.fill ⟨152,.nil⟩ 0 [a0]) [.code (cd 35 [])] false 0 0 0 [] A=(Ap (Ep A (Value.cells a0).toList 38) fun t0 At0=>Ap (B5 Tp At0 38) fun t1 At1=>fW 38 t0 0 fun t2=>lW At1 5 t2 fun t3=>cW W0 m0 61 [t3] At1 fun t4 At4=>xW t4 0 fun t5=>xW t4 1 fun t6=>fW 38 t0 1 fun t7=>lW At4 35 t7 fun t8=>cW W0 m0 31 [t8] At4 fun t9 At9=>Ab (Ag Tp .add 9 (.tmp 22) (.const (.string ⟨⟨[32]⟩⟩)) t9 (.string ⟨⟨[32]⟩⟩)) fun t10=>Ab (Ag Tp .add 9 (.tmp 23) (.tmp 24) t10 t5) fun t11=>lW At9 38 t0 fun t12=>Ap (B5 Tp At9 38) fun t13 At13=>sW At13 38 t13 t12 fun At14=>fW 38 t13 0 fun t15=>Bp (AZ Tp At14 5 t15 (.int .u8 0)) fun At16=>fW 38 t13 1 fun t17=>Bp (AZ Tp At16 35 t17 (.int .u64 0)) fun At18=>BA (T35 0) (T35 0) (S 0 [t0,t1,t5,t6,t11,t13,(.int .i64 0)] At18)):=by kernel_rfl
abbrev EX (x0:Value) (x2:Value) (x4:Value) (x6:Value) (x7:Value) (x8:Value) (x9:Value) (x10:Value) (X11:AW):Prop:=Ab (Ag Tp .add 9 (.tmp 144) (.const (.string ⟨⟨[32]⟩⟩)) x0 (.string ⟨⟨[32]⟩⟩)) fun t901=>Ab (Ag Tp .add 9 (.tmp 145) (.tmp 146) t901 x2) fun t903=>Ab (Ag Tp .add 3 (.tmp 33) (.const (.int .i64 1)) x4 (.int .i64 1)) fun t905=>BA (T35 0) (T35 0) (S 0 [x6,x7,x8,x9,t903,x10,t905] X11)
abbrev QU (A:AW) (x0:Value) (x8:Value) (x13:Value) (x14:Value) (x15:Value) (x16:Value) (x17:Value) (y0:Value) (y1:Value) (y2:Value):Prop:=Ab (Ac Tp 38 x0 6) fun t901=>lW A 4 t901 fun t902=>Ab (Ac Tp 38 x0 7) fun t903=>lW A 4 t903 fun t904=>Ab (B0 Tp 118 [(0,y0),(1,y1),(2,y2),(3,(.string ⟨⟨[98,111,116,104]⟩⟩))]) fun t905=>cW W0 m0 62 [t902,t904,t905] A fun t906 At907=>Ab (Ac Tp 38 x8 6) fun t909=>Bp (AZ Tp At907 4 t909 (.bool false)) fun At910=>Ab (Ac Tp 38 x8 7) fun t911=>Bp (AZ Tp At910 4 t911 (.bool false)) fun At912=>EX S x13 t906 x14 x0 x15 x16 x17 x8 At912
theorem Abc (d:Nat→Value) (A:AW):AR Tp Ai W0 m0 35 T35 L35 S Q none 4000 (DR 152 d) (T35 0) false 0 0 0 [] A=(Ab (Bm Tp A 9 (d 6)) fun t0=>Ab (Ag Tp .lss 3 (.tmp 29) (.tmp 31) (d 9) t0) fun t1=>Af t1 (Ab (BK Tp 9 (d 6) (d 9)) fun t2=>kW .eql 5 37 (.int .u8 81) t2 fun t3=>Af t3 (Ab (Ac Tp 38 (d 1) 2) fun t4=>lW A 9 t4 fun t5=>cW W0 m0 11 [t5] A fun t6 At6=>Ab (Ac Tp 38 (d 8) 2) fun t7=>Bp (AZ Tp At6 9 t7 (.string ⟨⟨[]⟩⟩)) fun At8=>EX S (d 7) t6 (d 9) (d 1) (d 3) (d 5) (d 6) (d 8) At8) (kW .eql 5 37 (.int .u8 84) t2 fun t12=>Af t12 (Ab (Ac Tp 38 (d 1) 3) fun t13=>lW A 9 t13 fun t14=>cW W0 m0 11 [t14] A fun t15 At15=>Ab (Ac Tp 38 (d 8) 3) fun t16=>Bp (AZ Tp At15 9 t16 (.string ⟨⟨[]⟩⟩)) fun At17=>EX S (d 7) t15 (d 9) (d 1) (d 3) (d 5) (d 6) (d 8) At17) (kW .eql 5 37 (.int .u8 66) t2 fun t21=>Af t21 (Ab (Ac Tp 38 (d 1) 9) fun t22=>lW A 9 t22 fun t23=>cW W0 m0 11 [t23] A fun t24 At24=>Ab (Ac Tp 38 (d 8) 9) fun t25=>Bp (AZ Tp At24 9 t25 (.string ⟨⟨[]⟩⟩)) fun At26=>EX S (d 7) t24 (d 9) (d 1) (d 3) (d 5) (d 6) (d 8) At26) (kW .eql 5 37 (.int .u8 78) t2 fun t30=>Af t30 (Ab (Ac Tp 38 (d 1) 5) fun t31=>lW A 30 t31 fun t32=>Ap (AD Tp A 30 35 t32) fun t33 At33=>cW W0 m0 31 [t33] At33 fun t34 At34=>Ab (Ac Tp 38 (d 8) 5) fun t35=>Bp (AZ Tp At34 30 t35 (.int .u32 0)) fun At36=>EX S (d 7) t34 (d 9) (d 1) (d 3) (d 5) (d 6) (d 8) At36) (kW .eql 5 37 (.int .u8 88) t2 fun t40=>Af t40 (Ab (Ac Tp 38 (d 1) 4) fun t41=>lW A 32 t41 fun t42=>cW W0 m0 33 [t42] A fun t43 At43=>xW t43 0 fun t44=>xW t43 1 fun t45=>Ab (unA Tp .not t45) fun t46=>Af t46 (Ab (Au Tp At43 38 (d 8)) fun t47=>Ab (Au Tp At43 38 (d 8)) fun t48=>eqW t48 t47 (Bp (AZ Tp At43 38 (d 3) t47) fun At49=>Ab (Au Tp At49 38 (d 3)) fun t50=>Q (.tuple ⟨[(.string ⟨⟨[]⟩⟩),t50,(.bool false)]⟩) At49)) (Ab (B0 Tp 32 []) fun t51=>Ab (Ac Tp 38 (d 8) 4) fun t52=>sW At43 32 t52 t51 fun At53=>EX S (d 7) t44 (d 9) (d 1) (d 3) (d 5) (d 6) (d 8) At53)) (kW .eql 5 37 (.int .u8 101) t2 fun t57=>Af t57 (Ab (Ac Tp 38 (d 1) 6) fun t58=>lW A 4 t58 fun t59=>cW W0 m0 34 [t59,(.string ⟨⟨[101,109,112,116,121]⟩⟩),(.string ⟨⟨[97,110,121]⟩⟩)] A fun t60 At60=>Ab (Ac Tp 38 (d 8) 6) fun t61=>Bp (AZ Tp At60 4 t61 (.bool false)) fun At62=>EX S (d 7) t60 (d 9) (d 1) (d 3) (d 5) (d 6) (d 8) At62) (kW .eql 5 37 (.int .u8 109) t2 fun t66=>Af t66 (Ab (Ac Tp 38 (d 1) 6) fun t67=>lW A 4 t67 fun t68=>cW W0 m0 34 [t68,(.string ⟨⟨[109,97,114,107]⟩⟩),(.string ⟨⟨[107,101,101,112]⟩⟩)] A fun t69 At69=>Ab (Ac Tp 38 (d 8) 6) fun t70=>Bp (AZ Tp At69 4 t70 (.bool false)) fun At71=>EX S (d 7) t69 (d 9) (d 1) (d 3) (d 5) (d 6) (d 8) At71) (kW .eql 5 37 (.int .u8 100) t2 fun t75=>Af t75 (Ab (Ac Tp 38 (d 1) 6) fun t76=>lW A 4 t76 fun t77=>cW W0 m0 34 [t77,(.string ⟨⟨[100,116,120]⟩⟩),(.string ⟨⟨[108,111,99,97,108]⟩⟩)] A fun t78 At78=>Ab (Ac Tp 38 (d 8) 6) fun t79=>Bp (AZ Tp At78 4 t79 (.bool false)) fun At80=>EX S (d 7) t78 (d 9) (d 1) (d 3) (d 5) (d 6) (d 8) At80) (kW .eql 5 37 (.int .u8 115) t2 fun t84=>Af t84 (QU W0 m0 S A (d 1) (d 8) (d 7) (d 9) (d 3) (d 5) (d 6) (.string ⟨⟨[110,101,119]⟩⟩) (.string ⟨⟨[106,111,105,110]⟩⟩) (.string ⟨⟨[114,101,115,117,109,101]⟩⟩)) (kW .eql 5 37 (.int .u8 102) t2 fun t98=>Af t98 (QU W0 m0 S A (d 1) (d 8) (d 7) (d 9) (d 3) (d 5) (d 6) (.string ⟨⟨[100,111,110,101]⟩⟩) (.string ⟨⟨[102,97,105,108]⟩⟩) (.string ⟨⟨[115,117,115,112,101,110,100]⟩⟩)) (kW .eql 5 37 (.int .u8 82) t2 fun t112=>Af t112 (BA (T35 3) (T35 3) (S 3 [(d 1),(d 3),(d 5),(d 6),(d 7),(d 8),(d 9),(.int .i64 0)] A)) (Ab (Ag Tp .add 9 (.tmp 144) (.const (.string ⟨⟨[32]⟩⟩)) (d 7) (.string ⟨⟨[32]⟩⟩)) fun t113=>Ab (Ag Tp .add 9 (.tmp 145) (.tmp 146) t113 (.string ⟨⟨[]⟩⟩)) fun t114=>Ab (Ag Tp .add 3 (.tmp 33) (.const (.int .i64 1)) (d 9) (.int .i64 1)) fun t115=>BA (T35 0) (T35 0) (S 0 [(d 1),(d 3),(d 5),(d 6),t114,(d 8),t115] A))))))))))))) (Ab (Au Tp A 38 (d 8)) fun t116=>Ab (Ag Tp .neq 9 (.tmp 150) (.const (.string ⟨⟨[]⟩⟩)) (d 5) (.string ⟨⟨[]⟩⟩)) fun t117=>Ab (Ag Tp .neq 9 (.tmp 150) (.const (.string ⟨⟨[]⟩⟩)) (d 5) (.string ⟨⟨[]⟩⟩)) fun t118=>eqW t118 t117 (eqW (d 5) (d 5) (Ab (Au Tp A 38 (d 8)) fun t119=>eqW t119 t116 (Bp (AZ Tp A 38 (d 3) t116) fun At120=>Ab (Ag Tp .neq 9 (.tmp 150) (.const (.string ⟨⟨[]⟩⟩)) (d 5) (.string ⟨⟨[]⟩⟩)) fun t121=>eqW t121 t117 (eqW (d 5) (d 5) (Ab (Au Tp At120 38 (d 3)) fun t122=>Q (.tuple ⟨[(d 7),t122,t117]⟩) At120))))))):=by kernel_rfl
theorem Abb (d:Nat→Value) (A:AW):AR Tp Ai W0 m0 35 T35 L35 S Q none 4000 (DR 152 d) (T35 3) false 0 0 0 [] A=(Ab (Ac Tp 38 (d 1) 8) fun t0=>lW A 36 t0 fun t1=>Ab (Bm Tp A 36 t1) fun t2=>Ab (Ag Tp .lss 3 (.tmp 117) (.tmp 120) (d 13) t2) fun t3=>Af t3 (Ab (Ag Tp .add 9 (.tmp 124) (.const (.string ⟨⟨[32]⟩⟩)) (d 7) (.string ⟨⟨[32]⟩⟩)) fun t4=>Ab (Ac Tp 38 (d 1) 8) fun t5=>lW A 36 t5 fun t6=>Ab (Ao Tp 36 t6 (d 13)) fun t7=>fW 54 t7 0 fun t8=>lW A 9 t8 fun t9=>Ab (Ac Tp 38 (d 1) 8) fun t10=>lW A 36 t10 fun t11=>Ab (Ao Tp 36 t11 (d 13)) fun t12=>fW 54 t12 1 fun t13=>lW A 35 t13 fun t14=>cW W0 m0 11 [t9] A fun t15 At15=>lW At15 35 t13 fun t16=>eqW t16 t14 (fW 54 t12 1 fun t17=>eqW t17 t13 (Ab (Ao Tp 36 t11 (d 13)) fun t18=>eqW t18 t12 (eqW (d 13) (d 13) (lW At15 36 t10 fun t19=>eqW t19 t11 (Ab (Ac Tp 38 (d 1) 8) fun t20=>eqW t20 t10 (Ab (Ag Tp .add 9 (.tmp 124) (.const (.string ⟨⟨[32]⟩⟩)) (d 7) (.string ⟨⟨[32]⟩⟩)) fun t21=>eqW t21 t4 (eqW (d 7) (d 7) (Ab (Ag Tp .add 9 (.tmp 125) (.tmp 132) t4 t15) fun t22=>Ab (Ag Tp .add 9 (.tmp 133) (.const (.string ⟨⟨[58]⟩⟩)) t22 (.string ⟨⟨[58]⟩⟩)) fun t23=>cW W0 m0 31 [t14] At15 fun t24 At24=>Ab (Ag Tp .add 9 (.tmp 133) (.const (.string ⟨⟨[58]⟩⟩)) t22 (.string ⟨⟨[58]⟩⟩)) fun t25=>eqW t25 t23 (Ab (Ag Tp .add 9 (.tmp 125) (.tmp 132) t4 t15) fun t26=>eqW t26 t22 (Ab (Ag Tp .add 9 (.tmp 124) (.const (.string ⟨⟨[32]⟩⟩)) (d 7) (.string ⟨⟨[32]⟩⟩)) fun t27=>eqW t27 t4 (eqW (d 7) (d 7) (Ab (Ag Tp .add 9 (.tmp 134) (.tmp 141) t23 t24) fun t28=>Ab (Ag Tp .add 3 (.tmp 122) (.const (.int .i64 1)) (d 13) (.int .i64 1)) fun t29=>BA (T35 3) (T35 3) (S 3 [(d 1),(d 3),(d 5),(d 6),t28,(d 8),(d 9),t29] At24)))))))))))))) (Ab (Ac Tp 38 (d 8) 8) fun t30=>Bp (AZ Tp A 36 t30 (.slice none 0 0)) fun At31=>Ab (Ag Tp .add 3 (.tmp 33) (.const (.int .i64 1)) (d 9) (.int .i64 1)) fun t32=>BA (T35 0) (T35 0) (S 0 [(d 1),(d 3),(d 5),(d 6),(d 7),(d 8),t32] At31))):=by kernel_rfl
theorem w35:Wf1 35 152 T35 L35:=wf1 (fun _=>by kernel_rfl) (by decide) fun _=>rfl
theorem c35:Ge 35 152 T35 L35:=GF (by decide)
theorem e36 (a0:Value) (A:AW):AR Tp Ai W0 m0 36 Tz Lz S Q none 4000 (Tm.fill ⟨53,.nil⟩ 0 [a0]) [.code (cd 36 [])] false 0 0 0 [] A=(Ap (Ep A (Value.cells a0).toList 38) fun t0 At0=>fW 38 t0 0 fun t1=>lW At0 5 t1 fun t2=>kW .eql 5 4 (.int .u8 0) t2 fun t3=>Af t3 (fW 38 t0 1 fun t4=>lW At0 35 t4 fun t5=>kW .eql 35 8 (.int .u64 0) t5 fun t6=>Af t6 (fW 38 t0 2 fun t7=>lW At0 9 t7 fun t8=>Ab (Ag Tp .eql 9 (.tmp 13) (.const (.string ⟨⟨[]⟩⟩)) t8 (.string ⟨⟨[]⟩⟩)) fun t9=>Af t9 (fW 38 t0 3 fun t10=>lW At0 9 t10 fun t11=>Ab (Ag Tp .eql 9 (.tmp 18) (.const (.string ⟨⟨[]⟩⟩)) t11 (.string ⟨⟨[]⟩⟩)) fun t12=>Af t12 (fW 38 t0 4 fun t13=>lW At0 32 t13 fun t14=>Ab (B0 Tp 32 []) fun t15=>Ab (Ag Tp .eql 32 (.tmp 23) (.tmp 24) t14 t15) fun t16=>Af t16 (fW 38 t0 5 fun t17=>lW At0 30 t17 fun t18=>kW .eql 30 29 (.int .u32 0) t18 fun t19=>Af t19 (fW 38 t0 6 fun t20=>lW At0 4 t20 fun t21=>Ab (unA Tp .not t21) fun t22=>Af t22 (fW 38 t0 7 fun t23=>lW At0 4 t23 fun t24=>Ab (unA Tp .not t24) fun t25=>Af t25 (fW 38 t0 8 fun t26=>lW At0 36 t26 fun t27=>Ab (Bm Tp At0 36 t27) fun t28=>kW .eql 3 45 (.int .i64 0) t28 fun t29=>Af t29 (fW 38 t0 9 fun t30=>lW At0 9 t30 fun t31=>Ab (Ag Tp .eql 9 (.tmp 50) (.const (.string ⟨⟨[]⟩⟩)) t31 (.string ⟨⟨[]⟩⟩)) fun t32=>Q t32 At0) (Q (.bool false) At0)) (Q (.bool false) At0)) (Q (.bool false) At0)) (Q (.bool false) At0)) (Q (.bool false) At0)) (Q (.bool false) At0)) (Q (.bool false) At0)) (Q (.bool false) At0)) (Q (.bool false) At0)):=by kernel_rfl
theorem w36:Wf1 36 53 Tz Lz:=wf1 (fun _=>by kernel_rfl) (by decide) fun _=>rfl
theorem e37 (a0 a1:Value) (A:AW):AR Tp Ai W0 m0 37 Tz Lz S Q none 4000 (Tm.fill ⟨8,.nil⟩ 0 [a0,a1]) [.code (cd 37 [])] false 0 0 0 [] A=(cW W0 m0 63 [a0,a1,(.int .i64 0),(.int .i64 (-1))] A fun t0 At0=>Q t0 At0):=by kernel_rfl
theorem w37:Wf2 37 8 Tz Lz:=wf2 (fun _ _=>by kernel_rfl) (by decide) fun _ _=>rfl
abbrev Sm (a0:Value) (X0:AW) (x7:Value) (x15:Value):Prop:=cW W0 m0 66 [a0] X0 fun t901 At902=>cW W0 m0 66 [a0] At902 fun t903 At904=>cW W0 m0 69 [a0] At904 fun t905 At906=>fW 40 x7 1 fun t908=>sW At906 5 t908 t901 fun At909=>fW 40 x7 2 fun t910=>sW At909 5 t910 t903 fun At911=>fW 40 x7 3 fun t912=>sW At911 3 t912 t905 fun At913=>lW At913 40 x7 fun t914=>sW At913 40 x15 t914 fun At916=>lW At916 40 x15 fun t917=>Q t917 At916
abbrev Sl (a0:Value) (X0:AW) (x5:Value) (x11:Value):Prop:=cW W0 m0 66 [a0] X0 fun t901 At902=>cW W0 m0 69 [a0] At902 fun t903 At904=>fW 40 x5 1 fun t906=>sW At904 5 t906 t901 fun At907=>fW 40 x5 3 fun t908=>sW At907 3 t908 t903 fun At909=>lW At909 40 x5 fun t910=>sW At909 40 x11 t910 fun At912=>lW At912 40 x11 fun t913=>Q t913 At912
theorem e38 (a0:Value) (A:AW):AR Tp Ai W0 m0 38 Tz Lz S Q none 4000 (Tm.fill ⟨101,.nil⟩ 0 [a0]) [.code (cd 38 [])] false 0 0 0 [] A=(Ap (B5 Tp A 40) fun t0 At0=>cW W0 m0 54 [] At0 fun t1 At1=>cW W0 m0 64 [a0] At1 fun t2 At2=>Ab (F0 Tp At2 109 t1 t2 false) fun t3=>Ab (B0 Tp 40 [(0,t3)]) fun t4=>Ap (B5 Tp At2 40) fun t5 At5=>sW At5 40 t5 t4 fun At6=>fW 40 t5 0 fun t7=>lW At6 5 t7 fun t8=>kW .eql 5 10 (.int .u8 1) t8 fun t9=>Af t9 (cW W0 m0 65 [a0,(.func (.func 66) ⟨[a0]⟩ ⟨[]⟩)] At6 fun t10 At10=>fW 40 t5 5 fun t11=>sW At10 33 t11 t10 fun At12=>lW At12 40 t5 fun t13=>sW At12 40 t0 t13 fun At14=>lW At14 40 t0 fun t15=>Q t15 At14) (kW .eql 5 10 (.int .u8 2) t8 fun t16=>Af t16 (cW W0 m0 67 [a0] At6 fun t17 At17=>cW W0 m0 68 [a0,(.string ⟨⟨[99,111,109,109,105,116]⟩⟩)] At17 fun t18 At18=>fW 40 t5 4 fun t19=>sW At18 32 t19 t17 fun At20=>fW 40 t5 8 fun t21=>sW At20 4 t21 t18 fun At22=>lW At22 40 t5 fun t23=>sW At22 40 t0 t23 fun At24=>lW At24 40 t0 fun t25=>Q t25 At24) (kW .eql 5 10 (.int .u8 10) t8 fun t26=>Af t26 (cW W0 m0 66 [a0] At6 fun t27 At27=>cW W0 m0 67 [a0] At27 fun t28 At28=>cW W0 m0 68 [a0,(.string ⟨⟨[99,111,109,109,105,116]⟩⟩)] At28 fun t29 At29=>fW 40 t5 1 fun t30=>sW At29 5 t30 t27 fun At31=>fW 40 t5 4 fun t32=>sW At31 32 t32 t28 fun At33=>fW 40 t5 8 fun t34=>sW At33 4 t34 t29 fun At35=>lW At35 40 t5 fun t36=>sW At35 40 t0 t36 fun At37=>lW At37 40 t0 fun t38=>Q t38 At37) (kW .eql 5 10 (.int .u8 3) t8 fun t39=>Af t39 (Sm W0 m0 Q a0 At6 t5 t0) (kW .eql 5 10 (.int .u8 4) t8 fun t52=>Af t52 (Sm W0 m0 Q a0 At6 t5 t0) (kW .eql 5 10 (.int .u8 5) t8 fun t65=>Af t65 (Sm W0 m0 Q a0 At6 t5 t0) (kW .eql 5 10 (.int .u8 7) t8 fun t78=>Af t78 (cW W0 m0 66 [a0] At6 fun t79 At79=>fW 40 t5 1 fun t80=>sW At79 5 t80 t79 fun At81=>lW At81 40 t5 fun t82=>sW At81 40 t0 t82 fun At83=>lW At83 40 t0 fun t84=>Q t84 At83) (kW .eql 5 10 (.int .u8 12) t8 fun t85=>Af t85 (cW W0 m0 66 [a0] At6 fun t86 At86=>fW 40 t5 1 fun t87=>sW At86 5 t87 t86 fun At88=>lW At88 40 t5 fun t89=>sW At88 40 t0 t89 fun At90=>lW At90 40 t0 fun t91=>Q t91 At90) (kW .eql 5 10 (.int .u8 8) t8 fun t92=>Af t92 (cW W0 m0 66 [a0] At6 fun t93 At93=>fW 40 t5 1 fun t94=>sW At93 5 t94 t93 fun At95=>cW W0 m0 70 [a0,(.func (.func 69) ⟨[a0]⟩ ⟨[]⟩)] At95 fun t96 At96=>fW 40 t5 6 fun t97=>sW At96 34 t97 t96 fun At98=>lW At98 40 t5 fun t99=>sW At98 40 t0 t99 fun At100=>lW At100 40 t0 fun t101=>Q t101 At100) (kW .eql 5 10 (.int .u8 9) t8 fun t102=>Af t102 (Sl W0 m0 Q a0 At6 t5 t0) (kW .eql 5 10 (.int .u8 14) t8 fun t112=>Af t112 (Sl W0 m0 Q a0 At6 t5 t0) (kW .eql 5 10 (.int .u8 15) t8 fun t122=>Af t122 (Sl W0 m0 Q a0 At6 t5 t0) (kW .eql 5 10 (.int .u8 11) t8 fun t132=>Af t132 (cW W0 m0 67 [a0] At6 fun t133 At133=>fW 40 t5 4 fun t134=>sW At133 32 t134 t133 fun At135=>lW At135 40 t5 fun t136=>sW At135 40 t0 t136 fun At137=>lW At137 40 t0 fun t138=>Q t138 At137) (kW .eql 5 10 (.int .u8 13) t8 fun t139=>Af t139 (cW W0 m0 66 [a0] At6 fun t140 At140=>cW W0 m0 69 [a0] At140 fun t141 At141=>cW W0 m0 71 [a0] At141 fun t142 At142=>fW 40 t5 1 fun t143=>sW At142 5 t143 t140 fun At144=>fW 40 t5 3 fun t145=>sW At144 3 t145 t141 fun At146=>fW 40 t5 7 fun t147=>sW At146 9 t147 t142 fun At148=>lW At148 40 t5 fun t149=>sW At148 40 t0 t149 fun At150=>lW At150 40 t0 fun t151=>Q t151 At150) (kW .eql 5 10 (.int .u8 16) t8 fun t152=>Af t152 (cW W0 m0 66 [a0] At6 fun t153 At153=>cW W0 m0 72 [a0] At153 fun t154 At154=>fW 40 t5 1 fun t155=>sW At154 5 t155 t153 fun At156=>fW 40 t5 9 fun t157=>sW At156 38 t157 t154 fun At158=>lW At158 40 t5 fun t159=>sW At158 40 t0 t159 fun At160=>lW At160 40 t0 fun t161=>Q t161 At160) (lW At6 40 t5 fun t162=>sW At6 40 t0 t162 fun At163=>lW At163 40 t0 fun t164=>Q t164 At163)))))))))))))))):=by kernel_rfl
theorem w38:Wf1 38 101 Tz Lz:=wf1 (fun _=>by kernel_rfl) (by decide) fun _=>rfl
noncomputable def T39:Nat→List Item:=fun i=>match i with
 | 0=>[(.code (cd 39 [1,1,1,0,1,0,0])),(.inLoop (cd 39 [1,1,1,0,1,0,0])),(.inBlock 0),(.code (cd 39 [1,1,1,1]))]
 | _=>[]
theorem e55 (a0 a1:Value) (A:AW):AR Tp Ai W0 m0 55 Tz Lz S Q none 4000 (Tm.fill ⟨6,.nil⟩ 0 [a0,a1]) [.code (cd 55 [])] false 0 0 0 [] A=(lW A 56 a1 fun t0=>Ap (Bh Tp A 56 56 t0 a0) fun t1 At1=>sW At1 56 a1 t1 fun At2=>Q (.tuple ⟨[]⟩) At2):=by kernel_rfl
theorem w55:Wf2 55 6 Tz Lz:=wf2 (fun _ _=>by kernel_rfl) (by decide) fun _ _=>rfl
abbrev JY (X0:AW) (x1:Value) (x2:Value):Prop:=anW Tp Ai W0 m0 (Fo Tp Ai X0 (.func (.func 84) ⟨[]⟩ ⟨[x1]⟩) [x2]) fun t903 At904=>lW At904 56 x1 fun t905=>Q t905 At904
abbrev VL (X0:AW) (x3:Value) (x16:Value) (y0:Value) (y1:Value) (y2:Value):Prop:=Ap (Ar Tp X0 56 4 [(0,y0),(1,y1),(2,y2),(3,(.string ⟨⟨[98,111,116,104]⟩⟩))]) fun t901 At902=>Bz (AT Tp (By (Tm.fill ⟨4,.nil⟩ 0 [y0,y1,y2,(.string ⟨⟨[98,111,116,104]⟩⟩)])) (.buildSlice 56 4 #[(0,.tmp 0),(1,.tmp 1),(2,.tmp 2),(3,.tmp 3)])) At902 t901 (fW 38 x3 4 fun t904=>lW At902 32 t904 fun t905=>fW 38 x3 6 fun t906=>lW At902 4 t906 fun t907=>fW 38 x3 7 fun t908=>lW At902 4 t908 fun t909=>cW W0 m0 44 [t905] At902 fun t910 At911=>Bz (AT Tp (By (Tm.fill ⟨4,.nil⟩ 0 [y0,y1,y2,(.string ⟨⟨[98,111,116,104]⟩⟩)])) (.buildSlice 56 4 #[(0,.tmp 0),(1,.tmp 1),(2,.tmp 2),(3,.tmp 3)])) At911 t901 (lW At911 4 t908 fun t912=>eqW t912 t909 (fW 38 x3 7 fun t913=>eqW t913 t908 (lW At911 4 t906 fun t914=>eqW t914 t907 (fW 38 x3 6 fun t915=>eqW t915 t906 (eqW (.func (.func 84) ⟨[]⟩ ⟨[x16]⟩) (.func (.func 84) ⟨[]⟩ ⟨[x16]⟩) (cW W0 m0 87 [t907,t909,t901] At911 fun t917 At918=>eqW (.func (.func 84) ⟨[]⟩ ⟨[x16]⟩) (.func (.func 84) ⟨[]⟩ ⟨[x16]⟩) (Ap (Ar Tp At918 56 2 [(0,t910),(1,t917)]) fun t919 At920=>Bz (AT Tp (By (Tm.fill ⟨2,.nil⟩ 0 [t910,t917])) (.buildSlice 56 2 #[(0,.tmp 0),(1,.tmp 1)])) At920 t919 (Bz (AT Tp (By (Tm.fill ⟨4,.nil⟩ 0 [y0,y1,y2,(.string ⟨⟨[98,111,116,104]⟩⟩)])) (.buildSlice 56 4 #[(0,.tmp 0),(1,.tmp 1),(2,.tmp 2),(3,.tmp 3)])) At920 t901 (lW At920 4 t908 fun t921=>eqW t921 t909 (fW 38 x3 7 fun t922=>eqW t922 t908 (lW At920 4 t906 fun t923=>eqW t923 t907 (fW 38 x3 6 fun t924=>eqW t924 t906 (lW At920 32 t904 fun t925=>eqW t925 t905 (fW 38 x3 4 fun t926=>eqW t926 t904 (eqW (.func (.func 84) ⟨[]⟩ ⟨[x16]⟩) (.func (.func 84) ⟨[]⟩ ⟨[x16]⟩) (JY W0 m0 Q At920 x16 t919)))))))))))))))))
abbrev PF (X0:AW) (x1:Value) (x7:Value):Prop:=lW X0 9 x1 fun t902=>cW W0 m0 8 [t902] X0 fun t903 At904=>Ap (Ar Tp At904 56 1 [(0,t903)]) fun t905 At906=>JY W0 m0 Q At906 x7 t905
abbrev PE (X0:AW) (x1:Value) (x3:Value) (x4:Value) (x6:Value) (x7:Value):Prop:=lW X0 9 x1 fun t902=>eqW t902 x3 (fW 38 x4 2 fun t905=>eqW t905 x1 (eqW (.func (.func 84) ⟨[]⟩ ⟨[x6]⟩) (.func (.func 84) ⟨[]⟩ ⟨[x6]⟩) (JY W0 m0 Q X0 x6 x7)))
abbrev Sk (x0:Value) (X2:AW) (x6:Value):Prop:=fW 38 x0 8 fun t901=>lW X2 36 t901 fun t903=>cW W0 m0 86 [t903] X2 fun t904 At905=>JY W0 m0 Q At905 x6 t904
theorem e56 (a0:Value) (A:AW):AR Tp Ai W0 m0 56 Tz Lz S Q none 4000 (Tm.fill ⟨161,.nil⟩ 0 [a0]) [.code (cd 56 [])] false 0 0 0 [] A=(Ap (Ep A (Value.cells a0).toList 38) fun t0 At0=>Ap (B5 Tp At0 56) fun t1 At1=>Bz (AT Tp (fun _=>undef) (.alloc 56)) At1 t1 (fW 38 t0 1 fun t2=>lW At1 35 t2 fun t3=>fW 38 t0 0 fun t4=>lW At1 5 t4 fun t5=>cW W0 m0 48 [t3] At1 fun t6 At6=>Bz (AT Tp (fun _=>undef) (.alloc 56)) At6 t1 (lW At6 5 t4 fun t7=>eqW t7 t5 (fW 38 t0 0 fun t8=>eqW t8 t4 (cW W0 m0 83 [] At6 fun t9 At9=>Bz (AT Tp (fun _=>undef) (.alloc 56)) At9 t1 (lW At9 5 t4 fun t10=>eqW t10 t5 (fW 38 t0 0 fun t11=>eqW t11 t4 (cW W0 m0 53 [t9,t5] At9 fun t12 At12=>Bz (AT Tp (fun _=>undef) (.alloc 56)) At12 t1 (Ap (Ar Tp At12 56 2 [(0,t6),(1,t12)]) fun t13 At13=>Bz (AT Tp (fun _=>undef) (.alloc 56)) At13 t1 (Bz (AT Tp (By (Tm.fill ⟨2,.nil⟩ 0 [t6,t12])) (.buildSlice 56 2 #[(0,.tmp 0),(1,.tmp 1)])) At13 t13 (lW At13 5 t4 fun t14=>eqW t14 t5 (fW 38 t0 0 fun t15=>eqW t15 t4 (lW At13 35 t2 fun t16=>eqW t16 t3 (fW 38 t0 1 fun t17=>eqW t17 t2 (sW At13 56 t1 t13 fun At18=>fW 38 t0 0 fun t19=>lW At18 5 t19 fun t20=>kW .eql 5 15 (.int .u8 3) t20 fun t21=>Af t21 (fW 38 t0 2 fun t22=>lW At18 9 t22 fun t23=>fW 38 t0 5 fun t24=>lW At18 30 t24 fun t25=>cW W0 m0 8 [t23] At18 fun t26 At26=>lW At26 30 t24 fun t27=>eqW t27 t25 (fW 38 t0 5 fun t28=>eqW t28 t24 (eqW (.func (.func 84) ⟨[]⟩ ⟨[t1]⟩) (.func (.func 84) ⟨[]⟩ ⟨[t1]⟩) (cW W0 m0 85 [t25] At26 fun t29 At29=>eqW (.func (.func 84) ⟨[]⟩ ⟨[t1]⟩) (.func (.func 84) ⟨[]⟩ ⟨[t1]⟩) (Ap (Ar Tp At29 56 2 [(0,t26),(1,t29)]) fun t30 At30=>Bz (AT Tp (By (Tm.fill ⟨2,.nil⟩ 0 [t26,t29])) (.buildSlice 56 2 #[(0,.tmp 0),(1,.tmp 1)])) At30 t30 (lW At30 30 t24 fun t31=>eqW t31 t25 (fW 38 t0 5 fun t32=>eqW t32 t24 (PE W0 m0 Q At30 t22 t23 t0 t1 t30)))))))) (kW .eql 5 15 (.int .u8 4) t20 fun t37=>Af t37 (fW 38 t0 2 fun t38=>lW At18 9 t38 fun t39=>fW 38 t0 6 fun t40=>lW At18 4 t40 fun t41=>cW W0 m0 8 [t39] At18 fun t42 At42=>lW At42 4 t40 fun t43=>eqW t43 t41 (fW 38 t0 6 fun t44=>eqW t44 t40 (eqW (.func (.func 84) ⟨[]⟩ ⟨[t1]⟩) (.func (.func 84) ⟨[]⟩ ⟨[t1]⟩) (cW W0 m0 49 [t41,(.string ⟨⟨[101,109,112,116,121]⟩⟩),(.string ⟨⟨[97,110,121]⟩⟩)] At42 fun t45 At45=>eqW (.func (.func 84) ⟨[]⟩ ⟨[t1]⟩) (.func (.func 84) ⟨[]⟩ ⟨[t1]⟩) (Ap (Ar Tp At45 56 2 [(0,t42),(1,t45)]) fun t46 At46=>Bz (AT Tp (By (Tm.fill ⟨2,.nil⟩ 0 [t42,t45])) (.buildSlice 56 2 #[(0,.tmp 0),(1,.tmp 1)])) At46 t46 (lW At46 4 t40 fun t47=>eqW t47 t41 (fW 38 t0 6 fun t48=>eqW t48 t40 (PE W0 m0 Q At46 t38 t39 t0 t1 t46)))))))) (kW .eql 5 15 (.int .u8 5) t20 fun t53=>Af t53 (fW 38 t0 2 fun t54=>PF W0 m0 Q At18 t54 t1) (kW .eql 5 15 (.int .u8 6) t20 fun t60=>Af t60 (fW 38 t0 2 fun t61=>PF W0 m0 Q At18 t61 t1) (kW .eql 5 15 (.int .u8 7) t20 fun t67=>Af t67 (fW 38 t0 2 fun t68=>lW At18 9 t68 fun t69=>fW 38 t0 3 fun t70=>lW At18 9 t70 fun t71=>fW 38 t0 9 fun t72=>lW At18 9 t72 fun t73=>cW W0 m0 8 [t69] At18 fun t74 At74=>lW At74 9 t72 fun t75=>eqW t75 t73 (fW 38 t0 9 fun t76=>eqW t76 t72 (lW At74 9 t70 fun t77=>eqW t77 t71 (fW 38 t0 3 fun t78=>eqW t78 t70 (eqW (.func (.func 84) ⟨[]⟩ ⟨[t1]⟩) (.func (.func 84) ⟨[]⟩ ⟨[t1]⟩) (cW W0 m0 8 [t71] At74 fun t79 At79=>lW At79 9 t72 fun t80=>eqW t80 t73 (fW 38 t0 9 fun t81=>eqW t81 t72 (eqW (.func (.func 84) ⟨[]⟩ ⟨[t1]⟩) (.func (.func 84) ⟨[]⟩ ⟨[t1]⟩) (cW W0 m0 8 [t73] At79 fun t82 At82=>eqW (.func (.func 84) ⟨[]⟩ ⟨[t1]⟩) (.func (.func 84) ⟨[]⟩ ⟨[t1]⟩) (Ap (Ar Tp At82 56 3 [(0,t74),(1,t79),(2,t82)]) fun t83 At83=>Bz (AT Tp (By (Tm.fill ⟨3,.nil⟩ 0 [t74,t79,t82])) (.buildSlice 56 3 #[(0,.tmp 0),(1,.tmp 1),(2,.tmp 2)])) At83 t83 (lW At83 9 t72 fun t84=>eqW t84 t73 (fW 38 t0 9 fun t85=>eqW t85 t72 (lW At83 9 t70 fun t86=>eqW t86 t71 (fW 38 t0 3 fun t87=>eqW t87 t70 (PE W0 m0 Q At83 t68 t69 t0 t1 t83))))))))))))))) (kW .eql 5 15 (.int .u8 8) t20 fun t92=>Af t92 (fW 38 t0 2 fun t93=>lW At18 9 t93 fun t94=>fW 38 t0 3 fun t95=>lW At18 9 t95 fun t96=>cW W0 m0 8 [t94] At18 fun t97 At97=>lW At97 9 t95 fun t98=>eqW t98 t96 (fW 38 t0 3 fun t99=>eqW t99 t95 (eqW (.func (.func 84) ⟨[]⟩ ⟨[t1]⟩) (.func (.func 84) ⟨[]⟩ ⟨[t1]⟩) (cW W0 m0 8 [t96] At97 fun t100 At100=>eqW (.func (.func 84) ⟨[]⟩ ⟨[t1]⟩) (.func (.func 84) ⟨[]⟩ ⟨[t1]⟩) (Ap (Ar Tp At100 56 2 [(0,t97),(1,t100)]) fun t101 At101=>Bz (AT Tp (By (Tm.fill ⟨2,.nil⟩ 0 [t97,t100])) (.buildSlice 56 2 #[(0,.tmp 0),(1,.tmp 1)])) At101 t101 (lW At101 9 t95 fun t102=>eqW t102 t96 (fW 38 t0 3 fun t103=>eqW t103 t95 (PE W0 m0 Q At101 t93 t94 t0 t1 t101)))))))) (kW .eql 5 15 (.int .u8 9) t20 fun t108=>Af t108 (fW 38 t0 3 fun t109=>PF W0 m0 Q At18 t109 t1) (kW .eql 5 15 (.int .u8 11) t20 fun t115=>Af t115 (fW 38 t0 3 fun t116=>PF W0 m0 Q At18 t116 t1) (kW .eql 5 15 (.int .u8 10) t20 fun t122=>Af t122 (fW 38 t0 3 fun t123=>lW At18 9 t123 fun t124=>fW 38 t0 5 fun t125=>lW At18 30 t125 fun t126=>cW W0 m0 8 [t124] At18 fun t127 At127=>lW At127 30 t125 fun t128=>eqW t128 t126 (fW 38 t0 5 fun t129=>eqW t129 t125 (eqW (.func (.func 84) ⟨[]⟩ ⟨[t1]⟩) (.func (.func 84) ⟨[]⟩ ⟨[t1]⟩) (cW W0 m0 85 [t126] At127 fun t130 At130=>eqW (.func (.func 84) ⟨[]⟩ ⟨[t1]⟩) (.func (.func 84) ⟨[]⟩ ⟨[t1]⟩) (Ap (Ar Tp At130 56 2 [(0,t127),(1,t130)]) fun t131 At131=>Bz (AT Tp (By (Tm.fill ⟨2,.nil⟩ 0 [t127,t130])) (.buildSlice 56 2 #[(0,.tmp 0),(1,.tmp 1)])) At131 t131 (lW At131 30 t125 fun t132=>eqW t132 t126 (fW 38 t0 5 fun t133=>eqW t133 t125 (lW At131 9 t123 fun t134=>eqW t134 t124 (fW 38 t0 3 fun t135=>eqW t135 t123 (eqW (.func (.func 84) ⟨[]⟩ ⟨[t1]⟩) (.func (.func 84) ⟨[]⟩ ⟨[t1]⟩) (JY W0 m0 Q At131 t1 t131))))))))))) (kW .eql 5 15 (.int .u8 14) t20 fun t138=>Af t138 (fW 38 t0 6 fun t139=>lW At18 4 t139 fun t140=>cW W0 m0 49 [t140,(.string ⟨⟨[109,97,114,107]⟩⟩),(.string ⟨⟨[107,101,101,112]⟩⟩)] At18 fun t141 At141=>Ap (Ar Tp At141 56 1 [(0,t141)]) fun t142 At142=>anW Tp Ai W0 m0 (Fo Tp Ai At142 (.func (.func 84) ⟨[]⟩ ⟨[t1]⟩) [t142]) fun t143 At143=>Sk W0 m0 Q t0 At143 t1) (kW .eql 5 15 (.int .u8 13) t20 fun t149=>Af t149 (Sk W0 m0 Q t0 At18 t1) (kW .eql 5 15 (.int .u8 15) t20 fun t155=>Af t155 (Sk W0 m0 Q t0 At18 t1) (kW .eql 5 15 (.int .u8 16) t20 fun t161=>Af t161 (fW 38 t0 6 fun t162=>lW At18 4 t162 fun t163=>cW W0 m0 49 [t163,(.string ⟨⟨[100,116,120]⟩⟩),(.string ⟨⟨[108,111,99,97,108]⟩⟩)] At18 fun t164 At164=>Ap (Ar Tp At164 56 1 [(0,t164)]) fun t165 At165=>JY W0 m0 Q At165 t1 t165) (kW .eql 5 15 (.int .u8 19) t20 fun t168=>Af t168 (VL W0 m0 Q At18 t0 t1 (.string ⟨⟨[110,101,119]⟩⟩) (.string ⟨⟨[106,111,105,110]⟩⟩) (.string ⟨⟨[114,101,115,117,109,101]⟩⟩)) (kW .eql 5 15 (.int .u8 20) t20 fun t191=>Af t191 (VL W0 m0 Q At18 t0 t1 (.string ⟨⟨[100,111,110,101]⟩⟩) (.string ⟨⟨[102,97,105,108]⟩⟩) (.string ⟨⟨[115,117,115,112,101,110,100]⟩⟩)) (kW .eql 5 15 (.int .u8 21) t20 fun t214=>Af t214 (fW 38 t0 4 fun t215=>lW At18 32 t215 fun t216=>fW 38 t0 5 fun t217=>lW At18 30 t217 fun t218=>cW W0 m0 44 [t216] At18 fun t219 At219=>lW At219 30 t217 fun t220=>eqW t220 t218 (fW 38 t0 5 fun t221=>eqW t221 t217 (eqW (.func (.func 84) ⟨[]⟩ ⟨[t1]⟩) (.func (.func 84) ⟨[]⟩ ⟨[t1]⟩) (cW W0 m0 85 [t218] At219 fun t222 At222=>eqW (.func (.func 84) ⟨[]⟩ ⟨[t1]⟩) (.func (.func 84) ⟨[]⟩ ⟨[t1]⟩) (Ap (Ar Tp At222 56 2 [(0,t219),(1,t222)]) fun t223 At223=>Bz (AT Tp (By (Tm.fill ⟨2,.nil⟩ 0 [t219,t222])) (.buildSlice 56 2 #[(0,.tmp 0),(1,.tmp 1)])) At223 t223 (lW At223 30 t217 fun t224=>eqW t224 t218 (fW 38 t0 5 fun t225=>eqW t225 t217 (lW At223 32 t215 fun t226=>eqW t226 t216 (fW 38 t0 4 fun t227=>eqW t227 t215 (eqW (.func (.func 84) ⟨[]⟩ ⟨[t1]⟩) (.func (.func 84) ⟨[]⟩ ⟨[t1]⟩) (JY W0 m0 Q At223 t1 t223))))))))))) (lW At18 56 t1 fun t230=>Q t230 At18))))))))))))))))))))))))))))))):=by kernel_rfl
theorem w56:Wf1 56 161 Tz Lz:=wf1 (fun _=>by kernel_rfl) (by decide) fun _=>rfl
noncomputable def T57:Nat→List Item:=fun i=>match i with
 | 0=>[(.code (cd 57 [1,1,0,1,0,0])),(.inLoop (cd 57 [1,1,0,1,0,0])),(.inBlock 0),(.code (cd 57 [1,1,1]))]
 | _=>[]
def L57:Nat→List Tmp:=fun i=>match i with
 | 0=>[0,1,12,13]
 | _=>[]
theorem e57 (a0 a1:Value) (A:AW):AR Tp Ai W0 m0 57 T57 L57 S Q none 4000 (Tm.fill ⟨26,.nil⟩ 0 [a0,a1]) [.code (cd 57 [])] false 0 0 0 [] A=(Ab (Bm Tp A 33 a0) fun t0=>Ab (Bm Tp A 33 a1) fun t1=>Ab (Ag Tp .neq 3 (.tmp 7) (.tmp 9) t0 t1) fun t2=>Af t2 (Q (.bool false) A) (Ab (Bm Tp A 33 a0) fun t3=>BA (T57 0) (T57 0) (S 0 [a0,a1,t3,(.int .i64 0)] A))):=by kernel_rfl
theorem Aa7 (d:Nat→Value) (A:AW):AR Tp Ai W0 m0 57 T57 L57 S Q none 4000 (DR 26 d) (T57 0) false 0 0 0 [] A=(Ab (Ag Tp .lss 3 (.tmp 13) (.tmp 12) (d 13) (d 12)) fun t0=>Af t0 (Ab (Ao Tp 33 (d 0) (d 13)) fun t1=>lW A 5 t1 fun t2=>Ab (Ao Tp 33 (d 1) (d 13)) fun t3=>lW A 5 t3 fun t4=>Ab (Ag Tp .neq 5 (.tmp 19) (.tmp 23) t2 t4) fun t5=>Af t5 (Q (.bool false) A) (Ab (Ag Tp .add 3 (.tmp 13) (.const (.int .i64 1)) (d 13) (.int .i64 1)) fun t6=>BA (T57 0) (T57 0) (S 0 [(d 0),(d 1),(d 12),t6] A))) (Q (.bool true) A)):=by kernel_rfl
theorem w57:Wf2 57 26 T57 L57:=wf2 (fun _ _=>by kernel_rfl) (by decide) fun _ _=>rfl
theorem c57:Ge 57 26 T57 L57:=GF (by decide)
noncomputable def T58:Nat→List Item:=fun i=>match i with
 | 0=>[(.code (cd 58 [1,1,0,1,0,0])),(.inLoop (cd 58 [1,1,0,1,0,0])),(.inBlock 0),(.code (cd 58 [1,1,1]))]
 | _=>[]
def L58:Nat→List Tmp:=fun i=>match i with
 | 0=>[0,1,12,13]
 | _=>[]
theorem e58 (a0 a1:Value) (A:AW):AR Tp Ai W0 m0 58 T58 L58 S Q none 4000 (Tm.fill ⟨26,.nil⟩ 0 [a0,a1]) [.code (cd 58 [])] false 0 0 0 [] A=(Ab (Bm Tp A 34 a0) fun t0=>Ab (Bm Tp A 34 a1) fun t1=>Ab (Ag Tp .neq 3 (.tmp 7) (.tmp 9) t0 t1) fun t2=>Af t2 (Q (.bool false) A) (Ab (Bm Tp A 34 a0) fun t3=>BA (T58 0) (T58 0) (S 0 [a0,a1,t3,(.int .i64 0)] A))):=by kernel_rfl
theorem Aa6 (d:Nat→Value) (A:AW):AR Tp Ai W0 m0 58 T58 L58 S Q none 4000 (DR 26 d) (T58 0) false 0 0 0 [] A=(Ab (Ag Tp .lss 3 (.tmp 13) (.tmp 12) (d 13) (d 12)) fun t0=>Af t0 (Ab (Ao Tp 34 (d 0) (d 13)) fun t1=>lW A 3 t1 fun t2=>Ab (Ao Tp 34 (d 1) (d 13)) fun t3=>lW A 3 t3 fun t4=>Ab (Ag Tp .neq 3 (.tmp 19) (.tmp 23) t2 t4) fun t5=>Af t5 (Q (.bool false) A) (Ab (Ag Tp .add 3 (.tmp 13) (.const (.int .i64 1)) (d 13) (.int .i64 1)) fun t6=>BA (T58 0) (T58 0) (S 0 [(d 0),(d 1),(d 12),t6] A))) (Q (.bool true) A)):=by kernel_rfl
theorem w58:Wf2 58 26 T58 L58:=wf2 (fun _ _=>by kernel_rfl) (by decide) fun _ _=>rfl
theorem c58:Ge 58 26 T58 L58:=GF (by decide)
noncomputable def T59:Nat→List Item:=fun i=>match i with
 | 0=>[(.code (cd 59 [1,1,0,1,0,0])),(.inLoop (cd 59 [1,1,0,1,0,0])),(.inBlock 0),(.code (cd 59 [1,1,1]))]
 | _=>[]
def L59:Nat→List Tmp:=fun i=>match i with
 | 0=>[0,1,12,13]
 | _=>[]
theorem e59 (a0 a1:Value) (A:AW):AR Tp Ai W0 m0 59 T59 L59 S Q none 4000 (Tm.fill ⟨26,.nil⟩ 0 [a0,a1]) [.code (cd 59 [])] false 0 0 0 [] A=(Ab (Bm Tp A 36 a0) fun t0=>Ab (Bm Tp A 36 a1) fun t1=>Ab (Ag Tp .neq 3 (.tmp 7) (.tmp 9) t0 t1) fun t2=>Af t2 (Q (.bool false) A) (Ab (Bm Tp A 36 a0) fun t3=>BA (T59 0) (T59 0) (S 0 [a0,a1,t3,(.int .i64 0)] A))):=by kernel_rfl
theorem Aa5 (d:Nat→Value) (A:AW):AR Tp Ai W0 m0 59 T59 L59 S Q none 4000 (DR 26 d) (T59 0) false 0 0 0 [] A=(Ab (Ag Tp .lss 3 (.tmp 13) (.tmp 12) (d 13) (d 12)) fun t0=>Af t0 (Ab (Ao Tp 36 (d 0) (d 13)) fun t1=>lW A 54 t1 fun t2=>Ab (Ao Tp 36 (d 1) (d 13)) fun t3=>lW A 54 t3 fun t4=>Ab (Ag Tp .neq 54 (.tmp 19) (.tmp 23) t2 t4) fun t5=>Af t5 (Q (.bool false) A) (Ab (Ag Tp .add 3 (.tmp 13) (.const (.int .i64 1)) (d 13) (.int .i64 1)) fun t6=>BA (T59 0) (T59 0) (S 0 [(d 0),(d 1),(d 12),t6] A))) (Q (.bool true) A)):=by kernel_rfl
theorem w59:Wf2 59 26 T59 L59:=wf2 (fun _ _=>by kernel_rfl) (by decide) fun _ _=>rfl
theorem c59:Ge 59 26 T59 L59:=GF (by decide)
theorem e61 (a0:Value) (A:AW):AR Tp Ai W0 m0 61 Tz Lz S Q none 4000 (Tm.fill ⟨47,.nil⟩ 0 [a0]) [.code (cd 61 [])] false 0 0 0 [] A=(kW .eql 5 4 (.int .u8 1) a0 fun t0=>Af t0 (Q (.tuple ⟨[(.string ⟨⟨[97,116,116,97,99,104]⟩⟩),(.string ⟨⟨[]⟩⟩)]⟩) A) (kW .eql 5 4 (.int .u8 2) a0 fun t1=>Af t1 (Q (.tuple ⟨[(.string ⟨⟨[100,101,116,97,99,104]⟩⟩),(.string ⟨⟨[]⟩⟩)]⟩) A) (kW .eql 5 4 (.int .u8 3) a0 fun t2=>Af t2 (Q (.tuple ⟨[(.string ⟨⟨[100,101,99,108,97,114,101]⟩⟩),(.string ⟨⟨[81,78]⟩⟩)]⟩) A) (kW .eql 5 4 (.int .u8 4) a0 fun t3=>Af t3 (Q (.tuple ⟨[(.string ⟨⟨[100,101,108,101,116,101]⟩⟩),(.string ⟨⟨[81,101]⟩⟩)]⟩) A) (kW .eql 5 4 (.int .u8 5) a0 fun t4=>Af t4 (Q (.tuple ⟨[(.string ⟨⟨[112,117,114,103,101]⟩⟩),(.string ⟨⟨[81]⟩⟩)]⟩) A) (kW .eql 5 4 (.int .u8 6) a0 fun t5=>Af t5 (Q (.tuple ⟨[(.string ⟨⟨[113,117,101,114,121]⟩⟩),(.string ⟨⟨[81]⟩⟩)]⟩) A) (kW .eql 5 4 (.int .u8 7) a0 fun t6=>Af t6 (Q (.tuple ⟨[(.string ⟨⟨[112,117,98,108,105,115,104]⟩⟩),(.string ⟨⟨[81,84,66]⟩⟩)]⟩) A) (kW .eql 5 4 (.int .u8 8) a0 fun t7=>Af t7 (Q (.tuple ⟨[(.string ⟨⟨[115,117,98,115,99,114,105,98,101]⟩⟩),(.string ⟨⟨[81,84]⟩⟩)]⟩) A) (kW .eql 5 4 (.int .u8 9) a0 fun t8=>Af t8 (Q (.tuple ⟨[(.string ⟨⟨[99,97,110,99,101,108]⟩⟩),(.string ⟨⟨[84]⟩⟩)]⟩) A) (kW .eql 5 4 (.int .u8 10) a0 fun t9=>Af t9 (Q (.tuple ⟨[(.string ⟨⟨[102,108,111,119]⟩⟩),(.string ⟨⟨[84,78]⟩⟩)]⟩) A) (kW .eql 5 4 (.int .u8 11) a0 fun t10=>Af t10 (Q (.tuple ⟨[(.string ⟨⟨[115,116,111,112]⟩⟩),(.string ⟨⟨[84]⟩⟩)]⟩) A) (kW .eql 5 4 (.int .u8 12) a0 fun t11=>Af t11 (Q (.tuple ⟨[(.string ⟨⟨[100,101,108,105,118,101,114]⟩⟩),(.string ⟨⟨[]⟩⟩)]⟩) A) (kW .eql 5 4 (.int .u8 13) a0 fun t12=>Af t12 (Q (.tuple ⟨[(.string ⟨⟨[97,99,99,101,112,116]⟩⟩),(.string ⟨⟨[82]⟩⟩)]⟩) A) (kW .eql 5 4 (.int .u8 14) a0 fun t13=>Af t13 (Q (.tuple ⟨[(.string ⟨⟨[114,101,108,101,97,115,101]⟩⟩),(.string ⟨⟨[109,82]⟩⟩)]⟩) A) (kW .eql 5 4 (.int .u8 15) a0 fun t14=>Af t14 (Q (.tuple ⟨[(.string ⟨⟨[114,101,106,101,99,116]⟩⟩),(.string ⟨⟨[82]⟩⟩)]⟩) A) (kW .eql 5 4 (.int .u8 16) a0 fun t15=>Af t15 (Q (.tuple ⟨[(.string ⟨⟨[115,101,108,101,99,116]⟩⟩),(.string ⟨⟨[100]⟩⟩)]⟩) A) (kW .eql 5 4 (.int .u8 17) a0 fun t16=>Af t16 (Q (.tuple ⟨[(.string ⟨⟨[116,120,99,111,109,109,105,116]⟩⟩),(.string ⟨⟨[]⟩⟩)]⟩) A) (kW .eql 5 4 (.int .u8 18) a0 fun t17=>Af t17 (Q (.tuple ⟨[(.string ⟨⟨[116,120,114,111,108,108,98,97,99,107]⟩⟩),(.string ⟨⟨[]⟩⟩)]⟩) A) (kW .eql 5 4 (.int .u8 19) a0 fun t18=>Af t18 (Q (.tuple ⟨[(.string ⟨⟨[115,116,97,114,116]⟩⟩),(.string ⟨⟨[88,115]⟩⟩)]⟩) A) (kW .eql 5 4 (.int .u8 20) a0 fun t19=>Af t19 (Q (.tuple ⟨[(.string ⟨⟨[101,110,100]⟩⟩),(.string ⟨⟨[88,102]⟩⟩)]⟩) A) (kW .eql 5 4 (.int .u8 21) a0 fun t20=>Af t20 (Q (.tuple ⟨[(.string ⟨⟨[116,105,109,101,111,117,116]⟩⟩),(.string ⟨⟨[88,78]⟩⟩)]⟩) A) (Q (.tuple ⟨[(.string ⟨⟨[]⟩⟩),(.string ⟨⟨[]⟩⟩)]⟩) A)))))))))))))))))))))):=by kernel_rfl
theorem w61:Wf1 61 47 Tz Lz:=wf1 (fun _=>by kernel_rfl) (by decide) fun _=>rfl
theorem e62 (a0 a1 a2:Value) (A:AW):AR Tp Ai W0 m0 62 Tz Lz S Q none 4000 (Tm.fill ⟨17,.nil⟩ 0 [a0,a1,a2]) [.code (cd 62 [])] false 0 0 0 [] A=(Ap (Ep A (Value.cells a2).toList 118) fun t0 At0=>Af a0 (Ab (Ag Tp .add 3 (.tmp 9) (.const (.int .i64 1)) (.int .i64 0) (.int .i64 1)) fun t1=>Af a1 (kW .add 3 12 (.int .i64 2) t1 fun t2=>Ab (Ao Tp 118 t0 t2) fun t3=>lW At0 9 t3 fun t4=>Q t4 At0) (Ab (Ao Tp 118 t0 t1) fun t5=>lW At0 9 t5 fun t6=>Q t6 At0)) (Af a1 (Ab (Ag Tp .add 3 (.tmp 12) (.const (.int .i64 2)) (.int .i64 0) (.int .i64 2)) fun t7=>Ab (Ao Tp 118 t0 t7) fun t8=>lW At0 9 t8 fun t9=>Q t9 At0) (Ab (Ao Tp 118 t0 (.int .i64 0)) fun t10=>lW At0 9 t10 fun t11=>Q t11 At0))):=by kernel_rfl
theorem w62:Wf3 62 17 Tz Lz:=wf3 (fun _ _ _=>by kernel_rfl) (by decide) fun _ _ _=>rfl
noncomputable def T63:Nat→List Item:=fun i=>match i with
 | 0=>[(.code (cd 63 [1,1,1,1,1,1,1,1,0,0,0])),(.inLoop (cd 63 [1,1,1,1,1,1,1,1,0,0,0])),(.inBlock 0),(.code (cd 63 [1,1,1,1,1,1,1,1,1]))]
 | _=>[]
def L63:Nat→List Tmp:=fun i=>match i with
 | 0=>[0,1,2,3,9,10]
 | _=>[]
theorem e63 (a0 a1 a2 a3:Value) (A:AW):AR Tp Ai W0 m0 63 T63 L63 S Q none 4000 (Tm.fill ⟨66,.nil⟩ 0 [a0,a1,a2,a3]) [.code (cd 63 [])] false 0 0 0 [] A=(kW .eql 3 12 (.int .i64 0) a3 fun t0=>Af t0 (Q (.slice none 0 0) A) (Ab (Ag Tp .eql 9 (.tmp 14) (.const (.string ⟨⟨[]⟩⟩)) a1 (.string ⟨⟨[]⟩⟩)) fun t1=>Af t1 (cW W0 m0 90 [a0,a3] A fun t2 At2=>Q t2 At2) (kW .lss 3 19 (.int .i64 0) a3 fun t3=>Af t3 (cW W0 m0 91 [a0,a1] A fun t4 At4=>kW .add 3 23 (.int .i64 1) t4 fun t5=>Ab (Bm Tp At4 9 a0) fun t6=>kW .add 3 27 (.int .i64 1) t6 fun t7=>Ab (Uy t5 [t7]) fun t8=>Ap (Cq Tp At4 56 t8 t8) fun t9 At9=>kW .sub 3 32 (.int .i64 1) t8 fun t10=>BA (T63 0) (T63 0) (S 0 [a0,a1,a2,t10,t9,(.int .i64 0)] At9)) (Ab (Bm Tp A 9 a0) fun t11=>kW .add 3 27 (.int .i64 1) t11 fun t12=>Ab (Uy a3 [t12]) fun t13=>Ap (Cq Tp A 56 t13 t13) fun t14 At14=>kW .sub 3 32 (.int .i64 1) t13 fun t15=>BA (T63 0) (T63 0) (S 0 [a0,a1,a2,t15,t14,(.int .i64 0)] At14))))):=by kernel_rfl
theorem Aa4 (d:Nat→Value) (A:AW):AR Tp Ai W0 m0 63 T63 L63 S Q none 4000 (DR 66 d) (T63 0) false 0 0 0 [] A=(Ab (Ag Tp .lss 3 (.tmp 34) (.tmp 35) (d 10) (d 3)) fun t0=>Af t0 (cW W0 m0 92 [(d 0),(d 1)] A fun t1 At1=>kW .lss 3 40 (.int .i64 0) t1 fun t2=>Af t2 (Ab (Ao Tp 56 (d 9) (d 10)) fun t3=>Bp (AZ Tp At1 9 t3 (d 0)) fun At4=>Ab (Ag Tp .add 3 (.tmp 63) (.const (.int .i64 1)) (d 10) (.int .i64 1)) fun t5=>Ab (BM Tp At4 56 (d 9) none (some t5) none) fun t6=>Q t6 At4) (Ab (Ag Tp .add 3 (.tmp 45) (.tmp 46) t1 (d 2)) fun t7=>Ab (BM Tp At1 9 (d 0) none (some t7) none) fun t8=>Ab (Ao Tp 56 (d 9) (d 10)) fun t9=>sW At1 9 t9 t8 fun At10=>Ab (Bm Tp At10 9 (d 1)) fun t11=>Ab (Ag Tp .add 3 (.tmp 51) (.tmp 53) t1 t11) fun t12=>Ab (BM Tp At10 9 (d 0) (some t12) none none) fun t13=>Ab (Ag Tp .add 3 (.tmp 56) (.const (.int .i64 1)) (d 10) (.int .i64 1)) fun t14=>BA (T63 0) (T63 0) (S 0 [t13,(d 1),(d 2),(d 3),(d 9),t14] At10))) (Ab (Ao Tp 56 (d 9) (d 10)) fun t15=>Bp (AZ Tp A 9 t15 (d 0)) fun At16=>Ab (Ag Tp .add 3 (.tmp 63) (.const (.int .i64 1)) (d 10) (.int .i64 1)) fun t17=>Ab (BM Tp At16 56 (d 9) none (some t17) none) fun t18=>Q t18 At16)):=by kernel_rfl
theorem w63:Wf4 63 66 T63 L63:=wf4 (fun _ _ _ _=>by kernel_rfl) (by decide) fun _ _ _ _=>rfl
theorem c63:Ge 63 66 T63 L63:=GF (by decide)
theorem e64 (a0:Value) (A:AW):AR Tp Ai W0 m0 64 Tz Lz S Q none 4000 (Tm.fill ⟨28,.nil⟩ 0 [a0]) [.code (cd 64 [])] false 0 0 0 [] A=(Ab (Ca a0) fun t0=>fW 96 t0 0 fun t1=>lW A 56 t1 fun t2=>Ab (Bm Tp A 56 t2) fun t3=>kW .eql 3 8 (.int .i64 0) t3 fun t4=>Af t4 (Ab (Ca a0) fun t5=>fW 96 t5 1 fun t6=>Bp (AZ Tp A 4 t6 (.bool true)) fun At7=>Q (.string ⟨⟨[]⟩⟩) At7) (Ab (Ca a0) fun t8=>fW 96 t8 0 fun t9=>lW A 56 t9 fun t10=>Ab (Ao Tp 56 t10 (.int .i64 0)) fun t11=>lW A 9 t11 fun t12=>Ab (Ca a0) fun t13=>fW 96 t13 0 fun t14=>lW A 56 t14 fun t15=>Ab (BM Tp A 56 t15 (some (.int .i64 1)) none none) fun t16=>Ab (Ca a0) fun t17=>fW 96 t17 0 fun t18=>sW A 56 t18 t16 fun At19=>Q t12 At19)):=by kernel_rfl
theorem w64:Wf1 64 28 Tz Lz:=wf1 (fun _=>by kernel_rfl) (by decide) fun _=>rfl
noncomputable def T65:Nat→List Item:=fun i=>match i with
 | 0=>[(.code (cd 65 [1,1,0,0,0])),(.inLoop (cd 65 [1,1,0,0,0])),(.inBlock 0),(.code (cd 65 [1,1,1]))]
 | _=>[]
def L65:Nat→List Tmp:=fun i=>match i with
 | 0=>[0,1,5]
 | _=>[]
theorem e65 (a0 a1:Value) (A:AW):AR Tp Ai W0 m0 65 T65 L65 S Q none 4000 (Tm.fill ⟨25,.nil⟩ 0 [a0,a1]) [.code (cd 65 [])] false 0 0 0 [] A=(BA (T65 0) (T65 0) (S 0 [a0,a1,(.slice none 0 0)] A)):=by kernel_rfl
theorem Aa3 (d:Nat→Value) (A:AW):AR Tp Ai W0 m0 65 T65 L65 S Q none 4000 (DR 25 d) (T65 0) false 0 0 0 [] A=(Ab (Ca (d 0)) fun t0=>fW 96 t0 0 fun t1=>lW A 56 t1 fun t2=>Ab (Bm Tp A 56 t2) fun t3=>kW .gtr 3 10 (.int .i64 0) t3 fun t4=>Af t4 (Ab (Ca (d 0)) fun t5=>fW 96 t5 1 fun t6=>lW A 4 t6 fun t7=>Ab (unA Tp .not t7) fun t8=>Af t8 (anW Tp Ai W0 m0 (Fo Tp Ai A (d 1) []) fun t9 At9=>Ap (Ar Tp At9 33 1 [(0,t9)]) fun t10 At10=>Ap (Bh Tp At10 33 33 (d 5) t10) fun t11 At11=>BA (T65 0) (T65 0) (S 0 [(d 0),(d 1),t11] At11)) (Q (d 5) A)) (Q (d 5) A)):=by kernel_rfl
theorem w65:Wf2 65 25 T65 L65:=wf2 (fun _ _=>by kernel_rfl) (by decide) fun _ _=>rfl
theorem c65:Ge 65 25 T65 L65:=GF (by decide)
theorem e66 (a0:Value) (A:AW):AR Tp Ai W0 m0 66 Tz Lz S Q none 4000 (Tm.fill ⟨6,.nil⟩ 0 [a0]) [.code (cd 66 [])] false 0 0 0 [] A=(cW W0 m0 93 [a0,(.int .i64 8)] A fun t0 At0=>Ap (AD Tp At0 35 5 t0) fun t1 At1=>Q t1 At1):=by kernel_rfl
theorem w66:Wf1 66 6 Tz Lz:=wf1 (fun _=>by kernel_rfl) (by decide) fun _=>rfl
theorem e67 (a0:Value) (A:AW):AR Tp Ai W0 m0 67 Tz Lz S Q none 4000 (Tm.fill ⟨23,.nil⟩ 0 [a0]) [.code (cd 67 [])] false 0 0 0 [] A=(Ap (B5 Tp A 32) fun t0 At0=>cW W0 m0 64 [a0] At0 fun t1 At1=>cW W0 m0 94 [t1] At1 fun t2 At2=>xW t2 0 fun t3=>xW t2 1 fun t4=>Ap (B5 Tp At2 32) fun t5 At5=>sW At5 32 t5 t3 fun At6=>Ab (Ca a0) fun t7=>fW 96 t7 1 fun t8=>lW At6 4 t8 fun t9=>Af t9 (Ab (Ca a0) fun t10=>fW 96 t10 1 fun t11=>Bp (AZ Tp At6 4 t11 (.bool true)) fun At12=>lW At12 32 t5 fun t13=>sW At12 32 t0 t13 fun At14=>lW At14 32 t0 fun t15=>Q t15 At14) (kW .neq 24 17 (.int .i64 0) t4 fun t16=>Ab (Ca a0) fun t17=>fW 96 t17 1 fun t18=>sW At6 4 t18 t16 fun At19=>lW At19 32 t5 fun t20=>sW At19 32 t0 t20 fun At21=>lW At21 32 t0 fun t22=>Q t22 At21)):=by kernel_rfl
theorem w67:Wf1 67 23 Tz Lz:=wf1 (fun _=>by kernel_rfl) (by decide) fun _=>rfl
theorem e68 (a0 a1:Value) (A:AW):AR Tp Ai W0 m0 68 Tz Lz S Q none 4000 (Tm.fill ⟨9,.nil⟩ 0 [a0,a1]) [.code (cd 68 [])] false 0 0 0 [] A=(cW W0 m0 64 [a0] A fun t0 At0=>Ab (Ag Tp .eql 9 (.tmp 6) (.tmp 7) t0 a1) fun t1=>Q t1 At0):=by kernel_rfl
theorem w68:Wf2 68 9 Tz Lz:=wf2 (fun _ _=>by kernel_rfl) (by decide) fun _ _=>rfl
theorem e69 (a0:Value) (A:AW):AR Tp Ai W0 m0 69 Tz Lz S Q none 4000 (Tm.fill ⟨23,.nil⟩ 0 [a0]) [.code (cd 69 [])] false 0 0 0 [] A=(cW W0 m0 64 [a0] A fun t0 At0=>cW W0 m0 95 [t0] At0 fun t1 At1=>xW t1 0 fun t2=>xW t1 1 fun t3=>Ab (Ca a0) fun t4=>fW 96 t4 1 fun t5=>lW At1 4 t5 fun t6=>Af t6 (Ab (Ca a0) fun t7=>fW 96 t7 1 fun t8=>Bp (AZ Tp At1 4 t8 (.bool true)) fun At9=>Q t2 At9) (Ab (Ag Tp .neq 72 (.tmp 17) (.const .nilIface) t3 .nilIface) fun t10=>Ab (Ca a0) fun t11=>fW 96 t11 1 fun t12=>sW At1 4 t12 t10 fun At13=>Q t2 At13)):=by kernel_rfl
theorem w69:Wf1 69 23 Tz Lz:=wf1 (fun _=>by kernel_rfl) (by decide) fun _=>rfl
noncomputable def T70:Nat→List Item:=fun i=>match i with
 | 0=>[(.code (cd 70 [1,1,0,0,0])),(.inLoop (cd 70 [1,1,0,0,0])),(.inBlock 0),(.code (cd 70 [1,1,1]))]
 | _=>[]
def L70:Nat→List Tmp:=fun i=>match i with
 | 0=>[0,1,5]
 | _=>[]
theorem e70 (a0 a1:Value) (A:AW):AR Tp Ai W0 m0 70 T70 L70 S Q none 4000 (Tm.fill ⟨25,.nil⟩ 0 [a0,a1]) [.code (cd 70 [])] false 0 0 0 [] A=(BA (T70 0) (T70 0) (S 0 [a0,a1,(.slice none 0 0)] A)):=by kernel_rfl
theorem Aa2 (d:Nat→Value) (A:AW):AR Tp Ai W0 m0 70 T70 L70 S Q none 4000 (DR 25 d) (T70 0) false 0 0 0 [] A=(Ab (Ca (d 0)) fun t0=>fW 96 t0 0 fun t1=>lW A 56 t1 fun t2=>Ab (Bm Tp A 56 t2) fun t3=>kW .gtr 3 10 (.int .i64 0) t3 fun t4=>Af t4 (Ab (Ca (d 0)) fun t5=>fW 96 t5 1 fun t6=>lW A 4 t6 fun t7=>Ab (unA Tp .not t7) fun t8=>Af t8 (anW Tp Ai W0 m0 (Fo Tp Ai A (d 1) []) fun t9 At9=>Ap (Ar Tp At9 34 1 [(0,t9)]) fun t10 At10=>Ap (Bh Tp At10 34 34 (d 5) t10) fun t11 At11=>BA (T70 0) (T70 0) (S 0 [(d 0),(d 1),t11] At11)) (Q (d 5) A)) (Q (d 5) A)):=by kernel_rfl
theorem w70:Wf2 70 25 T70 L70:=wf2 (fun _ _=>by kernel_rfl) (by decide) fun _ _=>rfl
theorem c70:Ge 70 25 T70 L70:=GF (by decide)
theorem e71 (a0:Value) (A:AW):AR Tp Ai W0 m0 71 Tz Lz S Q none 4000 (Tm.fill ⟨23,.nil⟩ 0 [a0]) [.code (cd 71 [])] false 0 0 0 [] A=(cW W0 m0 64 [a0] A fun t0 At0=>cW W0 m0 9 [t0] At0 fun t1 At1=>xW t1 0 fun t2=>xW t1 1 fun t3=>Ab (Ca a0) fun t4=>fW 96 t4 1 fun t5=>lW At1 4 t5 fun t6=>Af t6 (Ab (Ca a0) fun t7=>fW 96 t7 1 fun t8=>Bp (AZ Tp At1 4 t8 (.bool true)) fun At9=>Q t2 At9) (kW .neq 24 17 (.int .i64 0) t3 fun t10=>Ab (Ca a0) fun t11=>fW 96 t11 1 fun t12=>sW At1 4 t12 t10 fun At13=>Q t2 At13)):=by kernel_rfl
theorem w71:Wf1 71 23 Tz Lz:=wf1 (fun _=>by kernel_rfl) (by decide) fun _=>rfl
abbrev K8 (X0:AW) (x1:Value) (x2:Value) (x4:Value) (x6:Value):Prop:=sW X0 9 x1 x2 fun At903=>lW At903 38 x4 fun t905=>sW At903 38 x6 t905 fun At907=>lW At907 38 x6 fun t908=>Q t908 At907
abbrev Sj (a0:Value) (X0:AW) (x3:Value) (x7:Value):Prop:=cW W0 m0 96 [a0,(.func (.func 97) ⟨[a0]⟩ ⟨[]⟩)] X0 fun t901 At902=>fW 38 x3 8 fun t904=>sW At902 36 t904 t901 fun At905=>lW At905 38 x3 fun t906=>sW At905 38 x7 t906 fun At908=>lW At908 38 x7 fun t909=>Q t909 At908
abbrev PD (X0:AW) (x1:Value) (x2:Value) (x4:Value) (x6:Value):Prop:=sW X0 4 x1 x2 fun At903=>lW At903 38 x4 fun t905=>sW At903 38 x6 t905 fun At907=>lW At907 38 x6 fun t908=>Q t908 At907
abbrev Si (x0:Value) (X2:AW) (x3:Value) (x6:Value):Prop:=fW 38 x0 5 fun t901=>sW X2 30 t901 x3 fun At904=>lW At904 38 x0 fun t905=>sW At904 38 x6 t905 fun At907=>lW At907 38 x6 fun t908=>Q t908 At907
theorem e72 (a0:Value) (A:AW):AR Tp Ai W0 m0 72 Tz Lz S Q none 4000 (Tm.fill ⟨130,.nil⟩ 0 [a0]) [.code (cd 72 [])] false 0 0 0 [] A=(Ap (B5 Tp A 38) fun t0 At0=>cW W0 m0 93 [a0,(.int .i64 64)] At0 fun t1 At1=>Ab (B0 Tp 38 [(1,t1)]) fun t2=>Ap (B5 Tp At1 38) fun t3 At3=>sW At3 38 t3 t2 fun At4=>cW W0 m0 83 [] At4 fun t5 At5=>cW W0 m0 64 [a0] At5 fun t6 At6=>Ab (F0 Tp At6 109 t5 t6 false) fun t7=>fW 38 t3 0 fun t8=>sW At6 5 t8 t7 fun At9=>fW 38 t3 0 fun t10=>lW At9 5 t10 fun t11=>kW .eql 5 13 (.int .u8 3) t11 fun t12=>Af t12 (cW W0 m0 71 [a0] At9 fun t13 At13=>cW W0 m0 93 [a0,(.int .i64 32)] At13 fun t14 At14=>Ap (AD Tp At14 35 30 t14) fun t15 At15=>fW 38 t3 2 fun t16=>sW At15 9 t16 t13 fun At17=>Si Q t3 At17 t15 t0) (kW .eql 5 13 (.int .u8 4) t11 fun t23=>Af t23 (cW W0 m0 71 [a0] At9 fun t24 At24=>cW W0 m0 68 [a0,(.string ⟨⟨[101,109,112,116,121]⟩⟩)] At24 fun t25 At25=>fW 38 t3 2 fun t26=>sW At25 9 t26 t24 fun At27=>fW 38 t3 6 fun t28=>PD Q At27 t28 t25 t3 t0) (kW .eql 5 13 (.int .u8 5) t11 fun t33=>Af t33 (cW W0 m0 71 [a0] At9 fun t34 At34=>fW 38 t3 2 fun t35=>K8 Q At34 t35 t34 t3 t0) (kW .eql 5 13 (.int .u8 6) t11 fun t40=>Af t40 (cW W0 m0 71 [a0] At9 fun t41 At41=>fW 38 t3 2 fun t42=>K8 Q At41 t42 t41 t3 t0) (kW .eql 5 13 (.int .u8 7) t11 fun t47=>Af t47 (cW W0 m0 71 [a0] At9 fun t48 At48=>cW W0 m0 71 [a0] At48 fun t49 At49=>cW W0 m0 71 [a0] At49 fun t50 At50=>fW 38 t3 2 fun t51=>sW At50 9 t51 t48 fun At52=>fW 38 t3 3 fun t53=>sW At52 9 t53 t49 fun At54=>fW 38 t3 9 fun t55=>K8 Q At54 t55 t50 t3 t0) (kW .eql 5 13 (.int .u8 8) t11 fun t60=>Af t60 (cW W0 m0 71 [a0] At9 fun t61 At61=>cW W0 m0 71 [a0] At61 fun t62 At62=>fW 38 t3 2 fun t63=>sW At62 9 t63 t61 fun At64=>fW 38 t3 3 fun t65=>K8 Q At64 t65 t62 t3 t0) (kW .eql 5 13 (.int .u8 9) t11 fun t70=>Af t70 (cW W0 m0 71 [a0] At9 fun t71 At71=>fW 38 t3 3 fun t72=>K8 Q At71 t72 t71 t3 t0) (kW .eql 5 13 (.int .u8 11) t11 fun t77=>Af t77 (cW W0 m0 71 [a0] At9 fun t78 At78=>fW 38 t3 3 fun t79=>K8 Q At78 t79 t78 t3 t0) (kW .eql 5 13 (.int .u8 10) t11 fun t84=>Af t84 (cW W0 m0 71 [a0] At9 fun t85 At85=>cW W0 m0 93 [a0,(.int .i64 32)] At85 fun t86 At86=>Ap (AD Tp At86 35 30 t86) fun t87 At87=>fW 38 t3 3 fun t88=>sW At87 9 t88 t85 fun At89=>Si Q t3 At89 t87 t0) (kW .eql 5 13 (.int .u8 14) t11 fun t95=>Af t95 (cW W0 m0 68 [a0,(.string ⟨⟨[109,97,114,107]⟩⟩)] At9 fun t96 At96=>fW 38 t3 6 fun t97=>sW At96 4 t97 t96 fun At98=>Sj W0 m0 Q a0 At98 t3 t0) (kW .eql 5 13 (.int .u8 13) t11 fun t105=>Af t105 (Sj W0 m0 Q a0 At9 t3 t0) (kW .eql 5 13 (.int .u8 15) t11 fun t112=>Af t112 (Sj W0 m0 Q a0 At9 t3 t0) (kW .eql 5 13 (.int .u8 16) t11 fun t119=>Af t119 (cW W0 m0 68 [a0,(.string ⟨⟨[100,116,120]⟩⟩)] At9 fun t120 At120=>fW 38 t3 6 fun t121=>PD Q At120 t121 t120 t3 t0) (kW .eql 5 13 (.int .u8 19) t11 fun t126=>Af t126 (cW W0 m0 67 [a0] At9 fun t127 At127=>fW 38 t3 4 fun t128=>sW At127 32 t128 t127 fun At129=>Ap (Ar Tp At129 56 4 [(0,(.string ⟨⟨[110,101,119]⟩⟩)),(1,(.string ⟨⟨[106,111,105,110]⟩⟩)),(2,(.string ⟨⟨[114,101,115,117,109,101]⟩⟩)),(3,(.string ⟨⟨[98,111,116,104]⟩⟩))]) fun t130 At130=>cW W0 m0 98 [a0,t130] At130 fun t131 At131=>xW t131 0 fun t132=>xW t131 1 fun t133=>fW 38 t3 6 fun t134=>sW At131 4 t134 t132 fun At135=>fW 38 t3 7 fun t136=>PD Q At135 t136 t133 t3 t0) (kW .eql 5 13 (.int .u8 20) t11 fun t141=>Af t141 (cW W0 m0 67 [a0] At9 fun t142 At142=>fW 38 t3 4 fun t143=>sW At142 32 t143 t142 fun At144=>Ap (Ar Tp At144 56 4 [(0,(.string ⟨⟨[100,111,110,101]⟩⟩)),(1,(.string ⟨⟨[102,97,105,108]⟩⟩)),(2,(.string ⟨⟨[115,117,115,112,101,110,100]⟩⟩)),(3,(.string ⟨⟨[98,111,116,104]⟩⟩))]) fun t145 At145=>cW W0 m0 98 [a0,t145] At145 fun t146 At146=>xW t146 0 fun t147=>xW t146 1 fun t148=>fW 38 t3 6 fun t149=>sW At146 4 t149 t147 fun At150=>fW 38 t3 7 fun t151=>PD Q At150 t151 t148 t3 t0) (kW .eql 5 13 (.int .u8 21) t11 fun t156=>Af t156 (cW W0 m0 67 [a0] At9 fun t157 At157=>cW W0 m0 93 [a0,(.int .i64 32)] At157 fun t158 At158=>Ap (AD Tp At158 35 30 t158) fun t159 At159=>fW 38 t3 4 fun t160=>sW At159 32 t160 t157 fun At161=>Si Q t3 At161 t159 t0) (lW At9 38 t3 fun t167=>sW At9 38 t0 t167 fun At168=>lW At168 38 t0 fun t169=>Q t169 At168))))))))))))))))):=by kernel_rfl
theorem w72:Wf1 72 130 Tz Lz:=wf1 (fun _=>by kernel_rfl) (by decide) fun _=>rfl
end
structure TK (A:AW) (q:Nat) (ws:List ByteArray) (bad:Bool) (F:List Nat):Prop where
 row:∃ v,Go.Abs.AQ A q [v,.bool bad] 96∧RdW A v ws F
 out:q∉F
theorem TK.keeps {A A':AW} {q:Nat} {ws:List ByteArray} {bad:Bool} {F S:List Nat} (h:TK A q ws bad F) (k:Aw A A' S) (hq:q∉S) (hd:∀ x∈F,x∉S):TK A' q ws bad F:=by
 obtain ⟨⟨v,h1,h2⟩,h3⟩:=h
 exact ⟨⟨v,h1.keeps k hq,h2.keeps k hd⟩,h3⟩
theorem Hc (b o:Nat):Ac Tp 96 (.pointer (some ⟨b,o,none⟩)) 0=some (.pointer (some ⟨b,o,none⟩)):=by kernel_rfl
theorem E2 (b o:Nat):Ac Tp 96 (.pointer (some ⟨b,o,none⟩)) 1=some (.pointer (some ⟨b,o+1,none⟩)):=by kernel_rfl
theorem LX (A:AW) (a:Addr):Au Tp A 56 (.pointer (some a))=A.cell? a:=by kernel_rfl
theorem HX (A:AW) (a:Addr) (v:Value):AZ Tp A 4 (.pointer (some a)) v=(bif Nat.beq v.cells.toList.length 1 then A.setCells a v.cells.toList else none):=by kernel_rfl
theorem Tv (A:AW) (a:Addr) (v:Value):AZ Tp A 56 (.pointer (some a)) v=(bif Nat.beq v.cells.toList.length 1 then A.setCells a v.cells.toList else none):=by kernel_rfl
section
variable {W0:World} {m0:Inj Tp}
theorem Ab5 {q:Nat} {ws:List ByteArray} {bad:Bool} {F:List Nat} {A:AW} {K:Value→AW→Prop} (h:TK A q ws bad F) (hf:AJ A) (hA:A.next≤Al)
  (h0:ws=[]→∀ A',TK A' q [] true F→Aw A A' [q]→A'.next=A.next→AJ A'→K (.string ⟨⟨[]⟩⟩) A')
  (h1:∀ w r,ws=w::r→∀ A',TK A' q r bad F→Aw A A' [q]→A'.next=A.next→AJ A'→K (.string w) A'):Wc Tp Ai W0 m0 64 [.pointer (some ⟨q,0,none⟩)] A K:=by
 obtain ⟨⟨v,r,hw⟩,ho⟩:=h
 have hn:Ca (.pointer (some ⟨q,0,none⟩))=some (.pointer (some ⟨q,0,none⟩)):=rfl
 have f1:Ac Tp 96 (.pointer (some ⟨q,0,none⟩)) 1=some (.pointer (some ⟨q,1,none⟩)):=E2 q 0
 have l0:Au Tp A 56 (.pointer (some ⟨q,0,none⟩))=some v:=by
  rw [LX,Ay r.row]
  exact Cd rfl hw.one.2
 refine w64 _ _ (At (S:=fun _ _ _=>False) fun _ _ _ h=>h) ?_
 rw [e64]
 have hd:∀ x∈F,x∉[q]:=fun x hx hq=>by
  rw [List.mem_singleton.1 hq] at hx;exact ho hx
 refine Aa hn (Aa (Hc q 0) (Aa l0 (Aa hw.len (Aa Ah (Ae.2 ⟨fun e=>?_,fun e=>?_⟩)))))
 ·have e:ws=[]:=List.eq_nil_of_length_eq_zero (by omega)
  subst e
  refine Aa hn (Aa f1 ?_)
  refine Go.Abs.AQ.store (n:=1) (off:=1) (v:=.bool true) r hf hA (HX _ _ _) rfl (by simp) rfl fun A2 r2 k2 n2 f2=>?_
  exact h0 rfl A2 ⟨⟨v,r2,hw.keeps k2 hd⟩,ho⟩ k2 n2 f2
 ·obtain ⟨w,rest,e⟩:∃ w rest,ws=w::rest:=by
   cases ws with
   | nil=>exact absurd rfl e
   | cons w rest=>exact ⟨w,rest,rfl⟩
  subst e
  obtain ⟨a,a1,a2⟩:=hw.at0
  obtain ⟨v',s1,hw'⟩:=hw.Abw
  refine Aa hn (Aa (Hc q 0) (Aa l0 (Aa a1 (Aa a2 (Aa hn (Aa (Hc q 0) (Aa l0 (Aa s1 (Aa hn (Aa (Hc q 0) ?_))))))))))
  have hc:v'.cells.toList=[v']:=by obtain ⟨_,_,_,_,_,_,_,rfl,_⟩:=hw';rfl
  refine Go.Abs.AQ.store (n:=1) (off:=0) (v:=v') r hf hA (Tv _ _ _) (by rw [hc];rfl) (by simp) (by rw [hc];simp [hw'.one.1]) fun A2 r2 k2 n2 f2=>?_
  rw [hc] at r2
  exact h1 w rest rfl A2 ⟨⟨v',r2,hw'.keeps k2 hd⟩,ho⟩ k2 n2 f2
theorem Kg {q:Nat} {ws:List ByteArray} {bad:Bool} {F:List Nat} {A:AW} {K:Value→AW→Prop} (h:TK A q ws bad F) (hf:AJ A) (hA:A.next≤Al)
  (hk:∀ A' w r b,(ws=w::r∧b=bad)∨(ws=[]∧r=[]∧w=⟨⟨[]⟩⟩∧b=true)→TK A' q r b F→Aw A A' [q]→A'.next=A.next→AJ A'→K (.string w) A'):Wc Tp Ai W0 m0 64 [.pointer (some ⟨q,0,none⟩)] A K:=
 Ab5 h hf hA (fun e A' h' k n f=>hk A' _ _ _ (.inr ⟨e,rfl,rfl,rfl⟩) h' k n f) (fun w r e A' h' k n f=>hk A' w r bad (.inl ⟨e,rfl⟩) h' k n f)
theorem TK.mark {q:Nat} {ws:List ByteArray} {bad b:Bool} {F:List Nat} {A:AW} {K:AW→Prop} (h:TK A q ws bad F) (hf:AJ A) (hA:A.next≤Al)
  (hk:∀ A',TK A' q ws b F→Aw A A' [q]→A'.next=A.next→AJ A'→K A'):Bp (AZ Tp A 4 (.pointer (some ⟨q,1,none⟩)) (.bool b)) K:=by
 obtain ⟨⟨v,r,hw⟩,ho⟩:=h
 refine Go.Abs.AQ.store (n:=1) (off:=1) (v:=.bool b) r hf hA (HX _ _ _) rfl (by simp) rfl fun A2 r2 k2 n2 f2=>?_
 exact hk A2 ⟨⟨v,r2,hw.keeps k2 fun x hx hq=>by rw [List.mem_singleton.1 hq] at hx;exact ho hx⟩,ho⟩ k2 n2 f2
theorem TK.bad {q:Nat} {ws:List ByteArray} {bad:Bool} {F:List Nat} {A:AW} (h:TK A q ws bad F):Au Tp A 4 (.pointer (some ⟨q,1,none⟩))=some (.bool bad):=by
 obtain ⟨⟨v,r,hw⟩,ho⟩:=h
 rw [Xx,Ay r.row]
 rfl
end
def AK (ws:List ByteArray) (bad:Bool) (w:ByteArray) (r:List ByteArray) (b:Bool):Prop:=(ws=w::r∧b=bad)∨(ws=[]∧r=[]∧w=⟨⟨[]⟩⟩∧b=true)
def DT (ws:List ByteArray):Prop:=∀ w∈ws,(bl w).length < 50000000
theorem AK.short {ws r:List ByteArray} {bad b:Bool} {w:ByteArray} (h:AK ws bad w r b) (hs:DT ws):(bl w).length < 50000000∧DT r:=by
 rcases h with ⟨rfl,_⟩ | ⟨rfl,rfl,rfl,_⟩
 ·exact ⟨hs w (by simp),fun x hx=>hs x (by simp [hx])⟩
 ·exact ⟨by decide,hs⟩
def BY:List ByteArray→Nat
 | []=>0
 | w::r=>(bl w).length+1+BY r
theorem AK.sum {ws r:List ByteArray} {bad b:Bool} {w:ByteArray} (h:AK ws bad w r b):(bl w).length+BY r≤BY ws∧(ws≠[]→(bl w).length+1+BY r=BY ws):=by
 rcases h with ⟨rfl,_⟩ | ⟨rfl,rfl,rfl,_⟩
 ·exact ⟨by show _≤(bl w).length+1+BY r;omega,fun _=>rfl⟩
 ·exact ⟨Nat.le_refl _,fun h=>absurd rfl h⟩
section
variable {W0:World} {m0:Inj Tp}
theorem Ub {q:Nat} {ws:List ByteArray} {bad:Bool} {F:List Nat} {bits:Int} {A:AW} {K:Value→AW→Prop} (hb:bits=8∨bits=32∨bits=64) (h:TK A q ws bad F) (hg:GE A) (hq:8≤q) (hs:DT ws) (hf:AJ A) (hA:A.next+20 < Al)
  (hk:∀ A' w r b n b',AK ws bad w r b→UW (SC bits) (bl w) n b'→TK A' q r (b || b') F→Aw A A' [q]→A'.next≤A.next+2→AJ A'→K (.int .u64 (n:Int)) A'):Wc Tp Ai W0 m0 93 [.pointer (some ⟨q,0,none⟩),.int .i64 bits] A K:=by
 have hn:Ca (.pointer (some ⟨q,0,none⟩))=some (.pointer (some ⟨q,0,none⟩)):=rfl
 have f1:Ac Tp 96 (.pointer (some ⟨q,0,none⟩)) 1=some (.pointer (some ⟨q,1,none⟩)):=E2 q 0
 refine w93 _ _ _ (At (S:=fun _ _ _=>False) fun _ _ _ h=>h) ?_
 rw [e93]
 refine Kg h hf (by omega) fun A1 w r b ht h1 k1 n1 fn1=>?_
 have hsh:=AK.short ht hs
 refine Ya hb (by have:=hsh.1;omega) (hg.keeps k1 fun x hx=>by rw [List.mem_singleton.1 hx];exact hq) fn1 (by omega) fun A2 n er b' g2 he hu=>?_
 have n2:=g2.next
 have h2:=h1.keeps g2.keeps (by simp) (by simp)
 have K2:Aw A A2 [q]:=k1.trans (g2.keeps.more (T:=[q]) (by simp)) fun x hx=>.inl hx
 refine Aa Eb (Aa Ea (Aa hn (Aa f1 (Aa h2.bad (Ak.2 ⟨fun hb=>?_,fun hb=>?_⟩)))))
 ·refine Aa hn (Aa f1 (h2.mark g2.AG (by omega) fun A3 h3 k3 n3 f3=>?_))
  exact hk A3 w r b n b' ht hu (by rw [hb];exact h3) (K2.trans k3 fun x hx=>.inl hx) (by omega) f3
 ·refine Aa (he.neq _) (Aa hn (Aa f1 (h2.mark g2.AG (by omega) fun A3 h3 k3 n3 f3=>?_)))
  exact hk A3 w r b n b' ht hu (by rw [hb];exact h3) (K2.trans k3 fun x hx=>.inl hx) (by omega) f3
theorem Qs {q:Nat} {ws:List ByteArray} {bad:Bool} {F:List Nat} {A:AW} {K:Value→AW→Prop} (h:TK A q ws bad F) (hg:GE A) (hq:8≤q) (hs:DT ws) (hf:AJ A) (hA:A.next+20 < Al)
  (hk:∀ A' w r b (n:Int) b',AK ws bad w r b→IW (bl w) n b'→TK A' q r (b || b') F→Aw A A' [q]→A'.next≤A.next+2→AJ A'→K (.int .i64 n) A'):Wc Tp Ai W0 m0 69 [.pointer (some ⟨q,0,none⟩)] A K:=by
 have hn:Ca (.pointer (some ⟨q,0,none⟩))=some (.pointer (some ⟨q,0,none⟩)):=rfl
 have f1:Ac Tp 96 (.pointer (some ⟨q,0,none⟩)) 1=some (.pointer (some ⟨q,1,none⟩)):=E2 q 0
 refine w69 _ _ (At (S:=fun _ _ _=>False) fun _ _ _ h=>h) ?_
 rw [e69]
 refine Kg h hf (by omega) fun A1 w r b ht h1 k1 n1 fn1=>?_
 have hsh:=AK.short ht hs
 refine AbU (by have:=hsh.1;omega) (hg.keeps k1 fun x hx=>by rw [List.mem_singleton.1 hx];exact hq) fn1 (by omega) fun A2 n er b' g2 he hu=>?_
 have n2:=g2.next
 have h2:=h1.keeps g2.keeps (by simp) (by simp)
 have K2:Aw A A2 [q]:=k1.trans (g2.keeps.more (T:=[q]) (by simp)) fun x hx=>.inl hx
 refine Aa Eb (Aa Ea (Aa hn (Aa f1 (Aa h2.bad (Ak.2 ⟨fun hb=>?_,fun hb=>?_⟩)))))
 ·refine Aa hn (Aa f1 (h2.mark g2.AG (by omega) fun A3 h3 k3 n3 f3=>?_))
  exact hk A3 w r b n b' ht hu (by rw [hb];exact h3) (K2.trans k3 fun x hx=>.inl hx) (by omega) f3
 ·refine Aa (he.neq _) (Aa hn (Aa f1 (h2.mark g2.AG (by omega) fun A3 h3 k3 n3 f3=>?_)))
  exact hk A3 w r b n b' ht hu (by rw [hb];exact h3) (K2.trans k3 fun x hx=>.inl hx) (by omega) f3
end
section
variable {W0:World} {m0:Inj Tp}
theorem Ji {q:Nat} {ws:List ByteArray} {bad:Bool} {F:List Nat} {A:AW} {K:Value→AW→Prop} (h:TK A q ws bad F) (hg:GE A) (hq:8≤q) (hs:DT ws) (hf:AJ A) (hA:A.next+20 < Al)
  (hk:∀ A' w r b n b',AK ws bad w r b→UW 255 (bl w) n b'→TK A' q r (b || b') F→Aw A A' [q]→A'.next≤A.next+2→AJ A'→K (.int .u8 (n:Int)) A'):Wc Tp Ai W0 m0 66 [.pointer (some ⟨q,0,none⟩)] A K:=by
 refine w66 _ _ (At (S:=fun _ _ _=>False) fun _ _ _ h=>h) ?_
 rw [e66]
 refine Ub (.inl rfl) h hg hq hs hf hA fun A1 w r b n b' ht hu h1 k1 n1 f1=>?_
 have hu:UW 255 (bl w) n b':=hu
 have hn:=hu.1
 rw [P8,wrap_u8,Int.emod_eq_of_lt (by omega) (by omega)]
 exact Bi.2 (hk A1 w r b n b' ht hu h1 k1 n1 f1)
theorem Vl {q:Nat} {ws:List ByteArray} {bad:Bool} {F:List Nat} {y:ByteArray} {A:AW} {K:Value→AW→Prop} (h:TK A q ws bad F) (hf:AJ A) (hA:A.next≤Al)
  (hk:∀ A' w r b,AK ws bad w r b→TK A' q r b F→Aw A A' [q]→A'.next=A.next→AJ A'→K (.bool (bl w==bl y)) A'):Wc Tp Ai W0 m0 68 [.pointer (some ⟨q,0,none⟩),.string y] A K:=by
 refine w68 _ _ _ (At (S:=fun _ _ _=>False) fun _ _ _ h=>h) ?_
 rw [e68]
 refine Kg h hf hA fun A1 w r b ht h1 k1 n1 f1=>?_
 exact Aa B4 (hk A1 w r b ht h1 k1 n1 f1)
end
noncomputable def WO (n:Nat):Bool:=match Ag Tp .shl 3 (.tmp 0) (.tmp 0) (.int .i64 (Cr n)) (.int .u64 4) with
 | some (.int .i64 k)=>decide (k=Cr n * 16)
 | _=>false
theorem Tb:((List.range 256).all WO)=true:=by kernel_rfl
theorem AaG (b:UInt8) (xo yo:Operand):Ag Tp .shl 3 xo yo (.int .i64 (Cr b.toNat)) (.int .u64 4)=some (.int .i64 (Cr b.toNat * 16)):=by
 have h:=List.all_eq_true.1 Tb b.toNat (List.mem_range.2 b.toNat_lt)
 unfold WO at h
 show Ag Tp .shl 3 (.tmp 0) (.tmp 0) (.int .i64 (Cr b.toNat)) (.int .u64 4)=_
 split at h
 ·rename_i k hk
  rw [hk,of_decide_eq_true h]
 ·cases h
theorem NW (n:Nat): -1≤Cr n∧Cr n≤15:=by
 unfold Cr
 split
 ·omega
 ·split <;> omega
theorem Vf (x y:UInt8):((Md x y).toNat:Int)=(Cr x.toNat * 16+Cr y.toNat) % 256:=by
 unfold Md
 rw [UInt8.toNat_ofNat']
 omega
theorem NX {c:UInt8} {r:List UInt8} (h:c.toNat=37) (hr:r.length < 2):Gc (c::r)=none:=by
 match r,hr with
 | [],_=>simp only [Gc];exact if_pos h
 | [_],_=>simp only [Gc];exact if_pos h
theorem Aax {c:UInt8} (h:c.toNat=37):c=37:=by
 have:=UInt8.toNat_inj.1 (show c.toNat=(37:UInt8).toNat from h)
 exact this
theorem drop_one {l:List UInt8} {i:Nat} {c:UInt8} (h:l[i]? =some c):l.drop i=c::l.drop (i+1):=by
 obtain ⟨hi,e⟩:=List.getElem?_eq_some_iff.1 h
 rw [← e];exact List.drop_eq_getElem_cons hi
theorem TI {o:List UInt8} {x:Option (List UInt8)} {c:UInt8}:(x.map (c::·)).map (o++·)=x.map ((o++[c])++·):=by
 cases x <;> simp
section
variable {W0:World} {m0:Inj Tp}
set_option maxHeartbeats 1000000 in
theorem wc9 {s:ByteArray} {A:AW} {K:Value→AW→Prop} (hl:s.data.toList.length < 50000000) (hf:AJ A) (hA:A.next+200+20 * s.data.toList.length < Al)
  (hY:∀ A' l,Grow A A' (30+12 * s.data.toList.length)→AY l=s.data.toList→K (.tuple ⟨[.string ⟨⟨l⟩⟩,.int .i64 0]⟩) A') (hN:∀ A',Grow A A' (30+12 * s.data.toList.length)→(∀ l,AY l≠s.data.toList)→K (.tuple ⟨[.string ⟨⟨[]⟩⟩,.int .i64 310]⟩) A'):
  Wc Tp Ai W0 m0 9 [.string s] A K:=by
 have hroom:room=68719476736:=rfl
 let I:Nat→Nat→List Value→AW→Prop:=fun g id vals A'=>id=0∧s.data.toList≠[37]∧∃ (i:Nat) (v:Value) (o:List UInt8) (F:List Nat),vals=[.string s,v,.int .i64 (i:Int)]∧i≤s.data.toList.length∧o.length≤i∧Buf 5 A' v o F∧(∀ x∈F,A.next≤x)∧
   Gc s.data.toList=(Gc (s.data.toList.drop i)).map (o++·)∧Grow A A' (2 * i)∧g=s.data.toList.length - i
 refine w9 _ _ (c9 (I:=I) ?_) ?_
 ·rintro g id vals A' d ⟨rfl,hne,i,v,o,F,rfl,hi,hoi,hB,hF,hdec,gr,rfl⟩ hd
  rw [AcW]
  simp only [L9,List.map_cons,List.map_nil,List.cons.injEq,and_true] at hd
  obtain ⟨d0,d4,d5⟩:=hd
  have nx:=gr.next
  have le:=gr.le
  simp only [d0,d4,d5,FQ,BD,Ad,Av]
  refine ⟨fun hlt=>?_,fun hge=>?_⟩
  ·have hlt:i < s.data.toList.length:=by omega
   have hp:=List.getElem?_eq_getElem hlt
   generalize hbb:s.data.toList[i]=c at hp
   have hdr:=drop_one hp
   have hi1:IntKind.i64.wrap ((i:Int)+1)=((i+1:Nat):Int):=wrap_i64 (by omega) (by omega)
   have hi2:IntKind.i64.wrap ((i:Int)+2)=((i+2:Nat):Int):=wrap_i64 (by omega) (by omega)
   have hi3:IntKind.i64.wrap (((i+2:Nat):Int)+1)=((i+3:Nat):Int):=wrap_i64 (by omega) (by omega)
   simp only [ix9 (k:=.i64) hp,Cm,AU,FD,hi1,hi2,hi3,Ad,BO,Av]
   refine ⟨fun hc=>?_,fun hc=>⟨fun hsh=>?_,fun hlg=>?_⟩⟩
   ·have hc:c.toNat≠37:=by omega
    refine Sz gr.AG (by omega) fun A2 m2=>?_
    have n2:=m2.next
    have k2:=m2.keeps gr.AG
    refine Gk E6 (hB.keeps k2 (by simp)) (Gg E6 (Made.rdB (c:=1) m2)) m2.AG (by omega) (by simp;omega) fun v' A3 F' v3 k3 hF3 n3 f3=>?_
    refine Aq.2 ⟨s.data.toList.length - (i+1),by omega,rfl,hne,i+1,v',o++[c],F',rfl,by omega,by simp;omega,v3,fun x hx=>?_,?_,⟨(gr.keeps.trans k2 (by simp)).trans k3 (fun x hx=>.inr (hF x hx)),f3,by omega⟩,rfl⟩
    ·rcases hF3 x hx with h | h
     ·exact hF x h
     ·omega
    ·rw [hdec,hdr,NY _ hc,TI]
   ·have hc:c.toNat=37:=by omega
    refine hN A' (gr.more (by omega)) (Tr hne ?_)
    rw [hdec,hdr,NX hc (by rw [List.length_drop];omega)];rfl
   ·have hc:c.toNat=37:=by omega
    have hc:=Aax hc
    subst hc
    have hp1:=List.getElem?_eq_getElem (show i+1 < s.data.toList.length by omega)
    generalize hx:s.data.toList[i+1]'(show i+1 < s.data.toList.length by omega)=x at hp1
    have hp2:=List.getElem?_eq_getElem (show i+2 < s.data.toList.length by omega)
    generalize hy:s.data.toList[i+2]'(show i+2 < s.data.toList.length by omega)=y at hp2
    have hdig:(Value.string ⟨⟨[48,49,50,51,52,53,54,55,56,57,97,98,99,100,101,102]⟩⟩)=.string Lv:=rfl
    rw [hdig]
    have bx:=NW x.toNat
    have by':=NW y.toNat
    have hsum:IntKind.i64.wrap (Cr x.toNat * 16+Cr y.toNat)=Cr x.toNat * 16+Cr y.toNat:=wrap_i64 (by omega) (by omega)
    have h8:IntKind.u8.wrap (Cr x.toNat * 16+Cr y.toNat)=((Md x y).toNat:Int):=by rw [wrap_u8,Vf]
    simp only [ix9 (k:=.i64) hp1,ix9 (k:=.i64) hp2,Ad]
    refine Aah ?_
    simp only [Am,AaG,Ad]
    refine Aah ?_
    simp only [Am,AU,Ad,hsum,WJ,h8,Bi]
    refine Sz gr.AG (by omega) fun A2 m2=>?_
    have n2:=m2.next
    have k2:=m2.keeps gr.AG
    refine UK m2.row ?_
    refine Gk E6 (hB.keeps k2 (by simp)) (Gg E6 (Made.rdB (c:=1) m2)) m2.AG (by omega) (by simp;omega) fun v' A3 F' v3 k3 hF3 n3 f3=>?_
    refine Aq.2 ⟨s.data.toList.length - (i+3),by omega,rfl,hne,i+3,v',o++[Md x y],F',rfl,by omega,by simp;omega,v3,fun z hz=>?_,?_,⟨(gr.keeps.trans k2 (by simp)).trans k3 (fun x hx=>.inr (hF x hx)),f3,by omega⟩,rfl⟩
    ·rcases hF3 z hz with h | h
     ·exact hF z h
     ·omega
    ·rw [hdec,hdr,drop_one hp1,drop_one hp2,RE,TI]
  ·have hil:i=s.data.toList.length:=by omega
   have hdo:Gc s.data.toList=some o:=by
    rw [hdec,hil,List.drop_length,Gc];simp
   rw [hB.rd.str E6]
   refine Bi.2 ?_
   refine wc8 (by show o.length < _;omega) gr.AG (by show A'.next+100+10 * o.length < _;omega) fun A2 g2=>?_
   have n2:A2.next≤A'.next+(20+10 * o.length):=g2.next
   rw [Ed]
   simp only [Ad]
   have G2:Grow A A2 (30+12 * s.data.toList.length):=(gr.trans g2).more (by show 2 * i+(20+10 * o.length)≤_;omega)
   refine Ak.2 ⟨fun h=>?_,fun h=>?_⟩
   ·have h2:AY o≠s.data.toList:=by simpa using h
    exact hN A2 G2 (YJ hne hdo h2)
   ·have h2:AY o=s.data.toList:=by simpa using h
    rw [(hB.keeps g2.keeps (by simp)).rd.str E6]
    exact Bi.2 (hY A2 o G2 h2)
 ·rw [e9,B4]
  simp only [Ad]
  refine Ak.2 ⟨fun h=>?_,fun h=>?_⟩
  ·have h0:s.data.toList=[37]:=by simpa using h
   exact hY A [] ((Grow.refl hf).more (by omega)) (by rw [h0];rfl)
  ·have h0:s.data.toList≠[37]:=by simpa using h
   exact Aq.2 ⟨s.data.toList.length,rfl,h0,0,.slice none 0 0,[],[],rfl,by omega,by simp,.nil _ _,by simp,by simp,(Grow.refl hf).more (by omega),rfl⟩
end
def Tl (w u:List UInt8) (e:Int):Prop:=(AY u=w∧e=0)∨((∀ l,AY l≠w)∧u=[]∧e=310)
theorem Xc (w:List UInt8):∃ u e,Tl w u e:=by
 by_cases h:∃ l,AY l=w
 ·obtain ⟨l,hl⟩:=h
  exact ⟨l,0,.inl ⟨hl,rfl⟩⟩
 ·exact ⟨[],310,.inr ⟨fun l hl=>h ⟨l,hl⟩,rfl,rfl⟩⟩
section
variable {W0:World} {m0:Inj Tp}
theorem PS (hhd:KC.Holds Tp W0 m0 ⟨7,[],[.bool true]⟩) (A':AW) {K:Value→AW→Prop} (hk:K (.bool true) A'):knW Tp W0 m0 7 [] A' K:=.inl ⟨[.bool true],by decide,hhd,rfl,fun v hv=>by
 obtain rfl:v=.bool true:=by simpa using hv
 exact hk⟩
theorem AbS {s:ByteArray} {u:List UInt8} {e:Int} {A:AW} {K:Value→AW→Prop} (hw:Tl s.data.toList u e) (hl:s.data.toList.length < 50000000) (hf:AJ A) (hA:A.next+200+20 * s.data.toList.length < Al)
  (hk:∀ A',Grow A A' (30+12 * s.data.toList.length)→K (.tuple ⟨[.string ⟨⟨u⟩⟩,.int .i64 e]⟩) A'):Wc Tp Ai W0 m0 9 [.string s] A K:=by
 refine wc9 hl hf hA (fun A' l g h=>?_) fun A' g h=>?_
 ·rcases hw with ⟨h1,rfl⟩ | ⟨h1,_⟩
  ·rw [Nf (h.trans h1.symm)];exact hk A' g
  ·exact absurd h (h1 l)
 ·rcases hw with ⟨h1,_⟩ | ⟨_,rfl,rfl⟩
  ·exact absurd h1 (h u)
  ·exact hk A' g
end
def TW (w:Word) (s:Word) (bad:Bool):Prop:=s.length≤w.length∧∀ l,w=AY l→s=l∧bad=false
theorem WA (b:UInt8):1≤(IT b).length:=by
 unfold IT
 split <;> simp
theorem Wg (l:List UInt8):l.length≤(DB l).length:=by
 induction l with
 | nil=>simp
 | cons b l ih=>
  have:=WA b
  rw [show DB (b::l)=IT b++DB l from by simp [DB],List.length_append,List.length_cons]
  omega
theorem Fl (l:List UInt8):l.length≤(AY l).length:=by
 unfold AY
 split
 ·rename_i h;rw [h];simp
 ·exact Wg l
theorem Tq {w u:List UInt8} {e:Int} (h:Tl w u e):TW w u (e != 0):=by
 constructor
 ·rcases h with ⟨h1,_⟩ | ⟨_,rfl,_⟩
  ·rw [← h1];exact Fl u
  ·simp
 ·rintro l rfl
  rcases h with ⟨h1,rfl⟩ | ⟨h1,_⟩
  ·exact ⟨Nf h1,rfl⟩
  ·exact absurd rfl (h1 l)
section
variable {W0:World} {m0:Inj Tp}
theorem Kf {q:Nat} {ws:List ByteArray} {bad:Bool} {F:List Nat} {A:AW} {K:Value→AW→Prop} (h:TK A q ws bad F) (hs:DT ws) (hf:AJ A) (hA:A.next+20 * BY ws+300 < Al)
  (hk:∀ A' w r b u b',AK ws bad w r b→TW (bl w) u b'→TK A' q r (b || b') F→Aw A A' [q]→A'.next≤A.next+30+12 * (bl w).length→AJ A'→K (.string ⟨⟨u⟩⟩) A'):Wc Tp Ai W0 m0 71 [.pointer (some ⟨q,0,none⟩)] A K:=by
 have hn:Ca (.pointer (some ⟨q,0,none⟩))=some (.pointer (some ⟨q,0,none⟩)):=rfl
 have f1:Ac Tp 96 (.pointer (some ⟨q,0,none⟩)) 1=some (.pointer (some ⟨q,1,none⟩)):=E2 q 0
 refine w71 _ _ (At (S:=fun _ _ _=>False) fun _ _ _ h=>h) ?_
 rw [e71]
 refine Kg h hf (by omega) fun A1 w r b ht h1 k1 n1 fn1=>?_
 have hsh:w.data.toList.length < 50000000:=(AK.short ht hs).1
 have hlb:(bl w).length=w.data.toList.length:=rfl
 have hlw:w.data.toList.length+BY r≤BY ws:=(AK.sum ht).1
 obtain ⟨u,e,hw⟩:=Xc w.data.toList
 refine AbS hw (by omega) fn1 (by omega) fun A2 g2=>?_
 have n2:=g2.next
 have h2:=h1.keeps g2.keeps (by simp) (by simp)
 have K2:Aw A A2 [q]:=k1.trans (g2.keeps.more (T:=[q]) (by simp)) fun x hx=>.inl hx
 refine Aa Eb (Aa Ea (Aa hn (Aa f1 (Aa h2.bad (Ak.2 ⟨fun hb=>?_,fun hb=>?_⟩)))))
 ·refine Aa hn (Aa f1 (h2.mark g2.AG (by omega) fun A3 h3 k3 n3 f3=>?_))
  exact hk A3 w r b u _ ht (Tq hw) (by rw [hb];exact h3) (K2.trans k3 fun x hx=>.inl hx) (by omega) f3
 ·refine Aa Cm (Aa hn (Aa f1 (h2.mark g2.AG (by omega) fun A3 h3 k3 n3 f3=>?_)))
  exact hk A3 w r b u _ ht (Tq hw) (by rw [hb];exact h3) (K2.trans k3 fun x hx=>.inl hx) (by omega) f3
end
theorem RdW.toT {A:AW} {v:Value} {ws:List ByteArray} {F:List Nat} (h:RdW A v ws F):RdT A v ws F:=by
 obtain ⟨r,o,c,cs,g,b,ro,h1,_,_,h4,h5,h6,h7⟩:=h
 exact ⟨r,o,c,cs,9,g,b,ro,h1,h4,h5,h6,h7⟩
def GP (w:ByteArray) (ws:List ByteArray) (i:Nat):Int:=if h:i < ws.length then (if bl w==bl ws[i] then (i:Int) else GP w ws (i+1)) else -1
termination_by ws.length - i
section
variable {W0:World} {m0:Inj Tp}
theorem Aao {v:Value} {ws:List ByteArray} {F:List Nat} {w:ByteArray} {A:AW} {K:Value→AW→Prop} (h:RdT A v ws F) (hl:ws.length < 1000000000) (hk:K (.int .i64 (GP w ws 0)) A):Wc Tp Ai W0 m0 115 [v,.string w] A K:=by
 let I:Nat→Nat→List Value→AW→Prop:=fun g id vals A'=>id=0∧∃ i:Nat,vals=[v,.string w,.int .i64 (ws.length:Int),.int .i64 (i:Int)]∧i≤ws.length∧A'=A∧GP w ws i=GP w ws 0∧g=ws.length - i
 refine Acx _ _ _ (Ado (I:=I) ?_) ?_
 ·rintro g id vals A' d ⟨rfl,i,rfl,hi,rfl,he,rfl⟩ hd
  rw [Zx]
  simp only [W5,List.map_cons,List.map_nil,List.cons.injEq,and_true] at hd
  obtain ⟨d0,d1,d7,d8⟩:=hd
  simp only [d0,d1,d7,d8,BD,Ad,Av]
  refine ⟨fun hlt=>?_,fun hge=>?_⟩
  ·have hlt:i < ws.length:=by omega
   have hp:=List.getElem?_eq_getElem hlt
   obtain ⟨a,a1,a2⟩:=h.at (k:=.i64) hp
   have e:GP w ws i=if bl w==bl ws[i] then (i:Int) else GP w ws (i+1):=by
    rw [GP,dif_pos hlt]
   have a3:Au Tp A' 9 (.pointer (some a))=some (.string ws[i]):=by rw [FH];exact a2
   refine Aa a1 (Aa a3 (Aa B4 (Ak.2 ⟨fun hb=>?_,fun hb=>?_⟩)))
   ·rw [if_pos hb] at e
    rw [← he,e] at hk
    exact hk
   ·rw [if_neg (by rw [hb];decide)] at e
    have e2:IntKind.i64.wrap ((i:Int)+1)=((i+1:Nat):Int):=wrap_i64 (by omega) (by omega)
    simp only [AU,Ad,e2]
    exact Aq.2 ⟨ws.length - (i+1),by omega,rfl,i+1,rfl,by omega,rfl,by rw [← he,e],rfl⟩
  ·have e:GP w ws i= -1:=by rw [GP,dif_neg (by omega)]
   rw [← he,e] at hk
   exact hk
 ·rw [ZG]
  exact Aa h.len (Aq.2 ⟨ws.length,rfl,0,rfl,by omega,rfl,rfl,by simp⟩)
end
theorem Adw (xo yo:Operand):∀ i:Int,(i= -1∨i=0∨i=1∨i=2∨i=3)→∃ r:Int,Ag Tp .and 3 xo yo (.int .i64 i) (.int .i64 1)=some (.int .i64 r)∧(r==1)=(i== -1 || (i==1 || i==3)):=by
 rintro i (rfl | rfl | rfl | rfl | rfl)
 ·exact ⟨1,by kernel_rfl,rfl⟩
 ·exact ⟨0,by kernel_rfl,rfl⟩
 ·exact ⟨1,by kernel_rfl,rfl⟩
 ·exact ⟨0,by kernel_rfl,rfl⟩
 ·exact ⟨1,by kernel_rfl,rfl⟩
theorem SJ (w:ByteArray) (ws:List ByteArray) (i:Nat):GP w ws i= -1∨((i:Int)≤GP w ws i∧GP w ws i < (ws.length:Int)):=by
 fun_induction GP w ws i with
 | case1 i h hb=>exact .inr ⟨by omega,by omega⟩
 | case2 i h hb ih=>
  rcases ih with h1 | h1
  ·exact .inl h1
  ·exact .inr ⟨by omega,h1.2⟩
 | case3 i h=>exact .inl rfl
section
variable {W0:World} {m0:Inj Tp}
theorem Z0 {q:Nat} {ws:List ByteArray} {bad:Bool} {F G:List Nat} {v:Value} {ys:List ByteArray} {A:AW} {K:Value→AW→Prop} (h:TK A q ws bad F) (hy:RdT A v ys G) (hy4:ys.length=4) (hqG:q∉G) (hf:AJ A) (hA:A.next≤Al)
  (hk:∀ A' w r b,AK ws bad w r b→TK A' q r b F→Aw A A' [q]→A'.next=A.next→AJ A'→K (.tuple ⟨[.bool (GP w ys 0== -1 || (GP w ys 0==1 || GP w ys 0==3)),.bool (decide (2≤GP w ys 0))]⟩) A'):Wc Tp Ai W0 m0 98 [.pointer (some ⟨q,0,none⟩),v] A K:=by
 refine w98 _ _ _ (At (S:=fun _ _ _=>False) fun _ _ _ h=>h) ?_
 rw [e98]
 refine Kg h hf hA fun A1 w r b ht h1 k1 n1 f1=>?_
 refine Aao (hy.keeps k1 fun x hx hq=>by rw [List.mem_singleton.1 hq] at hx;exact hqG hx) (by omega) ?_
 have hr:=SJ w ys 0
 obtain ⟨x,e1,e2⟩:=Adw (.tmp 3) (.const (.int .i64 1)) (GP w ys 0) (by omega)
 have hk:=hk A1 w r b ht h1 k1 n1 f1
 rw [← e2] at hk
 refine Aa ?_ (Aa Ah (Aa FD hk))
 exact e1
end
theorem AcO (s:ByteArray) (c:Int):quiet Tp (callFunc 108 ⟨[.string s,.int .u8 c]⟩)=some (.value (goInt (s.foldl (fun n x=>if x==c.toNat.toUInt8 then n+1 else n) (0:Nat)))):=by kernel_rfl
theorem q82 (s:ByteArray) (c:Int):quiet Tp (callFunc 82 ⟨[.string s,.int .u8 c]⟩)=quiet Tp ((Extern.BytealgIndexByte.indexByte #[.string s,.int .u8 c]) >>=fun v=>pure (Next.value v)):=by kernel_rfl
theorem AcN (s:ByteArray) (c:Int):∃ v,quiet Tp (Extern.BytealgIndexByte.indexByte #[.string s,.int .u8 c])=some v:=by
 show ∃ v,quiet Tp (match (List.range s.size).find? (fun i=>s[i]! ==c.toNat.toUInt8) with | some i=>pure (goInt i) | none=>pure (goInt (-1)))=some v
 cases (List.range s.size).find? (fun i=>s[i]! ==c.toNat.toUInt8) with
 | some i=>exact ⟨_,rfl⟩
 | none=>exact ⟨_,rfl⟩
theorem AcM (s:ByteArray) (c:UInt8):quiet Tp (callFunc 108 ⟨[.string s,.int .u8 (c.toNat:Int)]⟩)=some (.value (.int .i64 (Lib.countByte (bl s) c:Nat))):=by
 rw [AcO,Lib.foldl_data,Lib.count_foldl]
 have hcc:((c.toNat:Int)).toNat.toUInt8=c:=by simp
 rw [hcc]
 simp [goInt]
theorem r82 (s:ByteArray) (c:UInt8):quiet Tp (callFunc 82 ⟨[.string s,.int .u8 (c.toNat:Int)]⟩)=some (.value (.int .i64 (Lib.indexByte (bl s) c))):=by
 obtain ⟨v,hv⟩:=AcN s (c.toNat:Int)
 rw [q82,LP,hv]
 have h1:=EH (P:=Tp) _ hv default
 rw [Lib.run_indexByteString] at h1
 have hcc:((c.toNat:Int)).toNat.toUInt8=c:=by simp
 rw [hcc] at h1
 cases h1
 rfl
theorem AbJ (A:AW) (s:ByteArray) (c:UInt8):BJ Tp Ai A 108 [.string s,.int .u8 (c.toNat:Int)]=.ok (.value (.int .i64 (Lib.countByte (bl s) c:Nat))) A:=by
 have hb:F7 Tp 108=false:=by kernel_rfl
 have hc:([Value.string s,.int .u8 (c.toNat:Int)].all (AB 4))=true:=rfl
 unfold BJ
 simp only [hb,cond_false,Ai,Ew,hc,cond_true,AcM]
 rfl
theorem Adn (A:AW) (s:ByteArray) (c:UInt8):BJ Tp Ai A 82 [.string s,.int .u8 (c.toNat:Int)]=.ok (.value (.int .i64 (Lib.indexByte (bl s) c))) A:=by
 have hb:F7 Tp 82=false:=by kernel_rfl
 have hc:([Value.string s,.int .u8 (c.toNat:Int)].all (AB 4))=true:=rfl
 unfold BJ
 simp only [hb,cond_false,Ai,Ew,hc,cond_true,r82]
 rfl
def Bs (c:UInt8):List UInt8→List Word
 | []=>[[]]
 | b::l=>if b==c then []::Bs c l else match Bs c l with
  | []=>[[b]]
  | w::r=>(b::w)::r
theorem I9 (c:UInt8):∀ l:List UInt8,Bs c l≠[]
 | []=>by simp [Bs]
 | b::l=>by
  unfold Bs
  split
  ·simp
  ·split <;> simp
theorem M4 (c:UInt8):∀ l:List UInt8,(Bs c l).length=Lib.countByte l c+1
 | []=>rfl
 | b::l=>by
  have ih:=M4 c l
  have hne:=I9 c l
  unfold Lib.countByte at *
  unfold Bs
  rw [List.count_cons]
  by_cases hb:(b==c)=true
  ·rw [if_pos hb,if_pos hb,List.length_cons,ih]
  ·rw [if_neg hb,if_neg hb]
   cases hs:Bs c l with
   | nil=>exact absurd hs hne
   | cons w r=>rw [hs] at ih;simpa using ih
theorem GU (c:UInt8):∀ l:List UInt8,Lib.indexByte l c= -1→Bs c l=[l]
 | [],_=>rfl
 | b::l,h=>by
  unfold Lib.indexByte at h
  unfold Bs
  by_cases hb:(b==c)=true
  ·rw [if_pos hb] at h;omega
  ·rw [if_neg hb] at h ⊢
   by_cases h1:(Lib.indexByte l c== -1)=true
   ·rw [GU c l (by simpa using h1)]
   ·rw [if_neg h1] at h
    have:=Lib.indexByte_ge l c
    have h2:Lib.indexByte l c≠-1:=by simpa using h1
    omega
theorem GS (c:UInt8):∀ (l:List UInt8) (i:Nat),Lib.indexByte l c=(i:Int)→Bs c l=l.take i::Bs c (l.drop (i+1))∧i < l.length
 | [],i,h=>by
  have h:(-1:Int)=(i:Int):=h
  omega
 | b::l,i,h=>by
  unfold Lib.indexByte at h
  by_cases hb:(b==c)=true
  ·rw [if_pos hb] at h
   obtain rfl:i=0:=by omega
   refine ⟨?_,by simp⟩
   rw [Bs,if_pos hb]
   rfl
  ·rw [if_neg hb] at h
   by_cases h1:(Lib.indexByte l c== -1)=true
   ·rw [if_pos h1] at h;omega
   ·rw [if_neg h1] at h
    have hj0:=Lib.indexByte_ge l c
    have hj2:Lib.indexByte l c≠-1:=by simpa using h1
    obtain ⟨j,rfl⟩:∃ j,i=j+1:=⟨i - 1,by omega⟩
    obtain ⟨e,hlt⟩:=GS c l j (by omega)
    refine ⟨?_,by simp;omega⟩
    rw [Bs,if_neg hb,e]
    rfl
def txt (w:Word):ByteArray:=⟨⟨w⟩⟩
theorem C8 (w:Word):bl (txt w)=w:=rfl
theorem Hi (s:ByteArray):txt (bl s)=s:=Fg rfl
theorem HW (A:AW) (a:Addr) (v:Value):AZ Tp A 9 (.pointer (some a)) v=(bif Nat.beq v.cells.toList.length 1 then A.setCells a v.cells.toList else none):=by kernel_rfl
def EZ (c:UInt8) (l:Word):List ByteArray:=(Bs c l).map txt
theorem count_le (c:UInt8) (l:Word):Lib.countByte l c≤l.length:=List.count_le_length
theorem AaD {A:AW} {s:ByteArray} {h:Nat} {k:IntKind} (h2:h≤(bl s).length):BM Tp A 9 (.string s) none (some (.int k (h:Int))) none=some (.string (txt ((bl s).take h))):=by
 have h2:h≤s.data.toList.length:=h2
 show BM Tp A 9 (.string s) none (some (.int k (.ofNat h))) none=_
 unfold BM
 simp only [Vw,bounds,IF,E8,Option.isSome_some,Option.isSome_none,Bool.true_or,cond_true,Bo.2 h2]
 rfl
theorem Zd {A:AW} {s:ByteArray} {l:Nat} {k:IntKind} (h2:l≤(bl s).length):BM Tp A 9 (.string s) (some (.int k (l:Int))) none none=some (.string (txt ((bl s).drop l))):=by
 have h2:l≤s.data.toList.length:=h2
 show BM Tp A 9 (.string s) (some (.int k (.ofNat l))) none none=_
 unfold BM
 simp only [Vw,bounds,IF,E8,Option.isSome_none,Bool.not_false,Bool.or_true,cond_true,Bo.2 h2]
 rw [List.take_length]
 rfl
theorem zt9:FO Tp 9 1=fun c=>(bif Nat.beq (c * 1) 0 then some [] else some (D5 [.string .empty] c)):=by kernel_rfl
theorem AcL:BF Tp 56=some 9:=by kernel_rfl
theorem by9:Ft Tp 9=some 16:=by kernel_rfl
theorem Ua (c:Nat):FO Tp 9 1 c=some (List.replicate c (.string .empty)):=by
 rw [zt9]
 cases c with
 | zero=>rfl
 | succ c=>
  have:Nat.beq ((c+1) * 1) 0=false:=beq_false.2 (by omega)
  simp only [this,cond_false,JO]
theorem Wd {A:AW} {n:Nat} {K:Value→AW→Prop} (hf:AJ A) (hmax:A.next < Al) (hc:n < 1000000000)
  (hk:∀ A',Made A A' (List.replicate n (.string .empty)) 9→K (.slice (some ⟨A.next,0,none⟩) n n) A'):Ap (Cq Tp A 56 (.int .i64 (n:Int)) (.int .i64 (n:Int))) K:=by
 have hroom:room=68719476736:=rfl
 have hnr:A.newRow (List.replicate n (.string .empty)) 9=some (⟨A.next,0,none⟩,A.push (.row (List.replicate n (.string .empty)) 9 A.next 0 false)):=by
  unfold AW.newRow AW.new
  have:(List.replicate n (Value.string .empty)).all AL=true:=by
   rw [List.all_eq_true];intro x hx;rw [List.eq_of_mem_replicate hx];rfl
  simp only [this,cond_true,AA.2 hmax]
  rfl
 have e:Cq Tp A 56 (.int .i64 (n:Int)) (.int .i64 (n:Int))=.ok (.slice (some ⟨A.next,0,none⟩) n n) (A.push (.row (List.replicate n (.string .empty)) 9 A.next 0 false)):=by
  show Cq Tp A 56 (.int .i64 (.ofNat n)) (.int .i64 (.ofNat n))=_
  unfold Cq
  simp only [AcL,sz9,by9,Bo.2 (Nat.le_refl n),AA.2 (show n < room by omega),AA.2 (show n * 16 < room by omega),Bool.and_self,cond_true,Ua,hnr]
 rw [e]
 exact Bi.2 (hk _ ⟨AW.Df _ hmax,rfl,by rw [AW.Cz _ hmax,if_pos rfl],hf.alone (Nat.le_refl _),hf.push _ hmax⟩)
theorem M3 {c:UInt8} {l:Word} (h:(Bs c l).length=1):Bs c l=[l]:=by
 refine GU c l ?_
 rcases Int.lt_or_le (Lib.indexByte l c) 0 with h1 | h1
 ·have:=Lib.indexByte_ge l c;omega
 ·obtain ⟨i,hi⟩:∃ i:Nat,Lib.indexByte l c=(i:Int):=⟨(Lib.indexByte l c).toNat,by omega⟩
  obtain ⟨e,_⟩:=GS c l i hi
  rw [e,List.length_cons] at h
  have:=I9 c (l.drop (i+1))
  cases hx:Bs c (l.drop (i+1)) with
  | nil=>exact absurd hx this
  | cons a r=>rw [hx] at h;simp at h
section
variable {W0:World} {m0:Inj Tp}
theorem Z9 {s:ByteArray} {c:UInt8} {A:AW} {K:Value→AW→Prop} (hk:K (.int .i64 (Lib.indexByte (bl s) c)) A):Wc Tp Ai W0 m0 52 [.string s,.int .u8 (c.toNat:Int)] A K:=by
 refine w52 _ _ _ (At (S:=fun _ _ _=>False) fun _ _ _ h=>h) ?_
 rw [e52]
 exact .inl ⟨_,_,Adn A s c,hk⟩
theorem Yb {s:ByteArray} {c:UInt8} {A:AW} {K:Value→AW→Prop} (hk:K (.int .i64 (Lib.indexByte (bl s) c)) A):Wc Tp Ai W0 m0 109 [.string s,.string (txt [c])] A K:=by
 refine AcC _ _ _ (At (S:=fun _ _ _=>False) fun _ _ _ h=>h) ?_
 rw [ZH]
 have l1:Bm Tp A 9 (.string (txt [c]))=some (.int .i64 ((1:Nat):Int)):=FQ A (txt [c])
 refine Aa l1 (Aa Ah (Ae.2 ⟨fun h=>absurd h (by decide),fun _=>?_⟩))
 refine Aa B4 (Ak.2 ⟨fun h=>?_,fun _=>?_⟩)
 ·have h:[c]=bl s:=eq_of_beq h
  rw [← h] at hk
  have e:Lib.indexByte [c] c=0:=by simp [Lib.indexByte]
  rw [e] at hk
  exact hk
 ·refine Aa Ah (Ae.2 ⟨fun _=>?_,fun h=>absurd rfl h⟩)
  have hx:BK Tp 9 (.string (txt [c])) (.int .i64 0)=some (.int .u8 (c.toNat:Int)):=ix9 (s:=txt [c]) (i:=0) (k:=.i64) rfl
  exact Aa hx (Z9 hk)
theorem AbW {s:ByteArray} {c:UInt8} {A:AW} {K:Value→AW→Prop} (hk:K (.int .i64 (Lib.indexByte (bl s) c)) A):Wc Tp Ai W0 m0 92 [.string s,.string (txt [c])] A K:=by
 refine w92 _ _ _ (At (S:=fun _ _ _=>False) fun _ _ _ h=>h) ?_
 rw [e92]
 exact Yb hk
theorem AbX {s:ByteArray} {c:UInt8} {A:AW} {K:Value→AW→Prop} (hk:K (.int .i64 (Lib.countByte (bl s) c:Nat)) A):Wc Tp Ai W0 m0 91 [.string s,.string (txt [c])] A K:=by
 refine w91 _ _ _ (At (S:=fun _ _ _=>False) fun _ _ _ h=>h) ?_
 rw [e91]
 have l1:Bm Tp A 9 (.string (txt [c]))=some (.int .i64 ((1:Nat):Int)):=FQ A (txt [c])
 refine Aa l1 (Aa Ah (Ae.2 ⟨fun h=>absurd h (by decide),fun _=>?_⟩))
 refine Aa l1 (Aa Ah (Ae.2 ⟨fun _=>?_,fun h=>absurd rfl h⟩))
 have hx:BK Tp 9 (.string (txt [c])) (.int .i64 0)=some (.int .u8 (c.toNat:Int)):=ix9 (s:=txt [c]) (i:=0) (k:=.i64) rfl
 exact Aa hx (.inl ⟨_,_,AbJ A s c,hk⟩)
theorem AaE {A:AW} {b n i:Nat} (hi:i≤n) (hn:n < 1000000000):BM Tp A 56 (.slice (some ⟨b,0,none⟩) n n) none (some (.int .i64 (i:Int))) none=some (.slice (bif Nat.beq n 0 then some ⟨b,0,none⟩ else Ky (some ⟨b,0,none⟩) (0 * 1)) i n):=by
 have hcap:Bu=18446744073709551616:=rfl
 show BM Tp A 56 (.slice (some ⟨b,0,none⟩) n n) none (some (.int .i64 (.ofNat i))) none=_
 unfold BM
 simp only [YX,sz9,BU.2 (show n < Bu by omega),cond_false,bounds,IF,E8,Bo.2 hi,Option.isSome_some,Option.isSome_none,Bool.not_false,Bool.true_or,cond_true,Nat.sub_zero]
theorem Aad {s:ByteArray} {c:UInt8} {A:AW} {K:Value→AW→Prop} (hl:(bl s).length < 900000000) (hf:AJ A) (hA:A.next+5 < Al)
  (hk:∀ A' v,RdW A' v (EZ c (bl s)) [A.next]→Grow A A' 1→K v A'):Wc Tp Ai W0 m0 37 [.string s,.string (txt [c])] A K:=by
 have hcap:Bu=18446744073709551616:=rfl
 refine w37 _ _ _ (At (S:=fun _ _ _=>False) fun _ _ _ h=>h) ?_
 rw [e37]
 have hcnt:=count_le c (bl s)
 let n:=Lib.countByte (bl s) c
 have hn:n=Lib.countByte (bl s) c:=rfl
 let I:Nat→Nat→List Value→AW→Prop:=fun g id vals A'=>id=0∧∃ (i:Nat) (cur:Word) (ds:List Word),vals=[.string (txt cur),.string (txt [c]),.int .i64 0,.int .i64 (n:Int),.slice (some ⟨A.next,0,none⟩) (n+1) (n+1),.int .i64 (i:Int)]∧
  ds.length=i∧Bs c (bl s)=ds++Bs c cur∧cur.length≤(bl s).length∧Go.Abs.AQ A' A.next (ds.map (fun w=>Value.string (txt w))++List.replicate (n+1 - i) (.string .empty)) 9∧Grow A A' 1∧g=n - i
 have hlen:(Bs c (bl s)).length=n+1:=M4 c (bl s)
 refine w63 _ _ _ _ _ (c63 (I:=I) ?_) ?_
 ·rintro g id vals A' d ⟨rfl,i,cur,ds,rfl,hi,hs,hcl,r,gr,rfl⟩ hd
  rw [Aa4]
  simp only [L63,List.map_cons,List.map_nil,List.cons.injEq,and_true] at hd
  obtain ⟨d0,d1,d2,d3,d9,d10⟩:=hd
  simp only [d0,d1,d2,d3,d9,d10]
  have nx:=gr.next
  have le:=gr.le
  have hcn:=I9 c cur
  have hln:ds.length+(Bs c cur).length=n+1:=by rw [← hlen,hs,List.length_append]
  have hlc:1≤(Bs c cur).length:=by cases hx:Bs c cur with | nil=>exact absurd hx hcn | cons=>simp
  have hin:i≤n:=by omega
  have hia:Ao Tp 56 (.slice (some ⟨A.next,0,none⟩) (n+1) (n+1)) (.int .i64 (i:Int))=some (.pointer (some ⟨A.next,i,none⟩)):=by
   have:=Wp A.next 0 (n+1) (n+1) i .i64
   rw [AA.2 (by omega),cond_true,Nat.mul_one] at this
   have e:EC ⟨A.next,0,none⟩ i=⟨A.next,i,none⟩:=by
    show (bif Nat.beq i 0 then (⟨A.next,0,none⟩:Addr) else ⟨A.next,0+i,none⟩)=_
    cases hb:Nat.beq i 0 with
    | true=>rw [cond_true,Nat.eq_of_beq_eq_true hb]
    | false=>rw [cond_false,Nat.zero_add]
   rw [e] at this
   exact this
  have hi1:IntKind.i64.wrap ((i:Int)+1)=((i+1:Nat):Int):=wrap_i64 (by omega) (by omega)
  have hput:∀ w:Word,Ip (ds.map (fun w=>Value.string (txt w))++List.replicate (n+1 - i) (.string .empty)) i [.string (txt w)]=(ds++[w]).map (fun w=>Value.string (txt w))++List.replicate (n+1 - (i+1)) (.string .empty):=fun w=>by
   have e:List.replicate (n+1 - i) (Value.string .empty)=[.string .empty]++List.replicate (n+1 - (i+1)) (.string .empty):=by
    rw [show n+1 - i=(n+1 - (i+1))+1 by omega,List.replicate_succ];rfl
   have:=HC (ds.map (fun w=>Value.string (txt w))) [.string .empty] [.string (txt w)] (List.replicate (n+1 - (i+1)) (.string .empty)) rfl
   rw [List.length_map,hi] at this
   rw [e,this]
   simp
  have last:∀ {A2:AW},Bs c cur=[cur]→i=n→Go.Abs.AQ A2 A.next ((ds++[cur]).map (fun w=>Value.string (txt w))++List.replicate (n+1 - (i+1)) (.string .empty)) 9→Grow A A2 1→
    Ab (BM Tp A2 56 (.slice (some ⟨A.next,0,none⟩) (n+1) (n+1)) none (some (.int .i64 ((i+1:Nat):Int))) none) fun t6=>K t6 A2:=fun {A2} h1 h2 r2 g2=>by
   subst h2
   refine Aa (AaE (by omega) (by omega)) ?_
   have hp:EZ c (bl s)=(ds++[cur]).map txt:=by unfold EZ;rw [hs,h1]
   refine hk A2 _ ?_ g2
   refine ⟨A.next,0,n+1,_,A.next,0,false,?_,by rw [hp,List.length_map,List.length_append,hi];simp,by omega,r2.row,r2.lt,rfl,fun j p hp'=>?_⟩
   ·have e0:(bif Nat.beq (n+1) 0 then (some ⟨A.next,0,none⟩:Option Addr) else Ky (some ⟨A.next,0,none⟩) (0 * 1))=some ⟨A.next,0,none⟩:=rfl
    rw [e0,hp,List.length_map,List.length_append,hi];rfl
   ·rw [hp] at hp'
    rw [Nat.zero_add]
    have hj:=(List.getElem?_eq_some_iff.1 hp').1
    rw [List.getElem?_append_left (by simpa using hj)]
    rw [List.getElem?_map] at hp' ⊢
    cases hx:(ds++[cur])[j]? with
    | none=>rw [hx] at hp';cases hp'
    | some w=>rw [hx] at hp';simp at hp';subst hp';rfl
  have stop:Bs c cur=[cur]→i=n→Bp (AZ Tp A' 9 (.pointer (some ⟨A.next,i,none⟩)) (.string (txt cur))) fun At4=>Ab (Ag Tp .add 3 (.tmp 63) (.const (.int .i64 1)) (.int .i64 (i:Int)) (.int .i64 1)) fun t5=>Ab (BM Tp At4 56 (.slice (some ⟨A.next,0,none⟩) (n+1) (n+1)) none (some t5) none) fun t6=>K t6 At4:=fun h1 h2=>by
   refine Go.Abs.AQ.store (n:=1) (off:=i) (v:=.string (txt cur)) r gr.AG (by omega) (HW _ _ _) rfl (by simp;omega) rfl fun A2 r2 k2 n2 f2=>?_
   have r2:Go.Abs.AQ A2 A.next (Ip _ i [.string (txt cur)]) 9:=r2
   rw [hput cur] at r2
   refine Aa AU ?_
   rw [hi1]
   exact last h1 h2 r2 ((gr.own k2 (fun x hx=>by rw [List.mem_singleton.1 hx];exact Nat.le_refl _) (m:=0) (by omega) f2).more (by omega))
  refine Aa BD (Av.2 ⟨fun hlt=>?_,fun hge=>?_⟩)
  ·have hlt:i < n:=by omega
   refine AbW ?_
   have hge:=Lib.indexByte_ge cur c
   refine Aa BD (Av.2 ⟨fun h=>?_,fun h=>?_⟩)
   ·have h:Lib.indexByte cur c < 0:=h
    have e:=GU c cur (by omega)
    rw [e] at hln
    simp at hln
    omega
   ·have h:¬ Lib.indexByte cur c < 0:=h
    obtain ⟨m,hm⟩:∃ m:Nat,Lib.indexByte cur c=(m:Int):=⟨(Lib.indexByte cur c).toNat,by omega⟩
    obtain ⟨e,hml⟩:=GS c cur m hm
    have hm':Lib.indexByte (bl (txt cur)) c=(m:Int):=hm
    rw [hm']
    refine Aa AU ?_
    rw [show IntKind.i64.wrap ((m:Int)+0)=(m:Int) by rw [wrap_i64 (by omega) (by omega)];omega]
    refine Aa (AaD (s:=txt cur) (show m≤cur.length by omega)) (Aa hia ?_)
    refine Go.Abs.AQ.store (n:=1) (off:=i) (v:=.string (txt (cur.take m))) r gr.AG (by omega) (HW _ _ _) rfl (by simp;omega) rfl fun A2 r2 k2 n2 f2=>?_
    have r2:Go.Abs.AQ A2 A.next (Ip _ i [.string (txt (cur.take m))]) 9:=r2
    rw [hput (cur.take m)] at r2
    refine Aa (FQ _ _) (Aa AU ?_)
    have e1:IntKind.i64.wrap ((m:Int)+(((txt [c]).data.toList.length:Nat):Int))=((m+1:Nat):Int):=wrap_i64 (by show (_:Int)≤(m:Int)+((1:Nat):Int);omega) (by show (m:Int)+((1:Nat):Int) < _;omega)
    rw [e1]
    refine Aa (Zd (s:=txt cur) (show m+1≤cur.length by omega)) (Aa AU (Aq.2 ?_))
    rw [hi1]
    refine ⟨n - (i+1),by omega,rfl,i+1,cur.drop (m+1),ds++[cur.take m],rfl,by simp [hi],by rw [hs,e];simp,by rw [List.length_drop];omega,r2,(gr.own k2 (fun x hx=>by rw [List.mem_singleton.1 hx];exact Nat.le_refl _) (m:=0) (by omega) f2).more (by omega),rfl⟩
  ·have hin':i=n:=by omega
   have h1:(Bs c cur).length=1:=by omega
   exact Aa hia (stop (M3 h1) hin')
 ·rw [e63]
  refine Aa Ah (Ae.2 ⟨fun h=>absurd h (by decide),fun _=>?_⟩)
  refine Aa B4 (Ak.2 ⟨fun h=>absurd h (by show ([c]==[])≠true;simp),fun _=>?_⟩)
  refine Aa BD (Av.2 ⟨fun _=>?_,fun h=>absurd (by decide) h⟩)
  refine AbX (Aa AU (Aa (FQ _ _) (Aa AU ?_)))
  have e1:IntKind.i64.wrap ((Lib.countByte (bl s) c:Nat)+1:Int)=((n+1:Nat):Int):=wrap_i64 (by omega) (by omega)
  have e2:IntKind.i64.wrap ((s.data.toList.length:Nat)+1:Int)=(((bl s).length+1:Nat):Int):=wrap_i64 (by omega) (by show (((bl s).length:Nat):Int)+1 < _;omega)
  rw [e1,e2]
  have hmin:Uy (.int .i64 ((n+1:Nat):Int)) [.int .i64 (((bl s).length+1:Nat):Int)]=some (.int .i64 ((n+1:Nat):Int)):=by
   have e:Q7 ((n+1:Nat):Int) [.int .i64 (((bl s).length+1:Nat):Int)]=some ((n+1:Nat):Int):=by
    show some (if _ < _ then _ else _)=_
    rw [if_neg (by omega)]
   unfold Uy
   simp only [e]
  refine Aa hmin ?_
  refine Wd hf (by omega) (by omega) fun A1 m1=>Aa Hf (Aq.2 ?_)
  have e3:IntKind.i64.wrap (((n+1:Nat):Int) - 1)=(n:Int):=by rw [wrap_i64 (by omega) (by omega)];omega
  rw [e3]
  exact ⟨n - 0,rfl,0,bl s,[],by rw [Hi];rfl,rfl,rfl,Nat.le_refl _,m1.B7,.made m1 hf,rfl⟩
theorem Aak {s:ByteArray} {c:UInt8} {A:AW} {K:Value→AW→Prop} (hl:(bl s).length < 900000000)
  (hk:∀ q n f,(Bs c (bl s)=[bl s]∧q=s∧n=txt []∧f=false)∨(∃ i:Nat,Lib.indexByte (bl s) c=(i:Int)∧i < (bl s).length∧Bs c (bl s)=bl q::Bs c (bl n)∧q=txt ((bl s).take i)∧n=txt ((bl s).drop (i+1))∧f=true)→K (.tuple ⟨[.string q,.string n,.bool f]⟩) A):Wc Tp Ai W0 m0 131 [.string s,.string (txt [c])] A K:=by
 refine Acu _ _ _ (At (S:=fun _ _ _=>False) fun _ _ _ h=>h) ?_
 rw [Adg]
 refine Yb ?_
 have hge:=Lib.indexByte_ge (bl s) c
 refine Aa FD (Av.2 ⟨fun h=>?_,fun h=>?_⟩)
 ·obtain ⟨m,hm⟩:∃ m:Nat,Lib.indexByte (bl s) c=(m:Int):=⟨(Lib.indexByte (bl s) c).toNat,by omega⟩
  obtain ⟨e,hml⟩:=GS c (bl s) m hm
  rw [hm]
  refine Aa (AaD (by omega)) (Aa (FQ _ _) (Aa AU ?_))
  have e1:IntKind.i64.wrap ((m:Int)+(((txt [c]).data.toList.length:Nat):Int))=((m+1:Nat):Int):=wrap_i64 (by show (_:Int)≤(m:Int)+((1:Nat):Int);omega) (by show (m:Int)+((1:Nat):Int) < _;omega)
  rw [e1]
  refine Aa (Zd (by omega)) (Aa (Zd (by omega)) (Am.2 (Aa (v:=.int .i64 ((m+1:Nat):Int)) ?_ (Am.2 (Aa (FQ _ _) (Am.2 (Am.2 (Am.2 (Am.2 (hk _ _ _ (.inr ⟨m,hm,hml,e,rfl,rfl,rfl⟩)))))))))))
  rw [← e1];exact AU
 ·exact hk _ _ _ (.inl ⟨GU c (bl s) (by omega),rfl,rfl,rfl⟩)
theorem Aap {s:ByteArray} {c:UInt8} {A:AW} {K:Value→AW→Prop} (hl:(bl s).length < 900000000)
  (hk:∀ q n f,(Bs c (bl s)=[bl s]∧q=s∧n=txt []∧f=false)∨(∃ i:Nat,Lib.indexByte (bl s) c=(i:Int)∧i < (bl s).length∧Bs c (bl s)=bl q::Bs c (bl n)∧q=txt ((bl s).take i)∧n=txt ((bl s).drop (i+1))∧f=true)→K (.tuple ⟨[.string q,.string n,.bool f]⟩) A):Wc Tp Ai W0 m0 114 [.string s,.string (txt [c])] A K:=by
 refine Acy _ _ _ (At (S:=fun _ _ _=>False) fun _ _ _ h=>h) ?_
 rw [Adj]
 exact Aak hl fun q n f h=>Aa rfl (Aa rfl (Aa rfl (hk q n f h)))
end
theorem Pa {b:UInt8} (h:0≤Cr b.toNat):CQ (Cr b.toNat).toNat=b∧(Cr b.toNat).toNat < 16∧b.toNat < 128:=by
 have hb:=b.toNat_lt
 by_cases h1:48≤b.toNat∧b.toNat≤57
 ·have e:Cr b.toNat=(b.toNat:Int) - 48:=by unfold Cr;rw [if_pos h1]
  have e2:(Cr b.toNat).toNat=b.toNat - 48:=by omega
  refine ⟨?_,by omega,by omega⟩
  rw [e2]
  unfold CQ
  rw [if_pos (by omega),show 48+(b.toNat - 48)=b.toNat by omega]
  simp
 ·by_cases h2:97≤b.toNat∧b.toNat≤102
  ·have e:Cr b.toNat=(b.toNat:Int) - 87:=by unfold Cr;rw [if_neg h1,if_pos h2]
   have e2:(Cr b.toNat).toNat=b.toNat - 87:=by omega
   refine ⟨?_,by omega,by omega⟩
   rw [e2]
   unfold CQ
   rw [if_neg (by omega),show 87+(b.toNat - 87)=b.toNat by omega]
   simp
  ·unfold Cr at h
   rw [if_neg h1,if_neg h2] at h
   omega
theorem HG (b:UInt8) (l:List UInt8):B8 (b::l)=CQ (b.toNat / 16)::CQ (b.toNat % 16)::B8 l:=by simp [B8]
theorem ND:∀ {l:List UInt8} {c:UInt8},c∈B8 l→0≤Cr c.toNat
 | [],c,h=>by simp [B8] at h
 | b::l,c,h=>by
  have hb:=b.toNat_lt
  rw [HG] at h
  rcases List.mem_cons.1 h with rfl | h
  ·rw [Ei _ (by omega)];omega
  ·rcases List.mem_cons.1 h with rfl | h
   ·rw [Ei _ (by omega)];omega
   ·exact ND h
theorem NF:∀ {a b:List UInt8},B8 a=B8 b→a=b
 | [],[],_=>rfl
 | [],b::l,h=>by rw [HG] at h;simp [B8] at h
 | b::l,[],h=>by rw [HG] at h;simp [B8] at h
 | a::l,b::m,h=>by
  have ha:=a.toNat_lt
  have hb:=b.toNat_lt
  rw [HG,HG] at h
  simp only [List.cons.injEq] at h
  obtain ⟨h1,h2,h3⟩:=h
  have e1:=congrArg (fun x:UInt8=>Cr x.toNat) h1
  have e2:=congrArg (fun x:UInt8=>Cr x.toNat) h2
  change Cr (CQ _).toNat=Cr (CQ _).toNat at e1 e2
  rw [Ei _ (by omega),Ei _ (by omega)] at e1 e2
  have e:a=b:=UInt8.toNat_inj.1 (by omega)
  rw [e,NF h3]
noncomputable def YD (n:Nat):Bool:=match Ag Tp .or 3 (.tmp 0) (.tmp 0) (.int .i64 ((n / 16 * 16:Nat):Int)) (.int .i64 ((n % 16:Nat):Int)) with
 | some (.int .i64 k)=>decide (k=(n:Int))
 | _=>false
theorem Vb:((List.range 256).all YD)=true:=by kernel_rfl
theorem AcP {h n:Nat} (hh:h < 16) (hn:n < 16) (xo yo:Operand):Ag Tp .or 3 xo yo (.int .i64 ((h * 16:Nat):Int)) (.int .i64 (n:Int))=some (.int .i64 ((h * 16+n:Nat):Int)):=by
 have h1:=List.all_eq_true.1 Vb (h * 16+n) (List.mem_range.2 (by omega))
 unfold YD at h1
 rw [show (h * 16+n) / 16 * 16=h * 16 by omega,show (h * 16+n) % 16=n by omega] at h1
 show Ag Tp .or 3 (.tmp 0) (.tmp 0) (.int .i64 ((h * 16:Nat):Int)) (.int .i64 (n:Int))=_
 split at h1
 ·rename_i k hk
  rw [hk,of_decide_eq_true h1]
 ·cases h1
theorem AaH {h:Nat} (hh:h < 16) (xo yo:Operand):Ag Tp .shl 3 xo yo (.int .i64 (h:Int)) (.int .u64 4)=some (.int .i64 ((h * 16:Nat):Int)):=by
 have:=AaG (CQ h) xo yo
 rw [Ei h hh] at this
 rw [this]
 congr 2
theorem T1 (A:AW) (n:Int) (k:IntKind):AD Tp A 21 3 (.int k n)=.ok (.int .i64 (IntKind.i64.wrap n)) A:=by kernel_rfl
theorem wrap_i32 {n:Int} (h1:0≤n) (h2:n < 256):IntKind.i32.wrap n=n:=by
 simp [IntKind.wrap,IntKind.bits,IntKind.signed];omega
theorem XR {h n:Nat} (hh:h < 16) (hn:n < 16):B8 [UInt8.ofNat (h * 16+n)]=[CQ h,CQ n]:=by
 have e:(UInt8.ofNat (h * 16+n)).toNat=h * 16+n:=by rw [UInt8.toNat_ofNat'];omega
 simp only [B8,List.flatMap_cons,List.flatMap_nil,List.append_nil,e]
 rw [show (h * 16+n) / 16=h by omega,show (h * 16+n) % 16=n by omega]
section
variable {W0:World} {m0:Inj Tp}
theorem I7 {S:Nat→List Value→AW→Prop} {K:Value→AW→Prop} {v it:Value} {h n:Int} {A:AW} (hf:AJ A) (hA:A.next+2 < Al)
  (h1:n < 0→K (.tuple ⟨[(.string ⟨⟨[]⟩⟩),(.bool false)]⟩) A) (h2:0≤n→h < 0→S 0 [v,.int .i64 n,it] A)
  (h3:0≤n→0≤h→n < 16∧h < 16∧∃ o F,Buf 5 A v o F∧o.length < 1000000000∧∀ v' A' F',Buf 5 A' v' (o++[UInt8.ofNat (h.toNat * 16+n.toNat)]) F'→Aw A A' F→(∀ x∈F',x∈F∨A.next≤x)→A'.next≤A.next+2→AJ A'→S 0 [v',.int .i64 (-1),it] A'):
  Ab (Ag Tp .lss 3 (.tmp 35) (.const (.int .i64 0)) (.int .i64 n) (.int .i64 0)) fun t7=>Af t7 (K (.tuple ⟨[(.string ⟨⟨[]⟩⟩),(.bool false)]⟩) A) (Ab (Ag Tp .lss 3 (.tmp 37) (.const (.int .i64 0)) (.int .i64 h) (.int .i64 0)) fun t8=>Af t8 (BA (ED 0) (ED 0) (S 0 [v,.int .i64 n,it] A)) (Ab (Ag Tp .shl 3 (.tmp 41) (.const (.int .u64 4)) (.int .i64 h) (.int .u64 4)) fun t9=>Ab (Ag Tp .or 3 (.tmp 42) (.tmp 43) t9 (.int .i64 n)) fun t10=>Ap (AD Tp A 3 5 t10) fun t11 At11=>Ap (Ar Tp At11 33 1 [(0,t11)]) fun t12 At12=>Ap (Bh Tp At12 33 33 v t12) fun t13 At13=>BA (ED 0) (ED 0) (S 0 [t13,(.int .i64 (-1)),it] At13))):=by
 have hroom:room=68719476736:=rfl
 refine Aa BD (Av.2 ⟨h1,fun hn=>Aa BD (Av.2 ⟨fun hh=>Aq.2 (h2 (by omega) hh),fun hh=>?_⟩)⟩)
 obtain ⟨hn16,hh16,o,F,hB,hol,hk⟩:=h3 (by omega) (by omega)
 obtain ⟨n',rfl⟩:∃ n':Nat,n=(n':Int):=⟨n.toNat,by omega⟩
 obtain ⟨h',rfl⟩:∃ h':Nat,h=(h':Int):=⟨h.toNat,by omega⟩
 have hn':n' < 16:=by omega
 have hh':h' < 16:=by omega
 refine Aa (AaH hh' _ _) (Aa (AcP hh' hn' _ _) ?_)
 have hc:AD Tp A 3 5 (.int .i64 ((h' * 16+n':Nat):Int))=.ok (.int .u8 ((UInt8.ofNat (h' * 16+n')).toNat:Int)) A:=by
  rw [WJ,wrap_u8,UInt8.toNat_ofNat']
  congr 2
 refine DO hc ?_
 refine Sz hf (by omega) fun A2 m2=>?_
 have n2:=m2.next
 have k2:=m2.keeps hf
 have hF:=hB.lt
 refine Gk E6 (hB.keeps k2 (by simp)) (Gg E6 (Made.rdB (c:=1) m2)) m2.AG (by omega) (by simp;omega) fun v' A3 F' v3 k3 hF3 n3 f3=>Aq.2 ?_
 refine hk v' A3 F' v3 ((k2.more (T:=F) (by simp)).trans k3 fun x hx=>.inl hx) (fun x hx=>?_) (by omega) f3
 rcases hF3 x hx with h | h
 ·exact .inl h
 ·exact .inr (by omega)
theorem X9 {s:ByteArray} {A:AW} {K:Value→AW→Prop} (hl:(bl s).length < 900000000) (hf:AJ A) (hA:A.next+10+2 * (bl s).length < Al)
  (hk:∀ A' t ok,Grow A A' (1+2 * (bl s).length)→((ok=true∧B8 (bl t)=bl s)∨(ok=false∧∀ l,B8 l≠bl s))→K (.tuple ⟨[.string t,.bool ok]⟩) A'):Wc Tp Ai W0 m0 111 [.string s] A K:=by
 have hN:(bl s).length=s.data.toList.length:=rfl
 let I:Nat→Nat→List Value→AW→Prop:=fun g id vals A'=>id=0∧∃ (pos:Nat) (v:Value) (o:List UInt8) (F:List Nat) (h:Int),vals=[v,.int .i64 h,.pointer (some ⟨A.next,0,none⟩)]∧pos≤(bl s).length∧Buf 5 A' v o F∧(∀ x∈F,A.next < x)∧
  SIt A' A.next s pos∧((h= -1∧B8 o=(bl s).take pos)∨∃ n:Nat,n < 16∧h=(n:Int)∧B8 o++[CQ n]=(bl s).take pos)∧Aw A A' []∧A'.next≤A.next+1+2 * pos∧AJ A'∧g=(bl s).length - pos
 have hno:∀ (i:Nat) (hi:i < (bl s).length),Cr (bl s)[i].toNat < 0→∀ l,B8 l≠bl s:=fun i hi h l e=>by
  have:(bl s)[i]∈B8 l:=by rw [e];exact List.getElem_mem hi
  have:=ND this
  omega
 refine AcA _ _ (Adp (I:=I) ?_) ?_
 ·rintro g id vals A' d ⟨rfl,pos,v,o,F,h,rfl,hpos,hB,hF,hit,hst,k,nx,f,rfl⟩ hd
  rw [Zy]
  simp only [W6,List.map_cons,List.map_nil,List.cons.injEq,and_true] at hd
  obtain ⟨d4,d5,d10⟩:=hd
  simp only [d4,d5,d10]
  have hlo:=k.next
  have hol:2 * o.length≤pos:=by
   rcases hst with ⟨_,e⟩ | ⟨n,_,_,e⟩
   ·have:=congrArg List.length e
    rw [D8,List.length_take] at this;omega
   ·have:=congrArg List.length e
    rw [List.length_append,D8,List.length_take] at this;simp at this;omega
  refine hit.next f (by omega) (fun hp A1 hit1 k1 n1 f1=>?_) fun hp=>?_
  ·have hp':pos < (bl s).length:=hp
   refine Aa (v:=.bool true) rfl (Ak.2 ⟨fun _=>?_,fun h=>by cases h⟩)
   have hB1:=hB.keeps k1 (fun x hx hm=>by have:=hF x hx;rw [List.mem_singleton.1 hm] at this;omega)
   have K1:Aw A A1 []:=k.trans k1 fun x hx=>.inr (by rw [List.mem_singleton.1 hx];exact Nat.le_refl _)
   refine Aa (v:=.int .i32 ((Utf8.decode s pos).1:Int)) rfl ?_
   have hget:s.data.toList[pos]? =some s.data.toList[pos]:=List.getElem?_eq_getElem hp
   let Sx:Nat→List Value→AW→Prop:=fun id vals A2=>∃ g2,g2 < (bl s).length - pos∧I g2 id vals A2
   have bad:Cr (bl s)[pos].toNat < 0→K (.tuple ⟨[(.string ⟨⟨[]⟩⟩),(.bool false)]⟩) A1:=fun hb=>hk A1 ⟨⟨[]⟩⟩ false ⟨K1,f1,by omega⟩ (.inr ⟨rfl,hno pos hp' hb⟩)
   rcases T2 s pos hp with ⟨hlo1,hdec⟩ | ⟨hhi,hw1,hw2,hw3⟩
   ·rw [hdec] at hit1 ⊢
    have hb:=s.data.toList[pos].toNat_lt
    have hgo:∀ (S:Nat→List Value→AW→Prop),(∀ vals' A2,(∃ g',g' < (bl s).length - pos∧I g' 0 vals' A2)→S 0 vals' A2)→0≤Cr (bl s)[pos].toNat→
      Ab (Ag Tp .lss 3 (.tmp 35) (.const (.int .i64 0)) (.int .i64 (Cr (bl s)[pos].toNat)) (.int .i64 0)) fun t7=>Af t7 (K (.tuple ⟨[(.string ⟨⟨[]⟩⟩),(.bool false)]⟩) A1) (Ab (Ag Tp .lss 3 (.tmp 37) (.const (.int .i64 0)) (.int .i64 h) (.int .i64 0)) fun t8=>Af t8 (BA (ED 0) (ED 0) (S 0 [v,.int .i64 (Cr (bl s)[pos].toNat),.pointer (some ⟨A.next,0,none⟩)] A1)) (Ab (Ag Tp .shl 3 (.tmp 41) (.const (.int .u64 4)) (.int .i64 h) (.int .u64 4)) fun t9=>Ab (Ag Tp .or 3 (.tmp 42) (.tmp 43) t9 (.int .i64 (Cr (bl s)[pos].toNat))) fun t10=>Ap (AD Tp A1 3 5 t10) fun t11 At11=>Ap (Ar Tp At11 33 1 [(0,t11)]) fun t12 At12=>Ap (Bh Tp At12 33 33 v t12) fun t13 At13=>BA (ED 0) (ED 0) (S 0 [t13,(.int .i64 (-1)),.pointer (some ⟨A.next,0,none⟩)] At13))):=fun S hS hd0=>by
     obtain ⟨hx1,hx2,_⟩:=Pa (b:=(bl s)[pos]) hd0
     have htk:(bl s).take (pos+1)=(bl s).take pos++[CQ (Cr (bl s)[pos].toNat).toNat]:=by rw [hx1];exact BH hget
     refine I7 f1 (by omega) (fun h=>absurd hd0 (by omega)) (fun _ hh=>hS _ _ ⟨(bl s).length - (pos+1),by omega,rfl,pos+1,v,o,F,_,rfl,by omega,hB1,hF,hit1,.inr ⟨(Cr (bl s)[pos].toNat).toNat,hx2,by omega,?_⟩,K1,by omega,f1,rfl⟩) (fun _ hh=>?_)
     ·rcases hst with ⟨_,e⟩ | ⟨n,_,e,_⟩
      ·rw [e,htk]
      ·omega
     ·rcases hst with ⟨e,_⟩ | ⟨n,hn,rfl,e⟩
      ·omega
      ·refine ⟨by omega,by omega,o,F,hB1,by omega,fun v' A2 F' hB2 k2 hF2 n2 f2=>hS _ _ ⟨(bl s).length - (pos+1),by omega,rfl,pos+1,v',_,F',-1,rfl,by omega,hB2,fun x hx=>?_,hit1.keeps k2 (fun hm=>by have:=hF _ hm;omega),.inl ⟨rfl,?_⟩,K1.trans k2 (fun x hx=>.inr (by have:=hF x hx;omega)),by omega,f2,rfl⟩⟩
       ·rcases hF2 x hx with h | h
        ·exact hF x h
        ·have:=hit.lt;omega
       ·rw [NG,show ((n:Int)).toNat=n from rfl,XR hn hx2,htk,← e]
        simp
    have e0:((s.data.toList[pos].toNat,1):Nat × Nat).1=s.data.toList[pos].toNat:=rfl
    have hdi:∀ n:Int,Cr (bl s)[pos].toNat=n→Cr s.data.toList[pos].toNat=n:=fun n h=>h
    rw [e0]
    have c48:48≤s.data.toList[pos].toNat∧s.data.toList[pos].toNat≤57→Cr (bl s)[pos].toNat=(s.data.toList[pos].toNat:Int) - 48:=fun h=>if_pos h
    have c97:97≤s.data.toList[pos].toNat∧s.data.toList[pos].toNat≤102→Cr (bl s)[pos].toNat=(s.data.toList[pos].toNat:Int) - 87:=fun h=>by
     show Cr s.data.toList[pos].toNat=_
     unfold Cr
     rw [if_neg (by omega),if_pos h]
    have cno:¬ (48≤s.data.toList[pos].toNat∧s.data.toList[pos].toNat≤57)→¬ (97≤s.data.toList[pos].toNat∧s.data.toList[pos].toNat≤102)→Cr (bl s)[pos].toNat < 0:=fun h1 h2=>by
     show Cr s.data.toList[pos].toNat < 0
     unfold Cr
     rw [if_neg h1,if_neg h2];decide
    have two:∀ hb:97≤s.data.toList[pos].toNat∧s.data.toList[pos].toNat≤102,IntKind.i64.wrap (IntKind.i64.wrap (IntKind.i32.wrap ((s.data.toList[pos].toNat:Int) - 97))+10)=Cr (bl s)[pos].toNat:=fun hb=>by
     rw [wrap_i32 (by omega) (by omega),wrap_i64 (n:=(s.data.toList[pos].toNat:Int) - 97) (by omega) (by omega),wrap_i64 (by omega) (by omega),c97 hb];omega
    refine Aa FD (Av.2 ⟨fun h1=>Aa D3 (Av.2 ⟨fun h2=>?_,fun h2=>?_⟩),fun h1=>?_⟩)
    ·refine Aa Hf (DO (T1 _ _ _) ?_)
     rw [wrap_i32 (by omega) (by omega),wrap_i64 (by omega) (by omega),← c48 ⟨by omega,by omega⟩]
     exact hgo Sx (fun _ _ h=>h) (by rw [c48 ⟨by omega,by omega⟩];omega)
    ·refine Aa FD (Av.2 ⟨fun h3=>Aa D3 (Av.2 ⟨fun h4=>?_,fun h4=>?_⟩),fun h3=>?_⟩)
     ·refine Aa Hf (DO (T1 _ _ _) (Aa AU ?_))
      rw [two ⟨by omega,by omega⟩]
      exact hgo Sx (fun _ _ h=>h) (by rw [c97 ⟨by omega,by omega⟩];omega)
     ·exact I7 (S:=Sx) (n:= -1) (h:=h) f1 (by omega) (fun _=>bad (cno (by omega) (by omega))) (fun h=>absurd h (by decide)) (fun h=>absurd h (by decide))
     ·exact I7 (S:=Sx) (n:= -1) (h:=h) f1 (by omega) (fun _=>bad (cno (by omega) (by omega))) (fun h=>absurd h (by decide)) (fun h=>absurd h (by decide))
    ·refine Aa FD (Av.2 ⟨fun h3=>Aa D3 (Av.2 ⟨fun h4=>?_,fun h4=>?_⟩),fun h3=>?_⟩)
     ·exact absurd h3 (by omega)
     ·exact I7 (S:=Sx) (n:= -1) (h:=h) f1 (by omega) (fun _=>bad (cno (by omega) (by omega))) (fun h=>absurd h (by decide)) (fun h=>absurd h (by decide))
     ·exact I7 (S:=Sx) (n:= -1) (h:=h) f1 (by omega) (fun _=>bad (cno (by omega) (by omega))) (fun h=>absurd h (by decide)) (fun h=>absurd h (by decide))
   ·have hgr:Cr (bl s)[pos].toNat < 0:=by
     rcases Int.lt_or_le (Cr (bl s)[pos].toNat) 0 with h | h
     ·exact h
     ·obtain ⟨hx1,hx2,hx3⟩:=Pa (b:=(bl s)[pos]) h
      have:=hw3 0 (by omega) (by omega)
      exfalso
      have hq:CO (CQ (Cr (bl s)[pos].toNat).toNat)=true:=by
       have:∀ n,n < 16→CO (CQ n)=true:=by decide
       exact this _ hx2
      rw [hx1] at hq
      have e:s.data.toList[pos+0]=(bl s)[pos]:=rfl
      rw [e,hq] at this
      cases this
    refine Aa FD (Av.2 ⟨fun h1=>Aa D3 (Av.2 ⟨fun h2=>?_,fun h2=>?_⟩),fun h1=>?_⟩)
    ·omega
    ·refine Aa FD (Av.2 ⟨fun h3=>Aa D3 (Av.2 ⟨fun h4=>?_,fun h4=>?_⟩),fun h3=>?_⟩)
     ·omega
     ·exact I7 (S:=Sx) (n:= -1) (h:=h) f1 (by omega) (fun _=>bad hgr) (fun h=>absurd h (by decide)) (fun h=>absurd h (by decide))
     ·omega
    ·omega
  ·refine Aa (v:=.bool false) rfl (Ak.2 ⟨fun h=>(by cases h),fun _=>?_⟩)
   have hp:(bl s).length≤pos:=hp
   have htk:(bl s).take pos=bl s:=List.take_of_length_le hp
   rw [htk] at hst
   refine DO (hB.rd.str E6) (Aa BD ?_)
   rcases hst with ⟨rfl,e⟩ | ⟨n,hn,rfl,e⟩
   ·exact hk A' ⟨⟨o⟩⟩ true ⟨k,f,by omega⟩ (.inl ⟨rfl,e⟩)
   ·have:decide ((n:Int) < 0)=false:=by simp
    rw [this]
    refine hk A' ⟨⟨o⟩⟩ false ⟨k,f,by omega⟩ (.inr ⟨rfl,fun l hl=>?_⟩)
    have h1:=congrArg List.length e
    have h2:=congrArg List.length hl
    simp only [List.length_append,D8,List.length_cons,List.length_nil] at h1 h2
    omega
 ·rw [Adl]
  exact QD Vw hf (by omega) fun A1 it k n f=>Aq.2 ⟨_,rfl,0,_,[],[],-1,rfl,Nat.zero_le _,.nil _ _,by simp,it,.inl ⟨rfl,rfl⟩,k,by omega,f,rfl⟩
end
theorem GV {c:UInt8}:∀ {l:Word},c∉l→Bs c l=[l]
 | [],_=>rfl
 | b::l,h=>by
  have h1:¬ (b==c)=true:=fun e=>h (by rw [eq_of_beq e];exact List.mem_cons_self)
  rw [Bs,if_neg h1,GV fun hm=>h (List.mem_cons_of_mem _ hm)]
theorem Gp {c:UInt8}:∀ {l r:Word},c∉l→Bs c (l++[c]++r)=l::Bs c r
 | [],r,_=>by
  show Bs c (c::r)=_
  rw [Bs,if_pos (by simp)]
 | b::l,r,h=>by
  have h1:¬ (b==c)=true:=fun e=>h (by rw [eq_of_beq e];exact List.mem_cons_self)
  show Bs c (b::(l++[c]++r))=_
  rw [Bs,if_neg h1,Gp fun hm=>h (List.mem_cons_of_mem _ hm)]
theorem TZ {c:UInt8} (m:Nat):c∈Lib.decDigits m→48≤c.toNat∧c.toNat≤57:=by
 induction m using Nat.strongRecOn with
 | ind m ih=>
  intro h
  by_cases h10:m < 10
  ·rw [Fp h10] at h
   rw [List.mem_singleton.1 h,UInt8.toNat_ofNat'];omega
  ·rw [HL h10] at h
   rcases List.mem_append.1 h with h | h
   ·exact ih (m / 10) (by omega) h
   ·rw [List.mem_singleton.1 h,UInt8.toNat_ofNat'];omega
theorem TG {c:UInt8} (hc:c.toNat < 48) (m:Nat):c∉Lib.decDigits m:=fun h=>by have:=TZ m h;omega
theorem MJ {c:UInt8} (hc:Cr c.toNat < 0) (l:Word):c∉B8 l:=fun h=>by have:=ND h;omega
theorem LJ (y:Nm):Bs 46 (C7 y)=[Lib.decDigits y.f,B8 (bl y.g),B8 (bl y.b)]:=by
 unfold C7
 rw [show Lib.decDigits y.f++[46]++B8 (bl y.g)++[46]++B8 (bl y.b)=Lib.decDigits y.f++[46]++(B8 (bl y.g)++[46]++B8 (bl y.b)) by simp]
 rw [Gp (TG (by decide) _),Gp (MJ (by decide) _),GV (MJ (by decide) _)]
theorem XG {c:UInt8} {l:Word} (h:c∈DB l):c.toNat=37∨0≤Cr c.toNat∨CO c=true:=by
 obtain ⟨b,_,hb⟩:=List.mem_flatMap.1 h
 unfold IT at hb
 have hbl:=b.toNat_lt
 split at hb
 ·rename_i hp
  rw [List.mem_singleton.1 hb];exact .inr (.inr hp)
 ·simp only [List.mem_cons,List.mem_nil_iff,or_false] at hb
  rcases hb with rfl | rfl | rfl
  ·exact .inl rfl
  ·exact .inr (.inl (by rw [Ei _ (by omega)];omega))
  ·exact .inr (.inl (by rw [Ei _ (by omega)];omega))
theorem OV {c:UInt8} (h1:c.toNat≠37) (h2:Cr c.toNat < 0) (h3:CO c=false) (l:Word):c∉AY l:=fun h=>by
 unfold AY at h
 split at h
 ·exact h1 (by rw [List.mem_singleton.1 h];rfl)
 ·rcases XG h with e | e | e
  ·exact h1 e
  ·omega
  ·rw [h3] at e;cases e
theorem M1 (r:ByteArray × Nat):Bs 58 (DA r)=[AY (bl r.1),Lib.decDigits r.2]:=by
 have h58:(58:UInt8)∉Lib.decDigits r.2:=fun h=>by have:=TZ r.2 h;revert this;decide
 unfold DA
 rw [Gp (OV (by decide) (by decide) (by decide) _),GV h58]
theorem Nw (c:UInt8):∀ l:Word,BY (EZ c l)=l.length+1
 | []=>rfl
 | b::l=>by
  have ih:=Nw c l
  have hne:=I9 c l
  unfold EZ at *
  rw [Bs]
  split
  ·show 0+1+BY ((Bs c l).map txt)=_
   rw [ih,List.length_cons];omega
  ·cases hs:Bs c l with
   | nil=>exact absurd hs hne
   | cons w r=>
    rw [hs] at ih
    have ih:w.length+1+BY (r.map txt)=l.length+1:=ih
    show (b::w).length+1+BY (r.map txt)=_
    rw [List.length_cons,List.length_cons];omega
theorem Rd:∀ {ws:List ByteArray} {w:ByteArray},w∈ws→(bl w).length+1≤BY ws
 | x::ws,w,h=>by
  show _≤(bl x).length+1+BY ws
  rcases List.mem_cons.1 h with rfl | h
  ·omega
  ·have:=Rd h;omega
theorem Q1 {c:UInt8} {l:Word} {w:ByteArray} (h:w∈EZ c l):(bl w).length≤l.length:=by
 have:=Rd h
 rw [Nw] at this
 omega
def XW (w:Word) (x:Nm) (bad:Bool):Prop:=KS x∧(bad=false→okX x=true)∧∀ y,KS y→okX y=true→w=C7 y→x=y∧bad=false
theorem Adu (f:Int) (g b:ByteArray):B0 Tp 32 [(0,.int .u32 f),(1,.string g),(2,.string b)]=some (.agg ⟨[.int .u32 f,.string g,.string b]⟩):=by kernel_rfl
theorem HA (A:AW) (a:Addr) (v:Value):AZ Tp A 32 (.pointer (some a)) v=(bif Nat.beq v.cells.toList.length 3 then A.setCells a v.cells.toList else none):=by kernel_rfl
theorem Pq:Dv Tp 32=some (.agg #[.int .u32 0,.string .empty,.string .empty]):=by kernel_rfl
theorem KL (A:AW) (n:Int) (k:IntKind):AD Tp A 35 30 (.int k n)=.ok (.int .u32 (IntKind.u32.wrap n)) A:=by kernel_rfl
theorem wrap_u32 {n:Int} (h1:0≤n) (h2:n < 4294967296):IntKind.u32.wrap n=n:=by
 simp [IntKind.wrap,IntKind.bits,IntKind.signed];omega
theorem AcU {l:List ByteArray} (h:l.length=3):∃ a b c,l=[a,b,c]:=by
 match l,h with
 | [a,b,c],_=>exact ⟨a,b,c,rfl⟩
theorem V4:KS EM:=show 0 < 4294967296 by decide
theorem Yy {A:AW} {q:Nat} {x:Nm} {K:Value→AW→Prop} (r:Go.Abs.AQ A q x.cells 32) (hf:AJ A) (hA:A.next≤Al) (hk:∀ A',Aw A A' [q]→A'.next=A.next→AJ A'→K (.tuple ⟨[.agg ⟨EM.cells⟩,.int .i64 5]⟩) A'):
  Ab (B0 Tp 32 []) fun t=>Bp (AZ Tp A 32 (.pointer (some ⟨q,0,none⟩)) t) fun A2=>Ab (Au Tp A2 32 (.pointer (some ⟨q,0,none⟩))) fun v=>K (.tuple ⟨[v,.int .i64 5]⟩) A2:=by
 refine Aa Qo ?_
 refine Go.Abs.AQ.store (n:=3) (off:=0) (v:=.agg ⟨EM.cells⟩) r hf hA (HA _ _ _) rfl (by simp [Nm.cells]) rfl fun A2 r2 k2 n2 f2=>?_
 have r2:Go.Abs.AQ A2 q EM.cells 32:=r2
 exact Aa (Hn r2) (hk A2 k2 n2 f2)
section
variable {W0:World} {m0:Inj Tp}
theorem AbV {s:ByteArray} {A:AW} {K:Value→AW→Prop} (hp:Pow W0) (hg:GE A) (hl:(bl s).length < 50000000) (hf:AJ A) (hA:A.next+100+4 * (bl s).length < Al)
  (hk:∀ A' x bad,Grow A A' (10+4 * (bl s).length)→XW (bl s) x bad→K (.tuple ⟨[.agg ⟨x.cells⟩,.int .i64 (if bad=true then 5 else 0)]⟩) A'):Wc Tp Ai W0 m0 94 [.string s] A K:=by
 refine w94 _ _ (At (S:=fun _ _ _=>False) fun _ _ _ h=>h) ?_
 rw [e94]
 refine AV Pq hf (by omega) rfl fun A1 m1=>?_
 have n1:=m1.next
 have r1:Go.Abs.AQ A1 A.next EM.cells 32:=m1.B7
 have g1:=Grow.made m1 hf
 refine Aad (c:=46) (by omega) m1.AG (by omega) fun A2 v hv g2=>?_
 have n2:=g2.next
 have G2:=g1.trans g2
 have r2:=r1.keeps g2.keeps (by simp)
 refine Aa hv.len (Aa Cm (BO.2 ⟨fun h=>?_,fun h=>?_⟩))
 ·refine Yy r2 g2.AG (by omega) fun A3 k3 n3 f3=>?_
  refine hk A3 EM true ((G2.own k3 (fun x hx=>by rw [List.mem_singleton.1 hx];exact Nat.le_refl _) (m:=0) (by omega) f3).more (by omega)) ⟨V4,(fun h=>by cases h),fun y _ _ hy=>absurd ?_ h⟩
  show ((EZ 46 (bl s)).length:Int)=3
  unfold EZ
  rw [hy,LJ]
  rfl
 have h3:(EZ 46 (bl s)).length=3:=by omega
 obtain ⟨p0,p1,p2,hps⟩:=AcU h3
 rw [hps] at hv
 have hsp:Bs 46 (bl s)=[bl p0,bl p1,bl p2]:=by
  have:=congrArg (List.map bl) hps
  unfold EZ at this
  rw [List.map_map] at this
  have e:(bl∘txt)=id:=rfl
  rw [e,List.map_id] at this
  exact this
 have hsh:∀ w∈[p0,p1,p2],(bl w).length≤(bl s).length:=fun w hw=>Q1 (c:=46) (by rw [hps];exact hw)
 have hs0:=hsh p0 (by simp)
 have hs1:=hsh p1 (by simp)
 have hs2:=hsh p2 (by simp)
 obtain ⟨a0,x0,c0⟩:=hv.toT.at (k:=.i64) (i:=0) (s:=p0) rfl
 obtain ⟨a1,x1,_⟩:=hv.toT.at (k:=.i64) (i:=1) (s:=p1) rfl
 obtain ⟨a2,x2,_⟩:=hv.toT.at (k:=.i64) (i:=2) (s:=p2) rfl
 have hv3:∀ {B:AW},Grow A2 B 0∨(∃ n,Grow A2 B n)→RdW B v [p0,p1,p2] [A1.next]:=fun {B} h=>by
  rcases h with h | ⟨n,h⟩
  ·exact hv.keeps h.keeps (by simp)
  ·exact hv.keeps h.keeps (by simp)
 have ldAt:∀ {B:AW} {i:Nat} {w:ByteArray} {a:Addr},RdW B v [p0,p1,p2] [A1.next]→[p0,p1,p2][i]? =some w→Ao Tp 56 v (.int .i64 (i:Int))=some (.pointer (some a))→Au Tp B 9 (.pointer (some a))=some (.string w):=fun {B i w a} hB hi hia=>by
  obtain ⟨a',y1,y2⟩:=hB.toT.at (k:=.i64) hi
  rw [hia] at y1
  cases y1
  rw [FH];exact y2
 refine Aa x0 (Aa (ldAt (i:=0) hv rfl x0) ?_)
 have ge2:=(hg.keeps g1.keeps (by simp)).keeps g2.keeps (by simp)
 refine Ya (.inr (.inl rfl)) (by omega) ge2 g2.AG (by omega) fun A3 n er b0 g3 he hu=>?_
 have n3:=g3.next
 have hu:UW 4294967295 (bl p0) n b0:=hu
 have hv3:=hv.keeps g3.keeps (by simp)
 refine Aa Eb (Aa Ea (Aa x1 (Aa (ldAt (i:=1) hv3 rfl x1) ?_)))
 refine X9 (by omega) g3.AG (by omega) fun A4 t1 o1 g4 h1=>?_
 have n4:=g4.next
 have hv4:=hv3.keeps g4.keeps (by simp)
 refine Aa Eb (Aa Ea (Aa x2 (Aa (ldAt (i:=2) hv4 rfl x2) ?_)))
 refine X9 (by omega) g4.AG (by omega) fun A5 t2 o2 g5 h2=>?_
 have n5:=g5.next
 have hv5:=hv4.keeps g5.keeps (by simp)
 have hn:=hu.1
 refine Aa Eb (Aa Ea (DO (KL _ _ _) ?_))
 rw [wrap_u32 (by omega) (by omega)]
 let x:Nm:=⟨n,t1,t2⟩
 have hnx:KS x:=(show n < 4294967296 by omega)
 refine Aa (Adu _ _ _) (AV Pq g5.AG (by omega) rfl fun A6 m6=>?_)
 have n6:=m6.next
 refine Go.Abs.AQ.store (n:=3) (off:=0) (v:=.agg ⟨x.cells⟩) m6.B7 m6.AG (by omega) (HA _ _ _) rfl (Nat.le_refl 3) rfl fun A7 r7 k7 n7 f7=>?_
 have r7:Go.Abs.AQ A7 A5.next x.cells 32:=r7
 have G5:=((G2.trans g3).trans g4).trans g5
 have le2:=G2.le
 have le3:=g3.le
 have le4:=g4.le
 have le5:=g5.le
 have lt1:=r1.lt
 have G7:=(G5.trans (Grow.made m6 g5.AG)).own k7 (fun y hy=>by rw [List.mem_singleton.1 hy];omega) (m:=0) (by omega) f7
 have K27:Aw A2 A7 []:=((g3.keeps.trans g4.keeps (by simp)).trans g5.keeps (by simp)).trans ((m6.keeps g5.AG).trans k7 fun y hy=>.inr (by rw [List.mem_singleton.1 hy];exact Nat.le_refl _)) (by simp)
 have r0:=r2.keeps K27 (by simp)
 have hv7:=hv.keeps K27 (by simp)
 have fail:∀ {B:AW} {m:Nat},Grow A B m→Go.Abs.AQ B A.next EM.cells 32→B.next+0 < Al→m≤10+4 * (bl s).length→(∀ y,KS y→okX y=true→bl s=C7 y→False)→
   Ab (B0 Tp 32 []) fun t=>Bp (AZ Tp B 32 (.pointer (some ⟨A.next,0,none⟩)) t) fun A2=>Ab (Au Tp A2 32 (.pointer (some ⟨A.next,0,none⟩))) fun v=>K (.tuple ⟨[v,.int .i64 5]⟩) A2:=fun {B m} G r hB hm hno=>by
  refine Yy r G.AG (by omega) fun C kC nC fC=>?_
  exact hk C EM true ((G.own kC (fun x hx=>by rw [List.mem_singleton.1 hx];exact Nat.le_refl _) (m:=0) (by omega) fC).more (by omega)) ⟨V4,(fun h=>by cases h),fun y h1 h2 h3=>(hno y h1 h2 h3).elim⟩
 have hy3:∀ y,bl s=C7 y→bl p0=Lib.decDigits y.f∧bl p1=B8 (bl y.g)∧bl p2=B8 (bl y.b):=fun y hy=>by
  rw [hy,LJ] at hsp
  simp only [List.cons.injEq,and_true] at hsp
  exact ⟨hsp.1.symm,hsp.2.1.symm,hsp.2.2.symm⟩
 have lb:A7.next+0 < Al:=by omega
 refine Aa (he.neq _) (Ak.2 ⟨fun hb=>?_,fun hb=>?_⟩)
 ·exact Am.2 (Am.2 (Am.2 (fail G7 r0 lb (by omega) fun y hy1 hy2 hy=>by
   have hy1:y.f < 4294967296:=hy1
   have:=(hu.2 y.f (by omega) (hy3 y hy).1).2
   rw [hb] at this;cases this)))
 refine Aa EP (Ak.2 ⟨fun ho=>?_,fun ho=>?_⟩)
 ·exact Am.2 (Am.2 (Am.2 (fail G7 r0 lb (by omega) fun y hy1 hy2 hy=>by
   rcases h1 with ⟨e,_⟩ | ⟨_,e⟩
   ·rw [e] at ho;cases ho
   ·exact e _ (hy3 y hy).2.1.symm)))
 have ho1:o1=true:=by simpa using ho
 have h1:B8 (bl t1)=bl p1:=by
  rcases h1 with ⟨_,e⟩ | ⟨e,_⟩
  ·exact e
  ·rw [ho1] at e;cases e
 refine Aa EP (Ak.2 ⟨fun ho=>?_,fun ho=>?_⟩)
 ·exact Am.2 (Am.2 (Am.2 (fail G7 r0 lb (by omega) fun y hy1 hy2 hy=>by
   rcases h2 with ⟨e,_⟩ | ⟨_,e⟩
   ·rw [e] at ho;cases ho
   ·exact e _ (hy3 y hy).2.2.symm)))
 have ho2:o2=true:=by simpa using ho
 have h2:B8 (bl t2)=bl p2:=by
  rcases h2 with ⟨_,e⟩ | ⟨e,_⟩
  ·exact e
  ·rw [ho2] at e;cases e
 have hxy:∀ y,KS y→bl s=C7 y→x=y:=fun y hy1 hy=>by
  have hy1:y.f < 4294967296:=hy1
  obtain ⟨q1,q2,q3⟩:=hy3 y hy
  have e1:n=y.f:=(hu.2 y.f (by omega) q1).1
  have e2:t1=y.g:=Fg (NF (h1.trans q2))
  have e3:t2=y.b:=Fg (NF (h2.trans q3))
  show (⟨n,t1,t2⟩:Nm)=y
  rw [e1,e2,e3]
 refine Aa x0 (Aa (ldAt (i:=0) hv7 rfl x0) ?_)
 refine Uc hp (by omega) ?_
 refine Aa (ldAt (i:=0) hv7 rfl x0) (Am.2 (Aa x0 (Am.2 (Am.2 (Aa Ed (Ak.2 ⟨fun hne=>?_,fun _=>?_⟩))))))
 ·refine fail G7 r0 lb (by omega) fun y hy1 hy2 hy=>?_
  have e:=hxy y hy1 hy
  have e:n=y.f:=congrArg Nm.f e
  rw [e,show p0.data.toList=Lib.decDigits y.f from (hy3 y hy).1] at hne
  simp at hne
 refine Aa (Hn r7) ?_
 refine Ye f7 (by omega) fun A8 g8=>?_
 have n8:=g8.next
 have r08:=r0.keeps g8.keeps (by simp)
 have r8:=r7.keeps g8.keeps (by simp)
 have G8:=G7.trans g8
 refine Aa Cm (BO.2 ⟨fun hc=>?_,fun hc=>?_⟩)
 ·refine fail G8 r08 (by omega) (by omega) fun y hy1 hy2 hy=>?_
  have e:=hxy y hy1 hy
  rw [e,if_pos hy2] at hc
  exact hc rfl
 have hok:okX x=true:=by
  cases hx:okX x with
  | true=>rfl
  | false=>rw [hx] at hc;exact absurd hc (by decide)
 refine Aa (Hn r8) ?_
 refine Go.Abs.AQ.store (n:=3) (off:=0) (v:=.agg ⟨x.cells⟩) r08 g8.AG (by omega) (HA _ _ _) rfl (by simp [Nm.cells]) rfl fun A9 r9 k9 n9 f9=>?_
 have r9:Go.Abs.AQ A9 A.next x.cells 32:=r9
 refine Aa (Hn r9) ?_
 exact hk A9 x false ((G8.own k9 (fun x hx=>by rw [List.mem_singleton.1 hx];exact Nat.le_refl _) (m:=0) (by omega) f9).more (by omega)) ⟨hnx,fun _=>hok,fun y h1 _ h3=>⟨hxy y h1 h3,rfl⟩⟩
theorem Ud {q : Nat} {ws : List ByteArray} {bad : Bool} {F : List Nat} {A : AW} {K : Value → AW → Prop} (hp : Pow W0) (h : TK A q ws bad F) (hF : ∀ x ∈ F, x < A.next) (hg : GE A) (hq : 8 ≤ q) (hs : DT ws) (hf : AJ A) (hA : A.next + 20 * BY ws + 300 < Al)
    (hk : ∀ A' w r b x b', AK ws bad w r b → XW (bl w) x b' → TK A' q r (b || b') F → Aw A A' [q] → A'.next ≤ A.next + 30 + 12 * (bl w).length → AJ A' → K (.agg ⟨x.cells⟩) A') : Wc Tp Ai W0 m0 67 [.pointer (some ⟨q, 0, none⟩)] A K := by
  have hn : Ca (.pointer (some ⟨q, 0, none⟩)) = some (.pointer (some ⟨q, 0, none⟩)) := rfl
  have f1 : Ac Tp 96 (.pointer (some ⟨q, 0, none⟩)) 1 = some (.pointer (some ⟨q, 1, none⟩)) := E2 q 0
  have hqA : q < A.next := by obtain ⟨⟨v, r, _⟩, _⟩ := h; exact r.lt
  refine w67 _ _ (At (S := fun _ _ _ => False) fun _ _ _ h => h) ?_
  rw [e67]
  refine AV Pq hf (by omega) rfl fun A1 m1 => ?_
  have n1 := m1.next
  have k1 := m1.keeps hf
  have r1 : Go.Abs.AQ A1 A.next EM.cells 32 := m1.B7
  refine Kg (h.keeps k1 (by simp) (by simp)) m1.AG (by omega) fun A2 w r b ht h2 k2 n2 f2 => ?_
  have hsh := AK.short ht hs
  have hlw := (AK.sum ht).1
  have ge2 : GE A2 := (hg.keeps k1 (by simp)).keeps k2 fun x hx => by rw [List.mem_singleton.1 hx]; exact hq
  refine AbV hp ge2 hsh.1 f2 (by omega) fun A3 x b' g3 hx => ?_
  have n3 := g3.next
  have le3 := g3.le
  have h3 := h2.keeps g3.keeps (by simp) (by simp)
  refine Aa Eb (Aa Ea (AV Pq g3.AG (by omega) rfl fun A4 m4 => ?_))
  have n4 := m4.next
  refine Go.Abs.AQ.store (n := 3) (off := 0) (v := .agg ⟨x.cells⟩) m4.B7 m4.AG (by omega) (HA _ _ _) rfl (Nat.le_refl 3) rfl fun A5 r5 k5 n5 f5 => ?_
  have r5 : Go.Abs.AQ A5 A3.next x.cells 32 := r5
  have k4 := m4.keeps g3.AG
  have K35 : Aw A3 A5 [] := k4.trans k5 fun y hy => .inr (by rw [List.mem_singleton.1 hy]; exact Nat.le_refl _)
  have h5 := h3.keeps K35 (by simp) (by simp)
  have K15 : Aw A1 A5 [q] := (k2.trans g3.keeps (by simp)).trans K35 (by simp)
  have r15 := r1.keeps K15 (by simp; omega)
  refine Aa hn (Aa f1 (Aa h5.bad (Ak.2 ⟨fun hb => ?_, fun hb => ?_⟩)))
  all_goals first
    | refine Aa hn (Aa f1 (h5.mark f5 (by omega) fun A6 h6 k6 n6 f6 => ?_))
    | refine Aa Cm (Aa hn (Aa f1 (h5.mark f5 (by omega) fun A6 h6 k6 n6 f6 => ?_)))
  all_goals
    refine Aa (Hn (r5.keeps k6 (by simp; omega))) ?_
    refine Go.Abs.AQ.store (n := 3) (off := 0) (v := .agg ⟨x.cells⟩) (r15.keeps k6 (by simp; omega)) f6 (by omega) (HA _ _ _) rfl (by simp [Nm.cells]) rfl fun A7 r7 k7 n7 f7 => ?_
    have r7 : Go.Abs.AQ A7 A.next x.cells 32 := r7
    refine Aa (Hn r7) ?_
    have K7 : Aw A A7 [q] := ((k1.more (T := [q]) (by simp)).trans (K15.trans k6 fun y hy => .inl hy) fun y hy => .inl hy).trans k7 fun y hy => .inr (by rw [List.mem_singleton.1 hy]; exact Nat.le_refl _)
    refine hk A7 w r b x b' ht hx ?_ K7 (by omega) f7
    refine TK.keeps ?_ k7 (by simp; omega) (fun y hy => by have := hF y hy; simp; omega)
    first
      | (rw [hb]; exact h6)
      | (rw [hb]
         have e : ((if b' = true then (5 : Int) else 0) != 0) = b' := by cases b' <;> rfl
         rw [e] at h6
         exact h6)
end
end Go.Proofs.YtebidlpekphaoaaGreatDoor
namespace Go.Abs
structure ES (P:Program) (ts te:TypeId) {β:Type} (f:β→List Value):Prop where
 us:P.underlying ts=some (.slice te)
 sz:szT P te=some 1
 by':∃ b,Ft P te=some b∧b≤256
 hz:Dq P te 1=true
 ld:∀ A a,Au P A te (.pointer (some a))=A.cell? a
 len:∀ x,(f x).length=1
 one:∀ x,(f x).all AL=true
 noT:∀ x,(f x).all (fun v=>!isTuple v)=true
section
variable {P:Program} {ts te:TypeId} {β:Type} {f:β→List Value}
theorem ES.HE (T:ES P ts te f) {A B:AW} {v:Value} {l:List β} {F:List Nat} (h:RdE 0 f A v l F):Bm P B ts v=some (.int .i64 (l.length:Int)):=by
 obtain ⟨o,c,rfl⟩:=h.slice
 unfold Bm
 rw [T.us]
theorem ES.src (T:ES P ts te f) {A:AW} {q:Nat} {p:β} {e:TypeId} (hq:AQ A q (f p) e):B6 P A te ts 1 (.slice (some ⟨q,0,none⟩) 1 1)=some (0+1,f p):=by
 unfold B6
 simp only [T.us]
 show Er A 1 (.slice (some ⟨q,0,none⟩) 1 1)=_
 unfold Er
 have:=El (f p) [] (T.noT p)
 rw [List.append_nil,T.len] at this
 simp only [Nat.one_mul,CD hq.row,List.drop_zero,this]
theorem ES.append (T:ES P ts te f) {A:AW} {v:Value} {l:List β} {F:List Nat} {p:β} {q:Nat} {e:TypeId} {K:Value→AW→Prop} (h:EN te 0 f A v l F) (hq:AQ A q (f p) e) (hf:AJ A) (hA:A.next < Al) (hl:l.length < 100000000)
  (hk:∀ v' A' F',EN te 0 f A' v' (l++[p]) F'→Aw A A' F→(∀ x∈F',x∈F∨x=A.next)→A'.next=A.next+1→AJ A'→K v' A'):Ap (Bh P A ts ts v (.slice (some ⟨q,0,none⟩) 1 1)) K:=by
 have hroom:room=68719476736:=rfl
 obtain ⟨b,hb,hb2⟩:=T.by'
 have hse:BF P ts=some te:=by unfold BF;rw [T.us]
 have hm:(l.length+(0+1)) * b≤(l.length+(0+1)) * 256:=Nat.mul_le_mul_left _ hb2
 refine MO (m:=0) (size:=0) hse T.sz hb T.hz (T.src hq) (by rw [T.len]) (T.one p) h hf hA (by omega) (by omega) fun v' A' F' h1 h2 h3 h4 h5=>?_
 refine hk v' A' F' ?_ h2 h3 h4 h5
 show Ig A' te (0+1) v' (l++[p]).length (flat f (l++[p])) F'
 rw [List.length_append,Jh]
 have e:flat f [p]=f p:=by simp [flat]
 rw [e]
 exact h1
theorem ES.ia (T:ES P ts te f) {b o len c i:Nat} (hi:i < len):Ao P ts (.slice (some ⟨b,o,none⟩) len c) (.int .i64 (i:Int))=some (.pointer (some ⟨b,o+i,none⟩)):=by
 show Ao P ts (.slice (some ⟨b,o,none⟩) len c) (.int .i64 (.ofNat i))=_
 unfold Ao
 simp only [T.us,T.sz,AA.2 hi,cond_true,Nat.mul_one]
 unfold EC
 cases hb:Nat.beq i 0 with
 | true=>
  have:=Nat.eq_of_beq_eq_true hb
  subst this
  simp
 | false=>simp
theorem ES.at (T:ES P ts te f) {A:AW} {v:Value} {l:List β} {F:List Nat} (h:RdE 0 f A v l F) {i:Nat} {p:β} (hi:l[i]? =some p) {w:Value} (hw:f p=[w]):∃ a,Ao P ts v (.int .i64 (i:Int))=some (.pointer (some a))∧Au P A te (.pointer (some a))=some w:=by
 have hlt:=(List.getElem?_eq_some_iff.1 hi).1
 rcases h with ⟨rfl,_⟩ | ⟨r,o,c,cs,e,g,b,ro,rfl,h2,h3,h4,h5⟩
 ·simp at hi
 ·obtain ⟨rest,hr⟩:=h5 i p hi
  refine ⟨_,T.ia hlt,?_⟩
  rw [T.ld,Ay h2]
  have hn:=T.noT p
  rw [hw] at hr hn
  have h1:cs[o+i]? =some w:=by
   have:=congrArg (fun l:List Value=>l[0]?) hr
   simpa using this
  exact Cd h1 (by simpa using hn)
end
end Go.Abs
namespace Go.Proofs.YtebidlpekphaoaaGreatDoor
open Go.Abs
def cB (k:Nat):List Value:=[.int .u8 (k:Int)]
def cI (k:Int):List Value:=[.int .i64 k]
def cR (r:ByteArray × Nat):List Value:=[.string r.1,.int .u64 (r.2:Int)]
theorem IV:ES Tp 33 5 cB:=⟨by kernel_rfl,by kernel_rfl,⟨1,by kernel_rfl,by decide⟩,by kernel_rfl,PQ,fun _=>rfl,fun _=>rfl,fun _=>rfl⟩
theorem IU:ES Tp 34 3 cI:=⟨by kernel_rfl,by kernel_rfl,⟨8,by kernel_rfl,by decide⟩,by kernel_rfl,Zw,fun _=>rfl,fun _=>rfl,fun _=>rfl⟩
theorem IQ:ET Tp 36 54 1 cR:=⟨by kernel_rfl,by kernel_rfl,by kernel_rfl,⟨24,by kernel_rfl,by decide⟩,by kernel_rfl,fun _=>rfl,fun _=>rfl,fun _=>rfl⟩
theorem ZS (A:AW) (n:Int):Ar Tp A 34 1 [(0,.int .i64 n)]=(match A.newRow [.int .i64 n] 3 with | some (a,w')=>.ok (.slice (some a) 1 1) w' | none=>.fail "buildSlice new"):=by kernel_rfl
theorem ZR (A:AW) (s:ByteArray) (n:Int):Ar Tp A 36 1 [(0,.agg ⟨[.string s,.int .u64 n]⟩)]=(match A.newRow [.string s,.int .u64 n] 54 with | some (a,w')=>.ok (.slice (some a) 1 1) w' | none=>.fail "buildSlice new"):=by kernel_rfl
theorem Fv (A:AW) (s t:ByteArray):Ar Tp A 56 2 [(0,.string s),(1,.string t)]=(match A.newRow [.string s,.string t] 9 with | some (a,w')=>.ok (.slice (some a) 2 2) w' | none=>.fail "buildSlice new"):=by kernel_rfl
theorem Bq {A:AW} {cs:List Value} {e:TypeId} {n:Nat} {r:R Value} {K:Value→AW→Prop} (hr:r=(match A.newRow cs e with | some (a,w')=>.ok (.slice (some a) n n) w' | none=>.fail "buildSlice new")) (hc:cs.all AL=true) (hf:AJ A) (h:A.next < Al)
  (hk:∀ A',Made A A' cs e→K (.slice (some ⟨A.next,0,none⟩) n n) A'):Ap r K:=by
 rw [hr]
 unfold AW.newRow AW.new
 simp only [hc,cond_true,AA.2 h]
 exact Bi.2 (hk (A.push (.row cs e A.next 0 false)) ⟨AW.Df _ h,rfl,by rw [AW.Cz _ h,if_pos rfl],hf.alone (Nat.le_refl _),hf.push _ h⟩)
def RW (w:Word) (r:ByteArray × Nat) (bad:Bool):Prop:=r.2 < 18446744073709551616∧(bl r.1).length≤w.length∧∀ r0:ByteArray × Nat,r0.2 < 18446744073709551616→w=DA r0→r=r0∧bad=false
theorem AbK (b:Nat):B0 Tp 96 [(0,.slice (some ⟨b,0,none⟩) 2 2)]=some (.agg ⟨[.slice (some ⟨b,0,none⟩) 2 2,.bool false]⟩):=by kernel_rfl
theorem Adr (s:ByteArray) (n:Int):B0 Tp 54 [(0,.string s),(1,.int .u64 n)]=some (.agg ⟨[.string s,.int .u64 n]⟩):=by kernel_rfl
theorem RV:Dv Tp 54=some (.agg #[.string .empty,.int .u64 0]):=by kernel_rfl
theorem Tw (A:AW) (a:Addr) (v:Value):AZ Tp A 54 (.pointer (some a)) v=(bif Nat.beq v.cells.toList.length 2 then A.setCells a v.cells.toList else none):=by kernel_rfl
theorem AaX (A:AW) (a:Addr):Au Tp A 54 (.pointer (some a))=(match A.cells? a 2 with | some l=>some (.agg ⟨l⟩) | none=>none):=by kernel_rfl
theorem PN {A:AW} {b:Nat} {p:ByteArray × Nat} {e:TypeId} (h:Go.Abs.AQ A b (cR p) e):Au Tp A 54 (.pointer (some ⟨b,0,none⟩))=some (.agg ⟨cR p⟩):=by
 rw [AaX,CD h.row];rfl
def Run {α:Type} (R:Word→α→Bool→Prop):List ByteArray→Bool→List α→List ByteArray→Bool→Prop
 | ws,bad,[],ws',bad'=>ws=ws'∧bad=bad'
 | ws,bad,x::l,ws',bad'=>∃ w r b,ws=w::r∧bad=false∧R (bl w) x b∧Run R r b l ws' bad'
theorem Run.snoc {α:Type} {R:Word→α→Bool→Prop} {w:ByteArray} {r:List ByteArray} {x:α} {b:Bool}:∀ {ws:List ByteArray} {bad:Bool} {l:List α},Run R ws bad l (w::r) false→R (bl w) x b→Run R ws bad (l++[x]) r b
 | ws,bad,[],h,hx=>⟨w,r,b,h.1,h.2,hx,rfl,rfl⟩
 | ws,bad,y::l,⟨w',r',b',h1,h2,h3,h4⟩,hx=>⟨w',r',b',h1,h2,h3,Run.snoc h4 hx⟩
theorem Run.all {α:Type} {R:Word→α→Bool→Prop} {f:α→Word} {P:α→Prop} (hR:∀ w x b y,R w x b→P y→w=f y→x=y∧b=false):∀ {ys:List α} {l:List α} {ws':List ByteArray} {bad':Bool},(∀ y∈ys,P y)→Run R (ys.map fun y=>txt (f y)) false l ws' bad'→(ws'=[]∨bad'=true)→l=ys∧ws'=[]∧bad'=false
 | [],[],ws',bad',_,h,_=>⟨rfl,h.1.symm,h.2.symm⟩
 | [],x::l,ws',bad',_,⟨w,r,b,h,_⟩,_=>by cases h
 | y::ys,[],ws',bad',_,h,hs=>by
  obtain ⟨h1,h2⟩:=h
  rcases hs with hs | hs
  ·rw [hs] at h1;cases h1
  ·rw [hs] at h2;cases h2
 | y::ys,x::l,ws',bad',hP,⟨w,r,b,h1,_,h3,h4⟩,hs=>by
  simp only [List.map_cons,List.cons.injEq] at h1
  obtain ⟨rfl,rfl⟩:=h1
  obtain ⟨rfl,rfl⟩:=hR _ _ _ y h3 (hP y (by simp)) rfl
  obtain ⟨e1,e2,e3⟩:=Run.all hR (fun z hz=>hP z (List.mem_cons_of_mem _ hz)) h4 hs
  exact ⟨by rw [e1],e2,e3⟩
theorem Run.len {α:Type} {R:Word→α→Bool→Prop}:∀ {l:List α} {ws:List ByteArray} {bad:Bool} {ws':List ByteArray} {bad':Bool},Run R ws bad l ws' bad'→l.length+ws'.length=ws.length
 | [],ws,bad,ws',bad',h=>by rw [h.1];simp
 | x::l,ws,bad,ws',bad',⟨w,r,b,h1,_,_,h4⟩=>by
  have:=Run.len h4
  rw [h1,List.length_cons,List.length_cons];omega
theorem Run.mem {α:Type} {R:Word→α→Bool→Prop} {P:α→Prop} (hR:∀ w x b,R w x b→P x):∀ {l:List α} {ws:List ByteArray} {bad:Bool} {ws':List ByteArray} {bad':Bool},Run R ws bad l ws' bad'→∀ x∈l,P x
 | [],ws,bad,ws',bad',h,x,hx=>by cases hx
 | y::l,ws,bad,ws',bad',⟨w,r,b,h1,_,h3,h4⟩,x,hx=>by
  rcases List.mem_cons.1 hx with rfl | hx
  ·exact hR _ _ _ h3
  ·exact Run.mem hR h4 x hx
theorem KD:∀ ws:List ByteArray,ws.length≤BY ws
 | []=>Nat.le_refl _
 | w::r=>by
  have:=KD r
  show r.length+1≤(bl w).length+1+BY r
  omega
section
variable {W0:World} {m0:Inj Tp}
theorem AbT {q:Nat} {ws:List ByteArray} {bad:Bool} {F:List Nat} {A:AW} {K:Value→AW→Prop} (h:TK A q ws bad F) (hF:∀ x∈F,x < A.next) (hg:GE A) (hq:8≤q) (hs:DT ws) (hf:AJ A) (hA:A.next+40 * BY ws+500 < Al)
  (hk:∀ A' w r b (p:ByteArray × Nat) b',AK ws bad w r b→RW (bl w) p b'→TK A' q r (b || b') F→Aw A A' [q]→A'.next≤A.next+60+14 * (bl w).length→AJ A'→K (.agg ⟨cR p⟩) A'):Wc Tp Ai W0 m0 97 [.pointer (some ⟨q,0,none⟩)] A K:=by
 have hn:Ca (.pointer (some ⟨q,0,none⟩))=some (.pointer (some ⟨q,0,none⟩)):=rfl
 have f1:Ac Tp 96 (.pointer (some ⟨q,0,none⟩)) 1=some (.pointer (some ⟨q,1,none⟩)):=E2 q 0
 have hqA:q < A.next:=by obtain ⟨⟨v,r,_⟩,_⟩:=h;exact r.lt
 have h8:=hg.lt
 refine w97 _ _ (At (S:=fun _ _ _=>False) fun _ _ _ h=>h) ?_
 rw [e97]
 refine AV RV hf (by omega) rfl fun A1 m1=>?_
 have n1:=m1.next
 have k1:=m1.keeps hf
 have r1:Go.Abs.AQ A1 A.next (cR (.empty,0)) 54:=m1.B7
 refine Kg (h.keeps k1 (by simp) (by simp)) m1.AG (by omega) fun A2 w r b ht h2 k2 n2 f2=>?_
 have hsh:=AK.short ht hs
 have hlw:=(AK.sum ht).1
 have ge2:GE A2:=(hg.keeps k1 (by simp)).keeps k2 fun x hx=>by rw [List.mem_singleton.1 hx];exact hq
 have hw50:=hsh.1
 refine Aap (c:=58) (by omega) fun qs ns fl hc=>?_
 have x0:Bt (.tuple ⟨[.string qs,.string ns,.bool fl]⟩) 0=some (.string qs):=rfl
 have x1:Bt (.tuple ⟨[.string qs,.string ns,.bool fl]⟩) 1=some (.string ns):=rfl
 have x2:Bt (.tuple ⟨[.string qs,.string ns,.bool fl]⟩) 2=some (.bool fl):=rfl
 have hlen:(bl qs).length+(bl ns).length≤(bl w).length:=by
  rcases hc with ⟨_,rfl,rfl,_⟩ | ⟨i,_,hi,_,rfl,rfl,_⟩
  ·exact Nat.le_refl _
  ·show ((bl w).take i).length+((bl w).drop (i+1)).length≤_
   rw [List.length_take,List.length_drop];omega
 refine Aa x0 (Aa x1 (Aa x2 ?_))
 refine Bq (Fv A2 qs ns) rfl f2 (by omega) fun A3 m3=>?_
 have n3:=m3.next
 refine Aa (AbK _) (BI (cs:=[.slice (some ⟨A2.next,0,none⟩) 2 2,.bool false]) m3.AG (by omega) rfl fun A4 m4=>?_)
 have n4:=m4.next
 have k3:=m3.keeps f2
 have k4:=m4.keeps m3.AG
 have tk4:TK A4 A3.next [qs,ns] false [A2.next]:=⟨⟨_,m4.B7,⟨A2.next,0,2,_,A2.next,0,false,rfl,by simp,by decide,k4.get A2.next _ m3.row (by show A2.next < A3.next;omega) (by simp),by omega,rfl,fun i p hi=>by
  match i with
  | 0=>rw [Nat.zero_add];cases hi;rfl
  | 1=>cases hi;rfl
  | i+2=>simp at hi⟩⟩,by simp;omega⟩
 have hlW:BY [qs,ns]=(bl qs).length+1+((bl ns).length+1+0):=rfl
 have hS:DT [qs,ns]:=fun x hx=>by
  simp only [List.mem_cons,List.mem_nil_iff,or_false] at hx
  rcases hx with rfl | rfl <;> omega
 refine Kf tk4 hS m4.AG (by omega) fun A5 w5 r5 b5 u5 c5 ht5 hu5 h5 k5 n5 f5=>?_
 have ge4:GE A4:=(ge2.keeps k3 (by simp)).keeps k4 (by simp)
 have ge5:GE A5:=ge4.keeps k5 fun x hx=>by rw [List.mem_singleton.1 hx];omega
 have hT5:w5=qs∧r5=[ns]∧b5=false:=by
  rcases ht5 with ⟨e,e2⟩ | ⟨e,_⟩
  ·simp only [List.cons.injEq] at e
   exact ⟨e.1.symm,e.2.symm,e2⟩
  ·cases e
 obtain ⟨rfl,rfl,rfl⟩:=hT5
 have le4:=k3.next
 have le5:=k5.next
 refine Ub (.inr (.inr rfl)) h5 ge5 (by omega) (fun x hx=>hS x (List.mem_cons_of_mem _ hx)) f5 (by omega) fun A6 w6 r6 b6 n c6 ht6 hu6 h6 k6 n6 f6=>?_
 have hT6:w6=ns∧r6=[]∧b6=(false || c5):=by
  rcases ht6 with ⟨e,e2⟩ | ⟨e,_⟩
  ·simp only [List.cons.injEq] at e
   exact ⟨e.1.symm,e.2.symm,e2⟩
  ·cases e
 obtain ⟨rfl,rfl,rfl⟩:=hT6
 have hu6:UW 18446744073709551615 (bl w6) n c6:=hu6
 have le6:=k6.next
 refine Aa (Adr _ _) (AV RV f6 (by omega) rfl fun A7 m7=>?_)
 have n7:=m7.next
 let p:ByteArray × Nat:=(⟨⟨u5⟩⟩,n)
 refine Go.Abs.AQ.store (n:=2) (off:=0) (v:=.agg ⟨cR p⟩) m7.B7 m7.AG (by omega) (Tw _ _ _) rfl (Nat.le_refl 2) rfl fun A8 r8 k8 n8 f8=>?_
 have r8:Go.Abs.AQ A8 A6.next (cR p) 54:=r8
 have hp:RW (bl w) p (b6 || c6):=by
  refine ⟨by have:=hu6.1;show n < _;omega,by have:=hu5.1;show u5.length≤_;omega,fun r0 h0 he=>?_⟩
  rcases hc with ⟨e,_⟩ | ⟨i,_,_,e,_,_,_⟩
  ·rw [he,M1] at e;simp at e
  ·rw [he,M1] at e
   simp only [List.cons.injEq] at e
   obtain ⟨e1,e2⟩:=e
   obtain ⟨e3,e4⟩:=hu5.2 (bl r0.1) e1.symm
   have e5:=M3 (c:=58) (l:=bl w6) (by rw [← e2];rfl)
   rw [← e2] at e5
   simp only [List.cons.injEq,and_true] at e5
   obtain ⟨e6,e7⟩:=hu6.2 r0.2 (by omega) e5.symm
   refine ⟨?_,by rw [e4,e7];rfl⟩
   have:(⟨⟨u5⟩⟩:ByteArray)=r0.1:=Fg e3
   show ((⟨⟨u5⟩⟩,n):ByteArray × Nat)=r0
   rw [this,e6]
 have K26:Aw A2 A8 []:=((((k3.trans k4 (by simp)).trans k5 (fun x hx=>.inr (by rw [List.mem_singleton.1 hx];omega))).trans k6 (fun x hx=>.inr (by rw [List.mem_singleton.1 hx];omega))).trans (m7.keeps f6) (by simp)).trans k8 fun x hx=>.inr (by rw [List.mem_singleton.1 hx];omega)
 have hT8:=h2.keeps K26 (by simp) (by simp)
 have K18:Aw A1 A8 [q]:=k2.trans (K26.more (T:=[q]) (by simp)) fun x hx=>.inl hx
 have r18:=r1.keeps K18 (by simp;omega)
 have hI8:=(h6.keeps (m7.keeps f6) (by simp) (by simp)).keeps k8 (by simp;omega) (by simp;omega)
 refine Aa hn (Aa f1 (Aa hT8.bad (Ak.2 ⟨fun hb=>?_,fun hb=>?_⟩)))
 ·refine Aa hn (Aa f1 (hT8.mark f8 (by omega) fun A9 h9 k9 n9 f9=>?_))
  refine Aa (PN (r8.keeps k9 (by simp;omega))) ?_
  refine Go.Abs.AQ.store (n:=2) (off:=0) (v:=.agg ⟨cR p⟩) (r18.keeps k9 (by simp;omega)) f9 (by omega) (Tw _ _ _) rfl (by simp [cR]) rfl fun A10 r10 k10 n10 f10=>?_
  have r10:Go.Abs.AQ A10 A.next (cR p) 54:=r10
  refine Aa (PN r10) ?_
  have K10:Aw A A10 [q]:=((k1.more (T:=[q]) (by simp)).trans (K18.trans k9 fun y hy=>.inl hy) fun y hy=>.inl hy).trans k10 fun y hy=>.inr (by rw [List.mem_singleton.1 hy];exact Nat.le_refl _)
  exact hk A10 w r b p _ ht hp (TK.keeps (by rw [hb];exact h9) k10 (by simp;omega) (fun y hy=>by have:=hF y hy;simp;omega)) K10 (by omega) f10
 ·have f1':Ac Tp 96 (.pointer (some ⟨A3.next,0,none⟩)) 1=some (.pointer (some ⟨A3.next,1,none⟩)):=E2 A3.next 0
  have hn':Ca (.pointer (some ⟨A3.next,0,none⟩))=some (.pointer (some ⟨A3.next,0,none⟩)):=rfl
  refine Aa hn' (Aa f1' (Aa hI8.bad (Aa hn (Aa f1 (hT8.mark f8 (by omega) fun A9 h9 k9 n9 f9=>?_)))))
  refine Aa (PN (r8.keeps k9 (by simp;omega))) ?_
  refine Go.Abs.AQ.store (n:=2) (off:=0) (v:=.agg ⟨cR p⟩) (r18.keeps k9 (by simp;omega)) f9 (by omega) (Tw _ _ _) rfl (by simp [cR]) rfl fun A10 r10 k10 n10 f10=>?_
  have r10:Go.Abs.AQ A10 A.next (cR p) 54:=r10
  refine Aa (PN r10) ?_
  have K10:Aw A A10 [q]:=((k1.more (T:=[q]) (by simp)).trans (K18.trans k9 fun y hy=>.inl hy) fun y hy=>.inl hy).trans k10 fun y hy=>.inr (by rw [List.mem_singleton.1 hy];exact Nat.le_refl _)
  exact hk A10 w r b p _ ht hp (TK.keeps (by rw [hb];exact h9) k10 (by simp;omega) (fun y hy=>by have:=hF y hy;simp;omega)) K10 (by omega) f10
theorem AbH (A:AW) (q:Nat):Fo Tp Ai A (.func (.func 66) ⟨[.pointer (some ⟨q,0,none⟩)]⟩ ⟨[]⟩) []=.ok (.enter 66 [.pointer (some ⟨q,0,none⟩)]) A:=by kernel_rfl
theorem Ab4 {q:Nat} {ws:List ByteArray} {bad:Bool} {F:List Nat} {A:AW} {K:Value→AW→Prop} (h:TK A q ws bad F) (hF:∀ x∈F,x < A.next) (hg:GE A) (hq:8≤q) (hs:DT ws) (hwl:BY ws < 50000000) (hf:AJ A) (hA:A.next+100 * BY ws+1000 < Al)
  (hk:∀ A' v l G ws' bad',Run (UW 255) ws bad l ws' bad'→(ws'=[]∨bad'=true)→EN 5 0 cB A' v l G→(∀ x∈G,A.next≤x)→TK A' q ws' bad' F→Aw A A' [q]→A'.next+100 * BY ws'≤A.next+100 * BY ws→AJ A'→K v A'):
  Wc Tp Ai W0 m0 65 [.pointer (some ⟨q,0,none⟩),.func (.func 66) ⟨[.pointer (some ⟨q,0,none⟩)]⟩ ⟨[]⟩] A K:=by
 have hmx:Al=1099511627776:=rfl
 have hn:Ca (.pointer (some ⟨q,0,none⟩))=some (.pointer (some ⟨q,0,none⟩)):=rfl
 have f1:Ac Tp 96 (.pointer (some ⟨q,0,none⟩)) 1=some (.pointer (some ⟨q,1,none⟩)):=E2 q 0
 have hqA:q < A.next:=by obtain ⟨⟨v,r,_⟩,_⟩:=h;exact r.lt
 have hlw:=KD ws
 let I:Nat→Nat→List Value→AW→Prop:=fun g id vals A'=>id=0∧∃ (v:Value) (l:List Nat) (G:List Nat) (wr:List ByteArray) (b:Bool),vals=[.pointer (some ⟨q,0,none⟩),.func (.func 66) ⟨[.pointer (some ⟨q,0,none⟩)]⟩ ⟨[]⟩,v]∧Run (UW 255) ws bad l wr b∧
  EN 5 0 cB A' v l G∧(∀ x∈G,A.next≤x)∧TK A' q wr b F∧DT wr∧Aw A A' [q]∧A'.next+100 * BY wr≤A.next+100 * BY ws∧AJ A'∧g=wr.length
 refine w65 _ _ _ (c65 (I:=I) ?_) ?_
 ·rintro g id vals A' d ⟨rfl,v,l,G,wr,b,rfl,hr,ho,hG,tk,hsw,k,nx,f,rfl⟩ hd
  rw [Aa3]
  simp only [L65,List.map_cons,List.map_nil,List.cons.injEq,and_true] at hd
  obtain ⟨d0,d1,d5⟩:=hd
  simp only [d0,d1,d5]
  have hle:=k.next
  have hrl:=hr.len
  obtain ⟨⟨vs,rw0,hw⟩,hout⟩:=tk
  have tk:TK A' q wr b F:=⟨⟨vs,rw0,hw⟩,hout⟩
  have l0:Au Tp A' 56 (.pointer (some ⟨q,0,none⟩))=some vs:=by
   rw [LX,Ay rw0.row]
   exact Cd rfl hw.one.2
  refine Aa hn (Aa (Hc q 0) (Aa l0 (Aa hw.len (Aa Ej (Av.2 ⟨fun hp=>?_,fun hp=>?_⟩)))))
  ·refine Aa hn (Aa f1 (Aa tk.bad (Aa EP (Ak.2 ⟨fun hb=>?_,fun hb=>?_⟩))))
   ·have hb:b=false:=by simpa using hb
    subst hb
    rw [AbH]
    refine .inr (.inl ⟨_,_,_,rfl,?_⟩)
    show Wc Tp Ai W0 m0 66 _ A' _
    have hge:GE A':=hg.keeps k fun x hx=>by rw [List.mem_singleton.1 hx];exact hq
    refine Ji tk hge hq hsw f (by omega) fun A1 w r b1 x b2 ht hu h1 k1 n1 f1=>?_
    have hT:wr=w::r∧b1=false:=by
     rcases ht with ⟨e,e2⟩ | ⟨e,_⟩
     ·exact ⟨e,e2⟩
     ·rw [e] at hp;simp at hp
    obtain ⟨rfl,rfl⟩:=hT
    have hlx:BY (w::r)=(bl w).length+1+BY r:=rfl
    have hle1:=k1.next
    refine Bq (WV A1 (x:Int)) rfl f1 (by omega) fun A2 m2=>?_
    have n2:=m2.next
    have k2:=m2.keeps f1
    have ho2:=(ho.keeps k1 fun y hy hm=>by have:=hG y hy;rw [List.mem_singleton.1 hm] at this;omega).keeps k2 (by simp)
    refine ES.append IV (p:=x) ho2 m2.B7 m2.AG (by omega) (by simp only [List.length_cons] at hrl hlw;omega) fun v' A3 G' ho3 k3 hG3 n3 f3=>Aq.2 ?_
    have hGG:∀ y∈G',A.next≤y:=fun y hy=>by
     rcases hG3 y hy with e | e
     ·exact hG y e
     ·omega
    have hFG:∀ y∈F,y∉G:=fun y hy hm=>by have:=hF y hy;have:=hG y hm;omega
    have K3:Aw A A3 [q]:=((k.trans k1 fun y hy=>.inl hy).trans (k2.more (T:=[q]) (by simp)) fun y hy=>.inl hy).trans k3 fun y hy=>.inr (hG y hy)
    exact ⟨r.length,by simp,rfl,v',l++[x],G',r,b2,rfl,hr.snoc hu,ho3,hGG,(h1.keeps k2 (by simp) (by simp)).keeps k3 (fun hm=>by have:=hG q hm;omega) hFG,(AK.short ht hsw).2,K3,by omega,f3,rfl⟩
   ·have hb:b=true:=by simpa using hb
    exact hk A' v l G wr b hr (.inr hb) ho hG tk k nx f
  ·have hb:wr=[]:=List.eq_nil_of_length_eq_zero (by omega)
   exact hk A' v l G wr b hr (.inl hb) ho hG tk k nx f
 ·rw [e65]
  exact Aq.2 ⟨_,rfl,_,[],[],ws,bad,rfl,⟨rfl,rfl⟩,.nil _,by simp,h,hs,.refl _ _,Nat.le_refl _,hf,rfl⟩
theorem AbG (A:AW) (q:Nat):Fo Tp Ai A (.func (.func 69) ⟨[.pointer (some ⟨q,0,none⟩)]⟩ ⟨[]⟩) []=.ok (.enter 69 [.pointer (some ⟨q,0,none⟩)]) A:=by kernel_rfl
theorem Ab3 {q:Nat} {ws:List ByteArray} {bad:Bool} {F:List Nat} {A:AW} {K:Value→AW→Prop} (h:TK A q ws bad F) (hF:∀ x∈F,x < A.next) (hg:GE A) (hq:8≤q) (hs:DT ws) (hwl:BY ws < 50000000) (hf:AJ A) (hA:A.next+100 * BY ws+1000 < Al)
  (hk:∀ A' v l G ws' bad',Run IW ws bad l ws' bad'→(ws'=[]∨bad'=true)→EN 3 0 cI A' v l G→(∀ x∈G,A.next≤x)→TK A' q ws' bad' F→Aw A A' [q]→A'.next+100 * BY ws'≤A.next+100 * BY ws→AJ A'→K v A'):
  Wc Tp Ai W0 m0 70 [.pointer (some ⟨q,0,none⟩),.func (.func 69) ⟨[.pointer (some ⟨q,0,none⟩)]⟩ ⟨[]⟩] A K:=by
 have hmx:Al=1099511627776:=rfl
 have hn:Ca (.pointer (some ⟨q,0,none⟩))=some (.pointer (some ⟨q,0,none⟩)):=rfl
 have f1:Ac Tp 96 (.pointer (some ⟨q,0,none⟩)) 1=some (.pointer (some ⟨q,1,none⟩)):=E2 q 0
 have hqA:q < A.next:=by obtain ⟨⟨v,r,_⟩,_⟩:=h;exact r.lt
 have hlw:=KD ws
 let I:Nat→Nat→List Value→AW→Prop:=fun g id vals A'=>id=0∧∃ (v:Value) (l:List Int) (G:List Nat) (wr:List ByteArray) (b:Bool),vals=[.pointer (some ⟨q,0,none⟩),.func (.func 69) ⟨[.pointer (some ⟨q,0,none⟩)]⟩ ⟨[]⟩,v]∧Run IW ws bad l wr b∧
  EN 3 0 cI A' v l G∧(∀ x∈G,A.next≤x)∧TK A' q wr b F∧DT wr∧Aw A A' [q]∧A'.next+100 * BY wr≤A.next+100 * BY ws∧AJ A'∧g=wr.length
 refine w70 _ _ _ (c70 (I:=I) ?_) ?_
 ·rintro g id vals A' d ⟨rfl,v,l,G,wr,b,rfl,hr,ho,hG,tk,hsw,k,nx,f,rfl⟩ hd
  rw [Aa2]
  simp only [L70,List.map_cons,List.map_nil,List.cons.injEq,and_true] at hd
  obtain ⟨d0,d1,d5⟩:=hd
  simp only [d0,d1,d5]
  have hle:=k.next
  have hrl:=hr.len
  obtain ⟨⟨vs,rw0,hw⟩,hout⟩:=tk
  have tk:TK A' q wr b F:=⟨⟨vs,rw0,hw⟩,hout⟩
  have l0:Au Tp A' 56 (.pointer (some ⟨q,0,none⟩))=some vs:=by
   rw [LX,Ay rw0.row]
   exact Cd rfl hw.one.2
  refine Aa hn (Aa (Hc q 0) (Aa l0 (Aa hw.len (Aa Ej (Av.2 ⟨fun hp=>?_,fun hp=>?_⟩)))))
  ·refine Aa hn (Aa f1 (Aa tk.bad (Aa EP (Ak.2 ⟨fun hb=>?_,fun hb=>?_⟩))))
   ·have hb:b=false:=by simpa using hb
    subst hb
    rw [AbG]
    refine .inr (.inl ⟨_,_,_,rfl,?_⟩)
    show Wc Tp Ai W0 m0 69 _ A' _
    have hge:GE A':=hg.keeps k fun x hx=>by rw [List.mem_singleton.1 hx];exact hq
    refine Qs tk hge hq hsw f (by omega) fun A1 w r b1 x b2 ht hu h1 k1 n1 f1=>?_
    have hT:wr=w::r∧b1=false:=by
     rcases ht with ⟨e,e2⟩ | ⟨e,_⟩
     ·exact ⟨e,e2⟩
     ·rw [e] at hp;simp at hp
    obtain ⟨rfl,rfl⟩:=hT
    have hlx:BY (w::r)=(bl w).length+1+BY r:=rfl
    have hle1:=k1.next
    refine Bq (ZS A1 x) rfl f1 (by omega) fun A2 m2=>?_
    have n2:=m2.next
    have k2:=m2.keeps f1
    have ho2:=(ho.keeps k1 fun y hy hm=>by have:=hG y hy;rw [List.mem_singleton.1 hm] at this;omega).keeps k2 (by simp)
    refine ES.append IU (p:=x) ho2 m2.B7 m2.AG (by omega) (by simp only [List.length_cons] at hrl hlw;omega) fun v' A3 G' ho3 k3 hG3 n3 f3=>Aq.2 ?_
    have hGG:∀ y∈G',A.next≤y:=fun y hy=>by
     rcases hG3 y hy with e | e
     ·exact hG y e
     ·omega
    have hFG:∀ y∈F,y∉G:=fun y hy hm=>by have:=hF y hy;have:=hG y hm;omega
    have K3:Aw A A3 [q]:=((k.trans k1 fun y hy=>.inl hy).trans (k2.more (T:=[q]) (by simp)) fun y hy=>.inl hy).trans k3 fun y hy=>.inr (hG y hy)
    exact ⟨r.length,by simp,rfl,v',l++[x],G',r,b2,rfl,hr.snoc hu,ho3,hGG,(h1.keeps k2 (by simp) (by simp)).keeps k3 (fun hm=>by have:=hG q hm;omega) hFG,(AK.short ht hsw).2,K3,by omega,f3,rfl⟩
   ·have hb:b=true:=by simpa using hb
    exact hk A' v l G wr b hr (.inr hb) ho hG tk k nx f
  ·have hb:wr=[]:=List.eq_nil_of_length_eq_zero (by omega)
   exact hk A' v l G wr b hr (.inl hb) ho hG tk k nx f
 ·rw [e70]
  exact Aq.2 ⟨_,rfl,_,[],[],ws,bad,rfl,⟨rfl,rfl⟩,.nil _,by simp,h,hs,.refl _ _,Nat.le_refl _,hf,rfl⟩
theorem AbE (A:AW) (q:Nat):Fo Tp Ai A (.func (.func 97) ⟨[.pointer (some ⟨q,0,none⟩)]⟩ ⟨[]⟩) []=.ok (.enter 97 [.pointer (some ⟨q,0,none⟩)]) A:=by kernel_rfl
theorem YK {q:Nat} {ws:List ByteArray} {bad:Bool} {F:List Nat} {A:AW} {K:Value→AW→Prop} (h:TK A q ws bad F) (hF:∀ x∈F,x < A.next) (hg:GE A) (hq:8≤q) (hs:DT ws) (hwl:BY ws < 50000000) (hf:AJ A) (hA:A.next+100 * BY ws+1000 < Al)
  (hk:∀ A' v l G ws' bad',Run RW ws bad l ws' bad'→(ws'=[]∨bad'=true)→EN 54 1 cR A' v l G→(∀ x∈G,A.next≤x)→TK A' q ws' bad' F→Aw A A' [q]→A'.next+100 * BY ws'≤A.next+100 * BY ws→AJ A'→K v A'):
  Wc Tp Ai W0 m0 96 [.pointer (some ⟨q,0,none⟩),.func (.func 97) ⟨[.pointer (some ⟨q,0,none⟩)]⟩ ⟨[]⟩] A K:=by
 have hmx:Al=1099511627776:=rfl
 have hn:Ca (.pointer (some ⟨q,0,none⟩))=some (.pointer (some ⟨q,0,none⟩)):=rfl
 have f1:Ac Tp 96 (.pointer (some ⟨q,0,none⟩)) 1=some (.pointer (some ⟨q,1,none⟩)):=E2 q 0
 have hqA:q < A.next:=by obtain ⟨⟨v,r,_⟩,_⟩:=h;exact r.lt
 have hlw:=KD ws
 let I:Nat→Nat→List Value→AW→Prop:=fun g id vals A'=>id=0∧∃ (v:Value) (l:List (ByteArray × Nat)) (G:List Nat) (wr:List ByteArray) (b:Bool),vals=[.pointer (some ⟨q,0,none⟩),.func (.func 97) ⟨[.pointer (some ⟨q,0,none⟩)]⟩ ⟨[]⟩,v]∧Run RW ws bad l wr b∧
  EN 54 1 cR A' v l G∧(∀ x∈G,A.next≤x)∧TK A' q wr b F∧DT wr∧Aw A A' [q]∧A'.next+100 * BY wr≤A.next+100 * BY ws∧AJ A'∧g=wr.length
 refine w96 _ _ _ (c96 (I:=I) ?_) ?_
 ·rintro g id vals A' d ⟨rfl,v,l,G,wr,b,rfl,hr,ho,hG,tk,hsw,k,nx,f,rfl⟩ hd
  rw [AaZ]
  simp only [L96,List.map_cons,List.map_nil,List.cons.injEq,and_true] at hd
  obtain ⟨d0,d1,d5⟩:=hd
  simp only [d0,d1,d5]
  have hle:=k.next
  have hrl:=hr.len
  obtain ⟨⟨vs,rw0,hw⟩,hout⟩:=tk
  have tk:TK A' q wr b F:=⟨⟨vs,rw0,hw⟩,hout⟩
  have l0:Au Tp A' 56 (.pointer (some ⟨q,0,none⟩))=some vs:=by
   rw [LX,Ay rw0.row]
   exact Cd rfl hw.one.2
  refine Aa hn (Aa (Hc q 0) (Aa l0 (Aa hw.len (Aa Ej (Av.2 ⟨fun hp=>?_,fun hp=>?_⟩)))))
  ·refine Aa hn (Aa f1 (Aa tk.bad (Aa EP (Ak.2 ⟨fun hb=>?_,fun hb=>?_⟩))))
   ·have hb:b=false:=by simpa using hb
    subst hb
    rw [AbE]
    refine .inr (.inl ⟨_,_,_,rfl,?_⟩)
    show Wc Tp Ai W0 m0 97 _ A' _
    have hge:GE A':=hg.keeps k fun x hx=>by rw [List.mem_singleton.1 hx];exact hq
    refine AbT tk (fun y hy=>by have:=hF y hy;omega) hge hq hsw f (by omega) fun A1 w r b1 x b2 ht hu h1 k1 n1 f1=>?_
    have hT:wr=w::r∧b1=false:=by
     rcases ht with ⟨e,e2⟩ | ⟨e,_⟩
     ·exact ⟨e,e2⟩
     ·rw [e] at hp;simp at hp
    obtain ⟨rfl,rfl⟩:=hT
    have hlx:BY (w::r)=(bl w).length+1+BY r:=rfl
    have hle1:=k1.next
    refine Bq (ZR A1 x.1 (x.2:Int)) rfl f1 (by omega) fun A2 m2=>?_
    have n2:=m2.next
    have k2:=m2.keeps f1
    have ho2:=(ho.keeps k1 fun y hy hm=>by have:=hG y hy;rw [List.mem_singleton.1 hm] at this;omega).keeps k2 (by simp)
    refine EN.append IQ (p:=x) ho2 m2.B7 m2.AG (by omega) (by simp only [List.length_cons] at hrl hlw;omega) fun v' A3 G' ho3 k3 hG3 n3 f3=>Aq.2 ?_
    have hGG:∀ y∈G',A.next≤y:=fun y hy=>by
     rcases hG3 y hy with e | e
     ·exact hG y e
     ·omega
    have hFG:∀ y∈F,y∉G:=fun y hy hm=>by have:=hF y hy;have:=hG y hm;omega
    have K3:Aw A A3 [q]:=((k.trans k1 fun y hy=>.inl hy).trans (k2.more (T:=[q]) (by simp)) fun y hy=>.inl hy).trans k3 fun y hy=>.inr (hG y hy)
    exact ⟨r.length,by simp,rfl,v',l++[x],G',r,b2,rfl,hr.snoc hu,ho3,hGG,(h1.keeps k2 (by simp) (by simp)).keeps k3 (fun hm=>by have:=hG q hm;omega) hFG,(AK.short ht hsw).2,K3,by omega,f3,rfl⟩
   ·have hb:b=true:=by simpa using hb
    exact hk A' v l G wr b hr (.inr hb) ho hG tk k nx f
  ·have hb:wr=[]:=List.eq_nil_of_length_eq_zero (by omega)
   exact hk A' v l G wr b hr (.inl hb) ho hG tk k nx f
 ·rw [e96]
  exact Aq.2 ⟨_,rfl,_,[],[],ws,bad,rfl,⟨rfl,rfl⟩,.nil _,by simp,h,hs,.refl _ _,Nat.le_refl _,hf,rfl⟩
end
section
variable (W0:World) (m0:Inj Tp) (S:Nat→List Value→AW→Prop) (Q:Value→AW→Prop)
theorem e4 (a0:Value) (A:AW):AR Tp Ai W0 m0 4 Tz Lz S Q none 4000 (Tm.fill ⟨48,.nil⟩ 0 [a0]) [.code (cd 4 [])] false 0 0 0 [] A=(Ap (Ep A (Value.cells a0).toList 40) fun t0 At0=>lW At0 40 t0 fun t1=>cW W0 m0 12 [t1] At0 fun t2 At2=>Af t2 (knW Tp W0 m0 7 [] At2 fun t3 At3=>Q t3 At3) (lW At2 40 t0 fun t4=>cW W0 m0 13 [t4] At2 fun t5 At5=>xW t5 0 fun t6=>xW t5 1 fun t7=>lW At5 40 t0 fun t8=>cW W0 m0 14 [t8] At5 fun t9 At9=>xW t9 0 fun t10=>xW t9 1 fun t11=>Ab (Ag Tp .neq 9 (.tmp 22) (.tmp 23) t6 t10) fun t12=>Af t12 (Q (.bool false) At9) (Ab (Ag Tp .neq 3 (.tmp 26) (.tmp 27) t7 t11) fun t13=>Af t13 (Q (.bool false) At9) (kW .neq 24 30 (.int .i64 0) t7 fun t14=>Af t14 (knW Tp W0 m0 7 [] At9 fun t15 At15=>Q t15 At15) (cW W0 m0 15 [t6] At9 fun t16 At16=>xW t16 0 fun t17=>xW t16 1 fun t18=>Ap (B5 Tp At16 40) fun t19 At19=>sW At19 40 t19 t17 fun At20=>kW .eql 24 38 (.int .i64 0) t18 fun t21=>Af t21 (lW At20 40 t19 fun t22=>lW At20 40 t0 fun t23=>cW W0 m0 16 [t22,t23] At20 fun t24 At24=>Af t24 (knW Tp W0 m0 7 [] At24 fun t25 At25=>Q t25 At25) (Q (.bool false) At24)) (Q (.bool false) At20)))))):=by kernel_rfl
theorem w4:Wf1 4 48 Tz Lz:=wf1 (fun _=>by kernel_rfl) (by decide) fun _=>rfl
theorem e54 (A:AW):AR Tp Ai W0 m0 54 Tz Lz S Q none 4000 (Tm.fill ⟨3,.nil⟩ 0 []) [.code (cd 54 [])] false 0 0 0 [] A=(Ap (GZ A) fun t0 At0=>Bp (AH Tp At0 109 t0 (.string ⟨⟨[98,101,103,105,110]⟩⟩) (.int .u8 1)) fun At1=>Bp (AH Tp At1 109 t0 (.string ⟨⟨[101,110,100]⟩⟩) (.int .u8 2)) fun At2=>Bp (AH Tp At2 109 t0 (.string ⟨⟨[116,97,107,101]⟩⟩) (.int .u8 3)) fun At3=>Bp (AH Tp At3 109 t0 (.string ⟨⟨[100,114,111,112]⟩⟩) (.int .u8 4)) fun At4=>Bp (AH Tp At4 109 t0 (.string ⟨⟨[100,111,117,98,108,101]⟩⟩) (.int .u8 5)) fun At5=>Bp (AH Tp At5 109 t0 (.string ⟨⟨[116,105,99,107]⟩⟩) (.int .u8 6)) fun At6=>Bp (AH Tp At6 109 t0 (.string ⟨⟨[99,114,97,115,104]⟩⟩) (.int .u8 7)) fun At7=>Bp (AH Tp At7 109 t0 (.string ⟨⟨[119,97,107,101]⟩⟩) (.int .u8 8)) fun At8=>Bp (AH Tp At8 109 t0 (.string ⟨⟨[102,117,115,101]⟩⟩) (.int .u8 9)) fun At9=>Bp (AH Tp At9 109 t0 (.string ⟨⟨[100,101,99,105,100,101]⟩⟩) (.int .u8 10)) fun At10=>Bp (AH Tp At10 109 t0 (.string ⟨⟨[102,111,114,103,101,116]⟩⟩) (.int .u8 11)) fun At11=>Bp (AH Tp At11 109 t0 (.string ⟨⟨[99,111,110,110,101,99,116]⟩⟩) (.int .u8 12)) fun At12=>Bp (AH Tp At12 109 t0 (.string ⟨⟨[102,101,101,100]⟩⟩) (.int .u8 13)) fun At13=>Bp (AH Tp At13 109 t0 (.string ⟨⟨[108,111,115,116]⟩⟩) (.int .u8 14)) fun At14=>Bp (AH Tp At14 109 t0 (.string ⟨⟨[102,101,116,99,104]⟩⟩) (.int .u8 15)) fun At15=>Bp (AH Tp At15 109 t0 (.string ⟨⟨[99,97,108,108]⟩⟩) (.int .u8 16)) fun At16=>Bp (AH Tp At16 109 t0 (.string ⟨⟨[99,97,108,109]⟩⟩) (.int .u8 17)) fun At17=>Q t0 At17):=by kernel_rfl
theorem w54:Wf0 54 3 Tz Lz:=wf0 (by kernel_rfl) (by decide) rfl
end
end Go.Proofs.YtebidlpekphaoaaGreatDoor
namespace Go.Abs
section
variable {P:Program} {X:Bl} {W0:World} {m0:Inj P} {α β:Type} {ke:α→Value} {ve:β→Value} {keq:α→α→Bool} {t kt et:TypeId}
theorem Ie.Zh (hty:P.underlying t=some (.map kt et)) {A:AW} {r:Nat} {es:List (En α β)} {c:Nat} (h:Ie ke ve A r es c) (hf:AJ A) (hA:A.next < Al) {K:Value→AW→Prop}
  (hk:∀ A',A'=A.push (.mit (some r) c [] c)→Iter (α:=α) (β:=β) A' A.next r c []→Aw A A' []→A'.next=A.next+1→AJ A'→K (.pointer (some ⟨A.next,0,none⟩)) A'):anW P X W0 m0 (JX P A t (.map (some r))) K:=by
 unfold JX AW.new
 simp only [hty,h.row.row,AA.2 hA,cond_true]
 exact .inl ⟨_,_,rfl,hk (A.push (.mit (some r) c [] c)) rfl ⟨by rw [AW.Cz _ hA,if_pos rfl];rfl,by rw [AW.CC];omega⟩ ((AW.Df _ hA).keeps hf) rfl (hf.push _ hA)⟩
theorem Ie.AaO {A:AW} {r it:Nat} {es vs:List (En α β)} {c:Nat} (h:Ie ke ve A r es c) (hi:Iter A it r c vs) (hv:∀ e∈vs,e∈es) (hf:AJ A) (hA:A.next≤Al) {K:Value→AW→Prop}
  (hmore:∀ e A',e∈es→e∉vs→A'=A.put it (.mit (some r) c (vs.map En.b++[e.b]) c)→Iter A' it r c (vs++[e])→Aw A A' [it]→A'.next=A.next→AJ A'→K (.tuple #[.bool true,ke e.k,ve e.v]) A') (hdone:(∀ e∈es,e∈vs)→K (.tuple #[.bool false]) A):
  anW P X W0 m0 (Ik A (.pointer (some ⟨it,0,none⟩)) false) K:=by
 refine .inr (.inr (.inr ⟨it,A,by unfold Ik;simp only [hi.get],r,c,vs.map En.b,c,es.map (En.entry ke ve),c,false,hi.get,h.row.row,?_,fun cd hcd=>?_⟩))
 ·cases hes:es with
  | nil=>simp
  | cons e es'=>
   have:e.b < c:=h.lt e (by rw [hes];simp)
   have hb:Nat.ble c e.b=false:=BU.2 this
   simp [En.entry,hb]
 ·have inj:∀ {x y:En α β},x∈es→y∈es→x.b=y.b→x=y:=Abt h.nb
  have seen:∀ e∈es,(vs.map En.b).contains e.b=true↔e∈vs:=by
   intro e he
   rw [List.contains_iff_mem,List.mem_map]
   constructor
   ·rintro ⟨x,hx,hxe⟩
    rw [← inj (hv x hx) he hxe]
    exact hx
   ·intro hv'
    exact ⟨e,hv',rfl⟩
  unfold Qa at hcd
  rcases List.mem_append.1 hcd with hcd | hcd
  ·split at hcd
   ·rename_i hem
    obtain rfl:cd=none:=by simpa using hcd
    refine hdone fun e he=>?_
    by_cases hin:e∈vs
    ·exact hin
    ·exfalso
     have hc:(vs.map En.b).contains e.b=false:=by
      cases hcc:(vs.map En.b).contains e.b with
      | false=>rfl
      | true=>exact absurd ((seen e he).1 hcc) hin
     have:e.entry ke ve∈(((es.map (En.entry ke ve)).filter fun e=>!(vs.map En.b).contains e.born).filter fun e=>Nat.blt e.born c):=by
      rw [List.mem_filter,List.mem_filter]
      refine ⟨⟨List.mem_map.2 ⟨e,he,rfl⟩,?_⟩,AA.2 (h.lt e he)⟩
      show (!(vs.map En.b).contains e.b)=true
      rw [hc];rfl
     rw [List.isEmpty_iff.1 hem] at this
     cases this
   ·cases hcd
  ·obtain ⟨me,hme,rfl⟩:=List.mem_map.1 hcd
   have hme2:me∈(es.map (En.entry ke ve)).filter fun e=>!(vs.map En.b).contains e.born:=by
    rcases List.mem_append.1 hme with hme | hme
    ·exact (List.mem_filter.1 hme).1
    ·exact (List.mem_filter.1 hme).1
   obtain ⟨hm1,hm2⟩:=List.mem_filter.1 hme2
   obtain ⟨e,he,rfl⟩:=List.mem_map.1 hm1
   have hm2:(!(vs.map En.b).contains e.b)=true:=hm2
   have hnv:e∉vs:=fun hin=>by rw [(seen e he).2 hin] at hm2;cases hm2
   obtain ⟨g1,g2,g3,g4⟩:=VO hi hf hA e
   exact hmore e _ he hnv rfl g1 g2 g3 g4
end
end Go.Abs
namespace Go.Proofs.YtebidlpekphaoaaGreatDoor
open Go.Abs
theorem AcY (e:Bool) (s:ByteArray):Jo Tp e 9 (.string s)=true:=by
 cases e <;> kernel_rfl
theorem Zf (s:ByteArray):(AB 4 (.string s)&&Instr.sameBits 10000 (.string s) (.string s))=true:=by
 have hs:Instr.sameBits 10000 (.string s) (.string s)=true:=by
  show Instr.sameBits (9999+1) (.string s) (.string s)=true
  simp [Instr.sameBits,beq_toListBytes]
 rw [hs];rfl
theorem eqS (a b:ByteArray):eqA Tp 9 (.string a) (.string b)=some (bl a==bl b):=by
 unfold eqA
 have hc:(AB 4 (.string a)&&AB 4 (.string b))=true:=rfl
 rw [hc,cond_true]
 show quiet Tp (Op.equalIn (9999+1) 9 _ _)=_
 exact Jb (by kernel_rfl)
abbrev kS (s:ByteArray):Value:=.string s
abbrev vB (n:Nat):Value:=.int .u8 (n:Int)
def Xy (a b:ByteArray):Bool:=bl a==bl b
theorem Yg:Tp.underlying 109=some (.map 9 5):=by kernel_rfl
theorem KF {a b:ByteArray}:Xy a b=true↔a=b:=⟨fun h=>Fg (eq_of_beq h),fun h=>by rw [h];unfold Xy;simp⟩
theorem Yr:MT Tp 109 9 5 kS Xy:=⟨Yg,eqS,KF,AcY,Zf⟩
theorem ZY:Dv Tp 5=some (.int .u8 0):=by kernel_rfl
def Dy:List (Word × Nat)→Word→Option Nat
 | [],_=>none
 | p::r,w=>if w==p.1 then some p.2 else Dy r w
theorem Lw:∀ {L:List (Word × Nat)} {w:Word} {n:Nat},Dy L w=some n→(w,n)∈L
 | p::r,w,n,h=>by
  unfold Dy at h
  split at h
  ·rename_i hp
   cases h
   rw [eq_of_beq hp];exact List.mem_cons_self
  ·exact List.mem_cons_of_mem _ (Lw h)
structure VM (A:AW) (r:Nat) (L:List (Word × Nat)):Prop where
 own:∃ es c,Ie kS vB A r es c∧∀ k,G0 Xy es k=Dy L (bl k)
theorem VM.keeps {A A':AW} {r:Nat} {L:List (Word × Nat)} {S:List Nat} (h:VM A r L) (k:Aw A A' S) (hn:r∉S):VM A' r L:=by
 obtain ⟨es,c,h1,h2⟩:=h.own
 exact ⟨es,c,h1.keeps k hn,h2⟩
structure VS (A0 A:AW) (r:Nat) (L:List (Word × Nat)):Prop where
 vm:VM A r L
 gr:Grow A0 A 1
 le:A0.next≤r
theorem VS.put {A0 A:AW} {r:Nat} {L:List (Word × Nat)} {w:Word} {n:Nat} {K:AW→Prop} (h:VS A0 A r L) (hA:A0.next+1≤Al) (hk:∀ A',VS A0 A' r ((w,n)::L)→K A'):Bp (AH Tp A 109 (.map (some r)) (.string (txt w)) (.int .u8 (n:Int))) K:=by
 obtain ⟨⟨es,c,h1,h2⟩,g,hle⟩:=h
 have hn:=g.next
 refine h1.put (k:=txt w) (v:=n) Yr g.AG (by omega) fun A' c' h3 k n' f=>hk A' ⟨⟨_,_,h3,fun x=>?_⟩,(g.own k (fun y hy=>by rw [List.mem_singleton.1 hy];exact hle) (m:=0) (by omega) f).more (by omega),hle⟩
 rw [UC KF,h2]
 rfl
theorem VM.look {A:AW} {r:Nat} {L:List (Word × Nat)} (h:VM A r L) (k:ByteArray):F0 Tp A 109 (.map (some r)) (.string k) false=some (.int .u8 (((Dy L (bl k)).getD 0:Nat):Int)):=by
 obtain ⟨es,c,h1,h2⟩:=h.own
 have:=h1.look Yr ZY k false
 rw [h2] at this
 rw [this]
 cases Dy L (bl k) <;> rfl
def Iw:List (Word × Nat):=[([99,97,108,109],17),([99,97,108,108],16),([102,101,116,99,104],15),([108,111,115,116],14),([102,101,101,100],13),([99,111,110,110,101,99,116],12),([102,111,114,103,101,116],11),([100,101,99,105,100,101],10),([102,117,115,101],9),([119,97,107,101],8),([99,114,97,115,104],7),([116,105,99,107],6),([100,111,117,98,108,101],5),([100,114,111,112],4),([116,97,107,101],3),([101,110,100],2),([98,101,103,105,110],1)]
def IZ:List (Word × Nat):=[([116,105,109,101,111,117,116],21),([101,110,100],20),([115,116,97,114,116],19),([116,120,114,111,108,108,98,97,99,107],18),([116,120,99,111,109,109,105,116],17),([115,101,108,101,99,116],16),([114,101,106,101,99,116],15),([114,101,108,101,97,115,101],14),([97,99,99,101,112,116],13),([100,101,108,105,118,101,114],12),([115,116,111,112],11),([102,108,111,119],10),([99,97,110,99,101,108],9),([115,117,98,115,99,114,105,98,101],8),([112,117,98,108,105,115,104],7),([113,117,101,114,121],6),([112,117,114,103,101],5),([100,101,108,101,116,101],4),([100,101,99,108,97,114,101],3),([100,101,116,97,99,104],2),([97,116,116,97,99,104],1)]
def Ju (w:Word):Nat:=(Dy Iw w).getD 0
def Jv (w:Word):Nat:=(Dy IZ w).getD 0
theorem OH:(∀ p∈Iw,p.1=(Aj p.2).1∧1≤p.2∧p.2≤17)∧(∀ i < 17,Dy Iw (Aj (i+1)).1=some (i+1)):=by decide
theorem Pn:(∀ p∈IZ,p.1=(partsOf p.2).1∧1≤p.2∧p.2≤21)∧(∀ i < 21,Dy IZ (partsOf (i+1)).1=some (i+1)):=by decide
theorem Hu {w:Word} {n:Nat}:Dy Iw w=some n↔(1≤n∧n≤17)∧w=(Aj n).1:=by
 constructor
 ·intro h
  obtain ⟨h1,h2,h3⟩:=OH.1 _ (Lw h)
  exact ⟨⟨h2,h3⟩,h1⟩
 ·rintro ⟨⟨h1,h2⟩,rfl⟩
  have:=OH.2 (n - 1) (by omega)
  rwa [show n - 1+1=n by omega] at this
theorem HM {w:Word} {n:Nat}:Dy IZ w=some n↔(1≤n∧n≤21)∧w=(partsOf n).1:=by
 constructor
 ·intro h
  obtain ⟨h1,h2,h3⟩:=Pn.1 _ (Lw h)
  exact ⟨⟨h2,h3⟩,h1⟩
 ·rintro ⟨⟨h1,h2⟩,rfl⟩
  have:=Pn.2 (n - 1) (by omega)
  rwa [show n - 1+1=n by omega] at this
theorem Vu {n:Nat} (h1:1≤n) (h2:n≤17):Ju (Aj n).1=n:=by unfold Ju;rw [Hu.2 ⟨⟨h1,h2⟩,rfl⟩];rfl
theorem Vv {n:Nat} (h1:1≤n) (h2:n≤21):Jv (partsOf n).1=n:=by unfold Jv;rw [HM.2 ⟨⟨h1,h2⟩,rfl⟩];rfl
theorem MV (w:Word):Ju w≤17:=by
 unfold Ju
 cases h:Dy Iw w with
 | none=>simp
 | some n=>have:=(Hu.1 h).1;simp;omega
theorem MW (w:Word):Jv w≤21:=by
 unfold Jv
 cases h:Dy IZ w with
 | none=>simp
 | some n=>have:=(HM.1 h).1;simp;omega
theorem Cn {n:Nat} (h:17 < n):Aj n=([],[]):=by
 unfold Aj
 rw [List.getD_eq_getElem?_getD,List.getElem?_eq_none (show 18≤n by omega)]
 rfl
theorem Cv {n:Nat} (h:21 < n):partsOf n=([],[]):=by
 unfold partsOf
 rw [List.getD_eq_getElem?_getD,List.getElem?_eq_none (show 22≤n by omega)]
 rfl
section
variable {W0:World} {m0:Inj Tp}
theorem Z5 {A:AW} {K:Value→AW→Prop} (hf:AJ A) (hA:A.next+2 < Al) (hk:∀ A',VM A' A.next Iw→Grow A A' 1→K (.map (some A.next)) A'):Wc Tp Ai W0 m0 54 [] A K:=by
 refine w54 _ (At (S:=fun _ _ _=>False) fun _ _ _ h=>h) ?_
 rw [e54]
 refine AaP (ke:=kS) (ve:=vB) hf (by omega) fun A1 h k n f=>?_
 have h:VS A A1 A.next []:=⟨⟨[],0,h,fun _=>rfl⟩,⟨k,f,by omega⟩,Nat.le_refl _⟩
 refine h.put (w:=[98,101,103,105,110]) (n:=1) (by omega) fun A2 h=>?_
 refine h.put (w:=[101,110,100]) (n:=2) (by omega) fun A3 h=>?_
 refine h.put (w:=[116,97,107,101]) (n:=3) (by omega) fun A4 h=>?_
 refine h.put (w:=[100,114,111,112]) (n:=4) (by omega) fun A5 h=>?_
 refine h.put (w:=[100,111,117,98,108,101]) (n:=5) (by omega) fun A6 h=>?_
 refine h.put (w:=[116,105,99,107]) (n:=6) (by omega) fun A7 h=>?_
 refine h.put (w:=[99,114,97,115,104]) (n:=7) (by omega) fun A8 h=>?_
 refine h.put (w:=[119,97,107,101]) (n:=8) (by omega) fun A9 h=>?_
 refine h.put (w:=[102,117,115,101]) (n:=9) (by omega) fun A10 h=>?_
 refine h.put (w:=[100,101,99,105,100,101]) (n:=10) (by omega) fun A11 h=>?_
 refine h.put (w:=[102,111,114,103,101,116]) (n:=11) (by omega) fun A12 h=>?_
 refine h.put (w:=[99,111,110,110,101,99,116]) (n:=12) (by omega) fun A13 h=>?_
 refine h.put (w:=[102,101,101,100]) (n:=13) (by omega) fun A14 h=>?_
 refine h.put (w:=[108,111,115,116]) (n:=14) (by omega) fun A15 h=>?_
 refine h.put (w:=[102,101,116,99,104]) (n:=15) (by omega) fun A16 h=>?_
 refine h.put (w:=[99,97,108,108]) (n:=16) (by omega) fun A17 h=>?_
 refine h.put (w:=[99,97,108,109]) (n:=17) (by omega) fun A18 h=>?_
 exact hk _ h.vm h.gr
theorem Z3 {A:AW} {K:Value→AW→Prop} (hf:AJ A) (hA:A.next+2 < Al) (hk:∀ A',VM A' A.next IZ→Grow A A' 1→K (.map (some A.next)) A'):Wc Tp Ai W0 m0 83 [] A K:=by
 refine w83 _ (At (S:=fun _ _ _=>False) fun _ _ _ h=>h) ?_
 rw [e83]
 refine AaP (ke:=kS) (ve:=vB) hf (by omega) fun A1 h k n f=>?_
 have h:VS A A1 A.next []:=⟨⟨[],0,h,fun _=>rfl⟩,⟨k,f,by omega⟩,Nat.le_refl _⟩
 refine h.put (w:=[97,116,116,97,99,104]) (n:=1) (by omega) fun A2 h=>?_
 refine h.put (w:=[100,101,116,97,99,104]) (n:=2) (by omega) fun A3 h=>?_
 refine h.put (w:=[100,101,99,108,97,114,101]) (n:=3) (by omega) fun A4 h=>?_
 refine h.put (w:=[100,101,108,101,116,101]) (n:=4) (by omega) fun A5 h=>?_
 refine h.put (w:=[112,117,114,103,101]) (n:=5) (by omega) fun A6 h=>?_
 refine h.put (w:=[113,117,101,114,121]) (n:=6) (by omega) fun A7 h=>?_
 refine h.put (w:=[112,117,98,108,105,115,104]) (n:=7) (by omega) fun A8 h=>?_
 refine h.put (w:=[115,117,98,115,99,114,105,98,101]) (n:=8) (by omega) fun A9 h=>?_
 refine h.put (w:=[99,97,110,99,101,108]) (n:=9) (by omega) fun A10 h=>?_
 refine h.put (w:=[102,108,111,119]) (n:=10) (by omega) fun A11 h=>?_
 refine h.put (w:=[115,116,111,112]) (n:=11) (by omega) fun A12 h=>?_
 refine h.put (w:=[100,101,108,105,118,101,114]) (n:=12) (by omega) fun A13 h=>?_
 refine h.put (w:=[97,99,99,101,112,116]) (n:=13) (by omega) fun A14 h=>?_
 refine h.put (w:=[114,101,108,101,97,115,101]) (n:=14) (by omega) fun A15 h=>?_
 refine h.put (w:=[114,101,106,101,99,116]) (n:=15) (by omega) fun A16 h=>?_
 refine h.put (w:=[115,101,108,101,99,116]) (n:=16) (by omega) fun A17 h=>?_
 refine h.put (w:=[116,120,99,111,109,109,105,116]) (n:=17) (by omega) fun A18 h=>?_
 refine h.put (w:=[116,120,114,111,108,108,98,97,99,107]) (n:=18) (by omega) fun A19 h=>?_
 refine h.put (w:=[115,116,97,114,116]) (n:=19) (by omega) fun A20 h=>?_
 refine h.put (w:=[101,110,100]) (n:=20) (by omega) fun A21 h=>?_
 refine h.put (w:=[116,105,109,101,111,117,116]) (n:=21) (by omega) fun A22 h=>?_
 exact hk _ h.vm h.gr
theorem OW {γ:Type}:∀ {a b:List γ},a.Nodup→(∀ x∈a,x∈b)→a.length≤b.length
 | [],_,_,_=>Nat.zero_le _
 | x::a,b,hn,hs=>by
  obtain ⟨s,t,rfl⟩:=List.append_of_mem (hs x List.mem_cons_self)
  rw [List.nodup_cons] at hn
  have:=OW (a:=a) (b:=s++t) hn.2 fun y hy=>by
   have hne:y≠x:=fun e=>hn.1 (e▸hy)
   rcases List.mem_append.1 (hs y (List.mem_cons_of_mem _ hy)) with h | h
   ·exact List.mem_append_left _ h
   ·rcases List.mem_cons.1 h with h | h
    ·exact absurd h hne
    ·exact List.mem_append_right _ h
  simp only [List.length_append,List.length_cons] at *
  omega
theorem Z8 {A:AW} {r n:Nat} {L:List (Word × Nat)} {w:Word} {K:Value→AW→Prop} (h:VM A r L) (hw:(∀ k,Dy L k=some n→k=w)∧(Dy L w=some n∨(w=[]∧∀ k,Dy L k≠some n))) (hf:AJ A) (hA:A.next+1 < Al)
  (hk:∀ A',Grow A A' 1→K (.string (txt w)) A'):Wc Tp Ai W0 m0 53 [.map (some r),.int .u8 (n:Int)] A K:=by
 obtain ⟨es,c,h,hl⟩:=h.own
 have hr:=h.ltA
 have hnb:=Q6 En.b h.nb
 have hin:∀ e∈es,Dy L (bl e.k)=some e.v:=fun e he=>by
  rw [← hl];exact (O2 KF h.nk).2 ⟨e,he,rfl,rfl⟩
 let I:Nat→Nat→List Value→AW→Prop:=fun g id vals A'=>id=0∧∃ vs:List (En ByteArray Nat),vals=[.int .u8 (n:Int),.pointer (some ⟨A.next,0,none⟩)]∧Iter A' A.next r c vs∧Ie kS vB A' r es c∧(∀ e∈vs,e∈es∧e.v≠n)∧vs.Nodup∧
  A'.next=A.next+1∧Aw A A' []∧AJ A'∧g=es.length - vs.length
 refine w53 _ _ _ (c53 (I:=I) ?_) ?_
 ·rintro g id vals A' d ⟨rfl,vs,rfl,hi,hm,hvs,hnd,nx,hA',f,rfl⟩ hd
  rw [Aa8]
  simp only [L53,List.map_cons,List.map_nil,List.cons.injEq,and_true] at hd
  obtain ⟨d1,d8⟩:=hd
  simp only [d1,d8]
  refine hm.AaO hi (fun e he=>(hvs e he).1) f (by omega) (fun e A2 he hnv hA2 hi2 k2 n2 f2=>?_) fun hall=>?_
  ·have hm2:=hm.keeps k2 (by simp;omega)
   have K2:Aw A A2 []:=hA'.trans k2 fun x hx=>.inr (by rw [List.mem_singleton.1 hx];exact Nat.le_refl _)
   refine Aa (v:=.bool true) rfl (Ak.2 ⟨fun _=>?_,fun h=>(by cases h)⟩)
   refine hm2.entry hi2 he ?_
   have x0:Bt (.tuple #[kS e.k,vB e.v]) 0=some (.string e.k):=rfl
   have x1:Bt (.tuple #[kS e.k,vB e.v]) 1=some (.int .u8 (e.v:Int)):=rfl
   simp only [x0,x1,Ah,Ad,Ae]
   refine ⟨fun hn=>?_,fun hn=>?_⟩
   ·have hn:e.v=n:=by omega
    have e1:=hw.1 (bl e.k) (by rw [hin e he,hn])
    rw [← Hi e.k,e1]
    exact hk _ ⟨K2,f2,by omega⟩
   ·have hn:e.v≠n:=fun h=>hn (by rw [h])
    have hle:vs.length < es.length:=by
     have:=OW (a:=e::vs) (b:=es) (List.nodup_cons.2 ⟨hnv,hnd⟩) fun x hx=>by
      rcases List.mem_cons.1 hx with rfl | hx
      ·exact he
      ·exact (hvs x hx).1
     simp only [List.length_cons] at this;omega
    refine Aq.2 ⟨es.length - (vs++[e]).length,by simp;omega,rfl,vs++[e],rfl,hi2,hm2,fun x hx=>?_,?_,by omega,K2,f2,rfl⟩
    ·rcases List.mem_append.1 hx with hx | hx
     ·exact hvs x hx
     ·rw [List.mem_singleton.1 hx];exact ⟨he,hn⟩
    ·rw [List.nodup_append]
     refine ⟨hnd,by simp,fun x hx y hy hxy=>?_⟩
     rw [List.mem_singleton.1 hy] at hxy
     exact hnv (hxy▸hx)
  ·refine Aa (v:=.bool false) rfl (Ak.2 ⟨fun h=>(by cases h),fun _=>?_⟩)
   rcases hw.2 with hw2 | ⟨rfl,_⟩
   ·have h2:=(O2 KF h.nk).1 ((hl (txt w)).trans hw2)
    obtain ⟨e,he,_,hv⟩:=h2
    exact absurd hv (hvs e (hall e he)).2
   ·exact hk _ ⟨hA',f,by omega⟩
 ·rw [e53]
  refine h.Zh Yg hf (by omega) fun A1 hA1 hi k1 n1 f1=>?_
  refine Aq.2 ⟨es.length,rfl,[],rfl,hi,h.keeps k1 (by simp),by simp,List.nodup_nil,n1,k1,f1,rfl⟩
theorem Z6 {A:AW} {r n:Nat} {K:Value→AW→Prop} (h:VM A r Iw) (hf:AJ A) (hA:A.next+1 < Al) (hk:∀ A',Grow A A' 1→K (.string (txt (Aj n).1)) A'):Wc Tp Ai W0 m0 53 [.map (some r),.int .u8 (n:Int)] A K:=by
 refine Z8 h ⟨fun k hk=>(Hu.1 hk).2,?_⟩ hf hA hk
 by_cases h1:1≤n∧n≤17
 ·exact .inl (Hu.2 ⟨h1,rfl⟩)
 ·refine .inr ⟨?_,fun k hk=>h1 (Hu.1 hk).1⟩
  rcases Nat.lt_or_ge 17 n with h2 | h2
  ·rw [Cn h2]
  ·obtain rfl:n=0:=by omega
   rfl
theorem Z7 {A:AW} {r n:Nat} {K:Value→AW→Prop} (h:VM A r IZ) (hf:AJ A) (hA:A.next+1 < Al) (hk:∀ A',Grow A A' 1→K (.string (txt (partsOf n).1)) A'):Wc Tp Ai W0 m0 53 [.map (some r),.int .u8 (n:Int)] A K:=by
 refine Z8 h ⟨fun k hk=>(HM.1 hk).2,?_⟩ hf hA hk
 by_cases h1:1≤n∧n≤21
 ·exact .inl (HM.2 ⟨h1,rfl⟩)
 ·refine .inr ⟨?_,fun k hk=>h1 (HM.1 hk).1⟩
  rcases Nat.lt_or_ge 21 n with h2 | h2
  ·rw [Cv h2]
  ·obtain rfl:n=0:=by omega
   rfl
end
end Go.Proofs.YtebidlpekphaoaaGreatDoor
