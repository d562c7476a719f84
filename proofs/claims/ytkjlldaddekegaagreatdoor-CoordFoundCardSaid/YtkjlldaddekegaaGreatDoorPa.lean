/-
  Operations on an abstract heap are shown to do what the model does with them. Conditions: none for the last theorem, those that each theorem states for the others.
-/
import Derived.Below
import Derived.Calls
import Derived.IntWalk
import Derived.Laws.Tables
import Derived.Lib.MakeNoZero
import Derived.Lib.Strings
import Derived.Lib.UnsafeStr
set_option maxRecDepth 100000
set_option maxHeartbeats 1000000
namespace Go
abbrev Oi:=@Option.some.injEq
abbrev Ms:=@List.mem_singleton
abbrev Lq:=@List.length_append
abbrev Lc:=@List.length_cons
abbrev Ln:=@List.length_nil
abbrev Mc:=@List.map_cons
abbrev Mn:=@List.map_nil
abbrev Li:=@List.cons.injEq
abbrev Pj:=@Prod.mk.injEq
abbrev Ge:=@List.getElem?_eq_getElem
abbrev Gs:=@List.getElem?_eq_some_iff
abbrev Bq:=@Bool.and_eq_true
abbrev Nl:=@Nat.le_refl
abbrev Nb:=@Nat.eq_of_beq_eq_true
abbrev Ct:=@cond_true
abbrev Cf:=@cond_false
abbrev Ff:=@if_neg
abbrev Mk:=@List.mem_cons
abbrev Mz:=@List.mem_append
abbrev Mw:=@List.append_assoc
end Go
namespace Go.Abs
def Bo:Nat:=18446744073709551616
inductive Trie (α:Type) where
 |nil
 |node (v:Option α) (l r:Trie α)
def Trie.get?{α:Type}:Trie α→Nat→Option α
 |.nil,_=>none
 |.node v l r,n=>bif Nat.beq n 0 then v else bif Nat.beq (n%2) 1 then l.get? (n/2) else r.get? (n/2-1)
def Trie.put{α:Type}:Nat→Trie α→Nat→Option α→Trie α
 |0,t,_,_=>t
 |k+1,.nil,n,x=>bif Nat.beq n 0 then .node x .nil .nil else bif Nat.beq (n%2) 1 then .node none (Trie.put k .nil (n/2) x) .nil else .node none .nil (Trie.put k .nil (n/2-1) x)
 |k+1,.node v l r,n,x=>bif Nat.beq n 0 then .node x l r else bif Nat.beq (n%2) 1 then .node v (Trie.put k l (n/2) x) r else .node v l (Trie.put k r (n/2-1) x)
def depth:Nat:=24
structure Tm where
 sz:Nat
 t:Trie Value
def Tm.get(m:Tm)(i:Nat):Value:=match m.t.get? i with | some v=>v | none=>undef
def Tm.set(m:Tm)(i:Nat)(v:Value):Tm:=bif Nat.blt i m.sz then ⟨m.sz,m.t.put depth i (some v)⟩ else m
def Tm.fill(m:Tm)(i:Nat):List Value→Tm
 |[]=>m
 |v::r=>Tm.fill (m.set i v) (i+1) r
structure GB where
 state:LoopState
 pending:Option Code
 fn:FuncId
 tm:Tm
 params:List Tmp
 assign:Code
 body:Code
 defers:Nat
inductive AO where
 |row (cells:List Value) (elem:TypeId) (fam base:Nat) (ro:Bool)
 |map (es:List MapEntry) (clock:Nat) (ro:Bool)
 |sit (s:ByteArray) (pos:Nat)
 |mit (map:Option Nat) (since:Nat) (seen:List Nat) (stepped:Nat)
 |loop (l:GB)
 |deferred (calls:Option (List Deferred))
structure AW where
 heap:Trie AO
 next:Nat
 fams:Trie (List Nat)
inductive R (α:Type) where
 |ok (a:α) (w:AW)
 |panic (v:Value) (w:AW)
 |fail (why:String)
def isTuple:Value→Bool | .tuple _=>true | _=>false
def EJ:Value:=.tuple #[.bool false]
def AP:Value→Bool | .agg _ | .tuple _=>false | _=>true
def AW.get(w:AW)(b:Nat):Option AO:=w.heap.get? b
def AW.put(w:AW)(b:Nat)(o:AO):AW:={ w with heap:=w.heap.put depth b (some o) }
def cellOf:List Value→Nat→Option Value
 |[],_=>none
 |v::_,0=>bif isTuple v then none else some v
 |_::r,n+1=>cellOf r n
def AW.cell?(w:AW)(a:Addr):Option Value:=
 match a.spot with
 |some _=>none
 |none=>match w.get a.block with
  |some (.row cs _ _ _ _)=>cellOf cs a.off
  |_=>none
def AZ:List Value→Nat→Option (List Value)
 |_,0=>some []
 |[],_+1=>none
 |v::r,n+1=>bif isTuple v then none else (match AZ r n with | some l=>some (v::l) | none=>none)
def DO:List Value→Nat→Option (List Value)
 |_,0=>some []
 |[],_+1=>none
 |v::r,n+1=>match DO r n with | some l=>some (v::l) | none=>none
def AW.cells?(w:AW)(a:Addr)(n:Nat):Option (List Value):=
 match n with
 |0=>some []
 |n+1=>match a.spot with
  |some _=>none
  |none=>match w.get a.block with
   |some (.row cs _ _ _ _)=>AZ (cs.drop a.off) (n+1)
   |_=>none
def AW.members(w:AW)(fam:Nat):List Nat:=match w.fams.get? fam with | some l=>l | none=>[fam]
def BO(De coord:Nat):List Nat→AW→AW
 |[],w=>w
 |i::r,w=>
  BO De coord r (bif Nat.beq i De then w else
   match w.get i with
   |some (.row cs e fam base ro)=>bif Nat.ble base coord then w.put i (.row (cs.set (coord-base) EJ) e fam base ro) else w
   |_=>w)
def Dg:List Value→List Value
 |[]=>[]
 |_::r=>EJ::Dg r
def BN:List Value→Nat→List Value
 |l,0=>Dg l
 |[],_+1=>[]
 |v::r,n+1=>v::BN r n
def BL(coord:Nat):List Nat→AW→AW
 |[],w=>w
 |i::r,w=>
  BL coord r (match w.get i with
   |some (.row cs e fam base ro)=>w.put i (.row (BN cs (coord-base)) e fam base ro)
   |_=>w)
def BZ:List Nat→AW→AW
 |[],w=>w
 |i::r,w=>
  BZ r (match w.get i with
   |some (.row cs e fam base _)=>w.put i (.row cs e fam base true)
   |_=>w)
def AW.setCell(w:AW)(a:Addr)(v:Value):Option AW:=
 match a.spot with
 |some _=>none
 |none=>match w.get a.block with
  |some (.row cs e fam base ro)=>
   bif ro || !AP v || Nat.ble cs.length a.off then none
   else some (BO a.block (base+a.off) (w.members fam) (w.put a.block (.row (cs.set a.off v) e fam base ro)))
  |_=>none
def AW.setCells(w:AW)(a:Addr):List Value→Option AW
 |[]=>some w
 |v::r=>match w.setCell a v with
  |some w'=>AW.setCells w' { a with off:=a.off+1 } r
  |none=>none
def Ak:Nat:=4194304
def AW.new(w:AW)(o:AO):Option (Nat × AW):=
 bif Nat.blt w.next Ak then some (w.next,{ (w.put w.next o) with next:=w.next+1 }) else none
def AW.newRow(w:AW)(cs:List Value)(e:TypeId):Option (Addr × AW):=
 bif cs.all AP then (match w.new (.row cs e w.next 0 false) with
  |some (b,w')=>some (⟨b,0,none⟩,w')
  |none=>none) else none
structure Bc where
 clone:List FuncId
 noEscape:List FuncId
 noZero:List FuncId
 known:List FuncId:=[]
 forks:List FuncId:=[]
 asks:List FuncId:=[]
 says:List (FuncId × Tmp × Value):=[]
section
variable (P:Program)
def AG:Nat→Value→Bool
 |_,.bool _=>true
 |_,.int _ _=>true
 |_,.float _ _=>true
 |_,.complex _ _ _=>true
 |_,.string _=>true
 |_,.nilFunc=>true
 |_,.nilIface=>true
 |_,.pointer none=>true
 |_,.slice none 0 0=>true
 |_,.map none=>true
 |_,.chan none=>true
 |n+1,.iface _ v=>AG n v
 |n+1,.agg cs=>cs.toList.all (AG n)
 |n+1,.tuple cs=>cs.toList.all (AG n)
 |n+1,.func fn f c=>(match fn with | .yield _=>false | _=>true)&&(f.toList.all (AG n)&&c.toList.all (AG n))
 |_,_=>false
def quiet{α:Type}:Sem α→Option α
 |.pure a=>some a
 |.program k=>quiet (k P)
 |.mark _ k=>quiet k
 |_=>none
def szT(t:TypeId):Option Nat:=match P.info? t with | some i=>some i.size | none=>none
def Ex(t:TypeId):Option Nat:=match P.info? t with | some i=>some i.bytes | none=>none
def C2(t:TypeId):Option Value:=match P.info? t with
 |some i=>(match i.zero with | some z=>bif AG 4 z then some z else none | none=>none)
 |none=>none
def MN(t:TypeId):Option Bool:=match P.underlying t with
 |some (.struct _)=>some true
 |some (.array _ _)=>some true
 |some _=>some false
 |none=>none
def MY(t:TypeId)(f:Nat):Option Field:=match P.underlying t with
 |some (.struct fs)=>fs.toList[f]?
 |_=>none
def Bt(t:TypeId):Option TypeId:=match P.underlying t with | some (.slice e)=>some e | _=>none
def CC(w:AW)(t:TypeId)(a:Addr):Option Value:=
 match MN P t with
 |some true=>match szT P t with
  |some n=>match w.cells? a n with | some l=>some (.agg ⟨l⟩) | none=>none
  |none=>none
 |some false=>w.cell? a
 |none=>none
def Iq(w:AW)(t:TypeId)(a:Addr)(v:Value):Option AW:=
 match szT P t with
 |some n=>let cs:=v.cells.toList;bif Nat.beq cs.length n then w.setCells a cs else none
 |none=>none
def P2(t:TypeId)(cs:List Value)(off:Nat):Option Value:=
 match MN P t with
 |some true=>match szT P t with
  |some n=>match DO (cs.drop off) n with | some l=>some (.agg ⟨l⟩) | none=>none
  |none=>none
 |some false=>cs[off]?
 |none=>none
def El:List Value→Nat→List Value→Option (List Value)
 |l,_,[]=>some l
 |[],_,_::_=>none
 |_::r,0,v::vs=>match El r 0 vs with | some r'=>some (v::r') | none=>none
 |x::r,n+1,v::vs=>match El r n (v::vs) with | some r'=>some (x::r') | none=>none
def Ld(place:Nat→Option (Nat × Nat)):List Value→List (Nat × Value)→Option (List Value)
 |cells,[]=>some cells
 |cells,(i,v)::rest=>match place i with
  |some (off,size)=>
   let vs:=v.cells.toList
   bif Nat.beq vs.length size&&Nat.ble (off+size) cells.length then (match El cells off vs with | some cells'=>Ld place cells' rest | none=>none) else none
  |none=>none
def JM:List Field→Option (List (Nat × Nat))
 |[]=>some []
 |f::r=>match szT P f.type,JM r with
  |some n,some l=>some ((f.offset,n)::l)
  |_,_=>none
def Aw(t:TypeId)(parts:List (Nat × Value)):Option Value:=
 match C2 P t with
 |none=>none
 |some z=>match P.underlying t with
  |some (.struct fs)=>(match JM P fs.toList with
   |some ps=>(match Ld (fun i=>ps[i]?) z.cells.toList parts with | some l=>some (.agg ⟨l⟩) | none=>none)
   |none=>none)
  |some (.array _ e)=>(match szT P e with
   |some n=>(match Ld (fun i=>some (i*n,n)) z.cells.toList parts with | some l=>some (.agg ⟨l⟩) | none=>none)
   |none=>none)
  |_=>none
def DC(z:List Value):Nat→List Value
 |0=>[]
 |n+1=>z++DC z n
def E4(e:TypeId)(size n:Nat):Option (List Value):=
 bif Nat.beq (n*size) 0 then some [] else
 match C2 P e with
 |some z=>bif Nat.beq z.cells.toList.length size then some (DC z.cells.toList n) else none
 |none=>none
def eqA(t:TypeId)(x y:Value):Option Bool:=
 bif AG 4 x&&AG 4 y then quiet P (Op.equal t x y) else
 match P.underlying t,x,y with
 |some (.pointer _),.pointer none,.pointer b=>some b.isNone
 |some (.pointer _),.pointer (some _),.pointer none=>some false
 |some (.pointer e),.pointer (some a),.pointer (some b)=>
  (match szT P e,a.spot,b.spot with
  |some (_+1),none,none=>bif Nat.beq a.block b.block then some (Nat.beq a.off b.off) else none
  |_,_,_=>none)
 |some (.slice _),.slice none _ _,.slice b _ _=>some b.isNone
 |some (.slice _),.slice (some _) _ _,.slice none _ _=>some false
 |some (.map _ _),.map none,.map b=>some b.isNone
 |some (.map _ _),.map (some _),.map none=>some false
 |some (.func _ _ _),.nilFunc,.func _ _ _=>some false
 |some (.func _ _ _),.func _ _ _,.nilFunc=>some false
 |some (.interface _),.nilIface,.iface _ _=>some false
 |some (.interface _),.iface _ _,.nilIface=>some false
 |_,_,_=>none
def isConst:Operand→Bool | .const _=>true | _=>false
def Dt(t:TypeId)(xo yo:Operand)(x y:Value):Bool:=
 match x,y with
 |.nilIface,.nilIface=>isConst xo || isConst yo
 |.agg _,.agg _=>!P.eqGuardType P.depth t
 |_,_=>true
def Q7(op:BinOp)(x y:ByteArray):Option Value:=
 let a:=x.data.toList;let b:=y.data.toList
 match op with
 |.add=>let l:=a++b;bif Nat.blt l.length 1099511627776 then some (.string ⟨⟨l⟩⟩) else none
 |.eql=>some (.bool (a==b))
 |.neq=>some (.bool !(a==b))
 |.lss=>some (.bool (Op.bytesLess a b))
 |.leq=>some (.bool (Op.bytesLess a b || a==b))
 |.gtr=>some (.bool !(Op.bytesLess a b || a==b))
 |.geq=>some (.bool !(Op.bytesLess a b))
 |_=>none
def Cx(v:Option Value):Option Value:=match v with | some v=>bif AG 4 v then some v else none | none=>none
def Ah(op:BinOp)(t:TypeId)(xo yo:Operand)(x y:Value):Option Value:=
 match x,y with
 |.int _ _,.int _ _=>Cx (quiet P (binOp op t x y))
 |.string a,.string b=>Q7 op a b
 |.float _ _,.float _ _=>none
 |.complex _ _ _,.complex _ _ _=>none
 |_,_=>match op with
  |.eql=>bif Dt P t xo yo x y then (match eqA P t x y with | some b=>some (.bool b) | none=>none) else none
  |.neq=>bif Dt P t xo yo x y then (match eqA P t x y with | some b=>some (.bool !b) | none=>none) else none
  |_=>none
def unA(op:UnOp)(x:Value):Option Value:=bif AG 1 x then Cx (quiet P (Op.unary op x)) else none
def DM(a:Addr)(n:Nat):Addr:=bif Nat.beq n 0 then a else ⟨a.block,a.off+n,none⟩
def Ac(s:TypeId)(x:Value)(f:Nat):Option Value:=
 match x with
 |.pointer (some a)=>match MY P s f with
  |some fd=>(match szT P fd.type with
   |some (_+1)=>some (.pointer (some (DM a fd.offset)))
   |_=>none)
  |none=>none
 |_=>none
def OX(s:TypeId)(x:Value)(f:Nat):Option Value:=
 match x,MY P s f with
 |.agg cs,some fd=>P2 P fd.type cs.toList fd.offset
 |_,_=>none
def Aj(t:TypeId)(x ix:Value):Option Value:=
 match ix with
 |.int _ (.ofNat i)=>
  match P.underlying t,x with
  |some (.array len e),.pointer (some a)=>
   bif Nat.blt i len then (match szT P e with | some n=>some (.pointer (some (DM a (i*n)))) | none=>none) else none
  |some (.slice e),.slice (some a) len _=>
   bif Nat.blt i len then (match szT P e with | some n=>some (.pointer (some (DM a (i*n)))) | none=>none) else none
  |_,_=>none
 |_=>none
def OV(t:TypeId)(x ix:Value):Option Value:=
 match ix with
 |.int _ (.ofNat i)=>
  match P.underlying t,x with
  |some (.array len e),.agg cs=>
   bif Nat.blt i len then (match szT P e with | some n=>P2 P e cs.toList (i*n) | none=>none) else none
  |some .string,.string s=>(match s.data.toList[i]? with | some b=>some (.int .u8 b.toNat) | none=>none)
  |_,_=>none
 |_=>none
def EP(v:Option Value)(dflt y:Nat):Option Nat:=
 match v with
 |none=>some dflt
 |some (.int _ (.ofNat i))=>bif Nat.ble i y then some i else none
 |some _=>none
def IQ(mx hi:Option Value):Bool:=hi.isSome || !mx.isSome
def bounds(len cap:Nat)(lo hi mx:Option Value):Option (Nat × Nat × Nat):=
 bif IQ mx hi then
  match EP mx cap cap with
  |none=>none
  |some m=>match EP hi len m with
   |none=>none
   |some h=>match EP lo 0 h with
    |none=>none
    |some l=>some (l,h,m)
 else none
def Hy(a:Option Addr)(n:Nat):Option Addr:=match a with | some a=>some (DM a n) | none=>none
def JF(w:AW)(a:Option Addr)(e:TypeId):Bool:=
 match a with
 |some a=>(match w.get a.block with | some (.row _ e' _ _ _)=>Nat.beq e' e | _=>false)
 |none=>false
def Cc(w:AW)(t:TypeId)(x:Value)(lo hi mx:Option Value):Option Value:=
 match P.underlying t,x with
 |some .string,.string s=>
  (match mx,bounds s.data.toList.length s.data.toList.length lo hi none with
  |none,some (l,h,_)=>some (.string ⟨⟨(s.data.toList.take h).drop l⟩⟩)
  |_,_=>none)
 |some (.slice e),.slice a len cap=>
  (match szT P e with
  |none=>none
  |some size=>
   bif Nat.ble Bo cap then
    (match mx with
    |none=>(match bounds len (cap-Bo) lo hi none with
     |some (l,h,m)=>bif Nat.ble h m&&JF w a e then some (.slice (Hy a (l*size)) (h-l) (Bo+(m-l))) else none
     |none=>none)
    |some _=>(match bounds len (cap-Bo) lo hi mx with
     |some (l,h,m)=>bif Nat.blt m Bo then some (.slice (Hy a (l*size)) (h-l) (m-l)) else none
     |none=>none))
   else
    (match bounds len cap lo hi mx with
    |some (l,h,m)=>some (.slice (bif Nat.beq m l then a else Hy a (l*size)) (h-l) (m-l))
    |none=>none))
 |some (.array n e),.pointer (some a)=>
  (match szT P e with
  |none=>none
  |some size=>(match bounds n n lo hi mx with
   |some (l,h,m)=>bif Nat.blt m Bo then some (.slice (some (bif Nat.beq m l then a else DM a (l*size))) (h-l) (m-l)) else none
   |none=>none))
 |_,_=>none
def Gp(kt:TypeId)(k:Value):List MapEntry→Nat→Option (Option Nat)
 |[],_=>some none
 |e::es,i=>match eqA P kt k e.key with
  |some true=>some (some i)
  |some false=>Gp kt k es (i+1)
  |none=>none
def H3(empty:Bool)(kt:TypeId)(k:Value):Bool:=AG 4 k&&(match quiet P (Instr.checkKey empty 10000 kt k) with | some _=>true | none=>false)
def Dp(t:TypeId):Option (TypeId × TypeId):=match P.underlying t with | some (.map k e)=>some (k,e) | _=>none
def Km(w:AW)(x:Value):Option (List MapEntry):=
 match x with
 |.map none=>some []
 |.map (some r)=>(match w.get r with | some (.map es _ _)=>some es | _=>none)
 |_=>none
def C5(w:AW)(t:TypeId)(x k:Value)(commaOk:Bool):Option Value:=
 match Dp P t with
 |none=>none
 |some (kt,et)=>
  match Km w x with
  |none=>none
  |some es=>
   bif H3 P es.isEmpty kt k then
    match Gp P kt k es 0 with
    |none=>none
    |some (some i)=>(match es[i]? with
     |some e=>some (bif commaOk then .tuple #[e.val,.bool true] else e.val)
     |none=>none)
    |some none=>(match C2 P et with
     |some z=>some (bif commaOk then .tuple #[z,.bool false] else z)
     |none=>none)
   else none
def DE:List MapEntry→Nat→Value→Value→List MapEntry
 |[],_,_,_=>[]
 |e::r,0,k,v=>{ e with key:=k,val:=v }::r
 |e::r,n+1,k,v=>e::DE r n k v
def BV(w:AW)(t:TypeId)(m k v:Value):Option AW:=
 match Dp P t,m with
 |some (kt,_),.map (some r)=>
  bif H3 P false kt k then
   match w.get r with
   |some (.map es clock false)=>
    (match Gp P kt k es 0 with
    |none=>none
    |some (some i)=>(match es[i]? with
     |some e=>bif AG 4 e.key&&Instr.sameBits 10000 e.key k then some (w.put r (.map (DE es i k v) clock false)) else none
     |none=>none)
    |some none=>some (w.put r (.map (es++[{ key:=k,val:=v,born:=clock }]) (clock+1) false)))
   |_=>none
  else none
 |_,_=>none
def Iy(w:AW)(t:TypeId)(m k:Value):Option (Value × AW):=
 match Dp P t,m with
 |some (kt,et),.map (some r)=>
  bif H3 P false kt k then
   match w.get r with
   |some (.map es clock false)=>
    (match Gp P kt k es 0 with
    |none=>none
    |some (some i)=>(match es[i]? with
     |some e=>bif AG 4 e.key&&Instr.sameBits 10000 e.key k then some (.tuple #[e.val,.int .i64 e.born],w.put r (.map (DE es i k e.val) clock false)) else none
     |none=>none)
    |some none=>(match C2 P et with
     |some z=>some (.tuple #[z,.int .i64 clock],w.put r (.map (es++[{ key:=k,val:=z,born:=clock }]) (clock+1) false))
     |none=>none))
   |_=>none
  else none
 |_,_=>none
def DK(n:Nat):List MapEntry→Nat→Option Nat
 |[],_=>none
 |e::r,i=>bif Nat.beq e.born n then some i else DK n r (i+1)
def Gt(w:AW)(m s v:Value):Option AW:=
 match m,s with
 |.map (some r),.int _ (.ofNat n)=>(match w.get r with
  |some (.map es clock false)=>(match DK n es 0 with
   |some i=>(match es[i]? with
    |some e=>some (w.put r (.map (DE es i e.key v) clock false))
    |none=>none)
   |none=>none)
  |_=>none)
 |_,_=>none
def Fw(w:AW)(t:TypeId)(m k:Value):Option AW:=
 match Dp P t with
 |some (kt,_)=>
  (match m with
  |.map none=>bif H3 P true kt k then some w else none
  |.map (some r)=>(match w.get r with
   |some (.map es clock false)=>
    bif H3 P es.isEmpty kt k then
     (match Gp P kt k es 0 with
     |none=>none
     |some (some i)=>some (w.put r (.map (es.eraseIdx i) clock false))
     |some none=>some (w.put r (.map es clock false)))
    else none
   |_=>none)
  |_=>none)
 |_=>none
def Br(w:AW)(t:TypeId)(x:Value):Option Value:=
 match P.underlying t,x with
 |some .string,.string s=>some (.int .i64 s.data.toList.length)
 |some (.array n _),_=>some (.int .i64 n)
 |some (.slice _),.slice _ n _=>some (.int .i64 n)
 |some (.map _ _),.map none=>some (.int .i64 0)
 |some (.map _ _),.map (some r)=>(match w.get r with | some (.map es _ _)=>some (.int .i64 es.length) | _=>none)
 |_,_=>none
def DY(w:AW)(size:Nat)(x:Value):Option (Nat × List Value):=
 match x with
 |.slice (some a) n _=>(match w.cells? a (n*size) with | some l=>some (n,l) | none=>none)
 |.slice none n _=>bif Nat.beq n 0 then some (0,[]) else none
 |.string s=>bif Nat.beq size 1 then some (s.data.toList.length,s.data.toList.map fun b=>.int .u8 b.toNat) else none
 |_=>none
def room:Nat:=68719476736
def AW.CS(w:AW)(a:Addr)(n:Nat):Option (List Value):=
 match n with
 |0=>some []
 |n+1=>match a.spot with
  |some _=>none
  |none=>match w.get a.block with
   |some (.row cs _ _ _ _)=>DO (cs.drop a.off) (n+1)
   |_=>none
def AW.HY(w:AW)(cs:List Value)(e:TypeId)(fam base:Nat):Option (Addr × AW):=
 match w.new (.row cs e fam base false) with
 |some (b,w')=>some (⟨b,0,none⟩,{ w' with fams:=w'.fams.put depth fam (some (b::w.members fam)) })
 |none=>none
def CE(e:TypeId)(size:Nat):Bool:=match C2 P e with | some z=>Nat.beq z.cells.toList.length size | none=>false
def BF(w:AW)(e t2:TypeId)(size:Nat)(x:Value):Option (Nat × List Value):=
 match P.underlying t2,x with
 |none,_=>none
 |some (.int _),.int _ (.ofNat n)=>bif Nat.blt n room then (match E4 P e size n with | some l=>some (n,l) | none=>none) else none
 |some (.int _),_=>none
 |some _,x=>DY w size x
def AT(w:AW)(t t2:TypeId)(s x:Value):R Value:=
 match Bt P t,s with
 |some e,.slice base n cap=>
  (match szT P e,Ex P e with
  |some 0,_=>.fail "append size 0"
  |some size,some bytes=>
   match BF P w e t2 size x with
   |none=>.fail "append source"
   |some (m,new)=>
    let need:=n+m
    bif !(Nat.blt need room&&Nat.blt (need*bytes) room&&CE P e size) then .fail "append room" else
    match m with
    |0=>.ok s w
    |_+1=>
     let lb:=bif Nat.ble Bo cap then cap-Bo else cap
     bif Nat.ble need lb then
      match base with
      |none=>.fail "append nil with room"
      |some a=>(match w.setCells (DM a (n*size)) new with
       |some w'=>.ok (.slice base need cap) w'
       |none=>.fail "append set")
     else bif Nat.ble Bo cap then
      match base with
      |none=>.fail "append nil with unknown capacity"
      |some a=>match a.spot,w.get a.block with
       |none,some (.row _ e' fam b0 false)=>
        bif !(Nat.beq e' e&&new.all AP) then .fail "append elements" else
        (match w.CS a (n*size) with
        |none=>.fail "append old cells"
        |some old=>
         match (BL (b0+a.off+n*size) (w.members fam) w).HY (old++new) e fam (b0+a.off) with
         |some (a',w')=>.ok (.slice (some a') need (Bo+need)) w'
         |none=>.fail "append new")
       |_,_=>.fail "append base row"
     else
      match (match base with | some a=>w.CS a (n*size) | none=>some []) with
      |none=>.fail "append old cells"
      |some old=>(match w.new (.row (old++new) e w.next 0 false) with
       |some (b,w')=>.ok (.slice (some ⟨b,0,none⟩) need (Bo+need)) w'
       |none=>.fail "append new")
  |_,_=>.fail "append type")
 |_,_=>.fail "append"
def MH:Value→Option Nat
 |.slice _ n _=>some n
 |.string s=>some s.data.toList.length
 |_=>none
def FE(w:AW)(size n:Nat):Value→Option (List Value)
 |.slice (some a) _ _=>w.cells? a (n*size)
 |.slice none _ _=>some []
 |.string s=>some ((s.data.toList.take n).map fun b=>.int .u8 b.toNat)
 |_=>none
def least(a b:Nat):Nat:=bif Nat.ble a b then a else b
def G0(w:AW)(t:TypeId)(d x:Value):R Value:=
 match Bt P t,d with
 |some e,.slice base dLen _=>(match szT P e,MH x with
  |some size,some n0=>
   (match FE w size (least n0 dLen) x with
    |none=>.fail "copy cells"
    |some cells=>(match base with
     |none=>.ok (.int .i64 (least n0 dLen)) w
     |some a=>(match w.setCells a cells with | some w'=>.ok (.int .i64 (least n0 dLen)) w' | none=>.fail "copy set")))
  |_,_=>.fail "copy source")
 |_,_=>.fail "copy"
def O6(w:AW)(t:TypeId)(x:Value):Option AW:=
 match P.underlying t,x with
 |some _,.map none=>some w
 |some _,.slice none _ _=>some w
 |some _,.slice _ 0 _=>some w
 |some (.map _ _),.map (some r)=>(match w.get r with | some (.map _ clock false)=>some (w.put r (.map [] clock false)) | _=>none)
 |some (.slice e),.slice (some a) n _=>(match C2 P e with
  |some z=>w.setCells a (DC z.cells.toList n)
  |none=>none)
 |_,_=>none
def Ei(s:ByteArray):(bound i:Nat)→List Value
 |0,_=>[]
 |bound+1,i=>bif Nat.blt i s.data.toList.length then
   (match Utf8.decode s i with | (r,width)=>.int .i32 (Int.ofNat r)::Ei s bound (i+width))
  else []
def Bv:List Value→Option (List UInt8)
 |[]=>some []
 |.int .u8 n::r=>(match Bv r with | some l=>some (UInt8.ofNat n.toNat::l) | none=>none)
 |_::_=>none
def CJ:List Value→Option (List UInt8)
 |[]=>some []
 |.int .i32 n::r=>(match CJ r with | some l=>some ((Utf8.encode n).data.toList++l) | none=>none)
 |_::_=>none
def AK(w:AW)(src dst:TypeId)(x:Value):R Value:=
 match P.underlying src,P.underlying dst,x with
 |some _,some (.int k),.int _ n=>.ok (.int k (k.wrap n)) w
 |some _,some .string,.int _ n=>.ok (.string (Utf8.encode n)) w
 |some _,some .string,.string s=>.ok (.string s) w
 |some .string,some (.slice e),.string s=>(match P.underlying e,szT P e with
  |some (.int .u8),some 1=>(match w.new (.row (s.data.toList.map fun b=>.int .u8 b.toNat) e w.next 0 false) with
   |some (b,w')=>.ok (.slice (some ⟨b,0,none⟩) s.data.toList.length (Bo+s.data.toList.length)) w'
   |none=>.fail "convert new")
  |some (.int .i32),some 1=>(match w.new (.row (Ei s s.data.toList.length 0) e w.next 0 false) with
   |some (b,w')=>.ok (.slice (some ⟨b,0,none⟩) (Ei s s.data.toList.length 0).length (Bo+(Ei s s.data.toList.length 0).length)) w'
   |none=>.fail "convert new")
  |_,_=>.fail "convert string")
 |some (.slice e),some .string,.slice none _ _=>(match P.underlying e with
  |some (.int .u8)=>.ok (.string .empty) w
  |some (.int .i32)=>.ok (.string .empty) w
  |_=>.fail "convert")
 |some (.slice e),some .string,.slice (some a) n _=>(match P.underlying e,w.cells? a n with
  |some (.int .u8),some cs=>(match Bv cs with | some l=>.ok (.string ⟨⟨l⟩⟩) w | none=>.fail "convert bytes")
  |some (.int .i32),some cs=>(match CJ cs with | some l=>.ok (.string ⟨⟨l⟩⟩) w | none=>.fail "convert runes")
  |_,_=>.fail "convert")
 |some (.pointer _),some .unsafePointer,.pointer none=>.ok (.pointer none) w
 |some (.pointer t),some .unsafePointer,.pointer (some a)=>(match szT P t,a.spot,w.get a.block with
  |some (_+1),none,some (.row cs _ _ _ _)=>bif Nat.blt a.off cs.length then .ok (.pointer (some a)) w else .fail "convert away"
  |_,_,_=>.fail "convert away")
 |some .unsafePointer,some (.pointer _),.pointer none=>.ok (.pointer none) w
 |some .unsafePointer,some (.pointer u),.pointer (some a)=>(match a.spot,w.get a.block,szT P u with
  |none,some (.row cs e fam _ _),some (_+1)=>
   bif Nat.beq fam a.block&&liesAt P P.depth e (cs.length/P.cellsOf e) a.off u 1 then .ok (.pointer (some a)) w else .fail "convert back"
  |_,_,_=>.fail "convert back")
 |_,_,_=>.fail "convert"
def Cs(w:AW)(t:TypeId)(len cap:Value):R Value:=
 match Bt P t,len,cap with
 |some e,.int _ (.ofNat l),.int _ (.ofNat c)=>
  (match szT P e,Ex P e with
  |some size,some bytes=>
   bif Nat.ble l c&&Nat.blt c room&&Nat.blt (c*bytes) room then
    (match E4 P e size c with
    |none=>.fail "makeSlice zero"
    |some cs=>(match w.newRow cs e with
     |some (a,w')=>.ok (.slice (some a) l c) w'
     |none=>.fail "makeSlice new"))
   else .fail "makeSlice size"
  |_,_=>.fail "makeSlice type")
 |_,_,_=>.fail "makeSlice"
def Aq(w:AW)(t:TypeId)(len:Nat)(parts:List (Nat × Value)):R Value:=
 match Bt P t with
 |some e=>(match szT P e with
  |none=>.fail "buildSlice"
  |some size=>
   bif Nat.ble (len*size) 16777216&&Nat.blt len room then
    match E4 P e size len with
    |none=>.fail "buildSlice zero"
    |some zs=>(match Ld (fun i=>some (i*size,size)) zs parts with
     |none=>.fail "buildSlice parts"
     |some cs=>(match w.newRow cs e with
      |some (a,w')=>.ok (.slice (some a) len len) w'
      |none=>.fail "buildSlice new"))
   else .fail "buildSlice size")
 |none=>.fail "buildSlice"
def Gj(x:Value)(_xt asserted:TypeId)(commaOk:Bool):Option Value:=
 let holds (v:Value):Value:=bif commaOk then .tuple #[v,.bool true] else v;let fails:Option Value:=bif commaOk then (match C2 P asserted with | some z=>some (.tuple #[z,.bool false]) | none=>none) else none
 match P.underlying asserted,x with
 |some (.interface _),.nilIface=>fails
 |some (.interface want),.iface t _=>(match P.info? t with
  |some i=>(match Instr.missingMethod want i.methods with | none=>some (holds x) | some _=>fails)
  |none=>none)
 |some _,.nilIface=>fails
 |some _,.iface t v=>bif Nat.beq t asserted then some (holds v) else fails
 |none,_=>none
 |_,_=>none
variable (X:Bc)
inductive AN where
 |value (v:Value)
 |skip
 |enter (f:FuncId) (args:List Value)
 |round (l:Nat) (fn:FuncId) (tm:Tm) (assign body:Code)
 |defer (d:Deferred)
 |recover
 |rangeNext (it:Nat)
def CZ(m:Tm):List (Tmp × Value)→Tm
 |[]=>m
 |(t,v)::r=>CZ (m.set t v) r
def IA(f:FuncId):Bool:=match P.funcs[f]? with | some fn=>fn.body.isSome&&!(fn.name== "runtime.NumGoroutine") | none=>false
def Hf:Nat→List Value
 |0=>[]
 |n+1=>EJ::Hf n
def Em(n:Nat):List Nat→Bool
 |[]=>false
 |x::r=>bif Nat.beq x n then true else Em n r
def C9(w:AW)(f:FuncId)(args:List Value):R AN:=
 bif IA P f then .ok (.enter f args) w
 else bif Em f X.clone then
  (match args with
  |[.iface t (.map (some r))]=>(match w.get r with
   |some (.map es clock _)=>(match w.new (.map es clock false) with
    |some (b,w')=>.ok (.value (.iface t (.map (some b)))) w'
    |none=>.fail "maps.clone")
   |_=>.fail "maps.clone")
  |_=>.fail "maps.clone")
 else bif Em f X.noEscape then
  (match args with
  |[x]=>.ok (.value x) w
  |_=>.fail "NoEscape")
 else bif Em f X.noZero then
  (match args,((P.funcs[f]?).bind fun fn=>fn.resultTypes.toList.head?).bind (Bt P) with
  |[.int .i64 (.ofNat n)],some e=>
   bif Nat.blt n room&&(match szT P e with | some 1=>true | _=>false) then
    (match w.new (.row (Hf n) e w.next 0 false) with
    |some (b,w')=>.ok (.value (.slice (some ⟨b,0,none⟩) n (Bo+n))) w'
    |none=>.fail "MakeNoZero")
   else .fail "MakeNoZero"
  |_,_=>.fail "MakeNoZero")
 else bif args.all (AG 4) then
  (match quiet P (callFunc f ⟨args⟩) with
  |some (.value v)=>bif AG 4 v then .ok (.value v) w else .fail "extern"
  |_=>.fail ("call of a function without a body "++((P.funcs[f]?).map (·.name)).getD ""))
 else .fail ("call of a function without a body "++((P.funcs[f]?).map (·.name)).getD "")
def Dd(w:AW)(recv:Value)(name:String)(args:List Value):R AN:=
 match recv with
 |.iface t v=>(match P.info? t with
  |none=>.fail "method type"
  |some i=>(match i.methods.toList.find? (·.name==name) with
   |none=>.fail "method none"
   |some m=>match m.path.toList,m.func,P.underlying t with
    |[],some (f,true),some (.pointer _)=>C9 P X w f (v::args)
    |[],some (_,false),some (.pointer _)=>.fail "method a value method by pointer"
    |[],some (_,true),_=>.fail "method a pointer method by value"
    |[],some (f,false),some _=>C9 P X w f (v::args)
    |_,_,_=>.fail "method a path"))
 |_=>.fail "method no interface value"
inductive Ip where
 |val (v:Value)
 |var (a:Addr)
def Hp(w:AW):List FieldStep→TypeId→Ip→Option (TypeId × Ip)
 |[],t,x=>some (t,x)
 |s::rest,t,x=>match MY P s.struct s.index with
  |none=>none
  |some f=>match szT P f.type with
   |none=>none
   |some 0=>none
   |some _=>
    bif s.deref then
     (match (match x with | .val v=>some v | .var a=>CC P w t a) with
     |some (.pointer (some a))=>Hp w rest f.type (.var (DM a f.offset))
     |_=>none)
    else match x with
     |.var a=>Hp w rest f.type (.var (DM a f.offset))
     |.val (.agg cs)=>(match P2 P f.type cs.toList f.offset with
      |some v=>Hp w rest f.type (.val v)
      |none=>none)
     |_=>none
def Kf(w:AW)(t:TypeId)(v:Value)(path:List FieldStep)(ptr:Bool):Option Value:=
 match Hp P w path t (.val v) with
 |none=>none
 |some (xt,x)=>match P.underlying xt,ptr,x with
  |some (.pointer _),true,.val v=>some v
  |some (.pointer _),true,.var a=>CC P w xt a
  |some (.pointer e),false,x=>(match (match x with | .val v=>some v | .var a=>CC P w xt a) with
   |some (.pointer (some a))=>CC P w e a
   |_=>none)
  |some _,true,.var a=>some (.pointer (some a))
  |some _,true,.val _=>none
  |some _,false,.val v=>some v
  |some _,false,.var a=>CC P w xt a
  |none,_,_=>none
def P7:Int→List Value→Option Int
 |a,[]=>some a
 |a,.int _ b::r=>P7 (if b<a then b else a) r
 |_,_::_=>none
def RE:Int→List Value→Option Int
 |a,[]=>some a
 |a,.int _ b::r=>RE (if b>a then b else a) r
 |_,_::_=>none
def Ca(w:AW)(b:Builtin)(ts:List TypeId)(_type:TypeId)(args:List Value):R AN:=
 let v (r:R Value):R AN:=match r with | .ok v w=>.ok (.value v) w | .panic v w=>.panic v w | .fail y=>.fail y
 let o (r:Option AW) (why:String):R AN:=match r with | some w=>.ok (.value (.tuple #[])) w | none=>.fail why
 match b,ts,args with
 |.append,[t,t2],[s,x]=>v (AT P w t t2 s x)
 |.copy,[t,_],[d,x]=>v (G0 P w t d x)
 |.len,[t],[x]=>(match Br P w t x with | some y=>.ok (.value y) w | none=>.fail "len")
 |.cap,[t],[.slice _ _ c]=>(match Bt P t with | some _=>bif Nat.ble Bo c then .fail "cap" else .ok (.value (.int .i64 c)) w | none=>.fail "cap")
 |.delete,[t,_],[m,k]=>o (Fw P w t m k) "delete"
 |.clear,[t],[x]=>o (O6 P w t x) "clear"
 |.min,_,.int k x::r=>(match P7 x r with | some n=>.ok (.value (.int k n)) w | none=>.fail "min")
 |.max,_,.int k x::r=>(match RE x r with | some n=>.ok (.value (.int k n)) w | none=>.fail "max")
 |.recover,_,_=>.ok .recover w
 |.unsafeSliceData,_,[.slice none _ _]=>.ok (.value (.pointer none)) w
 |.unsafeSliceData,_,[.slice (some a) n c]=>bif Nat.blt 0 n || (!Nat.ble Bo c&&Nat.blt 0 c) then .ok (.value (.pointer (some a))) w else .fail "first element"
 |.unsafeString,_::_,[.pointer _,.int _ (.ofNat 0)]=>.ok (.value (.string .empty)) w
 |.unsafeString,pt::_,[.pointer (some a),.int _ (.ofNat n)]=>(match w.cells? a n,w.get a.block,P.underlying pt with
  |some cs,some (.row _ e fam _ false),some (.pointer u)=>
   bif Nat.blt n room&&(Nat.beq (P.cellsOf e) 1&&sameLayout P P.depth e u) then
    (match Bv cs with
    |some l=>.ok (.value (.string ⟨⟨l⟩⟩)) (BZ (w.members fam) w)
    |none=>.fail "text")
   else .fail "text layout"
  |_,_,_=>.fail "text")
 |.panic,_,[.iface t v]=>.panic (.iface t v) w
 |_,_,_=>.fail "builtin"
def BU(w:AW)(t:Target)(args:List Value):R AN:=
 match t with
 |.fn (.func f) captured=>C9 P X w f (args++captured.toList)
 |.fn (.method name) _=>(match args with
  |recv::r=>Dd P X w recv name r
  |[]=>.fail "method no receiver")
 |.fn (.methodOf t name) _=>(match args with
  |recv::r=>(match P.underlying t with
   |some (.interface _)=>Dd P X w recv name r
   |some _=>Dd P X w (.iface t recv) name r
   |none=>.fail "methodOf")
  |[]=>.fail "methodOf")
 |.fn (.via t path f ptr) _=>(match args with
  |x::r=>(match Kf P w t x path.toList ptr with
   |some v=>C9 P X w f (v::r)
   |none=>.fail "via")
  |[]=>.fail "via")
 |.fn (.yield l) _=>(match w.get l with
  |some (.loop r)=>bif Nat.beq args.length r.params.length then .ok (.round l r.fn (CZ r.tm (r.params.zip args)) r.assign r.body) w else .fail "yield arguments"
  |_=>.fail "yield loop")
 |.builtin b ts type _=>Ca P w b ts.toList type args
 |_=>.fail "invoke"
def C7(ρ:Operand→Value)(c:Call)(type:TypeId):Option Deferred:=
 let args:=c.args.toList.map ρ
 match c.callee with
 |.builtin b=>some { target:=.builtin b c.argTypes type #[],args:=⟨args⟩ }
 |.invoke recv name=>some { target:=.fn (.method name) #[],args:=⟨ρ recv::args⟩ }
 |.value f=>match ρ f with
  |.func fn first captured=>some { target:=.fn fn captured,args:=⟨first.toList++args⟩ }
  |_=>none
def MA(w:AW)(it:Value)(isString:Bool):R AN:=
 match it with
 |.pointer (some ⟨r,0,_⟩)=>(match w.get r,isString with
  |some (.sit s pos),true=>
   bif Nat.blt pos s.data.toList.length then
    (match Utf8.decode s pos with
    |(c,width)=>.ok (.value (.tuple #[.bool true,.int .i64 pos,.int .i32 c])) (w.put r (.sit s (pos+width))))
   else .ok (.value (.tuple #[.bool false])) w
  |some (.mit none _ _ _),false=>.ok (.value (.tuple #[.bool false])) w
  |some (.mit (some _) _ _ _),false=>.ok (.rangeNext r) w
  |_,_=>.fail "next")
 |_=>.fail "next"
def Jg:List Nat→Option Nat
 |[]=>none
 |[x]=>some x
 |_::r=>Jg r
def KE(w:AW)(it:Value):Option Value:=
 match it with
 |.pointer (some ⟨r,0,_⟩)=>(match w.get r with
  |some (.mit (some m) _ seen stepped)=>(match Jg seen,w.get m with
   |some stamp,some (.map es clock _)=>
    bif Nat.beq clock stepped then (match DK stamp es 0 with
     |some i=>(match es[i]? with | some e=>some (.tuple #[e.key,e.val]) | none=>none)
     |none=>none)
    else none
   |_,_=>none)
  |_=>none)
 |_=>none
def EK:List (Nat × Operand)→(Operand→Value)→List (Nat × Value)
 |[],_=>[]
 |(i,x)::r,ρ=>(i,ρ x)::EK r ρ
def AL(ρ:Operand→Value)(o:Oper)(w:AW):R AN:=
 let v (r:R Value):R AN:=match r with | .ok v w=>.ok (.value v) w | .panic v w=>.panic v w | .fail y=>.fail y
 let p (r:Option Value) (why:String):R AN:=match r with | some v=>.ok (.value v) w | none=>.fail why
 let u (r:Option AW) (why:String):R AN:=match r with | some w=>.ok .skip w | none=>.fail why
 match o.op with
 |.move x=>.ok (.value (ρ x)) w
 |.assign x=>.ok (.value (ρ x)) w
 |.pick c a b=>(match ρ c with | .bool true=>.ok (.value (ρ a)) w | .bool false=>.ok (.value (ρ b)) w | _=>.fail "pick")
 |.alloc e=>(match C2 P e with
  |some z=>(match w.newRow z.cells.toList e with | some (a,w)=>.ok (.value (.pointer (some a))) w | none=>.fail "alloc")
  |none=>.fail "alloc")
 |.box e x=>(match w.newRow (ρ x).cells.toList e with | some (a,w)=>.ok (.value (.pointer (some a))) w | none=>.fail "box")
 |.build t parts=>p (Aw P t (EK parts.toList ρ)) "build"
 |.buildSlice t len parts=>v (Aq P w t len (EK parts.toList ρ))
 |.load t a=>(match ρ a with | .pointer (some a)=>p (CC P w t a) "load" | _=>.fail "load no address")
 |.store t a x=>(match ρ a with | .pointer (some a)=>u (Iq P w t a (ρ x)) "store" | _=>.fail "store no address")
 |.nilCheck x=>(match ρ x with
  |.pointer none=>.fail "nilCheck"
  |.nilIface=>.fail "nilCheck"
  |.nilFunc=>.fail "nilCheck"
  |.func (.method _) _ _=>.fail "nilCheck of a method value"
  |x=>.ok (.value x) w)
 |.binOp op t x y _=>p (Ah P op t x y (ρ x) (ρ y)) "binOp"
 |.unOp op _ x=>p (unA P op (ρ x)) "unOp"
 |.convert s d x=>v (AK P w s d (ρ x))
 |.makeInterface t x=>(match P.underlying t with
  |some (.interface _)=>.fail "makeInterface"
  |some _=>.ok (.value (.iface t (ρ x))) w
  |none=>.fail "makeInterface")
 |.makeFunc fn first captured=>(match fn with | .yield _=>.fail "makeFunc" | _=>.ok (.value (.func fn ⟨first.toList.map ρ⟩ ⟨captured.toList.map ρ⟩)) w)
 |.makeMap t r=>(match r with
  |none=>(match w.new (.map [] 0 false) with | some (b,w)=>.ok (.value (.map (some b))) w | none=>.fail "makeMap")
  |some h=>(match Dp P t,ρ h with
   |some _,.int _ _=>(match w.new (.map [] 0 false) with | some (b,w)=>.ok (.value (.map (some b))) w | none=>.fail "makeMap")
   |_,_=>.fail "makeMap"))
 |.makeSlice t l c=>v (Cs P w t (ρ l) (ρ c))
 |.slice t x lo hi mx=>p (Cc P w t (ρ x) (lo.map ρ) (hi.map ρ) (mx.map ρ)) "slice"
 |.fieldAddr s x f=>p (Ac P s (ρ x) f) "fieldAddr"
 |.field s x f=>p (OX P s (ρ x) f) "field"
 |.indexAddr t x ix=>p (Aj P t (ρ x) (ρ ix)) "indexAddr"
 |.index t x ix=>p (OV P t (ρ x) (ρ ix)) "index"
 |.lookup t x k ok=>p (C5 P w t (ρ x) (ρ k) ok) "lookup"
 |.mapUpdate t m k x=>u (BV P w t (ρ m) (ρ k) (ρ x)) "mapUpdate"
 |.insert t m k x=>u (BV P w t (ρ m) (ρ k) (ρ x)) "insert"
 |.mapEntry t m k=>(match Iy P w t (ρ m) (ρ k) with | some (v,w)=>.ok (.value v) w | none=>.fail "mapEntry")
 |.entryStore _ m s x=>u (Gt w (ρ m) (ρ s) (ρ x)) "entryStore"
 |.range t x=>(match P.underlying t,ρ x with
  |some .string,.string s=>(match w.new (.sit s 0) with | some (b,w)=>.ok (.value (.pointer (some ⟨b,0,none⟩))) w | none=>.fail "range")
  |some (.map _ _),.map none=>(match w.new (.mit none 0 [] 0) with | some (b,w)=>.ok (.value (.pointer (some ⟨b,0,none⟩))) w | none=>.fail "range")
  |some (.map _ _),.map (some m)=>(match w.get m with
   |some (.map _ clock _)=>(match w.new (.mit (some m) clock [] clock) with | some (b,w)=>.ok (.value (.pointer (some ⟨b,0,none⟩))) w | none=>.fail "range")
   |_=>.fail "range")
  |_,_=>.fail "range")
 |.next it isString=>MA w (ρ it) isString
 |.entry it=>p (KE w (ρ it)) "entry"
 |.typeAssert x xt at_ ok=>p (Gj P (ρ x) xt at_ ok) "typeAssert"
 |.extract t ix=>(match ρ t with | .tuple vs=>p vs.toList[ix]? "extract" | _=>.fail "extract")
 |.call c=>(match C7 ρ c o.type with | some d=>BU P X w d.target d.args.toList | none=>.fail "call no function")
 |.defer c=>(match c.callee,C7 ρ c o.type with
  |.builtin _,_=>.fail "defer builtin"
  |_,some d=>.ok (.defer d) w
  |_,none=>.fail "defer no function")
 |.panic x=>(match ρ x with | .iface t v=>.panic (.iface t v) w | _=>.fail "panic")
 |_=>.fail "op"
end
end Go.Abs
namespace Go.Abs
structure AFr where
 fn:FuncId
 tm:Tm
 todo:List Item
 defers:List Deferred
 mode:FrameMode
 kind:CallKind
 roundOf:Option Nat
 dr:Bool
structure ASt where
 fr:AFr
 cs:List AFr
 w:AW
inductive CT where
 |next (s:ASt)
 |branch (l:List ASt)
 |calls (f:FuncId) (args:List Value) (s:ASt)
 |asks (v v':Value) (s:ASt)
 |done (v:Value) (w:AW)
 |died (chain:List PanicEntry) (w:AW)
 |fail (why:String)
def AFr.eval(fr:AFr):Operand→Value
 |.tmp t=>fr.tm.get t
 |.const v=>v
 |.global g=>.pointer (some ⟨g,0,none⟩)
 |.func f=>.func (.func f) #[] #[]
def AFr.finish(fr:AFr)(v:Value):AFr:=
 match fr.todo with
 |.inRegion ops (i::rest)::k=>
  { fr with tm:=(match ops.toList[i]? with | some o=>(match o.dst with | some d=>fr.tm.set d v | none=>fr.tm) | none=>fr.tm),todo:=.inRegion ops rest::k }
 |.inRangeFunc l::k=>{ fr with todo:=.endRangeFunc l::k }
 |.beginRound::k=>{ fr with todo:=k }
 |_=>fr
def AFr.raise(fr:AFr)(vs:List PanicEntry):AFr:=
 match fr.mode with
 |.panicking chain=>{ fr with mode:=.panicking (vs++chain) }
 |_=>{ fr with mode:=.panicking vs }
def Eg(ops:Array Oper)(tm:Tm)(j:Nat):Option Bool:=
 match ops.toList[j]? with
 |some o=>(match o.dst with
  |some d=>(match tm.get d with | .bool b=>some b | _=>none)
  |none=>none)
 |none=>none
def AS(ops:Array Oper)(tm:Tm)(o:Oper):Bool:=
 match o.guard with
 |none=>true
 |some (j,want)=>(match Eg ops tm j with | some b=>b==want | none=>false)
section
variable (P:Program) (X:Bc)
def AD(f:FuncId)(args:List Value)(kind:CallKind):Option AFr:=
 match P.funcs[f]? with
 |some fn=>(match fn.body with
  |some c=>let n:=(bif Nat.ble fn.ntmps args.length then args.length else fn.ntmps)
   bif Nat.blt n Ak then some { fn:=f,tm:=Tm.fill ⟨n,.nil⟩ 0 args,todo:=[.code c],defers:=[],mode:=.run,kind,roundOf:=none,dr:=false } else none
  |none=>none)
 |none=>none
def Gk(fr:AFr)(cs:List AFr):Option (Value × List AFr):=
 match fr.kind,cs with
 |.deferred,c::rest=>(match c.mode with
  |.panicking ({ v,recovered:=false,goexit:=false }::older)=>
   some (v,{ c with mode:=.panicking ({ v,recovered:=true }::older) }::rest)
  |_=>none)
 |_,_=>none
def Cu(w:AW)(fn:Func)(tm:Tm):Option Value:=
 let one:ResultVar→Option Value
  |.tmp t=>some (tm.get t)
  |.cell a t=>(match tm.get a with | .pointer (some a)=>CC P w t a | _=>none)
 let rec go:List ResultVar→Option (List Value)
  |[]=>some []
  |r::rs=>(match one r,go rs with | some v,some l=>some (v::l) | _,_=>none)
 match go fn.results.toList with
 |some [v]=>some v
 |some l=>some (.tuple ⟨l⟩)
 |none=>none
def CP(fr:AFr)(cs:List AFr)(v:Value)(w:AW):CT:=
 match cs with
 |c::rest=>(match fr.kind with
  |.normal=>.next ⟨c.finish v,rest,w⟩
  |.deferred=>
   let c:=(match c.mode with
    |.panicking ({ recovered:=true,.. }::older)=>(match older.dropWhile (!·.goexit) with
     |[]=>{ c with mode:=.returning }
     |rest=>{ c with mode:=.panicking rest })
    |_=>c)
   bif c.dr then .fail "a deferred call in a drawn region" else .next ⟨c,rest,w⟩
  |_=>.fail "doReturn kind")
 |[]=>.fail "doReturn at the bottom"
def AY(fr:AFr)(cs:List AFr)(dfr:Bool)(r:R AN):CT:=
 match r with
 |.ok (.value v) w=>bif dfr then .next ⟨fr,cs,w⟩ else .next ⟨fr.finish v,cs,w⟩
 |.ok .skip w=>bif dfr then .next ⟨fr,cs,w⟩ else .next ⟨fr.finish undef,cs,w⟩
 |.ok (.enter f args) w=>(match AD P f args (bif dfr then .deferred else .normal) with
  |some fr'=>.next ⟨fr',fr::cs,w⟩
  |none=>.fail "enter")
 |.ok (.round l fn tm assign body) w=>
  .next ⟨{ fn,tm,todo:=[.code assign,.beginRound,.code body],defers:=[],mode:=.run,kind:=(bif dfr then .deferred else .normal),roundOf:=some l,dr:=false },fr::cs,w⟩
 |.ok (.defer d) w=>bif dfr then .fail "defer" else
  (match fr.roundOf with
  |none=>.next ⟨{ fr with defers:=d::fr.defers }.finish undef,cs,w⟩
  |some _=>.fail "defer in a round")
 |.ok .recover w=>bif dfr || fr.roundOf.isSome then .fail "recover deferred" else
  (match Gk fr cs with
  |some (v,cs)=>.next ⟨fr.finish v,cs,w⟩
  |none=>.next ⟨fr.finish .nilIface,cs,w⟩)
 |.ok (.rangeNext r) w=>bif dfr then .fail "range deferred" else (match w.get r with
  |some (.mit (some m) since seen last)=>(match w.get m with
   |some (.map es clock _)=>
    bif !seen.isEmpty&&!es.isEmpty&&es.all (fun e=>Nat.ble last e.born) then .fail "range entries gone" else
    let left:=es.filter fun e=>!seen.contains e.born;let old:=left.filter fun e=>Nat.blt e.born since;let new:=left.filter fun e=>Nat.ble since e.born;let Ew:List (Option MapEntry):=(if old.isEmpty then [none] else [])++(old++new).map some
    .branch (Ew.map fun c=>match c with
     |some e=>⟨fr.finish (.tuple #[.bool true,e.key,e.val]),cs,w.put r (.mit (some m) since (seen++[e.born]) clock)⟩
     |none=>⟨fr.finish (.tuple #[.bool false]),cs,w⟩)
   |_=>.fail "range map")
  |_=>.fail "range iterator")
 |.panic v w=>bif fr.dr then .fail "panic in a drawn region" else .next ⟨fr.raise [{ v,recovered:=false }],cs,w⟩
 |.fail y=>.fail y
def Gr(id:Nat):List Item→Option (List Item)
 |.inBlock id'::k=>bif Nat.beq id' id then some k else Gr id k
 |_::k=>Gr id k
 |[]=>none
def Dm(s:ASt):CT:=
 match s with
 |⟨fr,cs,w⟩=>
 match fr.mode with
 |.run=>
  let to (k:List Item):CT:=.next ⟨{ fr with todo:=k },cs,w⟩;let leave (jump:Option Code):CT:=
   match fr.roundOf with
   |none=>(match jump with
    |none=>.next ⟨{ fr with mode:=.returning },cs,w⟩
    |some .ret=>.next ⟨{ fr with mode:=.returning },cs,w⟩
    |_=>.fail "leave")
   |some l=>(match w.get l with
    |some (.loop r)=>CP fr cs (.bool jump.isNone) (w.put l (.loop { r with state:=if jump.isNone then .ready else .done,pending:=jump }))
    |_=>.fail "endRound")
  (match fr.todo with
  |[]=>leave none
  |.code .ret::_=>leave (some .ret)
  |.code .skip::k=>to k
  |.code (.label _)::k=>to k
  |.inBlock _::k=>to k
  |.inScope _::k=>to k
  |.code (.seq a b)::k=>to (.code a:: .code b::k)
  |.code (.cond c t e)::k=>(match fr.eval c with | .bool b=>to (.code (bif b then t else e)::k) | _=>.fail "cond")
  |.code (.block id body)::k=>to (.code body:: .inBlock id::k)
  |.code (.loop body)::k=>to (.code body:: .inLoop body::k)
  |.inLoop body::k=>to (.code body:: .inLoop body::k)
  |.code (.scope body)::k=>to (.code body:: .inScope body::k)
  |.code (.exit id)::k=>(match Gr id k with | some k'=>to k' | none=>leave (some (.exit id)))
  |.code (.goto l)::k=>(match gotoIn l k with | some k'=>to k' | none=>leave (some (.goto l)))
  |.code (.rangeFunc f ps assign body)::k=>
   (match (match fr.roundOf with
    |some l=>(match w.get l with | some (.loop r)=>some (r.defers,([]:List Deferred),w) | _=>none)
    |none=>(match w.new (.deferred (some [])) with | some (r,w')=>some (r,[{ target:=.collected r,args:=#[] }],w') | none=>none)) with
   |none=>.fail "enterLoop"
   |some (d,mark,w)=>(match w.new (.loop { state:=.ready,pending:=none,fn:=fr.fn,tm:=fr.tm,params:=ps.toList,assign,body,defers:=d }) with
    |none=>.fail "enterLoop"
    |some (l,w)=>
     let fr':={ fr with todo:=.inRangeFunc l::k,defers:=mark++fr.defers }
     match fr.eval f with
     |.func fn first captured=>AY P fr' cs false (BU P X w (.fn fn captured) (first.toList++[.func (.yield l) #[] #[]]))
     |_=>.fail "rangeFunc"))
  |.beginRound::_=>(match fr.roundOf with
   |some l=>(match w.get l with
    |some (.loop r)=>(match r.state with
     |.ready=>.next ⟨fr.finish undef,cs,w.put l (.loop { r with state:=.busy })⟩
     |_=>.fail "beginRound")
    |_=>.fail "beginRound")
   |none=>.fail "beginRound")
  |.endRangeFunc l::k=>(match w.get l with
   |some (.loop r)=>(match r.state with
    |.busy=>.fail "endLoop"
    |_=>.next ⟨{ fr with todo:=(match r.pending with | some c=>.code c::k | none=>k) },cs,w.put l (.loop { r with state:=.exhausted })⟩)
   |_=>.fail "endLoop")
  |.code (.region _ ops _)::k=>to (.inRegion ops (List.range ops.toList.length)::k)
  |.inRegion _ []::k=>.next ⟨{ fr with todo:=k,dr:=false },cs,w⟩
  |.inRegion ops (i::_)::_=>(match ops.toList[i]? with
   |some o=>bif AS ops fr.tm o then AY P fr cs false (AL P X fr.eval o w) else .next ⟨fr.finish undef,cs,w⟩
   |none=>.fail "no operation")
  |.code (.refuse y)::_=>.fail ("refused "++y)
  |_=>.fail "todo")
 |mode=>(match fr.defers with
  |{ target:=.collected b,.. }::ds=>(match w.get b with
   |some (.deferred (some calls))=>.next ⟨{ fr with defers:=calls++ds },cs,w.put b (.deferred none)⟩
   |_=>.fail "takeDeferred")
  |d::ds=>(match d.target,mode with
   |.nil,_=>.fail "nil deferred"
   |_,_=>AY P { fr with defers:=ds } cs true (BU P X w d.target d.args.toList))
  |[]=>(match mode with
   |.run=>.fail "unwind"
   |.panicking chain=>(match cs with
    |c::rest=>bif c.dr then .fail "raise into a drawn region" else .next ⟨c.raise chain,rest,w⟩
    |[]=>.died chain w)
   |.returning=>(match P.funcs[fr.fn]? with
    |none=>.fail "unwind fn"
    |some fn=>(match Cu P w fn fr.tm with
     |some v=>(match cs with
      |[]=>.done v w
      |_::_=>CP fr cs v w)
     |none=>.fail "results"))))
end
variable {a b:Nat}
theorem Trie.get?_nil{α:Type}(n:Nat):(Trie.nil:Trie α).get? n=none:=rfl
theorem Trie.get?_put{α:Type}:∀ (k:Nat) (t:Trie α) (n j:Nat) (x:Option α),n+1<2^k→
  (t.put k n x).get? j=if j=n then x else t.get? j:=by
 intro k
 induction k with
 |zero=>intro t n j x h;simp at h
 |succ k ih=>
  intro t n j x h;have hk:2^(k+1)=2*2^k:=by rw [Nat.pow_succ];omega
  have key:∀ (v:Option α) (l r:Trie α),(Trie.put (k+1) (.node v l r) n x).get? j=if j=n then x else (Trie.node v l r).get? j:=by
   intro v l r;simp only [Trie.put];by_cases h0:n=0
   ·subst h0;simp only [Nat.beq,Ct];by_cases hj:j=0
    ·subst hj;simp [Trie.get?]
    ·have hb:Nat.beq j 0=false:=by
      cases hb:Nat.beq j 0
      ·rfl
      ·exact absurd (Nb hb) hj
     simp only [Trie.get?,hb,Cf,hj,if_false]
   ·have hb0:Nat.beq n 0=false:=by
     cases hb:Nat.beq n 0
     ·rfl
     ·exact absurd (Nb hb) h0
    simp only [hb0,Cf];by_cases h1:n%2=1
    ·have hb1:Nat.beq (n%2) 1=true:=by rw [h1];rfl
     simp only [hb1,Ct];by_cases hj:j=0
     ·subst hj;simp [Trie.get?,Ne.symm h0]
     ·have hbj:Nat.beq j 0=false:=by
       cases hb:Nat.beq j 0
       ·rfl
       ·exact absurd (Nb hb) hj
      simp only [Trie.get?,hbj,Cf];by_cases hj1:j%2=1
      ·have hbj1:Nat.beq (j%2) 1=true:=by rw [hj1];rfl
       simp only [hbj1,Ct];rw [ih l (n/2) (j/2) x (by omega)];by_cases e:j=n
       ·subst e;simp
       ·rw [Ff (by omega),Ff e]
      ·have hbj1:Nat.beq (j%2) 1=false:=by rw [show j%2=0 by omega];rfl
       simp only [hbj1,Cf];rw [Ff (by omega)]
    ·have hb1:Nat.beq (n%2) 1=false:=by rw [show n%2=0 by omega];rfl
     simp only [hb1,Cf];by_cases hj:j=0
     ·subst hj;simp [Trie.get?,Ne.symm h0]
     ·have hbj:Nat.beq j 0=false:=by
       cases hb:Nat.beq j 0
       ·rfl
       ·exact absurd (Nb hb) hj
      simp only [Trie.get?,hbj,Cf];by_cases hj1:j%2=1
      ·have hbj1:Nat.beq (j%2) 1=true:=by rw [hj1];rfl
       simp only [hbj1,Ct];rw [Ff (by omega)]
      ·have hbj1:Nat.beq (j%2) 1=false:=by rw [show j%2=0 by omega];rfl
       simp only [hbj1,Cf];rw [ih r (n/2-1) (j/2-1) x (by omega)];by_cases e:j=n
       ·subst e;simp
       ·rw [Ff (by omega),Ff e]
  cases t with
  |nil=>
   have:=key none .nil .nil
   have e1:Trie.put (k+1) (.nil:Trie α) n x=Trie.put (k+1) (.node none .nil .nil) n x:=by simp only [Trie.put]
   rw [e1,this];have e2:(Trie.node none .nil .nil:Trie α).get? j=none:=by
    simp only [Trie.get?];cases Nat.beq j 0<;>cases Nat.beq (j%2) 1<;>rfl
   rw [e2];rfl
  |node v l r=>exact key v l r
theorem beq_true:Nat.beq a b=true↔a=b:=⟨Nb,fun h=>by subst h;simp⟩
theorem beq_false:Nat.beq a b=false↔a≠b:=by
 rw [← Bool.not_eq_true,beq_true]
theorem Ax:Nat.blt a b=true↔a<b:=by simp [Nat.blt,Nat.ble_eq];omega
theorem EQ:Nat.blt a b=false↔b≤a:=by rw [← Bool.not_eq_true,Ax];omega
theorem Bj:Nat.ble a b=true↔a≤b:=by simp [Nat.ble_eq]
theorem BA:Nat.ble a b=false↔b<a:=by rw [← Bool.not_eq_true,Bj];omega
structure Inj (P:Program) where
 map:Nat→Option (Nat × Nat)
 room:Nat→Nat
 el:Nat→TypeId
 st:Nat→Nat
 ok:∀ i,room i≠0→szT P (el i)=some (st i)
instance {P:Program}:CoeFun (Inj P) (fun _=>Nat→Option (Nat × Nat)):=⟨Inj.map⟩
section
variable {P:Program}
structure Inj.le (m m':Inj P):Prop where
 map:∀ i x,m i=some x→m' i=some x
 room:∀ i x,m i=some x→m'.room i=m.room i∧m'.el i=m.el i∧m'.st i=m.st i
theorem Inj.le.refl(m:Inj P):m.le m:=⟨fun _ _ h=>h,fun _ _ _=>⟨rfl,rfl,rfl⟩⟩
theorem Inj.le.trans{a b c:Inj P}(h:a.le b)(k:b.le c):a.le c:=
 ⟨fun i x e=>k.map i x (h.map i x e),fun i x e=>by
  obtain ⟨h1,h2,h3⟩:=h.room i x e;obtain ⟨k1,k2,k3⟩:=k.room i x (h.map i x e);exact ⟨k1.trans h1,k2.trans h2,k3.trans h3⟩⟩
def Gi(m:Inj P)(a a':Addr):Prop:=a.spot=none∧a'.spot=none∧∃ d,m a.block=some (a'.block,d)∧a'.off=d+a.off
theorem Gi.mono{m m':Inj P}{a a':Addr}(h:m.le m')(r:Gi m a a'):Gi m' a a':=by
 obtain ⟨h1,h2,d,h3,h4⟩:=r;exact ⟨h1,h2,d,h.map _ _ h3,h4⟩
def No(m:Inj P)(f f':Fn):Prop:=
 (f'=f∧∀ l,f≠ .yield l)∨∃ l l',f=.yield l∧f'=.yield l'∧m l=some (l',0)
theorem No.mono{m m':Inj P}{f f':Fn}(h:m.le m')(r:No m f f'):No m' f f':=by
 rcases r with r | ⟨l,l',e,e',x⟩
 ·exact .inl r
 ·exact .inr ⟨l,l',e,e',h.map _ _ x⟩
mutual
inductive AI (m:Inj P):Value→Value→Prop
 |bool (b:Bool):AI m (.bool b) (.bool b)
 |int (k:IntKind) (n:Int):AI m (.int k n) (.int k n)
 |float (k:FloatKind) (n:Nat):AI m (.float k n) (.float k n)
 |complex (k:FloatKind) (a b:Nat):AI m (.complex k a b) (.complex k a b)
 |string (s:ByteArray):AI m (.string s) (.string s)
 |nilFunc:AI m .nilFunc .nilFunc
 |nilIface:AI m .nilIface .nilIface
 |ptrNil:AI m (.pointer none) (.pointer none)
 |ptr {a a':Addr} (h:Gi m a a'):AI m (.pointer (some a)) (.pointer (some a'))
 |sliceNil:AI m (.slice none 0 0) (.slice none 0 0)
 |slice {a a':Addr} {n c c':Nat} (hc:(c<Bo∧c'=c)∨(Bo≤c∧c-Bo≤c'∧a.off+c'*m.st a.block≤m.room a.block∧(0<c'→m.room a.block≠0)∧∃ x,m a.block=some x)) (hn:n≤c') (h:0<c'→Gi m a a'):AI m (.slice (some a) n c) (.slice (some a') n c')
 |mapNil:AI m (.map none) (.map none)
 |map {r r':Nat} (h:m r=some (r',0)):AI m (.map (some r)) (.map (some r'))
 |chanNil:AI m (.chan none) (.chan none)
 |func {f f':Fn} {a a' c c':List Value} (hf:No m f f') (ha:AJ m a a') (hc:AJ m c c'):AI m (.func f ⟨a⟩ ⟨c⟩) (.func f' ⟨a'⟩ ⟨c'⟩)
 |iface (t:TypeId) {v v':Value} (h:AI m v v'):AI m (.iface t v) (.iface t v')
 |agg {a a':List Value} (h:AJ m a a'):AI m (.agg ⟨a⟩) (.agg ⟨a'⟩)
 |tuple {a a':List Value} (h:AJ m a a'):AI m (.tuple ⟨a⟩) (.tuple ⟨a'⟩)
inductive AJ (m:Inj P):List Value→List Value→Prop
 |nil:AJ m [] []
 |cons {v v':Value} {l l':List Value} (h:AI m v v') (t:AJ m l l'):AJ m (v::l) (v'::l')
end
mutual
theorem AI.mono{m m':Inj P}(h:m.le m'):∀ {v v':Value},AI m v v'→AI m' v v'
 |_,_,.bool b=>.bool b
 |_,_,.int k n=>.int k n
 |_,_,.float k n=>.float k n
 |_,_,.complex k a b=>.complex k a b
 |_,_,.string s=>.string s
 |_,_,.nilFunc=>.nilFunc
 |_,_,.nilIface=>.nilIface
 |_,_,.ptrNil=>.ptrNil
 |_,_,.ptr r=>.ptr (r.mono h)
 |_,_,.sliceNil=>.sliceNil
 |_,_,.slice hc hn r=>.slice (hc.imp id fun ⟨h1,h2,h3,h5,x,h4⟩=>⟨h1,h2,by obtain ⟨g1,_,g3⟩:=h.room _ _ h4;rw [g1,g3];exact h3,by rw [(h.room _ _ h4).1];exact h5,x,h.map _ _ h4⟩) hn (fun p=>(r p).mono h)
 |_,_,.mapNil=>.mapNil
 |_,_,.map r=>.map (h.map _ _ r)
 |_,_,.chanNil=>.chanNil
 |_,_,.func hf ha hc=>.func (hf.mono h) (AJ.mono h ha) (AJ.mono h hc)
 |_,_,.iface t r=>.iface t (AI.mono h r)
 |_,_,.agg r=>.agg (AJ.mono h r)
 |_,_,.tuple r=>.tuple (AJ.mono h r)
theorem AJ.mono{m m':Inj P}(h:m.le m'):∀ {l l':List Value},AJ m l l'→AJ m' l l'
 |_,_,.nil=>.nil
 |_,_,.cons r t=>.cons (AI.mono h r) (AJ.mono h t)
end
theorem AJ.length{m:Inj P}:∀ {l l':List Value},AJ m l l'→l'.length=l.length
 |_,_,.nil=>rfl
 |_,_,.cons _ t=>by simp [AJ.length t]
theorem AJ.get{m:Inj P}:∀ {l l':List Value},AJ m l l'→∀ {i:Nat} {v:Value},l[i]? =some v→∃ v',l'[i]? =some v'∧AI m v v'
 |_,_,.nil,i,v,h=>by simp at h
 |_,_,.cons r t,0,v,h=>by simp at h;subst h;exact ⟨_,rfl,r⟩
 |_,_,.cons r t,i+1,v,h=>by simp at h;obtain ⟨v',h',r'⟩:=AJ.get t h;exact ⟨v',by simpa using h',r'⟩
theorem AJ.Vj{m:Inj P}:∀ {l l':List Value},l'.length=l.length→(∀ (i:Nat) (v:Value),l[i]? =some v→∃ v',l'[i]? =some v'∧AI m v v')→AJ m l l'
 |[],[],_,_=>.nil
 |[],_::_,h,_=>by simp at h
 |_::_,[],h,_=>by simp at h
 |v::l,v'::l',h,hg=>by
  refine .cons ?_ (AJ.Vj (by simpa using h) fun i u hu=>?_)
  ·obtain ⟨x,hx,r⟩:=hg 0 v rfl;simp at hx;subst hx;exact r
  ·obtain ⟨x,hx,r⟩:=hg (i+1) u (by simpa using hu);exact ⟨x,by simpa using hx,r⟩
theorem AJ.append{m:Inj P}:∀ {a a' b b':List Value},AJ m a a'→AJ m b b'→AJ m (a++b) (a'++b')
 |_,_,_,_,.nil,h=>h
 |_,_,_,_,.cons r t,h=>.cons r (AJ.append t h)
theorem AJ.drop{m:Inj P}:∀ (n:Nat) {a a':List Value},AJ m a a'→AJ m (a.drop n) (a'.drop n)
 |0,_,_,h=>h
 |_+1,_,_,.nil=>.nil
 |n+1,_,_,.cons _ t=>AJ.drop n t
theorem AJ.take{m:Inj P}:∀ (n:Nat) {a a':List Value},AJ m a a'→AJ m (a.take n) (a'.take n)
 |0,_,_,_=>by simpa using .nil
 |_+1,_,_,.nil=>.nil
 |n+1,_,_,.cons r t=>by simpa using .cons r (AJ.take n t)
theorem AJ.map{m:Inj P}{α:Type}(f g:α→Value)(h:∀ x,AI m (f x) (g x)):∀ l:List α,AJ m (l.map f) (l.map g)
 |[]=>.nil
 |x::l=>.cons (h x) (AJ.map f g h l)
theorem AJ.De{m:Inj P}:∀ {l:List Value},(∀ v∈l,AI m v v)→AJ m l l
 |[],_=>.nil
 |v::l,h=>.cons (h v (by simp)) (AJ.De fun u hu=>h u (by simp [hu]))
theorem AJ.Oc{m:Inj P}:∀ {l l':List Value},AJ m l l'→(∀ v∈l,∀ v',AI m v v'→v'=v)→l'=l
 |_,_,.nil,_=>rfl
 |_,_,.cons r t,h=>by rw [h _ (by simp) _ r,AJ.Oc t fun u hu=>h u (by simp [hu])]
theorem BP{m:Inj P}:∀ (n:Nat) (v:Value),AG n v=true→AI m v v:=by
 intro n
 induction n with
 |zero=>
  intro v h;cases v with
  |pointer a=>cases a<;>simp [AG] at h;exact .ptrNil
  |slice a n c=>
   cases a with
   |some a=>simp [AG] at h
   |none=>
    cases n<;>cases c<;>simp [AG] at h;exact .sliceNil
  |map r=>cases r<;>simp [AG] at h;exact .mapNil
  |chan r=>cases r<;>simp [AG] at h;exact .chanNil
  |bool b=>exact .bool b
  |int k n=>exact .int k n
  |float k n=>exact .float k n
  |complex k a b=>exact .complex k a b
  |string s=>exact .string s
  |nilFunc=>exact .nilFunc
  |nilIface=>exact .nilIface
  |_=>simp [AG] at h
 |succ n ih=>
  intro v h;cases v with
  |pointer a=>cases a<;>simp [AG] at h;exact .ptrNil
  |slice a n c=>
   cases a with
   |some a=>simp [AG] at h
   |none=>
    cases n<;>cases c<;>simp [AG] at h;exact .sliceNil
  |map r=>cases r<;>simp [AG] at h;exact .mapNil
  |chan r=>cases r<;>simp [AG] at h;exact .chanNil
  |bool b=>exact .bool b
  |int k n=>exact .int k n
  |float k n=>exact .float k n
  |complex k a b=>exact .complex k a b
  |string s=>exact .string s
  |nilFunc=>exact .nilFunc
  |nilIface=>exact .nilIface
  |iface t v=>simp only [AG] at h;exact .iface t (ih v h)
  |agg cs=>
   obtain ⟨l⟩:=cs;simp only [AG,List.all_eq_true] at h;exact .agg (AJ.De fun u hu=>ih u (h u hu))
  |tuple cs=>
   obtain ⟨l⟩:=cs;simp only [AG,List.all_eq_true] at h;exact .tuple (AJ.De fun u hu=>ih u (h u hu))
  |func f a c=>
   obtain ⟨a⟩:=a;obtain ⟨c⟩:=c;simp only [AG,Bq,List.all_eq_true] at h;refine .func (.inl ⟨rfl,fun l e=>?_⟩) (AJ.De fun u hu=>ih u (h.2.1 u hu)) (AJ.De fun u hu=>ih u (h.2.2 u hu));subst e;simp at h
theorem D7{m:Inj P}:∀ (n:Nat) (v v':Value),AG n v=true→AI m v v'→v'=v:=by
 intro n
 induction n with
 |zero=>
  intro v v' h r;cases r<;>first | rfl | (simp [AG] at h;done)
 |succ n ih=>
  intro v v' h r;cases r with
  |iface t r=>simp only [AG] at h;rw [ih _ _ h r]
  |agg r=>
   simp only [AG,List.all_eq_true] at h;rw [AJ.Oc r fun u hu u' ru=>ih u u' (h u hu) ru]
  |tuple r=>
   simp only [AG,List.all_eq_true] at h;rw [AJ.Oc r fun u hu u' ru=>ih u u' (h u hu) ru]
  |func hf ha hc=>
   simp only [AG,Bq,List.all_eq_true] at h;rw [AJ.Oc ha fun u hu u' ru=>ih u u' (h.2.1 u hu) ru,AJ.Oc hc fun u hu u' ru=>ih u u' (h.2.2 u hu) ru];rcases hf with ⟨rfl,_⟩ | ⟨l,l',rfl,rfl,_⟩
   ·rfl
   ·simp at h
  |_=>first | rfl | (simp [AG] at h;done)
end
variable {d j c:Nat} {o':Obj} {A A':AW} {w:World}
section
variable {P:Program}
def AO.ro:AO→Bool
 |.row _ _ _ _ ro=>ro
 |.map _ _ ro=>ro
 |_=>false
def AO.fam:AO→Option (Nat × Nat)
 |.row _ _ f b _=>some (f,b)
 |_=>none
def XJ(m:Inj P)(t t':Target):Prop:=
 match t with
 |.fn f c=>∃ f' c',t'=.fn f' ⟨c'⟩∧No m f f'∧AJ m c.toList c'
 |.collected r=>∃ r',t'=.collected r'∧m r=some (r',0)
 |_=>False
structure QS (m:Inj P) (d d':Deferred):Prop where
 target:XJ m d.target d'.target
 args:AJ m d.args.toList d'.args.toList
inductive BK {α β:Type} (R:α→β→Prop):List α→List β→Prop
 |nil:BK R [] []
 |cons {a:α} {b:β} {l:List α} {l':List β} (h:R a b) (t:BK R l l'):BK R (a::l) (b::l')
theorem BK.mono{α β:Type}{R S:α→β→Prop}(h:∀ a b,R a b→S a b):∀ {l:List α} {l':List β},BK R l l'→BK S l l'
 |_,_,.nil=>.nil
 |_,_,.cons r t=>.cons (h _ _ r) (BK.mono h t)
theorem BK.length{α β:Type}{R:α→β→Prop}:∀ {l:List α} {l':List β},BK R l l'→l'.length=l.length
 |_,_,.nil=>rfl
 |_,_,.cons _ t=>by simp [BK.length t]
theorem BK.append{α β:Type}{R:α→β→Prop}:∀ {a:List α} {a':List β} {b:List α} {b':List β},BK R a a'→BK R b b'→BK R (a++b) (a'++b')
 |_,_,_,_,.nil,h=>h
 |_,_,_,_,.cons r t,h=>.cons r (BK.append t h)
theorem BK.get{α β:Type}{R:α→β→Prop}:∀ {l:List α} {l':List β},BK R l l'→∀ {i:Nat} {a:α},l[i]? =some a→∃ b,l'[i]? =some b∧R a b
 |_,_,.nil,i,a,h=>by simp at h
 |_,_,.cons r t,0,a,h=>by simp at h;subst h;exact ⟨_,rfl,r⟩
 |_,_,.cons r t,i+1,a,h=>by simp at h;obtain ⟨b,h',r'⟩:=BK.get t h;exact ⟨b,by simpa using h',r'⟩
theorem XJ.mono{m m':Inj P}(h:m.le m'){t t':Target}(r:XJ m t t'):XJ m' t t':=by
 cases t with
 |fn f c=>obtain ⟨f',c',e,hf,hc⟩:=r;exact ⟨f',c',e,hf.mono h,hc.mono h⟩
 |collected r0=>obtain ⟨r',e,hr⟩:=r;exact ⟨r',e,h.map _ _ hr⟩
 |_=>exact r.elim
theorem QS.mono{m m':Inj P}(h:m.le m'){d d':Deferred}(r:QS m d d'):QS m' d d':=⟨r.target.mono h,r.args.mono h⟩
structure EU (m:Inj P) (e e':MapEntry):Prop where
 key:AI m e.key e'.key
 val:AI m e.val e'.val
 born:e'.born=e.born
theorem EU.mono{m m':Inj P}(h:m.le m'){e e':MapEntry}(r:EU m e e'):EU m' e e':=⟨r.key.mono h,r.val.mono h,r.born⟩
structure Db (m:Inj P) (t:Tm) (t':Array Value):Prop where
 size:t'.size=t.sz
 small:t.sz<Ak
 val:∀ i,AI m (t.get i) (t'.getD i undef)
theorem Db.mono{m m':Inj P}(h:m.le m'){t:Tm}{t':Array Value}(r:Db m t t'):Db m' t t':=⟨r.size,r.small,fun i=>(r.val i).mono h⟩
def Iu(P:Program):Operand→Bool
 |.const v=>AG 4 v
 |.global g=>Nat.blt g P.globals.size
 |_=>true
def Rv(P:Program)(o:Oper):Bool:=o.op.operands.toList.all (Iu P)
def codeOk(P:Program):Code→Bool
 |.region _ ops _=>ops.toList.all (Rv P)
 |.seq a b=>codeOk P a&&codeOk P b
 |.cond c a b=>Iu P c&&(codeOk P a&&codeOk P b)
 |.block _ b=>codeOk P b
 |.loop b=>codeOk P b
 |.rangeFunc f _ a b=>Iu P f&&(codeOk P a&&codeOk P b)
 |.scope b=>codeOk P b
 |_=>true
structure Wq (m:Inj P) (l:GB) (l':Loop):Prop where
 state:l'.state=l.state
 pending:l'.pending=l.pending
 fn:l'.fn=l.fn
 tm:Db m l.tm l'.tmps
 params:l'.params=⟨l.params⟩
 assign:l'.assign=l.assign
 body:l'.body=l.body
 defers:m l.defers=some (l'.defers,0)
 ok:codeOk P l.assign=true∧codeOk P l.body=true∧∀ c,l.pending=some c→codeOk P c=true
theorem Wq.mono{m m':Inj P}(h:m.le m'){l:GB}{l':Loop}(r:Wq m l l'):Wq m' l l':=
 ⟨r.state,r.pending,r.fn,r.tm.mono h,r.params,r.assign,r.body,h.map _ _ r.defers,r.ok⟩
def Gf(m:Inj P)(d:Nat)(cs:List Value)(ro:Bool)(cs':Array Value)(fr:Nat × Nat):Prop:=
 ∀ i v,cs[i]? =some v→∃ v',cs'[d+i]? =some v'∧(isTuple v=false→AI m v v')∧(ro=false→¬ (fr.1≤d+i∧d+i<fr.2))
def G4(m:Inj P)(d:Nat):AO→Obj→Prop
 |.row cs e _ _ ro,o'=>∃ cs' fr,o'=.cells cs' e fr∧Gf m d cs ro cs' fr
 |.map es clock _,o'=>d=0∧∃ es',o'=.map ⟨es'⟩ clock∧BK (EU m) es es'
 |.sit s pos,o'=>d=0∧o'=.stringIter s pos
 |.mit none since seen stepped,o'=>d=0∧o'=.mapIter none since ⟨seen⟩ stepped
 |.mit (some r) since seen stepped,o'=>d=0∧∃ r',o'=.mapIter (some r') since ⟨seen⟩ stepped∧m r=some (r',0)
 |.loop l,o'=>d=0∧∃ l',o'=.loop l'∧Wq m l l'
 |.deferred none,o'=>d=0∧o'=.deferred none
 |.deferred (some ds),o'=>d=0∧∃ ds',o'=.deferred (some ds')∧BK (QS m) ds ds'
theorem Gf.mono{m m':Inj P}(h:m.le m'){cs:List Value}{ro:Bool}{cs':Array Value}{fr:Nat × Nat}(r:Gf m d cs ro cs' fr):Gf m' d cs ro cs' fr:=by
 intro i v hv;obtain ⟨v',h1,h2,h3⟩:=r i v hv;exact ⟨v',h1,fun t=>(h2 t).mono h,h3⟩
theorem G4.mono{m m':Inj P}(h:m.le m'){o:AO}(r:G4 m d o o'):G4 m' d o o':=by
 cases o with
 |row cs e f b ro=>obtain ⟨cs',fr,e',hr⟩:=r;exact ⟨cs',fr,e',hr.mono h⟩
 |map es c ro=>obtain ⟨h0,es',e',hr⟩:=r;exact ⟨h0,es',e',hr.mono fun _ _ x=>x.mono h⟩
 |sit s p=>exact r
 |mit mp a b c=>
  cases mp with
  |none=>exact r
  |some r0=>obtain ⟨h0,r',e',hr⟩:=r;exact ⟨h0,r',e',h.map _ _ hr⟩
 |loop l=>obtain ⟨h0,l',e',hr⟩:=r;exact ⟨h0,l',e',hr.mono h⟩
 |deferred ds=>
  cases ds with
  |none=>exact r
  |some ds=>obtain ⟨h0,ds',e',hr⟩:=r;exact ⟨h0,ds',e',hr.mono fun _ _ x=>x.mono h⟩
structure Rel (m:Inj P) (A:AW) (w:World):Prop where
 obj:∀ i o c d,A.get i=some o→m i=some (c,d)→∃ o',w.heap[c]? =some o'∧G4 m d o o'
 home:∀ i cs e b ro,A.get i=some (.row cs e i b ro)→∀ c d,m i=some (c,d)→d=0
 sep:∀ i j oi oj c di dj,i≠j→A.get i=some oi→A.get j=some oj→m i=some (c,di)→m j=some (c,dj)→
  (oi.ro=true∧oj.ro=true)∨∃ f bi bj,oi.fam=some (f,bi)∧oj.fam=some (f,bj)∧di+bj=dj+bi
 mem:∀ i o f b,A.get i=some o→o.fam=some (f,b)→i∈A.members f∧f<A.next
 fresh:∀ i,A.next≤i→A.get i=none∧m i=none∧A.fams.get? i=none
 lim:A.next≤Ak
 room:∀ i cs e f b ro c d,A.get i=some (.row cs e f b ro)→m i=some (c,d)→(m.room i≠0→m.el i=e)∧
  ∃ cs' e' fr,w.heap[c]? =some (.cells cs' e' fr)∧d+m.room i≤cs'.size∧(ro=false→∀ k,k<m.room i→¬ (fr.1≤d+k∧d+k<fr.2))
def Own(m:Inj P)(A:AW)(c:Nat):Prop:=∃ i o d,A.get i=some o∧o.ro=false∧m i=some (c,d)
structure Ev (m:Inj P) (A:AW) (w:World) (m':Inj P) (A':AW) (w':World):Prop where
 ext:m.le m'
 rel:Rel m' A' w'
 size:w.heap.size≤w'.heap.size
 os:w'.os=w.os
 tape:w'.tape=w.tape
 output:w'.output=w.output
 draws:w.drawn≤w'.drawn
 keep:∀ c,c<w.heap.size→¬ Own m A c→w'.heap[c]? =w.heap[c]?
 own:∀ c,c<w.heap.size→Own m' A' c→Own m A c
 next:A.next≤A'.next
 same:∀ i,i<A.next→m' i=m i
theorem Ev.refl{m:Inj P}(r:Rel m A w):Ev m A w m A w:=
 ⟨.refl m,r,Nl _,rfl,rfl,rfl,Nl _,fun _ _ _=>rfl,fun _ _ h=>h,Nl _,fun _ _=>rfl⟩
theorem Ev.trans{m m' m'':Inj P}{A'':AW}{w' w'':World}(h:Ev m A w m' A' w')(k:Ev m' A' w' m'' A'' w''):Ev m A w m'' A'' w'':=by
 refine ⟨h.ext.trans k.ext,k.rel,Nat.le_trans h.size k.size,k.os.trans h.os,k.tape.trans h.tape,k.output.trans h.output,Nat.le_trans h.draws k.draws,fun c hc hn=>?_,fun c hc ho=>?_,Nat.le_trans h.next k.next,fun i hi=>(k.same i (Nat.lt_of_lt_of_le hi h.next)).trans (h.same i hi)⟩
 ·rw [k.keep c (Nat.lt_of_lt_of_le hc h.size) (fun ho=>hn (h.own c hc ho)),h.keep c hc hn]
 ·exact h.own c hc (k.own c (Nat.lt_of_lt_of_le hc h.size) ho)
theorem Ev.drawn{m:Inj P}{A:AW}{w:World}(r:Rel m A w)(n:Nat)(hn:w.drawn≤n):Ev m A w m A { w with drawn:=n }:=
 ⟨.refl m,⟨r.obj,r.home,r.sep,r.mem,r.fresh,r.lim,r.room⟩,Nl _,rfl,rfl,rfl,hn,fun _ _ _=>rfl,fun _ _ h=>h,Nl _,fun _ _=>rfl⟩
theorem AW.Cp(A:AW)(i j:Nat)(o:AO)(hi:i<Ak):(A.put i o).get j=if j=i then some o else A.get j:=by
 unfold AW.put AW.get;exact Trie.get?_put depth A.heap i j (some o) (by unfold depth;unfold Ak at hi;omega)
theorem Rel.lt{m:Inj P}(r:Rel m A w){i:Nat}{o:AO}(h:A.get i=some o):i<A.next:=by
 rcases Nat.lt_or_ge i A.next with h' | h'
 ·exact h'
 ·rw [(r.fresh i h').1] at h;cases h
theorem Rel.N5{m:Inj P}(r:Rel m A w){i:Nat}{o:AO}(h:A.get i=some o):i<Ak:=Nat.lt_of_lt_of_le (r.lt h) r.lim
def Inj.ext(m:Inj P)(i:Nat)(x:Nat × Nat)(R:Nat)(e:TypeId)(s:Nat)(h:R≠0→szT P e=some s):Inj P where
 map:=fun j=>if j=i then some x else m j
 room:=fun j=>if j=i then R else m.room j
 el:=fun j=>if j=i then e else m.el j
 st:=fun j=>if j=i then s else m.st j
 ok:=fun j hj=>by
  by_cases e':j=i
  ·simp only [e',if_true] at hj ⊢;exact h hj
  ·simp only [e',if_false] at hj ⊢;exact m.ok j hj
section
variable {m:Inj P} {i:Nat} {x:Nat × Nat} {R:Nat} {e:TypeId} {s:Nat} {h:R≠0→szT P e=some s}
theorem Inj.RK(hi:m i=none):m.le (m.ext i x R e s h):=by
 refine ⟨fun j y hj=>?_,fun j y hj=>?_⟩
 ·have:j≠i:=fun e=>by subst e;rw [hi] at hj;cases hj
  simp only [Inj.ext,this,if_false];exact hj
 ·have:j≠i:=fun e=>by subst e;rw [hi] at hj;cases hj
  simp [Inj.ext,this]
theorem Inj.Bs:(m.ext i x R e s h) i=some x:=by simp [Inj.ext]
theorem Inj.Bp(hj:j≠i):(m.ext i x R e s h) j=m j:=by simp [Inj.ext,hj]
theorem Inj.CQ:(m.ext i x R e s h).room i=R:=by simp [Inj.ext]
theorem Inj.RS:(m.ext i x R e s h).el i=e:=by simp [Inj.ext]
theorem Inj.Kx:(m.ext i x R e s h).st i=s:=by simp [Inj.ext]
theorem Inj.FW(hj:j≠i):(m.ext i x R e s h).room j=m.room j:=by simp [Inj.ext,hj]
theorem Inj.Hq(hj:j≠i):(m.ext i x R e s h).el j=m.el j:=by simp [Inj.ext,hj]
end
theorem Dr(w:World)(o:Obj):(w.heap.push o)[w.heap.size]? =some o:=by simp
theorem CL(w:World)(o:Obj)(c:Nat)(h:c<w.heap.size):(w.heap.push o)[c]? =w.heap[c]? :=by
 rw [Array.getElem?_push,Ff (by omega)]
theorem Rel.EE{m:Inj P}(r:Rel m A w){i:Nat}{o:AO}(h:A.get i=some o)(hm:m i=some (c,d)):∃ c' d' o',m i=some (c',d')∧w.heap[c']? =some o'∧G4 m d' o o':=by
 obtain ⟨o',h1,h2⟩:=r.obj i o c d h hm;exact ⟨c,d,o',hm,h1,h2⟩
theorem Rel.Ez{m:Inj P}(r:Rel m A w){i:Nat}{o:AO}(h:A.get i=some o)(hm:m i=some (c,d)):c<w.heap.size:=by
 obtain ⟨o',h2,_⟩:=r.obj i o c d h hm;exact (Array.getElem?_eq_some_iff.1 h2).1
theorem Ev.new {m:Inj P} (r:Rel m A w) {o:AO} {b:Nat} (h:A.new o=some (b,A')) (hr:G4 m 0 o o')
  (hf:∀ f b,o.fam=some (f,b)→f=A.next) {R:Nat} {el:TypeId} {st:Nat} (hR:R≠0→szT P el=some st)
  (hroom:∀ cs e f b ro,o=.row cs e f b ro→(R≠0→el=e)∧∃ cs' e' fr,o'=.cells cs' e' fr∧R≤cs'.size∧(ro=false→∀ k,k<R→¬ (fr.1≤k∧k<fr.2))):
  b=A.next∧A'.get b=some o∧Ev m A w (m.ext b (w.heap.size,0) R el st hR) A' { w with heap:=w.heap.push o' }:=by
 unfold AW.new at h;cases hlt:Nat.blt A.next Ak with
 |false=>rw [hlt] at h;cases h
 |true=>
  rw [hlt] at h;simp only [Ct,Oi,Pj] at h;obtain ⟨rfl,rfl⟩:=h;have hmax:=Ax.1 hlt;have hg:∀ j,(A.put A.next o).get j=if j=A.next then some o else A.get j:=fun j=>AW.Cp A _ j o hmax
  have hg':∀ j,({ A.put A.next o with next:=A.next+1 }:AW).get j=if j=A.next then some o else A.get j:=hg
  have hmn:=(r.fresh A.next (Nl _)).2.1;have hle:m.le (m.ext A.next (w.heap.size,0) R el st hR):=Inj.RK hmn;have hold:∀ {j:Nat} {oj:AO},A.get j=some oj→j≠A.next:=fun {j oj} hj e=>by have:=r.lt hj;omega
  refine ⟨rfl,by rw [hg',if_pos rfl],hle,⟨?_,?_,?_,?_,?_,?_,?_⟩,by simp,rfl,rfl,rfl,Nl _,?_,?_,by simp,fun i hi=>Inj.Bp (by omega)⟩
  ·intro i oi c d hi hm;rw [hg'] at hi;split at hi
   ·rename_i e;subst e;cases hi;rw [Inj.Bs] at hm;cases hm;exact ⟨o',Dr w o',hr.mono hle⟩
   ·rename_i hne;rw [Inj.Bp hne] at hm;obtain ⟨oi',h2,h3⟩:=r.obj i oi c d hi hm;exact ⟨oi',by rw [CL _ _ _ (r.Ez hi hm)];exact h2,h3.mono hle⟩
  ·intro i cs e b ro hi c d hm;rw [hg'] at hi;split at hi
   ·rename_i e';subst e';rw [Inj.Bs] at hm;cases hm;rfl
   ·rename_i hne;rw [Inj.Bp hne] at hm;exact r.home i cs e b ro hi c d hm
  ·intro i j oi oj c di dj hij hi hj hmi hmj;rw [hg'] at hi hj;split at hi
   ·rename_i ei;subst ei;rw [Inj.Bs] at hmi;cases hmi;rw [Ff (by omega)] at hj;rw [Inj.Bp (by omega)] at hmj
    have:=r.Ez hj hmj
    omega
   ·rename_i hni;rw [Inj.Bp hni] at hmi;split at hj
    ·rename_i ej;subst ej;rw [Inj.Bs] at hmj;cases hmj
     have:=r.Ez hi hmi
     omega
    ·rename_i hnj;rw [Inj.Bp hnj] at hmj;exact r.sep i j oi oj c di dj hij hi hj hmi hmj
  ·intro i oi f b hi hfam;rw [hg'] at hi;split at hi
   ·rename_i e;subst e;cases hi
    have:=hf f b hfam
    subst this;refine ⟨?_,by show _<A.next+1;omega⟩
    have:A.fams.get? A.next=none:=(r.fresh _ (Nl _)).2.2
    show A.next∈AW.members _ A.next;unfold AW.members;show A.next∈(match A.fams.get? A.next with | some l=>l | none=>[A.next]);rw [this];simp
   ·obtain ⟨h1,h2⟩:=r.mem i oi f b hi hfam;exact ⟨h1,by show _<A.next+1;omega⟩
  ·intro i hi;have hi':A.next+1≤i:=hi;obtain ⟨h1,h2,h3⟩:=r.fresh i (by omega);exact ⟨by rw [hg',Ff (by omega)];exact h1,by rw [Inj.Bp (by omega)];exact h2,h3⟩
  ·show A.next+1≤Ak;omega
  ·intro i cs e f b ro c d hi hm;rw [hg'] at hi;split at hi
   ·rename_i e';subst e';cases hi;rw [Inj.Bs] at hm;cases hm;rw [Inj.CQ,Inj.RS];obtain ⟨g1,cs',e',fr,rfl,g2,g3⟩:=hroom _ _ _ _ _ rfl;exact ⟨g1,cs',e',fr,Dr w _,by omega,by simpa using g3⟩
   ·rename_i hne;rw [Inj.Bp hne] at hm;rw [Inj.FW hne,Inj.Hq hne];obtain ⟨g1,cs',e',fr,g2,g3,g4⟩:=r.room i cs e f b ro c d hi hm;exact ⟨g1,cs',e',fr,by rw [CL _ _ _ (r.Ez hi hm)];exact g2,g3,g4⟩
  ·intro c hc _;exact CL w o' c hc
  ·rintro c hc ⟨i,oi,d,hi,hro,hm⟩;rw [hg'] at hi;split at hi
   ·rename_i e;subst e;rw [Inj.Bs] at hm;cases hm;omega
   ·rename_i hne;rw [Inj.Bp hne] at hm;exact ⟨i,oi,d,hi,hro,hm⟩
end
variable {A A':AW} {w:World} {a a':Addr} {v:Value}
section
variable {P:Program}
theorem Lh:∀ {cs:List Value} {i:Nat} {v:Value},cellOf cs i=some v→cs[i]? =some v∧isTuple v=false
 |[],_,_,h=>by simp [cellOf] at h
 |x::r,0,v,h=>by
  simp only [cellOf] at h;cases ht:isTuple x<;>simp [ht] at h;subst h;exact ⟨rfl,ht⟩
 |_::r,i+1,v,h=>by
  simp only [cellOf] at h
  simpa using Lh h
theorem AI.AP{m:Inj P}{v v':Value}(h:AI m v v'):AP v'=AP v:=by
 cases h<;>rfl
theorem Ry(v:Value):v.oneCell'=Abs.AP v:=by cases v<;>rfl
theorem Rel.cell{m:Inj P}(r:Rel m A w)(h:A.cell? a=some v)(ha:Gi m a a'):
  ∃ v',w.cell? a'=some v'∧AI m v v':=by
 obtain ⟨hs,hs',d,hm,ho⟩:=ha;unfold AW.cell? at h;rw [hs] at h;simp only at h;split at h
 ·rename_i cs e f b ro hg;obtain ⟨c0,d0,o',h1,h2,cs',fr,rfl,hr⟩:=r.EE hg hm;rw [hm] at h1;cases h1;obtain ⟨hcs,ht⟩:=Lh h;obtain ⟨v',h3,h4,_⟩:=hr _ _ hcs;refine ⟨v',?_,h4 ht⟩;simp only [World.cell?,h2,hs',Option.isSome_none,ho]
  simpa using h3
 ·cases h
theorem FG:∀ {n:Nat} {cs l:List Value},AZ cs n=some l→l.length=n∧∀ (i:Nat) (v:Value),l[i]? =some v→cs[i]? =some v∧isTuple v=false
 |0,cs,l,h=>by simp [AZ] at h;subst h;simp
 |n+1,[],l,h=>by simp [AZ] at h
 |n+1,x::r,l,h=>by
  simp only [AZ] at h;cases ht:isTuple x with
  |true=>simp [ht] at h
  |false=>
   simp only [ht,Cf] at h;cases hr:AZ r n with
   |none=>simp [hr] at h
   |some l'=>
    simp only [hr,Oi] at h;subst h;obtain ⟨h1,h2⟩:=FG hr;refine ⟨by simp [h1],fun i v hv=>?_⟩;cases i with
    |zero=>simp at hv;subst hv;exact ⟨rfl,ht⟩
    |succ i=>simpa using h2 i v (by simpa using hv)
theorem G9:∀ {n:Nat} {cs l:List Value},DO cs n=some l→l=cs.take n∧n≤cs.length
 |0,cs,l,h=>by simp [DO] at h;subst h;simp
 |n+1,[],l,h=>by simp [DO] at h
 |n+1,x::r,l,h=>by
  simp only [DO] at h;cases hr:DO r n with
  |none=>simp [hr] at h
  |some l'=>
   simp only [hr,Oi] at h;subst h;obtain ⟨h1,h2⟩:=G9 hr;exact ⟨by simp [h1],by simpa using h2⟩
theorem Gi.add{m:Inj P}(h:Gi m a a')(n:Nat):Gi m (DM a n) (a'.add n):=by
 obtain ⟨h1,h2,d,h3,h4⟩:=h;unfold DM Addr.add;by_cases hn:n=0
 ·subst hn;simp;exact ⟨h1,h2,d,h3,h4⟩
 ·rw [beq_false.2 hn,Ff hn];exact ⟨rfl,rfl,d,h3,by simp [h4];omega⟩
theorem Addr.Hv(a:Addr)(n:Nat):(a.add n).off=a.off+n:=by unfold Addr.add;split<;>simp_all
theorem Addr.G3(a:Addr)(n:Nat):(a.add n).block=a.block:=by unfold Addr.add;split<;>rfl
theorem Addr.J7(a:Addr)(n:Nat)(h:a.spot=none):(a.add n).spot=none:=by unfold Addr.add;split<;>simp_all
theorem Rel.cells{m:Inj P}(r:Rel m A w){n:Nat}{l:List Value}(h:A.cells? a n=some l)(ha:0<n→Gi m a a'):
  l.length=n∧∃ l',AJ m l l'∧∀ (i:Nat) (v:Value),l'[i]? =some v→w.cell? (a'.add i)=some v:=by
 unfold AW.cells? at h;split at h
 ·cases h;exact ⟨rfl,[],.nil,by simp⟩
 ·rename_i n;obtain ⟨hs,hs',d,hm,ho⟩:=ha (by omega);rw [hs] at h;simp only at h;split at h
  ·rename_i cs e f b ro hg;obtain ⟨c0,d0,o',h1,h2,cs',fr,rfl,hr⟩:=r.EE hg hm;rw [hm] at h1;cases h1;obtain ⟨hlen,hl⟩:=FG h;refine ⟨hlen,(List.range (n+1)).map fun i=>(cs'[d+(a.off+i)]?).getD undef,AJ.Vj (by simp [hlen]) fun i v hv=>?_,fun i v hv=>?_⟩
   ·obtain ⟨h3,h4⟩:=hl i v hv;rw [List.getElem?_drop] at h3;obtain ⟨v',h5,h6,_⟩:=hr _ _ h3;have hi:i<n+1:=by rw [← hlen];exact (Gs.1 hv).1
    exact ⟨v',by simp [hi,h5],h6 h4⟩
   ·have hi:i<n+1:=by
     have:=(Gs.1 hv).1
     simpa using this
    simp [hi] at hv;obtain ⟨u,hu⟩:∃ u,l[i]? =some u:=⟨l[i],Ge (by omega)⟩;obtain ⟨h3,h4⟩:=hl i u hu;rw [List.getElem?_drop] at h3;obtain ⟨v',h5,h6,_⟩:=hr _ _ h3;rw [h5] at hv;simp at hv;subst hv;simp only [World.cell?,Addr.G3,h2,Addr.J7 _ _ hs',Option.isSome_none,Addr.Hv,ho];rw [show d+a.off+i=d+(a.off+i) by omega]
    simpa using h5
  ·cases h
def HC(coord:Nat):AO→AO
 |.row cs e f b ro=>bif Nat.ble b coord then .row (cs.set (coord-b) EJ) e f b ro else .row cs e f b ro
 |o=>o
theorem Tv(coord:Nat)(o:AO):HC coord (HC coord o)=HC coord o:=by
 cases o with
 |row cs e f b ro=>cases h:Nat.ble b coord<;>simp [HC,h]
 |_=>rfl
theorem Fl{lim:Nat}(De coord:Nat):∀ (l:List Nat) (A:AW),(∀ i o,A.get i=some o→i<Ak)→
  (BO De coord l A).next=A.next∧(BO De coord l A).fams=A.fams∧
  ∀ j,(BO De coord l A).get j=if j∈l∧j≠De then (A.get j).map (HC coord) else A.get j
 |[],A,_=>by simp [BO]
 |i::r,A,hA=>by
  simp only [BO];by_cases hi:i=De
  ·rw [beq_true.2 hi,Ct];obtain ⟨h1,h2,h3⟩:=Fl (lim:=lim) De coord r A hA;refine ⟨h1,h2,fun j=>?_⟩;rw [h3 j];subst hi;by_cases hj:j=i
   ·subst hj;simp
   ·simp [hj]
  ·rw [beq_false.2 hi,Cf];cases hg:A.get i with
   |none=>
    obtain ⟨h1,h2,h3⟩:=Fl (lim:=lim) De coord r A hA;refine ⟨h1,h2,fun j=>?_⟩;simp only [h3 j];by_cases hj:j=i
    ·subst hj;simp [hg]
    ·simp [hj]
   |some o=>
    have key:∀ o',(o'=HC coord o)→(∀ A',A'=A.put i o'∨(o'=o∧A'=A)→(BO De coord r A').next=A.next∧(BO De coord r A').fams=A.fams∧
      ∀ j,(BO De coord r A').get j=if j∈i::r∧j≠De then (A.get j).map (HC coord) else A.get j):=by
     intro o' ho' A' hA';have hget:∀ j,A'.get j=if j=i then some o' else A.get j:=by
      intro j;rcases hA' with rfl | ⟨e,rfl⟩
      ·exact A.Cp i j o' (hA i o hg)
      ·split
       ·subst j;rw [hg,e]
       ·rfl
     have hn:A'.next=A.next∧A'.fams=A.fams:=by rcases hA' with rfl | ⟨_,rfl⟩<;>exact ⟨rfl,rfl⟩
     obtain ⟨h1,h2,h3⟩:=Fl (lim:=lim) De coord r A' (fun k ok hk=>by
      rw [hget] at hk;split at hk
      ·subst k;exact hA i o hg
      ·exact hA k ok hk)
     refine ⟨h1.trans hn.1,h2.trans hn.2,fun j=>?_⟩;rw [h3 j,hget j];by_cases hj:j=i
     ·subst hj;simp [hi,hg,ho',Tv]
     ·simp [hj]
    cases o with
    |row cs e f b ro=>
     simp only;cases hb:Nat.ble b coord with
     |true=>exact key (.row (cs.set (coord-b) EJ) e f b ro) (by simp [HC,hb]) _ (.inl rfl)
     |false=>exact key (.row cs e f b ro) (by simp [HC,hb]) _ (.inr ⟨rfl,rfl⟩)
    |_=>exact key _ rfl _ (.inr ⟨rfl,rfl⟩)
theorem Gb(w:World)(a:Addr)(u:Value)(cs:Array Value)(e:TypeId)(fr:Nat × Nat)(h:w.heap[a.block]? =some (.cells cs e fr))(hs:a.spot=none):
  (w.setCell a u).heap[a.block]? =some (.cells (cs.setIfInBounds a.off u) e fr):=by
 simp [World.setCell,Array.getElem?_modify,h,hs]
theorem heap_setCell_other(w:World)(a:Addr)(u:Value)(c:Nat)(h:c≠a.block):(w.setCell a u).heap[c]? =w.heap[c]? :=by
 simp only [World.setCell,Array.getElem?_modify];rw [Ff (by omega)]
theorem GF(h:A'.fams=A.fams)(f:Nat):A'.members f=A.members f:=by unfold AW.members;rw [h]
theorem WQ:isTuple EJ=true:=rfl
theorem Ev.setCell{m:Inj P}(r:Rel m A w){v':Value}(h:A.setCell a v=some A')(ha:Gi m a a')(hv:AI m v v'):
  AP v'=true∧(w.cell? a').isSome=true∧w.frozen? a'=false∧Ev m A w m A' (w.setCell a' v')∧A'.next=A.next:=by
 obtain ⟨hs,hs',d,hm,ho⟩:=ha;unfold AW.setCell at h;rw [hs] at h;simp only at h;split at h
 rotate_left
 ·cases h
 rename_i cs e f b ro hg;cases hc:(ro || !AP v || Nat.ble cs.length a.off) with
 |true=>rw [hc] at h;cases h
 |false=>
  rw [hc,Cf] at h;simp only [Oi] at h;subst h;simp only [Bool.or_eq_false_iff,Bool.not_eq_false'] at hc;obtain ⟨⟨rfl,h1⟩,hlen⟩:=hc;have hlen:=BA.1 hlen;obtain ⟨c0,d0,o',e1,h2,cs',fr,rfl,hr⟩:=r.EE hg hm;rw [hm] at e1;cases e1;obtain ⟨u,hu⟩:∃ u,cs[a.off]? =some u:=⟨cs[a.off],Ge hlen⟩;obtain ⟨u',hu',_,hfr⟩:=hr _ _ hu;have hsz:d+a.off<cs'.size:=(Array.getElem?_eq_some_iff.1 hu').1;have hmax:a.block<Ak:=r.N5 hg;have hput:∀ j,(A.put a.block (.row (cs.set a.off v) e f b false)).get j=if j=a.block then some (.row (cs.set a.off v) e f b false) else A.get j:=fun j=>A.Cp _ j _ hmax
  obtain ⟨hn,hf,hget0⟩:=Fl (lim:=0) a.block (b+a.off) (A.members f) (A.put a.block (.row (cs.set a.off v) e f b false)) (fun i o hi=>by
   rw [hput] at hi;split at hi
   ·subst i;exact hmax
   ·exact r.N5 hi)
  have hget:∀ j,(BO a.block (b+a.off) (A.members f) (A.put a.block (.row (cs.set a.off v) e f b false))).get j=
    if j=a.block then some (.row (cs.set a.off v) e f b false) else if j∈A.members f then (A.get j).map (HC (b+a.off)) else A.get j:=by
   intro j;rw [hget0 j,hput j];by_cases hj:j=a.block
   ·simp [hj]
   ·simp [hj]
  refine ⟨by rw [hv.AP];exact h1,?_,?_,?_,hn⟩
  ·simp [World.cell?,h2,hs',ho,hsz]
  ·simp only [World.frozen?,h2,ho];cases hx:(decide (fr.1≤d+a.off)&&decide (d+a.off<fr.2)) with
   |false=>rfl
   |true=>simp at hx;exact (hfr rfl hx).elim
  have hself:(w.setCell a' v').heap[a'.block]? =some (.cells (cs'.setIfInBounds a'.off v') e fr):=Gb w a' v' cs' e fr h2 hs';have hobj:∀ i o c di o',A.get i=some o→m i=some (c,di)→w.heap[c]? =some o'→G4 m di o o'→i≠a.block→
    (w.setCell a' v').heap[c]? =some o'∧(∀ x,(x=o∨x=HC (b+a.off) o)→G4 m di x o')∨
    (c=a'.block∧i∈A.members f∧∃ o2',(w.setCell a' v').heap[c]? =some o2'∧G4 m di (HC (b+a.off) o) o2'):=by
   intro i o c di o' hi hmi hh hor hne;by_cases hcb:c=a'.block
   ·right
    subst hcb;rcases r.sep i a.block o _ a'.block di d hne hi hg hmi hm with ⟨_,hro⟩ | ⟨f',bi,bj,hfi,hfj,hal⟩
    ·simp [AO.ro] at hro
    ·simp only [AO.fam,Oi,Pj] at hfj;obtain ⟨rfl,rfl⟩:=hfj;refine ⟨rfl,(r.mem i o f bi hi hfi).1,_,hself,?_⟩;rw [h2] at hh;cases hh;cases o with
     |row csi ei fi bi' roi=>
      simp only [AO.fam,Oi,Pj] at hfi;obtain ⟨rfl,rfl⟩:=hfi;obtain ⟨cs1,fr1,he1,hri⟩:=hor;cases he1;have hbase:∀ csx:List Value,(∀ k x,csx[k]? =some x→(isTuple x=true∨di+k≠d+a.off)∧∃ y,csi[k]? =some y∧(isTuple x=false→x=y))→
        Gf m di csx roi (cs'.setIfInBounds a'.off v') fr:=by
       intro csx hx k x hk;obtain ⟨hk1,y,hy,hxy⟩:=hx k x hk;obtain ⟨y',hy',hy2,hy3⟩:=hri k y hy;by_cases hcc:di+k=d+a.off
       ·rcases hk1 with ht | hne'
        ·exact ⟨v',by rw [hcc,← ho];simp [ho,hsz],(fun t=>by rw [ht] at t;cases t),hy3⟩
        ·exact (hne' hcc).elim
       ·refine ⟨y',?_,fun t=>by rw [hxy t];exact hy2 (by rw [← hxy t];exact t),hy3⟩;rw [Array.getElem?_setIfInBounds_ne (by rw [ho];omega)];exact hy'
      simp only [HC];cases hb:Nat.ble bi' (b+a.off) with
      |true=>
       have hb:=Bj.1 hb;rw [Ct];refine ⟨_,fr,rfl,hbase _ fun k x hk=>?_⟩;rw [List.getElem?_set] at hk;split at hk
       ·rename_i ek;split at hk
        ·cases hk;refine ⟨.inl rfl,?_⟩;obtain ⟨y,hy⟩:∃ y,csi[k]? =some y:=⟨csi[k]'(by omega),Ge _⟩;exact ⟨y,hy,fun t=>by simp [EJ,isTuple] at t⟩
        ·cases hk
       ·rename_i nk;exact ⟨.inr (by omega),x,hk,fun _=>rfl⟩
      |false=>
       have hb:=BA.1 hb;rw [Cf];exact ⟨_,fr,rfl,hbase _ fun k x hk=>⟨.inr (by omega),x,hk,fun _=>rfl⟩⟩
     |_=>simp [AO.fam] at hfi
   ·left
    refine ⟨by rw [heap_setCell_other _ _ _ _ hcb];exact hh,?_⟩;rintro x (rfl | rfl)
    ·exact hor
    ·cases o with
     |row csi ei fi bi roi=>
      obtain ⟨cs1,fr1,he1,hri⟩:=hor;simp only [HC];cases hb:Nat.ble bi (b+a.off) with
      |false=>exact ⟨cs1,fr1,he1,hri⟩
      |true=>
       rw [Ct];refine ⟨cs1,fr1,he1,fun k x hk=>?_⟩;rw [List.getElem?_set] at hk;split at hk
       ·rename_i ek;split at hk
        ·cases hk;obtain ⟨y',hy',_,hy3⟩:=hri k (csi[k]'(by omega)) (Ge _);exact ⟨y',hy',(fun t=>by simp [EJ,isTuple] at t),hy3⟩
        ·cases hk
       ·exact hri k x hk
     |_=>exact hor
  have hwas:∀ j o,(BO a.block (b+a.off) (A.members f) (A.put a.block (.row (cs.set a.off v) e f b false))).get j=some o→
    ∃ o0,A.get j=some o0∧o.ro=o0.ro∧o.fam=o0.fam∧(∀ csx ex fx bx rox,o=.row csx ex fx bx rox→∃ csy,o0=.row csy ex fx bx rox):=by
   intro j o hj;rw [hget] at hj;split at hj
   ·rename_i ej;subst ej;cases hj;exact ⟨_,hg,rfl,rfl,fun csx ex fx bx rox e'=>by cases e';exact ⟨_,rfl⟩⟩
   ·split at hj
    ·cases hj0:A.get j with
     |none=>rw [hj0] at hj;cases hj
     |some o0=>
      rw [hj0] at hj;simp only [Option.map_some,Oi] at hj;subst hj;refine ⟨o0,rfl,?_,?_,?_⟩
      ·cases o0<;>simp only [HC]<;>first | rfl | (split<;>rfl) | (cases Nat.ble _ _<;>rfl)
      ·cases o0<;>simp only [HC]<;>first | rfl | (split<;>rfl) | (cases Nat.ble _ _<;>rfl)
      ·intro csx ex fx bx rox e';cases o0 with
       |row a1 a2 a3 a4 a5=>
        simp only [HC] at e';cases hb:Nat.ble a4 (b+a.off)<;>rw [hb] at e'<;>cases e'<;>exact ⟨_,rfl⟩
       |_=>simp [HC] at e'
    ·exact ⟨o,hj,rfl,rfl,fun csx ex fx bx rox e'=>⟨csx,e'⟩⟩
  refine ⟨.refl m,⟨?_,?_,?_,?_,?_,?_,?_⟩,?_,rfl,rfl,rfl,Nl _,?_,?_,?_,fun _ _=>rfl⟩
  ·intro i o c di hi hmi;rw [hget] at hi;split at hi
   ·rename_i ei;subst ei;cases hi;rw [hm] at hmi;cases hmi;refine ⟨_,hself,_,fr,rfl,fun k x hk=>?_⟩;rw [List.getElem?_set] at hk;split at hk
    ·rename_i ek;simp at hk;subst hk;subst ek;exact ⟨v',by rw [ho];simp [hsz],fun _=>hv,hfr⟩
    ·rename_i nk;obtain ⟨y',hy',hy2,hy3⟩:=hr k x hk;exact ⟨y',by rw [Array.getElem?_setIfInBounds_ne (by rw [ho];omega)];exact hy',hy2,hy3⟩
   ·rename_i hne;split at hi
    ·cases hi0:A.get i with
     |none=>rw [hi0] at hi;cases hi
     |some o0=>
      rw [hi0] at hi;simp only [Option.map_some,Oi] at hi;subst hi;obtain ⟨oo,g2,g3⟩:=r.obj i o0 c di hi0 hmi;rcases hobj i o0 c di oo hi0 hmi g2 g3 hne with ⟨g4,g5⟩ | ⟨_,_,o2,g4,g5⟩
      ·exact ⟨oo,g4,g5 _ (.inr rfl)⟩
      ·exact ⟨o2,g4,g5⟩
    ·rename_i hnm;obtain ⟨oo,g2,g3⟩:=r.obj i o c di hi hmi;rcases hobj i o c di oo hi hmi g2 g3 hne with ⟨g4,g5⟩ | ⟨_,g6,_⟩
     ·exact ⟨oo,g4,g5 _ (.inl rfl)⟩
     ·exact (hnm g6).elim
  ·intro i csx ex bx rox hi c di hmi;obtain ⟨o0,ho0,_,_,hx⟩:=hwas i _ hi;obtain ⟨csy,rfl⟩:=hx _ _ _ _ _ rfl;exact r.home i csy ex bx rox ho0 c di hmi
  ·intro i j oi oj c di dj hij hi hj hmi hmj;obtain ⟨oi0,hi0,hir,hif,_⟩:=hwas i oi hi;obtain ⟨oj0,hj0,hjr,hjf,_⟩:=hwas j oj hj;rw [hir,hjr,hif,hjf];exact r.sep i j oi0 oj0 c di dj hij hi0 hj0 hmi hmj
  ·intro i o f' b' hi hfam;obtain ⟨o0,hi0,_,hif,_⟩:=hwas i o hi;rw [hif] at hfam;obtain ⟨g1,g2⟩:=r.mem i o0 f' b' hi0 hfam;exact ⟨by rw [GF hf];exact g1,by rw [hn];exact g2⟩
  ·intro i hi;rw [hn] at hi;obtain ⟨g1,g2,g3⟩:=r.fresh i hi;refine ⟨?_,g2,by rw [hf];exact g3⟩;cases hgi:(BO a.block (b+a.off) (A.members f) (A.put a.block (.row (cs.set a.off v) e f b false))).get i with
   |none=>rfl
   |some o=>
    obtain ⟨o0,hi0,_⟩:=hwas i o hgi;rw [g1] at hi0;cases hi0
  ·rw [hn];exact r.lim
  ·intro i csx ex fx bx rox c di hi hmi;obtain ⟨o0,ho0,_,_,hx⟩:=hwas i _ hi;obtain ⟨csy,rfl⟩:=hx _ _ _ _ _ rfl;obtain ⟨g1,cs1,e1,fr1,g2,g3,g4⟩:=r.room i csy ex fx bx rox c di ho0 hmi;refine ⟨g1,?_⟩;by_cases hcb:c=a'.block
   ·subst hcb;rw [h2] at g2;cases g2;exact ⟨_,_,_,hself,by simpa using g3,g4⟩
   ·exact ⟨cs1,e1,fr1,by rw [heap_setCell_other _ _ _ _ hcb];exact g2,g3,g4⟩
  ·simp [World.setCell]
  ·intro c hc hnown;refine heap_setCell_other _ _ _ _ fun e'=>hnown ?_;subst e';exact ⟨a.block,_,d,hg,rfl,hm⟩
  ·rintro c hc ⟨i,o,di,hi,hro,hmi⟩;obtain ⟨o0,hi0,hir,_⟩:=hwas i o hi;exact ⟨i,o0,di,hi0,by rw [← hir];exact hro,hmi⟩
  ·rw [hn];exact Nl _
end
section
variable {P:Program}
theorem Gi.succ{m:Inj P}{a a':Addr}{i:Nat}(h:Gi m a (a'.add i)):Gi m { a with off:=a.off+1 } (a'.add (i+1)):=by
 obtain ⟨h1,h2,d,h3,h4⟩:=h;refine ⟨h1,by simp [Addr.add],d,?_,?_⟩
 ·rw [Addr.G3] at h3 ⊢;exact h3
 ·rw [Addr.Hv] at h4 ⊢;show a'.off+(i+1)=d+(a.off+1);omega
theorem JC(P:Program)(w:World)(a:Addr)(v:Value)(hv:AP v=true)(hc:(w.cell? a).isSome=true)(hf:w.frozen? a=false):
  (store a v).run P w=.ok () (w.setCell a v):=by
 rw [run_store P w a v .plain (by rw [Ry];exact hv)];cases h:w.cell? a with
 |none=>rw [h] at hc;cases hc
 |some u=>simp [hf]
theorem Ev.setCells{m:Inj P}:∀ {l l':List Value} {A A':AW} {w:World} {a a':Addr} {i:Nat},Rel m A w→AJ m l l'→(l≠[]→Gi m a (a'.add i))→
  A.setCells a l=some A'→∃ w',(storeCells a' l' i).run P w=.ok () w'∧Ev m A w m A' w'∧A'.next=A.next
 |_,_,A,A',w,a,a',i,r,.nil,_,h=>by
  simp only [AW.setCells,Oi] at h;subst h;exact ⟨w,rfl,.refl r,rfl⟩
 |_,_,A,A',w,a,a',i,r,.cons hv ht,ha,h=>by
  simp only [AW.setCells] at h;split at h
  ·rename_i A1 h1;obtain ⟨g1,g2,g3,g4,g5⟩:=Ev.setCell r h1 (ha (by simp)) hv;obtain ⟨w',k1,k2,k3⟩:=Ev.setCells g4.rel ht (fun _=>(ha (by simp)).succ) h;refine ⟨w',?_,g4.trans k2,k3.trans g5⟩;simp only [storeCells,Sem.run_bind,JC P w _ _ g1 g2 g3,Result.andThen_ok];exact k1
  ·cases h
theorem Ev.Ek {m:Inj P} {A:AW} {w:World} (r:Rel m A w) {i c:Nat} {o o2:AO} {oc o2':Obj} (h:A.get i=some o) (hro:o.ro=false) (hf:o.fam=none)
  (hm:m i=some (c,0)) (hc:w.heap[c]? =some oc) (hr:G4 m 0 o2 o2') (hro2:o2.ro=false) (hf2:o2.fam=none):
  Ev m A w m (A.put i o2) { w with heap:=w.heap.setIfInBounds c o2' }:=by
 have hmax:i<Ak:=r.N5 h;have hget:∀ j,(A.put i o2).get j=if j=i then some o2 else A.get j:=fun j=>A.Cp _ j _ hmax
 have hlt:c<w.heap.size:=(Array.getElem?_eq_some_iff.1 hc).1;have hoth:∀ {j cj dj:Nat} {oj:AO},j≠i→A.get j=some oj→m j=some (cj,dj)→cj≠c:=by
  rintro j cj dj oj hne hj hmj rfl;rcases r.sep j i oj o cj dj 0 hne hj h hmj hm with ⟨_,h2⟩ | ⟨f,bi,bj,_,h2,_⟩
  ·rw [hro] at h2;cases h2
  ·rw [hf] at h2;cases h2
 have hwas:∀ j oj,(A.put i o2).get j=some oj→∃ o0,A.get j=some o0∧oj.ro=o0.ro∧oj.fam=o0.fam∧(j=i∨oj=o0):=by
  intro j oj hj;rw [hget] at hj;split at hj
  ·subst j;cases hj;exact ⟨o,h,by rw [hro,hro2],by rw [hf,hf2],.inl rfl⟩
  ·exact ⟨oj,hj,rfl,rfl,.inr rfl⟩
 refine ⟨.refl m,⟨?_,?_,?_,?_,?_,r.lim,?_⟩,by simp,rfl,rfl,rfl,Nl _,?_,?_,Nl _,fun _ _=>rfl⟩
 ·intro j oj cj dj hj h1;rw [hget] at hj;split at hj
  ·subst j;cases hj;rw [hm] at h1;cases h1;exact ⟨o2',by simp [hlt],hr⟩
  ·rename_i hne;obtain ⟨oj',h2,h3⟩:=r.obj j oj cj dj hj h1;refine ⟨oj',?_,h3⟩;show (w.heap.setIfInBounds c o2')[cj]? =_;rw [Array.getElem?_setIfInBounds_ne (Ne.symm (hoth hne hj h1))];exact h2
 ·intro j cs e b ro hj cj dj hmj;rw [hget] at hj;split at hj
  ·subst j;cases hj;simp [AO.fam] at hf2
  ·exact r.home j cs e b ro hj cj dj hmj
 ·intro j k oj ok cj dj dk hjk hj hk hmj hmk;obtain ⟨oj0,h1,h2,h3,_⟩:=hwas j oj hj;obtain ⟨ok0,k1,k2,k3,_⟩:=hwas k ok hk;rw [h2,k2,h3,k3];exact r.sep j k oj0 ok0 cj dj dk hjk h1 k1 hmj hmk
 ·intro j oj f b hj hfj;obtain ⟨oj0,h1,h2,h3,_⟩:=hwas j oj hj;rw [h3] at hfj;exact r.mem j oj0 f b h1 hfj
 ·intro j hj;obtain ⟨h1,h2,h3⟩:=r.fresh j hj;refine ⟨?_,h2,h3⟩;rw [hget,Ff (fun e=>by subst e;rw [h] at h1;cases h1)];exact h1
 ·intro j cs e f b ro cj dj hj hmj;rw [hget] at hj;split at hj
  ·subst j;cases hj;simp [AO.fam] at hf2
  ·rename_i hne;obtain ⟨g1,cs1,e1,fr1,g2,g3,g4⟩:=r.room j cs e f b ro cj dj hj hmj;refine ⟨g1,cs1,e1,fr1,?_,g3,g4⟩;show (w.heap.setIfInBounds c o2')[cj]? =_;rw [Array.getElem?_setIfInBounds_ne (Ne.symm (hoth hne hj hmj))];exact g2
 ·intro cj hcj hn;show (w.heap.setIfInBounds c o2')[cj]? =_;rw [Array.getElem?_setIfInBounds_ne];intro e;subst e;exact hn ⟨i,o,0,h,hro,hm⟩
 ·rintro cj hcj ⟨j,oj,dj,hj,hroj,hmj⟩;obtain ⟨oj0,h1,h2,_⟩:=hwas j oj hj;exact ⟨j,oj0,dj,h1,by rw [← h2];exact hroj,hmj⟩
theorem Be(P:Program)(w:World)(c:Nat)(o:Obj)(h:w.heap[c]? =some o)(hc:∀ a e f,o≠ .cells a e f):(getObj c).run P w=.ok o w:=by
 simp only [getObj,Sem.run,h]
theorem BM(P:Program)(w:World)(c:Nat)(o o':Obj)(h:w.heap[c]? =some o)(hc:∀ a e f,o≠ .cells a e f):
  (setObj c o').run P w=.ok () { w with heap:=w.heap.setIfInBounds c o' }:=by
 simp only [setObj,Sem.run,h]
theorem Ev.weaken {m:Inj P} {A A':AW} {w:World} (r:Rel m A w) (hn:A'.next=A.next) (hf:A'.fams=A.fams)
  (h:∀ i o,A'.get i=some o→∃ o0,A.get i=some o0∧o.fam=o0.fam∧(o.ro=false→o0.ro=false)∧(o0.ro=true→o.ro=true)∧
   (∀ d o',G4 m d o0 o'→G4 m d o o')∧(∀ cs e f b ro,o=.row cs e f b ro→∃ cs0 ro0,o0=.row cs0 e f b ro0)):
  Ev m A w m A' w:=by
 refine ⟨.refl m,⟨?_,?_,?_,?_,?_,by rw [hn];exact r.lim,?_⟩,Nl _,rfl,rfl,rfl,Nl _,fun _ _ _=>rfl,?_,by rw [hn];exact Nl _,fun _ _=>rfl⟩
 ·intro i o c d hi hm;obtain ⟨o0,h0,_,_,_,h1,_⟩:=h i o hi;obtain ⟨o',g2,g3⟩:=r.obj i o0 c d h0 hm;exact ⟨o',g2,h1 d o' g3⟩
 ·intro i cs e b ro hi c d hm;obtain ⟨o0,h0,_,_,_,_,h2⟩:=h i _ hi;obtain ⟨cs0,ro0,rfl⟩:=h2 _ _ _ _ _ rfl;exact r.home i cs0 e b ro0 h0 c d hm
 ·intro i j oi oj c di dj hij hi hj hmi hmj;obtain ⟨oi0,hi0,fi,_,ri,_,_⟩:=h i oi hi;obtain ⟨oj0,hj0,fj,_,rj,_,_⟩:=h j oj hj;rcases r.sep i j oi0 oj0 c di dj hij hi0 hj0 hmi hmj with ⟨h1,h2⟩ | h1
  ·exact .inl ⟨ri h1,rj h2⟩
  ·rw [fi,fj];exact .inr h1
 ·intro i o f b hi hfam;obtain ⟨o0,h0,fi,_⟩:=h i o hi;rw [fi] at hfam;obtain ⟨h1,h2⟩:=r.mem i o0 f b h0 hfam;exact ⟨by rw [GF hf];exact h1,by rw [hn];exact h2⟩
 ·intro i hi;rw [hn] at hi;obtain ⟨h1,h2,h3⟩:=r.fresh i hi;refine ⟨?_,h2,by rw [hf];exact h3⟩;cases hg:A'.get i with
  |none=>rfl
  |some o=>
   obtain ⟨o0,h0,_⟩:=h i o hg;rw [h1] at h0;cases h0
 ·intro i cs e f b ro c d hi hm;obtain ⟨o0,h0,_,hro,_,_,h2⟩:=h i _ hi;obtain ⟨cs0,ro0,rfl⟩:=h2 _ _ _ _ _ rfl;obtain ⟨g1,cs1,e1,fr1,g2,g3,g4⟩:=r.room i cs0 e f b ro0 c d h0 hm;exact ⟨g1,cs1,e1,fr1,g2,g3,fun hr=>g4 (hro hr)⟩
 ·rintro c hc ⟨i,o,d,hi,hro,hm⟩;obtain ⟨o0,h0,_,hr,_⟩:=h i o hi;exact ⟨i,o0,d,h0,hr hro,hm⟩
def frz:AO→AO
 |.row cs e f b _=>.row cs e f b true
 |o=>o
theorem Ku (g:AO→AO) (step:AW→Nat→AW) (hstep:∀ A i,step A i=match A.get i with | some (.row cs e f b ro)=>A.put i (g (.row cs e f b ro)) | _=>A)
  (hg:∀ o,(∀ cs e f b ro,o≠ .row cs e f b ro)→g o=o) (hgg:∀ o,g (g o)=g o):
  ∀ (l:List Nat) (A:AW),(∀ i o,A.get i=some o→i<Ak)→
  (l.foldl step A).next=A.next∧(l.foldl step A).fams=A.fams∧∀ j,(l.foldl step A).get j=if j∈l then (A.get j).map g else A.get j
 |[],A,_=>by simp
 |i::r,A,hA=>by
  have hget:(step A i).next=A.next∧(step A i).fams=A.fams∧∀ j,(step A i).get j=if j=i then (A.get i).map g else A.get j:=by
   rw [hstep];cases hi:A.get i with
   |none=>exact ⟨rfl,rfl,fun j=>by split<;>simp_all⟩
   |some o=>
    cases o with
    |row cs e f b ro=>exact ⟨rfl,rfl,fun j=>A.Cp i j _ (hA i _ hi)⟩
    |_=>
     refine ⟨rfl,rfl,fun j=>?_⟩;show A.get j=_;by_cases hj:j=i
     ·subst hj;rw [if_pos rfl,hi];simp only [Option.map_some];rw [hg _ (by intros;simp)]
     ·rw [Ff hj]
  obtain ⟨h1,h2,h3⟩:=Ku g step hstep hg hgg r (step A i) (fun j o hj=>by
   rw [hget.2.2] at hj;split at hj
   ·subst j;cases hi:A.get i with
    |none=>rw [hi] at hj;cases hj
    |some o0=>exact hA i o0 hi
   ·exact hA j o hj)
  refine ⟨h1.trans hget.1,h2.trans hget.2.1,fun j=>?_⟩;simp only [List.foldl_cons,h3 j,hget.2.2 j];by_cases hj:j=i
  ·subst hj;cases hx:A.get j with
   |none=>simp
   |some o=>simp [hgg]
  ·simp [hj]
theorem JU:∀ (l:List Nat) (A:AW),BZ l A=l.foldl (fun A i=>match A.get i with | some (.row cs e fam base _)=>A.put i (.row cs e fam base true) | _=>A) A
 |[],A=>rfl
 |i::r,A=>by simp only [BZ,List.foldl_cons];exact JU r _
theorem NA(l:List Nat)(A:AW)(hA:∀ i o,A.get i=some o→i<Ak):
  (BZ l A).next=A.next∧(BZ l A).fams=A.fams∧∀ j,(BZ l A).get j=if j∈l then (A.get j).map frz else A.get j:=by
 rw [JU];refine Ku frz _ (fun A i=>?_) (fun o ho=>?_) (fun o=>?_) l A hA
 ·cases hi:A.get i with
  |none=>rfl
  |some o=>cases o<;>rfl
 ·cases o with
  |row cs e f b ro=>exact absurd rfl (ho cs e f b ro)
  |_=>rfl
 ·cases o<;>rfl
def N0(coord:Nat):AO→AO
 |.row cs e f b ro=>.row (BN cs (coord-b)) e f b ro
 |o=>o
theorem Nv(l:List Value):Dg l=l.map fun _=>EJ:=by
 induction l with
 |nil=>rfl
 |cons v r ih=>simp [Dg,ih]
theorem HT:∀ (l:List Value) (n:Nat),BN l n=l.take n++(l.drop n).map fun _=>EJ
 |l,0=>by cases l<;>simp [BN,Nv]
 |[],n+1=>by simp [BN]
 |v::r,n+1=>by simp [BN,HT r n]
theorem Hx{l:List Value}{n i:Nat}{v:Value}(h:(BN l n)[i]? =some v):∃ u,l[i]? =some u∧((i<n∧v=u)∨(n≤i∧v=EJ)):=by
 rw [HT,List.getElem?_append] at h;split at h
 ·rename_i hi;rw [List.length_take] at hi;rw [List.getElem?_take,if_pos (by omega)] at h;exact ⟨v,h,.inl ⟨by omega,rfl⟩⟩
 ·rename_i hi;rw [List.length_take] at hi;rw [List.getElem?_map,List.getElem?_drop,List.length_take] at h;cases hx:l[n+(i-min n l.length)]? with
  |none=>rw [hx] at h;cases h
  |some u=>
   rw [hx] at h;have hlt:=(Gs.1 hx).1;simp at h;refine ⟨u,?_,.inr ⟨by omega,h.symm⟩⟩;rw [← hx];congr 1;omega
theorem Kg(l:List Value):Dg (Dg l)=Dg l:=by
 induction l with
 |nil=>rfl
 |cons v r ih=>simp [Dg,ih]
theorem Gm:∀ (l:List Value) (n:Nat),BN (BN l n) n=BN l n
 |l,0=>by cases l<;>simp [BN,Dg,Kg]
 |[],n+1=>by simp [BN]
 |v::r,n+1=>by simp [BN,Gm r n]
theorem IP(coord:Nat):∀ (l:List Nat) (A:AW),BL coord l A=l.foldl (fun A i=>match A.get i with | some (.row cs e fam base ro)=>A.put i (.row (BN cs (coord-base)) e fam base ro) | _=>A) A
 |[],A=>rfl
 |i::r,A=>by simp only [BL,List.foldl_cons];exact IP coord r _
theorem MQ(coord:Nat)(l:List Nat)(A:AW)(hA:∀ i o,A.get i=some o→i<Ak):
  (BL coord l A).next=A.next∧(BL coord l A).fams=A.fams∧∀ j,(BL coord l A).get j=if j∈l then (A.get j).map (N0 coord) else A.get j:=by
 rw [IP];refine Ku (N0 coord) _ (fun A i=>?_) (fun o ho=>?_) (fun o=>?_) l A hA
 ·cases hi:A.get i with
  |none=>rfl
  |some o=>cases o<;>rfl
 ·cases o with
  |row cs e f b ro=>exact absurd rfl (ho cs e f b ro)
  |_=>rfl
 ·cases o with
  |row cs e f b ro=>
   simp only [N0,Gm]
  |_=>rfl
end
variable {t:TypeId} {n f:Nat} {z x x':Value}
section
variable {P:Program}
theorem Bz{i:TypeInfo}(h:P.info? t=some i)(w:World):(typeInfo t).run P w=.ok i w:=by
 simp [typeInfo,h]
theorem Bg(h:szT P t=some n)(w:World):(sizeOf t).run P w=.ok n w:=by
 unfold szT at h;split at h
 ·rename_i i hi;simp only [Oi] at h;subst h;simp [sizeOf,Bz hi]
 ·cases h
theorem L2(h:szT P t=some n):∃ i,P.info? t=some i∧i.size=n:=by
 unfold szT at h;split at h
 ·rename_i i hi;simp only [Oi] at h;exact ⟨i,hi,h⟩
 ·cases h
theorem Lj(h:Ex P t=some n):∃ i,P.info? t=some i∧i.bytes=n:=by
 unfold Ex at h;split at h
 ·rename_i i hi;simp only [Oi] at h;exact ⟨i,hi,h⟩
 ·cases h
theorem Fe{b:Bool}(h:MN P t=some b)(w:World):(isAgg t).run P w=.ok b w:=by
 unfold MN at h;unfold isAgg;cases hu:P.underlying t with
 |none=>rw [hu] at h;cases h
 |some d=>
  rw [hu] at h;simp only [Sem.run_bind,run_underlying hu,Result.andThen_ok];cases d<;>simp_all
theorem Cr(h:C2 P t=some z):(∃ i,P.info? t=some i∧i.zero=some z)∧AG 4 z=true:=by
 unfold C2 at h;split at h
 ·rename_i i hi;split at h
  ·rename_i z0 hz;cases hc:AG 4 z0 with
   |false=>rw [hc] at h;cases h
   |true=>rw [hc] at h;simp only [Ct,Oi] at h;subst h;exact ⟨⟨i,hi,hz⟩,hc⟩
  ·cases h
 ·cases h
theorem Bl(h:C2 P t=some z)(w:World):(zeroValue t).run P w=.ok z w:=by
 obtain ⟨⟨i,hi,hz⟩,_⟩:=Cr h;simp [zeroValue,Bz hi,hz]
theorem AI.cells{m:Inj P}{v v':Value}(h:AI m v v'):AJ m v.cells.toList v'.cells.toList:=by
 cases h with
 |agg h=>exact h
 |bool b=>exact .cons (.bool b) .nil
 |int k n=>exact .cons (.int k n) .nil
 |float k n=>exact .cons (.float k n) .nil
 |complex k a b=>exact .cons (.complex k a b) .nil
 |string s=>exact .cons (.string s) .nil
 |nilFunc=>exact .cons .nilFunc .nil
 |nilIface=>exact .cons .nilIface .nil
 |ptrNil=>exact .cons .ptrNil .nil
 |ptr h=>exact .cons (.ptr h) .nil
 |sliceNil=>exact .cons .sliceNil .nil
 |slice a b c=>exact .cons (.slice a b c) .nil
 |mapNil=>exact .cons .mapNil .nil
 |map h=>exact .cons (.map h) .nil
 |chanNil=>exact .cons .chanNil .nil
 |func a b c=>exact .cons (.func a b c) .nil
 |iface t h=>exact .cons (.iface t h) .nil
 |tuple h=>exact .cons (.tuple h) .nil
def Uf{β:Type}(P:Program)(m:Inj P)(A:AW)(w:World)(V:Inj P→Value→β→Prop)(r:R Value)(s:Sem β):Prop:=
 match r with
 |.ok v A'=>∃ v' w' m',s.run P w=.ok v' w'∧Ev m A w m' A' w'∧V m' v v'
 |.panic v A'=>∃ v' w' m',s.run P w=.halt (.panic v') w'∧Ev m A w m' A' w'∧AI m' v v'
 |.fail _=>True
def Gg(P:Program)(m:Inj P)(w:World)(r:Option Value)(s:Sem Value):Prop:=
 ∀ v,r=some v→∃ v',s.run P w=.ok v' w∧AI m v v'
theorem EI{α:Type}:∀ (s:Sem α) {a:α},quiet P s=some a→∀ w,s.run P w=.ok a w
 |.pure x,a,h,w=>by simp only [quiet,Oi] at h;subst h;rfl
 |.program k,a,h,w=>by simp only [quiet] at h;exact EI (k P) h w
 |.mark mk k,a,h,w=>by simp only [quiet] at h;exact EI k h w
 |.load ..,a,h,w=>by simp [quiet] at h
 |.store ..,a,h,w=>by simp [quiet] at h
 |.new ..,a,h,w=>by simp [quiet] at h
 |.shape ..,a,h,w=>by simp [quiet] at h
 |.freeze ..,a,h,w=>by simp [quiet] at h
 |.frozen ..,a,h,w=>by simp [quiet] at h
 |.getObj ..,a,h,w=>by simp [quiet] at h
 |.setObj ..,a,h,w=>by simp [quiet] at h
 |.choose ..,a,h,w=>by simp [quiet] at h
 |.sys ..,a,h,w=>by simp [quiet] at h
 |.halt ..,a,h,w=>by simp [quiet] at h
theorem H9{fd:Field}(h:MY P t f=some fd):∃ fs,P.underlying t=some (.struct fs)∧fs[f]? =some fd:=by
 unfold MY at h;split at h
 ·rename_i fs hu;exact ⟨fs,hu,by simpa using h⟩
 ·cases h
theorem Lz{m:Inj P}{s:TypeId}(hx:AI m x x')(w:World):Gg P m w (Ac P s x f) (Instr.fieldAt s x' f):=by
 intro v h;unfold Ac at h;split at h
 ·rename_i a;cases hx with
  |ptr ha=>
   rename_i a';split at h
   ·rename_i fd hf;split at h
    ·rename_i n hn;simp only [Oi] at h;subst h;obtain ⟨fs,hu,hfs⟩:=H9 hf;refine ⟨.pointer (some (a'.add fd.offset)),?_,.ptr (ha.add _)⟩;simp [Instr.fieldAt,run_underlying hu,hfs,Instr.sureAddr,fieldPlace,Bg hn]
    ·cases h
   ·cases h
 ·cases h
theorem Lx{m:Inj P}{ix ix':Value}(hx:AI m x x')(hi:AI m ix ix')(w:World):Gg P m w (Aj P t x ix) (Instr.indexAt t x' ix'):=by
 intro v h;unfold Aj at h;split at h
 ·rename_i k i;cases hi;split at h
  ·rename_i len e a hu;cases hx with
   |ptr ha=>
    rename_i a';cases hl:Nat.blt i len with
    |false=>simp [hl] at h
    |true=>
     simp only [hl,Ct] at h;split at h
     ·rename_i n hn;simp only [Oi] at h;subst h;have hl:=Ax.1 hl;refine ⟨.pointer (some (a'.add (i*n))),?_,.ptr (ha.add _)⟩;have h1:(0:Int)≤Int.ofNat i∧(Int.ofNat i:Int)<(len:Int):=⟨Int.natCast_nonneg _,by simpa using hl⟩;simp [Instr.indexAt,asIntOf,run_underlying hu,Instr.sureAddr,Bg hn,hl]
     ·cases h
  ·rename_i e a len c hu;cases hx with
   |slice hc hn ha=>
    rename_i a' c';cases hl:Nat.blt i len with
    |false=>simp [hl] at h
    |true=>
     simp only [hl,Ct] at h;split at h
     ·rename_i n hn';simp only [Oi] at h;subst h;have hl:=Ax.1 hl;refine ⟨.pointer (some (a'.add (i*n))),?_,.ptr ((ha (by omega)).add _)⟩;simp [Instr.indexAt,asIntOf,run_underlying hu,Bg hn',hl]
     ·cases h
  ·cases h
 ·cases h
theorem Jc{m:Inj P}{l l':List Value}{off:Nat}(hl:AJ m l l')(w:World):Gg P m w (P2 P t l off) (part t ⟨l'⟩ off):=by
 intro v h;unfold P2 at h;split at h
 ·rename_i hagg;split at h
  ·rename_i n hn;split at h
   ·rename_i cs hcs;simp only [Oi] at h;subst h;obtain ⟨rfl,_⟩:=G9 hcs;refine ⟨.agg ⟨(l'.drop off).take n⟩,?_,.agg ((hl.drop off).take n)⟩;simp only [part,Sem.run_bind,Fe hagg,Result.andThen_ok,if_true,Bg hn,Sem.run_pure]
    congr 2
    apply Array.ext'
    simp
   ·cases h
  ·cases h
 ·rename_i hagg;obtain ⟨v',h1,h2⟩:=hl.get h;refine ⟨v',?_,h2⟩;simp [part,Fe hagg,h1]
 ·cases h
end
variable {A:AW} {w:World} {t:TypeId} {a a':Addr} {v x x':Value}
section
variable {P:Program}
theorem Dv{m:Inj P}(r:Rel m A w)(h:CC P A t a=some v)(ha:Gi m a a'):
  ∃ v',(loadVar t a').run P w=.ok v' w∧AI m v v':=by
 unfold CC at h;split at h
 ·rename_i hagg;split at h
  ·rename_i n hn;split at h
   ·rename_i l hl;simp only [Oi] at h;subst h;obtain ⟨h1,l',h2,h3⟩:=r.cells hl (fun _=>ha);refine ⟨.agg ⟨l'⟩,?_,.agg h2⟩;have hlen:l'.length=n:=by rw [h2.length,h1]
    have:=run_loadCells_list (P:=P) w a' l' h3
    rw [hlen] at this;simp [loadVar,Fe hagg,Bg hn,this]
   ·cases h
  ·cases h
 ·rename_i hagg;obtain ⟨v',h1,h2⟩:=r.cell h ha;refine ⟨v',?_,h2⟩;simp [loadVar,Fe hagg,h1]
 ·cases h
theorem L4{m:Inj P}{A':AW}(r:Rel m A w){v':Value}(h:Iq P A t a v=some A')(ha:Gi m a a')(hv:AI m v v'):
  ∃ w',(storeVar t a' v').run P w=.ok () w'∧Ev m A w m A' w'∧A'.next=A.next:=by
 unfold Iq at h;split at h
 ·rename_i n hn;simp only at h;cases hb:Nat.beq v.cells.toList.length n with
  |false=>rw [hb] at h;cases h
  |true=>
   rw [hb,Ct] at h;have hb:=beq_true.1 hb;have hc:=hv.cells;obtain ⟨w',h1,h2,h3⟩:=Ev.setCells (i:=0) r hc (fun _=>by simpa [Addr.add] using ha) h;refine ⟨w',?_,h2,h3⟩;have hs:v'.cells.size=n:=by rw [← Array.length_toList,hc.length,hb]
   simp [storeVar,Bg hn,hs,h1]
 ·cases h
theorem RI {m:Inj P} (r:Rel m A w) (hx:AI m x x')
  (h:(match x with | .pointer (some a)=>CC P A t a | _=>none)=some v):∃ v',(Instr.loadAt t x').run P w=.ok v' w∧AI m v v':=by
 cases hx with
 |ptr ha=>
  obtain ⟨v',h1,h2⟩:=Dv r h ha;exact ⟨v',by simp [Instr.loadAt,Instr.sureAddr,h1],h2⟩
 |_=>cases h
theorem Qo{m:Inj P}{s:TypeId}{f:Nat}(hx:AI m x x')(w:World):Gg P m w (OX P s x f) (Instr.field s x' f):=by
 intro v h;unfold OX at h;split at h
 ·rename_i cs fd hf;cases hx with
  |agg hl=>
   obtain ⟨fs,hu,hfs⟩:=H9 hf;obtain ⟨v',h1,h2⟩:=Jc hl w v h;refine ⟨v',?_,h2⟩;simp [Instr.field,run_underlying hu,hfs,asAgg,h1]
 ·cases h
theorem Qh{m:Inj P}{ix ix':Value}(hx:AI m x x')(hi:AI m ix ix')(w:World):Gg P m w (OV P t x ix) (Instr.index t x' ix'):=by
 intro v h;unfold OV at h;split at h
 ·rename_i k i;cases hi;split at h
  ·rename_i len e cs hu;cases hx with
   |agg hl=>
    cases hb:Nat.blt i len with
    |false=>simp [hb] at h
    |true=>
     simp only [hb,Ct] at h;split at h
     ·rename_i n hn;have hb:=Ax.1 hb;obtain ⟨v',h1,h2⟩:=Jc hl w v h;refine ⟨v',?_,h2⟩;simp [Instr.index,asIntOf,run_underlying hu,Bg hn,hb,h1]
     ·cases h
  ·rename_i s hu;cases hx;split at h
   ·rename_i b hb;simp only [Oi] at h;subst h;refine ⟨_,?_,.int _ _⟩
    have:s[i]? =some b:=by
     obtain ⟨hlt,rfl⟩:=Gs.1 hb;have hlt':i<s.size:=by rw [Lib.size_eq];exact hlt
     rw [getElem?_pos s i hlt'];rfl
    simp [Instr.index,asIntOf,run_underlying hu,this]
   ·cases h
  ·cases h
 ·cases h
theorem NC{m:Inj P}{t t':Value}{i:Nat}(ht:AI m t t')(w:World):
  Gg P m w (match t with | .tuple vs=>vs.toList[i]? | _=>none) (Instr.extract t' i):=by
 intro v h;cases ht with
 |tuple hl=>
  obtain ⟨v',h1,h2⟩:=hl.get h;exact ⟨v',by simp [Instr.extract,h1],h2⟩
 |_=>cases h
def lay:List Value→Nat→List Value→List Value
 |l,_,[]=>l
 |l,n,v::vs=>lay (l.set n v) (n+1) vs
theorem GH:∀ (vs:List Value) (x:Value) (r:List Value) (n:Nat),lay (x::r) (n+1) vs=x::lay r n vs
 |[],_,_,_=>rfl
 |v::vs,x,r,n=>by simp only [lay,List.set_cons_succ];exact GH vs x _ (n+1)
theorem HU:∀ {l:List Value} {n:Nat} {vs r:List Value},El l n vs=some r→r=lay l n vs∧n+vs.length≤l.length∨(vs=[]∧r=l)
 |l,n,[],r,h=>by simp [El] at h;exact .inr ⟨rfl,h.symm⟩
 |[],n,v::vs,r,h=>by simp [El] at h
 |x::l,0,v::vs,r,h=>by
  simp only [El] at h;cases ho:El l 0 vs with
  |none=>simp [ho] at h
  |some r'=>
   simp only [ho,Oi] at h;subst h
   left
   simp only [lay,List.set_cons_zero,GH];rcases HU ho with ⟨h1,h2⟩ | ⟨rfl,rfl⟩
   ·exact ⟨by rw [h1],by simp;omega⟩
   ·exact ⟨rfl,by simp⟩
 |x::l,n+1,v::vs,r,h=>by
  simp only [El] at h;cases ho:El l n (v::vs) with
  |none=>simp [ho] at h
  |some r'=>
   simp only [ho,Oi] at h;subst h
   left
   rcases HU ho with ⟨h1,h2⟩ | ⟨h1,_⟩
   ·refine ⟨?_,by simp at h2 ⊢;omega⟩;rw [h1];exact (GH (v::vs) x l n).symm
   ·cases h1
theorem OK{l:List Value}{n:Nat}{vs r:List Value}(h:El l n vs=some r):r=lay l n vs∧(vs≠[]→n+vs.length≤l.length):=by
 rcases HU h with ⟨h1,h2⟩ | ⟨rfl,rfl⟩
 ·exact ⟨h1,fun _=>h2⟩
 ·exact ⟨rfl,fun h=>absurd rfl h⟩
theorem AJ.set{m:Inj P}:∀ {l l':List Value} (n:Nat) {v v':Value},AJ m l l'→AI m v v'→AJ m (l.set n v) (l'.set n v')
 |_,_,_,_,_,.nil,_=>.nil
 |_,_,0,_,_,.cons _ t,h=>.cons h t
 |_,_,n+1,_,_,.cons r t,h=>.cons r (AJ.set n t h)
theorem AJ.lay{m:Inj P}:∀ {vs vs' l l':List Value} (n:Nat),AJ m l l'→AJ m vs vs'→AJ m (lay l n vs) (lay l' n vs')
 |_,_,_,_,_,h,.nil=>h
 |_,_,_,_,n,h,.cons r t=>AJ.lay (n+1) (h.set n r) t
theorem Qm:∀ (vs:List Value) (k off:Nat) (cells:Array Value),
  (vs.zipIdx k).foldl (fun cs x=>cs.setIfInBounds (off+x.2) x.1) cells=⟨lay cells.toList (off+k) vs⟩
 |[],k,off,cells=>rfl
 |v::vs,k,off,cells=>by
  simp only [List.zipIdx_cons,List.foldl_cons,lay];rw [Qm vs (k+1) off];simp [Nat.add_assoc]
def Gh(m:Inj P)(p p':List (Nat × Value)):Prop:=BK (fun x y=>y.1=x.1∧AI m x.2 y.2) p p'
theorem FV{m:Inj P}{place place':Nat→Option (Nat × Nat)}(hp:∀ i x,place i=some x→place' i=some x):
  ∀ {parts parts':List (Nat × Value)} {cells cells' out:List Value},Gh m parts parts'→AJ m cells cells'→Ld place cells parts=some out→
  ∃ out',Instr.fill place' ⟨cells'⟩ parts'=some ⟨out'⟩∧AJ m out out'
 |_,_,cells,cells',out,.nil,hc,h=>by
  simp only [Ld,Oi] at h;subst h;exact ⟨cells',rfl,hc⟩
 |_,_,cells,cells',out,.cons (a:=(i,v)) (b:=(i',v')) ⟨he,hv⟩ ht,hc,h=>by
  simp only at he hv;subst he;simp only [Ld] at h;split at h
  ·rename_i off size hpl;cases hb:(Nat.beq v.cells.toList.length size&&Nat.ble (off+size) cells.length) with
   |false=>rw [hb] at h;cases h
   |true=>
    rw [hb,Ct] at h;simp only [Bq] at hb;have hb1:=beq_true.1 hb.1;have hb2:=Bj.1 hb.2;split at h
    ·rename_i cells2 ho;obtain ⟨h1,_⟩:=OK ho;have hvc:=hv.cells;obtain ⟨out',h3,h4⟩:=FV hp ht (h1▸AJ.lay off hc hvc) h;refine ⟨out',?_,h4⟩;simp only [Instr.fill,hp _ _ hpl];have hsz:v'.cells.size=size:=by rw [← Array.length_toList,hvc.length,hb1]
     have hl:=hc.length;have hfold:(v'.cells.zipIdx.foldl (fun cs x=>cs.setIfInBounds (off+x.2) x.1) (⟨cells'⟩:Array Value))=⟨lay cells' off v'.cells.toList⟩:=by
      rw [← Array.foldl_toList,Array.toList_zipIdx,Qm]
      simp
     have hcond:¬ (v'.cells.size≠size∨off+v'.cells.size>(⟨cells'⟩:Array Value).size):=by
      rintro (h | h)
      ·exact h hsz
      ·simp at h;omega
     rw [Ff (by simpa using hcond)];rw [show (v'.cells.zipIdx.foldl (fun cs x=>match x with | (c,j)=>cs.setIfInBounds (off+j) c) (⟨cells'⟩:Array Value))=⟨lay cells' off v'.cells.toList⟩ from hfold];exact h3
    ·cases h
  ·cases h
end
variable {t e:TypeId} {l l':List Value} {A A':AW} {w:World} {a:Addr}
section
variable {P:Program}
theorem JL:∀ {fs:List Field} {ps:List (Nat × Nat)},JM P fs=some ps→fs.mapM (fun f=>(P.info? f.type).map fun i=>(f.offset,i.size))=some ps
 |[],ps,h=>by simp [JM] at h;subst h;rfl
 |f::fs,ps,h=>by
  simp only [JM] at h;split at h
  ·rename_i n l hn hl;simp only [Oi] at h;subst h;obtain ⟨i,hi,rfl⟩:=L2 hn;simp [hi,JL hl]
  ·cases h
theorem Hh{m:Inj P}{ρ ρ':Operand→Value}:∀ (parts:List (Nat × Operand)),(∀ x∈parts,AI m (ρ x.2) (ρ' x.2))→Gh m (EK parts ρ) (parts.map fun x=>(x.1,ρ' x.2))
 |[],_=>.nil
 |(i,x)::r,h=>.cons ⟨rfl,h (i,x) (by simp)⟩ (Hh r fun y hy=>h y (by simp [hy]))
theorem QH{m:Inj P}{parts:List (Nat × Value)}{parts':Array (Nat × Value)}(hp:Gh m parts parts'.toList)(w:World):
  Gg P m w (Aw P t parts) (Instr.build t parts'):=by
 intro v h;unfold Aw at h;split at h
 ·cases h
 ·rename_i z hz;obtain ⟨⟨i,hi,hiz⟩,hcl⟩:=Cr hz;have hzr:AJ m z.cells.toList z.cells.toList:=(BP (m:=m) 4 z hcl).cells;split at h
  ·rename_i fs hu;split at h
   ·rename_i ps hps;split at h
    ·rename_i l hl;simp only [Oi] at h;subst h;obtain ⟨out',h1,h2⟩:=FV (place':=(ps.toArray[·]?)) (fun i x hx=>by simpa using hx) hp hzr hl;refine ⟨.agg ⟨out'⟩,run_build w t parts' ⟨out'⟩ ?_,.agg h2⟩;simp only [Program.built,hi,hu,hiz,JL hps];exact h1
    ·cases h
   ·cases h
  ·rename_i n e hu;split at h
   ·rename_i k hk;split at h
    ·rename_i l hl;simp only [Oi] at h;subst h;obtain ⟨ie,hie,rfl⟩:=L2 hk;obtain ⟨out',h1,h2⟩:=FV (place':=fun i=>some (i*ie.size,ie.size)) (fun i x hx=>hx) hp hzr hl;refine ⟨.agg ⟨out'⟩,run_build w t parts' ⟨out'⟩ ?_,.agg h2⟩;simp only [Program.built,hi,hu,hiz,hie];exact h1
    ·cases h
   ·cases h
  ·cases h
theorem Me{m:Inj P}(h:AJ m l l')(e:TypeId)(f b:Nat)(ro:Bool):G4 m 0 (.row l e f b ro) (.cells ⟨l'⟩ e):=by
 refine ⟨⟨l'⟩,(0,0),rfl,fun i v hv=>?_⟩;obtain ⟨v',h1,h2⟩:=h.get hv;exact ⟨v',by simpa using h1,fun _=>h2,fun _=>by omega⟩
theorem Fh{m:Inj P}(r:Rel m A w)(h:A.newRow l e=some (a,A'))(hl:AJ m l l'):
  ∃ m',Ev m A w m' A' { w with heap:=w.heap.push (.cells ⟨l'⟩ e) }∧Gi m' a ⟨w.heap.size,0,none⟩∧A'.next=A.next+1:=by
 unfold AW.newRow at h;cases hc:l.all AP with
 |false=>rw [hc] at h;cases h
 |true=>
  rw [hc,Ct] at h;split at h
  ·rename_i b A1 hn;simp only [Oi,Pj] at h;obtain ⟨rfl,rfl⟩:=h;obtain ⟨h1,h2,h3⟩:=Ev.new r hn (Me hl e A.next 0 false) (fun f b hf=>by simp [AO.fam] at hf;exact hf.1.symm) (R:=0) (el:=0) (st:=0) (fun h=>absurd rfl h)
    (fun cs e f b ro h=>⟨fun h=>absurd rfl h,_,_,_,rfl,Nat.zero_le _,fun _ k hk=>by omega⟩)
   refine ⟨_,h3,⟨rfl,rfl,0,Inj.Bs,rfl⟩,?_⟩;unfold AW.new at hn;cases hb:Nat.blt A.next Ak with
   |false=>rw [hb] at hn;cases hn
   |true=>rw [hb] at hn;simp at hn;rw [← hn.2]
  ·cases h
theorem Ci(w:World)(e:TypeId)(cs:Array Value):(newRow e cs).run P w=.ok ⟨w.heap.size,0,none⟩ { w with heap:=w.heap.push (.cells cs e) }:=by
 simp [newRow]
theorem QP{m:Inj P}(r:Rel m A w){z:Value}(hz:C2 P e=some z)(h:A.newRow z.cells.toList e=some (a,A')):
  ∃ v' w' m',(Instr.alloc e true (.tuple #[])).run P w=.ok v' w'∧Ev m A w m' A' w'∧AI m' (.pointer (some a)) v':=by
 obtain ⟨_,hcl⟩:=Cr hz;obtain ⟨m',h1,h2,_⟩:=Fh r h (BP (m:=m) 4 z hcl).cells;exact ⟨_,_,m',by simp [Instr.alloc,Bl hz,newVar,Ci],h1,.ptr h2⟩
theorem Ua{m:Inj P}(r:Rel m A w){v v':Value}(hv:AI m v v')(h:A.newRow v.cells.toList e=some (a,A')):
  ∃ x w' m',(Instr.box e v').run P w=.ok x w'∧Ev m A w m' A' w'∧AI m' (.pointer (some a)) x:=by
 obtain ⟨m',h1,h2,_⟩:=Fh r h hv.cells;exact ⟨_,_,m',by simp [Instr.box,newVar,Ci],h1,.ptr h2⟩
theorem EV(z:List Value):∀ n,(DC z n).length=n*z.length
 |0=>by simp [DC]
 |n+1=>by simp [DC,EV z n,Nat.succ_mul];omega
theorem LV(z:List Value):∀ (n i:Nat),i<n*z.length→(DC z n)[i]? =z[i%z.length]?
 |0,i,h=>by simp at h
 |n+1,i,h=>by
  simp only [DC];rw [List.getElem?_append];split
  ·rename_i hi;rw [Nat.mod_eq_of_lt hi]
  ·rename_i hi;have hz:0<z.length:=by
    rcases Nat.eq_zero_or_pos z.length with h0 | h0
    ·rw [h0] at h;simp at h
    ·exact h0
   rw [LV z n _ (by rw [Nat.succ_mul] at h;omega)];rw [Nat.mod_eq_sub_mod (by omega:z.length≤i)]
theorem Ej(z:Array Value)(n:Nat):((Array.range (n*z.size)).map fun i=>z[i%z.size]!)=⟨DC z.toList n⟩:=by
 apply Array.ext';apply List.ext_getElem?;intro i;simp only [Array.toList_map,Array.toList_range,List.getElem?_map];by_cases hi:i<n*z.size
 ·have hzs:0<z.size:=by
   rcases Nat.eq_zero_or_pos z.size with h0 | h0
   ·rw [h0] at hi;simp at hi
   ·exact h0
  have hm:=Nat.mod_lt i hzs;rw [LV z.toList n i (by simpa using hi)];rw [List.getElem?_range hi];simp only [Option.map_some,Array.length_toList];rw [getElem!_pos z _ hm,Ge (by simpa using hm)]
  simp
 ·rw [List.getElem?_eq_none (by simpa using hi),List.getElem?_eq_none (by rw [EV];simpa using hi)];rfl
theorem CA(h:Bt P t=some e):P.underlying t=some (.slice e):=by
 unfold Bt at h;split at h
 ·rename_i e' hu;simp only [Oi] at h;subst h;exact hu
 ·cases h
end
variable {n y:Nat} {A:AW} {w:World} {t:TypeId}
section
variable {P:Program}
theorem AJ.closed{m:Inj P}{v:Value}(h:AG 4 v=true):AJ m v.cells.toList v.cells.toList:=(BP (m:=m) 4 v h).cells
theorem AJ.Jp{m:Inj P}{z:List Value}(h:AJ m z z):∀ n,AJ m (DC z n) (DC z n)
 |0=>.nil
 |n+1=>h.append (AJ.Jp h n)
theorem HF{m:Inj P}{e:TypeId}{size:Nat}{l:List Value}(h:E4 P e size n=some l):
  AJ m l l∧∃ zero:Array Value,((n*size=0∧zero=#[])∨(n*size≠0∧∃ z:Value,zero=z.cells∧∀ w,(zeroValue e).run P w=.ok z w))∧
   (Array.range (n*size)).map (fun x=>zero[x%zero.size]!)=⟨l⟩:=by
 unfold E4 at h;by_cases h0:n*size=0
 ·rw [beq_true.2 h0,Ct] at h;simp only [Oi] at h;subst h;exact ⟨.nil,#[],.inl ⟨h0,rfl⟩,by simp [h0]⟩
 ·rw [beq_false.2 h0,Cf] at h;split at h
  ·rename_i z hz;cases hb:Nat.beq z.cells.toList.length size with
   |false=>rw [hb] at h;cases h
   |true=>
    rw [hb,Ct] at h;simp only [Oi] at h;subst h;have hb:=beq_true.1 hb;refine ⟨AJ.Jp (AJ.closed (Cr hz).2) n,z.cells,.inr ⟨h0,z,rfl,fun w=>Bl hz w⟩,?_⟩;rw [← hb,Array.length_toList,Ej]
  ·cases h
theorem HG(h:n<1099511627776):IntKind.i64.wrap (n:Int)=n:=IntWalk.i64_in _ ⟨by omega,by omega⟩
theorem Lv{m:Inj P}(r:Rel m A w){x x' y y':Value}(hx:AI m x x')(hy:AI m y y'):
  Uf P m A w AI (Cs P A t x y) (Instr.makeSlice t x' y'):=by
 unfold Cs;split
 rotate_left
 ·trivial
 rename_i e k l k2 c ht;cases hx;cases hy;split
 rotate_left
 ·trivial
 rename_i size bytes hs hby;cases hc:(Nat.ble l c&&Nat.blt c room&&Nat.blt (c*bytes) room) with
 |false=>simp only [Cf];trivial
 |true=>
  simp only [Ct];simp only [Bq] at hc;have h1:=Bj.1 hc.1.1;have h2:=Ax.1 hc.1.2;have h3:=Ax.1 hc.2;unfold room at h2 h3;split
  ·trivial
  ·rename_i cs hz;split
   rotate_left
   ·trivial
   rename_i a A' hn;obtain ⟨hzr,zero,hrun,hmap⟩:=HF (P:=P) (m:=m) hz;obtain ⟨m',g1,g2,_⟩:=Fh r hn hzr;obtain ⟨i,hi,hib⟩:=Lj hby;refine ⟨.slice (some ⟨w.heap.size,0,none⟩) l c,_,m',?_,g1,.slice (.inl ⟨by unfold Bo;omega,rfl⟩) h1 (fun _=>g2)⟩;have hwl:IntKind.i64.wrap (Int.ofNat l)=l:=HG (by omega);have hwc:IntKind.i64.wrap (Int.ofNat c)=c:=HG (by omega);have hcb:¬ ((bytes:Int)*(c:Int)>2^48):=by
    have:(bytes:Int)*(c:Int)=((c*bytes:Nat):Int):=by rw [Nat.mul_comm];simp
    rw [this];omega
   have hcond:(((decide ((c:Int)<0) || decide ((i.bytes:Int)*(c:Int)>2^48)) || decide ((l:Int)<0)) || decide ((l:Int)>(c:Int)))=false:=by
    rw [hib];simp only [Bool.or_eq_false_iff,decide_eq_false_iff_not];exact ⟨⟨⟨by omega,hcb⟩,by omega⟩,by omega⟩
   simp only [Instr.makeSlice,Sem.run_bind,run_underlying (CA ht),Result.andThen_ok,asInt,asIntOf,Sem.run_pure,Bz hi,hwl,hwc,hcond];simp only [Bool.false_eq_true,if_false,Sem.run_bind,run_askRoom,Result.andThen_ok,Bg hs,Int.toNat_natCast];rcases hrun with ⟨h0,rfl⟩ | ⟨h0,z,rfl,hzv⟩
   ·simp only [if_pos h0,Sem.run_bind,Sem.run_pure,Result.andThen_ok,Ci,hmap]
   ·simp only [Ff h0,Sem.run_bind,hzv,Sem.run_pure,Result.andThen_ok,Ci,hmap]
theorem KI{m:Inj P}(r:Rel m A w){len:Nat}{parts:List (Nat × Value)}{parts':Array (Nat × Value)}(hp:Gh m parts parts'.toList):
  Uf P m A w AI (Aq P A t len parts) (Instr.buildSlice t len parts'):=by
 unfold Aq;split
 rotate_left
 ·trivial
 rename_i e ht;split
 ·trivial
 rename_i size hs;cases hc:(Nat.ble (len*size) 16777216&&Nat.blt len room) with
 |false=>simp only [Cf];trivial
 |true=>
  simp only [Ct];simp only [Bq] at hc;have h1:=Bj.1 hc.1;have h2:=Ax.1 hc.2;unfold room at h2;split
  ·trivial
  rename_i zs hz;split
  ·trivial
  rename_i cs hcs;split
  rotate_left
  ·trivial
  rename_i a A' hn;obtain ⟨hzr,zero,hrun,hmap⟩:=HF (P:=P) (m:=m) hz;obtain ⟨out',g3,g4⟩:=FV (place':=fun i=>some (i*size,size)) (fun i x hx=>hx) hp hzr hcs;obtain ⟨m',g1,g2,_⟩:=Fh r hn g4;refine ⟨.slice (some ⟨w.heap.size,0,none⟩) len len,_,m',?_,g1,.slice (.inl ⟨by unfold Bo;omega,rfl⟩) (Nl _) (fun _=>g2)⟩;have hlim:¬ (len*size>2^24):=by omega
  simp only [Instr.buildSlice,Sem.run_bind,run_underlying (CA ht),Result.andThen_ok,Bg hs,Ff hlim];rcases hrun with ⟨h0,rfl⟩ | ⟨h0,z,rfl,hzv⟩
  ·simp only [if_pos h0,Sem.run_bind,Sem.run_pure,Result.andThen_ok,hmap,g3,Ci]
  ·simp only [Ff h0,Sem.run_bind,hzv,Sem.run_pure,Result.andThen_ok,hmap,g3,Ci]
def Dl(m:Inj P):Option Value→Option Value→Prop
 |none,none=>True
 |some x,some x'=>AI m x x'
 |_,_=>False
theorem O9 {m:Inj P} {v v':Option Value} {d:Nat} (hv:Dl m v v')
  (h:EP v d y=some n):(v=none∧v'=none∧n=d)∨∃ k,v'=some (.int k (n:Int))∧v.isSome=true∧n≤y:=by
 unfold EP at h;split at h
 ·simp only [Oi] at h;subst h;cases v' with
  |none=>exact .inl ⟨rfl,rfl,rfl⟩
  |some x=>simp [Dl] at hv
 ·rename_i k i;cases hb:Nat.ble i y with
  |false=>rw [hb] at h;cases h
  |true=>
   rw [hb] at h;simp only [Ct,Oi] at h;subst h;cases v' with
   |none=>simp [Dl] at hv
   |some x=>
    simp only [Dl] at hv;cases hv;exact .inr ⟨k,rfl,rfl,Bj.1 hb⟩
 ·cases h
theorem run_sliceBound{k:IntKind}(h:n≤y)(c:BoundsCode)(w:World):(Instr.sliceBound (.int k (n:Int)) y c).run P w=.ok n w:=by
 simp [Instr.sliceBound,asIntOf,h]
end
variable {v' lo hi mx lo' hi' mx':Option Value} {d y n len cap l h mm:Nat}
section
variable {P:Program}
def Bnd(v':Option Value)(d y n:Nat):Prop:=(v'=none∧n=d)∨((∃ k,v'=some (.int k (n:Int)))∧n≤y)
theorem Bnd.of{m:Inj P}{v:Option Value}(hv:Dl m v v')(h:EP v d y=some n):Bnd v' d y n∧v'.isSome=v.isSome:=by
 rcases O9 (m:=m) hv h with ⟨rfl,rfl,rfl⟩ | ⟨k,rfl,h1,h2⟩
 ·exact ⟨.inl ⟨rfl,rfl⟩,rfl⟩
 ·exact ⟨.inr ⟨⟨k,rfl⟩,h2⟩,by rw [h1];rfl⟩
theorem Bnd.mono{y':Nat}(h:Bnd v' d y n)(hy:y≤y'):Bnd v' d y' n:=by
 rcases h with h | ⟨h1,h2⟩
 ·exact .inl h
 ·exact .inr ⟨h1,by omega⟩
theorem Dn{isS:Bool}(h1:Bnd mx cap cap mm)(h2:mx.isSome=true→hi.isSome=true)(h3:Bnd hi len mm h)(h4:Bnd lo 0 h l)(w:World):
  (Instr.sliceBounds isS len cap lo hi mx).run P w=.ok (l,h,mm) w:=by
 rcases h1 with ⟨rfl,rfl⟩ | ⟨⟨k1,rfl⟩,h1⟩<;>rcases h3 with ⟨rfl,rfl⟩ | ⟨⟨k3,rfl⟩,h3⟩<;>rcases h4 with ⟨rfl,rfl⟩ | ⟨⟨k4,rfl⟩,h4⟩<;>
  first
   |(simp at h2;done)
   |simp only [Instr.sliceBounds,Sem.run_bind,Sem.run_pure,Result.andThen_ok,run_sliceBound h4,run_sliceBound h3,run_sliceBound h1]
   |simp only [Instr.sliceBounds,Sem.run_bind,Sem.run_pure,Result.andThen_ok,run_sliceBound h4,run_sliceBound h3]
   |simp only [Instr.sliceBounds,Sem.run_bind,Sem.run_pure,Result.andThen_ok,run_sliceBound h3,run_sliceBound h1]
   |simp only [Instr.sliceBounds,Sem.run_bind,Sem.run_pure,Result.andThen_ok,run_sliceBound h4]
   |simp only [Instr.sliceBounds,Sem.run_bind,Sem.run_pure,Result.andThen_ok,run_sliceBound h3]
   |simp only [Instr.sliceBounds,Sem.run_bind,Sem.run_pure,Result.andThen_ok]
theorem Wd:0<Bo:=by unfold Bo;omega
theorem Ey {m:Inj P} (hlo:Dl m lo lo') (hhi:Dl m hi hi') (hmx:Dl m mx mx')
  (hb:bounds len cap lo hi mx=some (l,h,mm)):
  Bnd mx' cap cap mm∧(mx'.isSome=true→hi'.isSome=true)∧Bnd hi' len mm h∧Bnd lo' 0 h l∧l≤h∧(hi'.isSome=true→h≤mm)∧mm≤cap:=by
 unfold bounds at hb;cases ho:IQ mx hi with
 |false=>rw [ho] at hb;cases hb
 |true=>
  rw [ho,Ct] at hb;split at hb
  ·cases hb
  rename_i m3 hm3;split at hb
  ·cases hb
  rename_i h3 hh3;split at hb
  ·cases hb
  rename_i l3 hl3;simp only [Oi,Pj] at hb;obtain ⟨rfl,rfl,rfl⟩:=hb;obtain ⟨b1,s1⟩:=Bnd.of hhi hh3;obtain ⟨b2,s2⟩:=Bnd.of hlo hl3;obtain ⟨b3,s3⟩:=Bnd.of hmx hm3;refine ⟨b3,?_,b1,b2,?_,?_,?_⟩
  ·rw [s1,s3];intro hq
   simpa [IQ,hq] using ho
  ·rcases b2 with ⟨_,rfl⟩ | ⟨_,h⟩<;>omega
  ·intro hq;rcases b1 with ⟨rfl,_⟩ | ⟨_,h⟩
   ·cases hq
   ·exact h
  ·rcases b3 with ⟨_,rfl⟩ | ⟨_,h⟩<;>omega
theorem Jo(a:Addr)(n:Nat):(DM a n).block=a.block:=by unfold DM;cases Nat.beq n 0<;>rfl
theorem Wo(a:Addr)(n:Nat):(DM a n).off=a.off+n:=by
 unfold DM;by_cases h:n=0
 ·subst h;rfl
 ·rw [beq_false.2 h];rfl
theorem PH{m:Inj P}{A:AW}{w:World}(r:Rel m A w){t:TypeId}{x x':Value}(hx:AI m x x')(hlo:Dl m lo lo')(hhi:Dl m hi hi')(hmx:Dl m mx mx'):
  Gg P m w (Cc P A t x lo hi mx) (Instr.sliceAt t x' lo' hi' mx'):=by
 intro v h;unfold Cc at h;split at h
 ·
  rename_i s hu;cases hx;split at h
  ·rename_i l hh mm hb;simp only [Oi] at h;subst h;cases mx' with
   |some y=>simp [Dl] at hmx
   |none=>
    obtain ⟨b1,b2,b3,b4,_⟩:=Ey hlo hhi (mx:=none) (mx':=none) trivial hb;rw [← Lib.size_eq] at b1 b3;have hrun:=Dn (P:=P) (isS:=false) b1 b2 b3 b4 w;refine ⟨_,?_,.string _⟩;simp only [Instr.sliceAt,Sem.run_bind,run_underlying hu,Result.andThen_ok,Instr.slice,Option.isSome_none,Bool.false_eq_true,if_false,hrun,Sem.run_pure,Lib.extract_eq];rw [List.drop_take]
  ·cases h
 ·
  rename_i e a len cap hu;split at h
  ·cases h
  rename_i size hs;cases hcap:Nat.ble Bo cap with
  |true=>
   rw [hcap] at h;simp only [Ct] at h;have hcap:=Bj.1 hcap;cases hx with
   |sliceNil=>have:=Wd;omega
   |slice hc hn ha=>
    rename_i a a' c';obtain ⟨_,hlb,hcl,hcr,xx,hxx⟩:=hc.resolve_left (fun h=>by omega);cases mx with
    |none=>
     simp only at h;split at h
     ·rename_i l hh mm hb;cases hmb:(Nat.ble hh mm&&JF A (some a) e) with
      |false=>rw [hmb] at h;cases h
      |true=>
       rw [hmb] at h;simp only [Ct,Oi] at h;subst h;simp only [Bq] at hmb;obtain ⟨hmb,hrow⟩:=hmb;have hmb:=Bj.1 hmb;have hst:0<c'→m.st a.block=size:=by
        intro hp;unfold JF at hrow;split at hrow
        ·rename_i a0 ha0;cases ha0;split at hrow
         ·rename_i cs0 e0 f0 b0 ro0 hg;have hee:=beq_true.1 hrow;subst hee;have h1:=(r.room _ _ _ _ _ _ xx.1 xx.2 hg hxx).1 (hcr hp);have h2:=m.ok _ (hcr hp);rw [h1,hs] at h2
          simpa using h2.symm
         ·cases hrow
        ·cases hrow
       cases mx' with
       |some y=>simp [Dl] at hmx
       |none=>
        obtain ⟨b1,b2,b3,b4,hl,_,hm2⟩:=Ey hlo hhi (mx:=none) (mx':=none) trivial hb;have hmm:mm=cap-Bo:=by rcases b1 with ⟨_,h⟩ | ⟨⟨_,h⟩,_⟩;exact h;cases h
        have b3':Bnd hi' len c' hh:=b3.mono (by omega);have hrun:=Dn (P:=P) (isS:=true) (len:=len) (cap:=c') (mx:=none) (mm:=c') (.inl ⟨rfl,rfl⟩) (by simp) b3' b4 w;refine ⟨.slice (some (if c'=l then a' else a'.add (l*size))) (hh-l) (c'-l),?_,.slice (.inr ⟨by omega,by omega,?_,?_,?_⟩) (by omega) (fun hp=>?_)⟩
        ·simp only [Instr.sliceAt,Sem.run_bind,run_underlying hu,Result.andThen_ok,Instr.slice,hrun,Bg hs,Sem.run_pure];split<;>rfl
        ·rw [Jo,Wo];rcases Nat.eq_zero_or_pos c' with h0 | h0
         ·subst h0
          have:l=0:=by omega
          subst this
          simpa using hcl
         ·rw [hst h0] at hcl ⊢
          have:l*size+(c'-l)*size=c'*size:=by rw [← Nat.add_mul];congr 1;omega
          omega
        ·intro hp;rw [Jo];exact hcr (by omega)
        ·rw [Jo];exact ⟨_,hxx⟩
        ·rw [Ff (by omega)];exact (ha (by omega)).add _
     ·cases h
    |some mv=>
     simp only at h;split at h
     ·rename_i l hh mm hb;cases hmb:Nat.blt mm Bo with
      |false=>rw [hmb] at h;cases h
      |true=>
       rw [hmb] at h;simp only [Ct,Oi] at h;subst h;have hmb:=Ax.1 hmb;obtain ⟨b1,b2,b3,b4,hl,hm1,hm2⟩:=Ey hlo hhi hmx hb;have hsm:mx'.isSome=true:=by cases mx' with | none=>simp [Dl] at hmx | some y=>rfl
       have hm1:=hm1 (b2 hsm);have b1':Bnd mx' c' c' mm:=by
        rcases b1 with ⟨rfl,_⟩ | ⟨h1,h2⟩
        ·cases hsm
        ·exact .inr ⟨h1,by omega⟩
       have hrun:=Dn (P:=P) (isS:=true) (len:=len) (cap:=c') b1' b2 b3 b4 w;refine ⟨.slice (some (if mm=l then a' else a'.add (l*size))) (hh-l) (mm-l),?_,.slice (.inl ⟨by omega,rfl⟩) (by omega) (fun hp=>?_)⟩
       ·simp only [Instr.sliceAt,Sem.run_bind,run_underlying hu,Result.andThen_ok,Instr.slice,hrun,Bg hs,Sem.run_pure];split<;>rfl
       ·rw [Ff (by omega)];exact (ha (by omega)).add _
     ·cases h
  |false=>
   rw [hcap] at h;simp only [Cf] at h;have hcap:=BA.1 hcap;split at h
   ·rename_i l hh mm hb;simp only [Oi] at h;subst h;obtain ⟨b1,b2,b3,b4,hl,hm1,hm2⟩:=Ey hlo hhi hmx hb;have hrun:=Dn (P:=P) (isS:=true) (len:=len) (cap:=cap) b1 b2 b3 b4 w;cases hx with
    |sliceNil=>
     have hl0:l=0∧hh=0∧mm=0:=by
      rcases b3 with ⟨_,rfl⟩ | ⟨_,h⟩<;>omega
     obtain ⟨rfl,rfl,rfl⟩:=hl0;refine ⟨.slice none 0 0,?_,.sliceNil⟩;simp only [Instr.sliceAt,Sem.run_bind,run_underlying hu,Result.andThen_ok,Instr.slice,hrun,Bg hs,Sem.run_pure];rfl
    |slice hc hn ha=>
     rename_i a a' c';rcases hc with ⟨_,rfl⟩ | ⟨h1,_⟩
     rotate_left
     ·omega
     have hhm:hh≤mm:=by
      cases hs2:hi'.isSome with
      |true=>exact hm1 hs2
      |false=>
       have hmn:mx'=none:=by
        cases mx' with
        |none=>rfl
        |some y=>have:=b2 rfl;rw [hs2] at this;cases this
       subst hmn;rcases b1 with ⟨_,rfl⟩ | ⟨⟨_,h⟩,_⟩
       ·rcases b3 with ⟨_,rfl⟩ | ⟨_,h⟩<;>omega
       ·cases h
     refine ⟨.slice (if mm=l then some a' else some (a'.add (l*size))) (hh-l) (mm-l),?_,?_⟩
     ·simp only [Instr.sliceAt,Sem.run_bind,run_underlying hu,Result.andThen_ok,Instr.slice,hrun,Bg hs,Sem.run_pure];rfl
     ·by_cases hml:mm=l
      ·rw [beq_true.2 hml,Ct,if_pos hml];exact .slice (.inl ⟨by omega,rfl⟩) (by omega) (fun hp=>by omega)
      ·rw [beq_false.2 hml,Cf,Ff hml];exact .slice (.inl ⟨by omega,rfl⟩) (by omega) (fun hp=>(ha (by omega)).add _)
   ·cases h
 ·
  rename_i n e a hu;cases hx with
  |ptr ha=>
   rename_i a';split at h
   ·cases h
   rename_i size hs;split at h
   ·rename_i l hh mm hb;cases hmb:Nat.blt mm Bo with
    |false=>rw [hmb] at h;cases h
    |true=>
     rw [hmb] at h;simp only [Ct,Oi] at h;subst h;have hmb:=Ax.1 hmb;obtain ⟨b1,b2,b3,b4,hl,hm1,hm2⟩:=Ey hlo hhi hmx hb;have hrun:=Dn (P:=P) (isS:=false) (len:=n) (cap:=n) b1 b2 b3 b4 w;have hhm:hh≤mm:=by
      cases hs2:hi'.isSome with
      |true=>exact hm1 hs2
      |false=>
       have hmn:mx'=none:=by
        cases mx' with
        |none=>rfl
        |some y=>have:=b2 rfl;rw [hs2] at this;cases this
       subst hmn;rcases b1 with ⟨_,rfl⟩ | ⟨⟨_,h⟩,_⟩
       ·rcases b3 with ⟨_,rfl⟩ | ⟨_,h⟩<;>omega
       ·cases h
     refine ⟨.slice (some (if mm=l then a' else a'.add (l*size))) (hh-l) (mm-l),?_,?_⟩
     ·simp only [Instr.sliceAt,Sem.run_bind,run_underlying hu,Result.andThen_ok,Instr.sureAddr,hrun,Bg hs,Sem.run_pure]
     ·by_cases hml:mm=l
      ·rw [beq_true.2 hml,Ct,if_pos hml];exact .slice (.inl ⟨by omega,rfl⟩) (by omega) (fun hp=>by omega)
      ·rw [beq_false.2 hml,Cf,Ff hml];exact .slice (.inl ⟨by omega,rfl⟩) (by omega) (fun hp=>ha.add _)
   ·cases h
 ·cases h
end
variable {x y v x' y':Value} {t:TypeId} {xo yo:Operand}
section
variable {P:Program}
theorem toList_eq(s:ByteArray):s.toList=s.data.toList:=Lib.toList_data s
theorem Lk(x y:ByteArray):x++y=⟨⟨x.data.toList++y.data.toList⟩⟩:=by
 apply ByteArray.ext;rw [ByteArray.data_append];apply Array.ext'
 simp
theorem PD{m:Inj P}{op:BinOp}{x y:ByteArray}(h:Q7 op x y=some v)(w:World):∃ v',(Op.stringOp op x y).run P w=.ok v' w∧AI m v v':=by
 unfold Q7 at h;simp only at h;cases op<;>simp only at h<;>try (cases h;done)
 case add=>
  cases hb:Nat.blt (x.data.toList++y.data.toList).length 1099511627776 with
  |false=>rw [hb] at h;cases h
  |true=>
   rw [hb] at h;simp only [Ct,Oi] at h;subst h;have hb:=Ax.1 hb;refine ⟨_,?_,.string _⟩
   have:¬ (((x.size+y.size:Nat):Int)>IntKind.i64.max):=by
    rw [Lib.size_eq,Lib.size_eq];simp only [Lq] at hb
    have:IntKind.i64.max=9223372036854775807:=by decide
    rw [this];omega
   simp only [Op.stringOp,Ff this,Sem.run_pure,Lk]
 all_goals
  simp only [Oi] at h;subst h;refine ⟨_,?_,.bool _⟩;simp only [Op.stringOp,toList_eq,Sem.run_pure]
theorem I8{a b:Addr}(h:a.block=b.block)(w:World):(sameAddr a b).run P w=.ok (a==b) w:=by
 simp [sameAddr,h]
theorem GW{m:Inj P}{b:Bool}(hx:AI m x x')(hy:AI m y y')(h:eqA P t x y=some b)(w:World):(Op.equal t x' y').run P w=.ok b w:=by
 unfold eqA at h;cases hc:(AG 4 x&&AG 4 y) with
 |true=>
  rw [hc,Ct] at h;simp only [Bq] at hc;rw [D7 4 _ _ hc.1 hx,D7 4 _ _ hc.2 hy];exact EI _ h w
 |false=>
 rw [hc,Cf] at h;clear hc;show (Op.equalIn 10000 t x' y').run P w=_;obtain ⟨d0,hd0⟩:∃ d:Nat,10000=d+1:=⟨9999,rfl⟩;rw [hd0];clear hd0;split at h
 ·rename_i e c hu;cases hx;cases hy with
  |ptrNil=>simp only [Oi] at h;subst h;simp [Op.equalIn,run_underlying hu]
  |ptr ha=>simp only [Oi] at h;subst h;simp [Op.equalIn,run_underlying hu]
 ·rename_i e c hu;cases hx with
  |ptr ha=>
   cases hy;simp only [Oi] at h;subst h;simp [Op.equalIn,run_underlying hu]
 ·rename_i e c d hu;cases hx with
  |ptr ha=>
   rename_i a';cases hy with
   |ptr hb=>
    rename_i b';split at h
    ·rename_i n hn hs1 hs2;cases hbl:Nat.beq c.block d.block with
     |false=>rw [hbl] at h;cases h
     |true=>
      rw [hbl] at h;simp only [Ct,Oi] at h;subst h;have hbl:=beq_true.1 hbl;obtain ⟨_,h1,d1,h2,h3⟩:=ha;obtain ⟨_,k1,d2,k2,k3⟩:=hb;rw [hbl,k2] at h2;simp only [Oi,Pj] at h2;obtain ⟨h4,h5⟩:=h2;have hab:(a'==b')=Nat.beq c.off d.off:=by
       obtain ⟨ab,ao,asp⟩:=a';obtain ⟨bb,bo,bsp⟩:=b';simp only at *;subst h1;subst k1;subst h4;subst h5;cases hq:Nat.beq c.off d.off with
       |true=>
        have:=beq_true.1 hq
        simp [h3,k3,this]
       |false=>
        have:=beq_false.1 hq
        simp [h3,k3,this]
      simp only [Op.equalIn,Sem.run_bind,run_underlying hu,Result.andThen_ok,Bg hn];simp [I8 h4.symm,hab]
    ·cases h
 ·rename_i e a b0 c d hu;cases hx;cases hy<;>simp only [Oi] at h<;>subst h<;>simp [Op.equalIn,run_underlying hu]
 ·rename_i e a b0 c d c0 d0 hu;cases hx;cases hy<;>simp only [Oi] at h<;>subst h<;>simp [Op.equalIn,run_underlying hu]
 ·rename_i k e c hu;cases hx;cases hy<;>simp only [Oi] at h<;>subst h<;>simp [Op.equalIn,run_underlying hu]
 ·rename_i k e c hu;cases hx;cases hy<;>simp only [Oi] at h<;>subst h<;>simp [Op.equalIn,run_underlying hu]
 ·rename_i k e c hu;cases hx;cases hy<;>simp only [Oi] at h<;>subst h<;>simp [Op.equalIn,run_underlying hu]
 ·rename_i k e c hu;cases hx;cases hy<;>simp only [Oi] at h<;>subst h<;>simp [Op.equalIn,run_underlying hu]
 ·rename_i k e c hu;cases hx;cases hy<;>simp only [Oi] at h<;>subst h<;>simp [Op.equalIn,run_underlying hu]
 ·rename_i k e c hu;cases hx;cases hy<;>simp only [Oi] at h<;>subst h<;>simp [Op.equalIn,run_underlying hu]
 ·cases h
theorem J0{m:Inj P}{o:Option Value}(h:Cx o=some v):o=some v∧AI m v v:=by
 unfold Cx at h;split at h
 ·rename_i x;cases hc:AG 4 x with
  |false=>rw [hc] at h;cases h
  |true=>
   rw [hc] at h;simp only [Ct,Oi] at h;subst h;exact ⟨rfl,BP 4 x hc⟩
 ·cases h
theorem UK{m:Inj P}{op:UnOp}(hx:AI m x x')(w:World):Gg P m w (unA P op x) (Op.unary op x'):=by
 intro v h;unfold unA at h;cases hc:AG 1 x with
 |false=>rw [hc] at h;cases h
 |true=>
  rw [hc,Ct] at h;rw [D7 1 _ _ hc hx];obtain ⟨h1,h2⟩:=J0 (m:=m) h;exact ⟨v,EI _ h1 w,h2⟩
def mixed:Value→Value→Bool
 |.int _ _,.int _ _=>false
 |.string _,.string _=>false
 |.float _ _,.float _ _=>false
 |.complex _ _ _,.complex _ _ _=>false
 |_,_=>true
theorem binOp_eql(t:TypeId)(x y:Value)(h:mixed x y=true):binOp .eql t x y=(do pure (.bool (← Op.equal t x y))):=by
 cases x<;>cases y<;>first | rfl | (simp [mixed] at h;done)
theorem binOp_neq(t:TypeId)(x y:Value)(h:mixed x y=true):binOp .neq t x y=(do pure (.bool (!(← Op.equal t x y)))):=by
 cases x<;>cases y<;>first | rfl | (simp [mixed] at h;done)
theorem AI.mixed{m:Inj P}{x y x' y':Value}(hx:AI m x x')(hy:AI m y y'):mixed x' y'=mixed x y:=by
 cases hx<;>cases hy<;>rfl
theorem IX{m:Inj P}{op:BinOp}(hx:AI m x x')(hy:AI m y y')(h:Dt P t xo yo x y=true)(w:World):
  (eqGuard op t xo yo x' y').run P w=.ok () w:=by
 unfold Dt at h;cases hx<;>cases hy<;>first | (cases op<;>rfl) | skip
 ·
  simp only at h;cases op<;>first | rfl | (simp only [eqGuard];cases xo<;>cases yo<;>first | rfl | (simp [isConst] at h;done))
 ·simp only [Bool.not_eq_true'] at h;cases op<;>first | rfl | simp [eqGuard,h]
theorem IY(op:BinOp)(t:TypeId)(xo yo:Operand)(x y:Value)(h1:x≠ .nilIface)(h2:∀ c,x≠ .agg c)(w:World):(eqGuard op t xo yo x y).run P w=.ok () w:=by
 cases x<;>first | (exact absurd rfl h1) | (exact absurd rfl (h2 _)) | (cases op<;>rfl)
theorem Ud{m:Inj P}{op:BinOp}(hx:AI m x x')(hy:AI m y y')(w:World):
  Gg P m w (Ah P op t xo yo x y) (do eqGuard op t xo yo x' y';binOp op t x' y'):=by
 intro v h;unfold Ah at h;split at h
 ·cases hx;cases hy;obtain ⟨h1,h2⟩:=J0 (m:=m) h;refine ⟨v,?_,h2⟩;rw [Sem.run_bind,IY _ _ _ _ _ _ (by simp) (by simp),Result.andThen_ok];exact EI _ h1 w
 ·rename_i a b;cases hx;cases hy;obtain ⟨v',h1,h2⟩:=PD (P:=P) (m:=m) h w;refine ⟨v',?_,h2⟩;have hbs:binOp op t (.string a) (.string b)=Op.stringOp op a b:=by cases op<;>rfl
  rw [Sem.run_bind,IY _ _ _ _ _ _ (by simp) (by simp),Result.andThen_ok,hbs];exact h1
 ·cases h
 ·cases h
 ·rename_i n1 n2 n3 n4;have hmix:mixed x y=true:=by
   unfold mixed;split
   ·exact (n1 _ _ _ _ rfl rfl).elim
   ·exact (n2 _ _ rfl rfl).elim
   ·exact (n3 _ _ _ _ rfl rfl).elim
   ·exact (n4 _ _ _ _ _ _ rfl rfl).elim
   ·rfl
  have hmix':mixed x' y'=true:=by rw [hx.mixed hy];exact hmix
  split at h
  ·cases hg:Dt P t xo yo x y with
   |false=>rw [hg] at h;cases h
   |true=>
    rw [hg,Ct] at h;split at h
    ·rename_i b hb;simp only [Oi] at h;subst h;refine ⟨_,?_,.bool b⟩;rw [Sem.run_bind,IX hx hy hg,Result.andThen_ok,binOp_eql _ _ _ hmix'];simp [GW hx hy hb w]
    ·cases h
  ·cases hg:Dt P t xo yo x y with
   |false=>rw [hg] at h;cases h
   |true=>
    rw [hg,Ct] at h;split at h
    ·rename_i b hb;simp only [Oi] at h;subst h;refine ⟨_,?_,.bool (!b)⟩;rw [Sem.run_bind,IX hx hy hg,Result.andThen_ok,binOp_neq _ _ _ hmix'];simp [GW hx hy hb w]
    ·cases h
  ·cases h
end
variable {t kt:TypeId} {k x x' k' v:Value} {A A':AW} {w:World} {es es':List MapEntry} {empty:Bool} {r:Option Nat}
section
variable {P:Program}
theorem Ck{k e:TypeId}(h:Dp P t=some (k,e)):P.underlying t=some (.map k e):=by
 unfold Dp at h;split at h
 ·rename_i k' e' hu;simp only [Oi,Pj] at h;obtain ⟨rfl,rfl⟩:=h;exact hu
 ·cases h
theorem JO{m:Inj P}(r:Rel m A w)(hx:AI m x x')(h:Km A x=some es):
  (x=.map none∧x'=.map none∧es=[])∨∃ i c es' clock ro,x=.map (some i)∧x'=.map (some c)∧m i=some (c,0)∧A.get i=some (.map es clock ro)∧w.heap[c]? =some (.map ⟨es'⟩ clock)∧BK (EU m) es es':=by
 cases hx with
 |mapNil=>simp only [Km,Oi] at h;exact .inl ⟨rfl,rfl,h.symm⟩
 |map hm=>
  rename_i i c;simp only [Km] at h;split at h
  ·rename_i es0 clock ro hg;simp only [Oi] at h;subst h;obtain ⟨c0,d0,o',h1,h2,hd,es',rfl,h4⟩:=r.EE hg hm;rw [hm] at h1;simp only [Oi,Pj] at h1;obtain ⟨rfl,rfl⟩:=h1;exact .inr ⟨i,c,es',clock,ro,rfl,rfl,hm,hg,h2,h4⟩
  ·cases h
 |_=>simp [Km] at h
theorem FQ{m:Inj P}(hk:AI m k k')(h:H3 P empty kt k=true)(w:World):
  AG 4 k=true∧k'=k∧(Instr.checkKey empty 10000 kt k').run P w=.ok () w:=by
 unfold H3 at h;simp only [Bq] at h;obtain ⟨h1,h2⟩:=h;have e:=D7 4 _ _ h1 hk;refine ⟨h1,e,?_⟩;rw [e];split at h2
 ·rename_i u hu;exact EI _ hu w
 ·cases h2
theorem G7{u:Unit}(h:quiet P (Instr.checkKey empty 10000 kt k)=some u):∃ d,P.underlying kt=some d:=by
 cases hu:P.underlying kt with
 |some d=>exact ⟨d,rfl⟩
 |none=>
  exfalso;obtain ⟨d0,hd0⟩:∃ d:Nat,10000=d+1:=⟨9999,rfl⟩;rw [hd0] at h;clear hd0
  have:∀ {β:Type} (f:TypeDesc→Sem β),quiet P ((underlying kt).bind f)=none:=by
   intro β f;simp only [underlying,program,Bind.bind,Sem.bind,quiet,hu,stuck]
  simp only [Instr.checkKey,Bind.bind] at h;rw [this] at h;cases h
theorem Ho(h:H3 P empty kt k=true):∃ d,P.underlying kt=some d:=by
 unfold H3 at h;simp only [Bq] at h;obtain ⟨_,h2⟩:=h;split at h2
 ·rename_i u hu;exact G7 hu
 ·cases h2
theorem Mb{d:TypeDesc}{y:Value}{b c:Bool}(hu:P.underlying kt=some d)(h:(Op.equal kt x y).run P w=.ok b w)(hs:Instr.sameNow d x y=some c):c=b:=by
 have h':(Op.equalIn 10000 kt x y).run P w=.ok b w:=h;obtain ⟨d0,hd0⟩:∃ d:Nat,10000=d+1:=⟨9999,rfl⟩;rw [hd0] at h';clear hd0 h;unfold Instr.sameNow at hs;split at hs
 ·rename_i kk k1 a k2 b';split at hs
  ·rename_i hkk;subst hkk;simp only [Oi] at hs;simp [Op.equalIn,run_underlying hu] at h';rw [← hs,← h']
  ·cases hs
 ·simp only [Oi] at hs;simp [Op.equalIn,run_underlying hu] at h';rw [← hs,← h']
 ·simp only [Oi] at hs;simp [Op.equalIn,run_underlying hu] at h';rw [← hs,← h']
 ·cases hs
def Found(m:Inj P)(es es':List MapEntry)(i:Nat)(r:Option Nat)(q:Option (Nat × Value)):Prop:=
 match r with
 |none=>q=none
 |some j=>∃ e e',i≤j∧es[j-i]? =some e∧es'[j-i]? =some e'∧q=some (j,e'.val)∧EU m e e'
theorem Found.skip{m:Inj P}{x x':MapEntry}{i:Nat}{q:Option (Nat × Value)}(h:Found m es es' (i+1) r q):Found m (x::es) (x'::es') i r q:=by
 cases r with
 |none=>exact h
 |some j=>
  obtain ⟨e,e',h1,h2,h3,h4,h5⟩:=h;refine ⟨e,e',by omega,?_,?_,h4,h5⟩
  ·rw [show j-i=(j-(i+1))+1 by omega];simpa using h2
  ·rw [show j-i=(j-(i+1))+1 by omega];simpa using h3
theorem GU{m:Inj P}{kt:TypeId}{k k':Value}(hk:AI m k k')(w:World):∀ {es es':List MapEntry} {i:Nat} {r:Option Nat},BK (EU m) es es'→Gp P kt k es i=some r→
  ∃ q,(Instr.findAsking kt k' es' i).run P w=.ok q w∧Found m es es' i r q
 |_,_,i,r,.nil,h=>by
  simp only [Gp,Oi] at h;subst h;exact ⟨none,rfl,rfl⟩
 |_,_,i,r,.cons (a:=e) (b:=e') he ht,h=>by
  simp only [Gp] at h;split at h
  ·rename_i hb;simp only [Oi] at h;subst h;refine ⟨some (i,e'.val),?_,e,e',Nl _,by simp,by simp,rfl,he⟩;simp [Instr.findAsking,GW hk he.key hb w]
  ·rename_i hb;obtain ⟨q,h1,h2⟩:=GU hk w ht h;refine ⟨q,?_,h2.skip⟩;simp [Instr.findAsking,GW hk he.key hb w,h1]
  ·cases h
theorem IV{m:Inj P}{kt:TypeId}{d:TypeDesc}{k k':Value}(hk:AI m k k')(hu:P.underlying kt=some d)(w:World):∀ {es es':List MapEntry} {i:Nat} {r:Option Nat},BK (EU m) es es'→
  Gp P kt k es i=some r→∀ {q},Instr.findNow d k' es' i=some q→Found m es es' i r q
 |_,_,i,r,.nil,h,q,hq=>by
  simp only [Gp,Oi] at h;subst h;simp only [Instr.findNow,Oi] at hq;subst hq;rfl
 |_,_,i,r,.cons (a:=e) (b:=e') he ht,h,q,hq=>by
  simp only [Gp] at h;simp only [Instr.findNow] at hq;split at h
  ·rename_i hb;have he1:=GW hk he.key hb w;simp only [Oi] at h;subst h;split at hq
   ·simp only [Oi] at hq;subst hq;exact ⟨e,e',Nl _,by simp,by simp,rfl,he⟩
   ·rename_i hs
    have:=Mb hu he1 hs
    cases this
   ·cases hq
  ·rename_i hb;have he1:=GW hk he.key hb w;split at hq
   ·rename_i hs
    have:=Mb hu he1 hs
    cases this
   ·exact (IV hk hu w ht h hq).skip
   ·cases hq
  ·cases h
theorem Dj {m:Inj P} {d:TypeDesc} (hk:AI m k k') (hu:P.underlying kt=some d) (w:World) (he:BK (EU m) es es')
  (h:Gp P kt k es 0=some r):∃ q,(Instr.findKey kt k' es').run P w=.ok q w∧Found m es es' 0 r q:=by
 unfold Instr.findKey;rw [Sem.run_bind,run_underlying hu,Result.andThen_ok];cases hn:Instr.findNow d k' es' 0 with
 |some q=>exact ⟨q,rfl,IV hk hu w he h hn⟩
 |none=>exact GU hk w he h
theorem isEmpty_eq{m:Inj P}(h:BK (EU m) es es'):es'.isEmpty=es.isEmpty:=by cases h<;>rfl
theorem OO{m:Inj P}(r:Rel m A w){ok:Bool}(hx:AI m x x')(hk:AI m k k'):
  Gg P m w (C5 P A t x k ok) (Instr.lookup t x' k' ok):=by
 intro v h;unfold C5 at h;split at h
 ·cases h
 rename_i kt et hmt;split at h
 ·cases h
 rename_i es hes;cases hq:H3 P es.isEmpty kt k with
 |false=>rw [hq] at h;cases h
 |true=>
  rw [hq,Ct] at h;obtain ⟨_,_,hck⟩:=FQ (P:=P) hk hq w;obtain ⟨kd,hkd⟩:=Ho hq;split at h
  ·cases h
  ·rename_i i hf;split at h
   ·rename_i e hei;simp only [Oi] at h;subst h;rcases JO r hx hes with ⟨_,_,rfl⟩ | ⟨ib,c,es',clock,ro,rfl,rfl,hm,hg,hc,he⟩
    ·simp at hei
    ·obtain ⟨q,h1,e1,e1',_,h3,h4,h5,h6⟩:=Dj hk hkd w he hf;simp only [Nat.sub_zero] at h3 h4;rw [hei] at h3;simp only [Oi] at h3;subst h3;subst h5;rw [← isEmpty_eq he] at hck;refine ⟨if ok then .tuple #[e1'.val,.bool true] else e1'.val,?_,?_⟩
     ·simp only [Instr.lookup,Sem.run_bind,run_underlying (Ck hmt),Result.andThen_ok,Be P w c _ hc (by simp)]
      have:(⟨es'⟩:Array MapEntry).isEmpty=es'.isEmpty:=by simp
      simp only [Sem.run_pure,Result.andThen_ok,Sem.run_bind,this,hck,h1]
     ·cases ok
      ·exact h6.val
      ·exact .tuple (.cons h6.val (.cons (.bool true) .nil))
   ·cases h
  ·rename_i hf;split at h
   ·rename_i z hz;simp only [Oi] at h;subst h;have hzr:=BP (m:=m) 4 z (Cr hz).2;have hvr:AI m (bif ok then .tuple #[z,.bool false] else z) (if ok then .tuple #[z,.bool false] else z):=by
     cases ok
     ·exact hzr
     ·exact .tuple (.cons hzr (.cons (.bool false) .nil))
    rcases JO r hx hes with ⟨_,rfl,rfl⟩ | ⟨ib,c,es',clock,ro,rfl,rfl,hm,hg,hc,he⟩
    ·obtain ⟨q,h1,h2⟩:=Dj hk hkd w .nil hf;simp only [Found] at h2;subst h2;refine ⟨_,?_,hvr⟩;simp only [Instr.lookup,Sem.run_bind,run_underlying (Ck hmt),Result.andThen_ok,Sem.run_pure]
     have:(#[]:Array MapEntry).isEmpty=true:=rfl
     simp only [List.isEmpty_nil] at hck;simp only [this,hck,Result.andThen_ok,h1,Sem.run_bind,Bl hz,Sem.run_pure]
    ·obtain ⟨q,h1,h2⟩:=Dj hk hkd w he hf;simp only [Found] at h2;subst h2;rw [← isEmpty_eq he] at hck;refine ⟨_,?_,hvr⟩;simp only [Instr.lookup,Sem.run_bind,run_underlying (Ck hmt),Result.andThen_ok,Be P w c _ hc (by simp)]
     have:(⟨es'⟩:Array MapEntry).isEmpty=es'.isEmpty:=by simp
     simp only [Sem.run_pure,Result.andThen_ok,Sem.run_bind,this,hck,h1,Bl hz]
   ·cases h
theorem Rel.map{m:Inj P}{A:AW}{w:World}(r:Rel m A w){i:Nat}{es:List MapEntry}{clock:Nat}{ro:Bool}{x':Value}(hg:A.get i=some (.map es clock ro))(hx:AI m (.map (some i)) x'):
  ∃ c es',x'=.map (some c)∧m i=some (c,0)∧w.heap[c]? =some (.map ⟨es'⟩ clock)∧BK (EU m) es es':=by
 cases hx with
 |map hm=>
  rename_i c;obtain ⟨c0,d0,o',h1,h2,hd,es',rfl,h4⟩:=r.EE hg hm;rw [hm] at h1;simp only [Oi,Pj] at h1;obtain ⟨rfl,rfl⟩:=h1;exact ⟨c,es',rfl,hm,h2,h4⟩
theorem BK.DE{m:Inj P}:∀ {es es':List MapEntry} (i:Nat) {k v k' v':Value} (f:MapEntry→MapEntry),BK (EU m) es es'→AI m k k'→AI m v v'→
  (∀ e,es'[i]? =some e→f e={ e with key:=k',val:=v' })→BK (EU m) (DE es i k v) (es'.modify i f)
 |_,_,_,_,_,_,_,_,.nil,_,_,_=>by simp [Abs.DE];exact .nil
 |_,_,0,_,_,_,_,f,.cons r t,hk,hv,hf=>by
  simp only [Abs.DE,List.modify_zero_cons];rw [hf _ (by simp)];exact .cons ⟨hk,hv,r.born⟩ t
 |_,_,i+1,_,_,_,_,f,.cons r t,hk,hv,hf=>by
  simp only [Abs.DE,List.modify_succ_cons];exact .cons r (BK.DE i f t hk hv fun e he=>hf e (by simpa using he))
theorem Je(l:List MapEntry)(i:Nat)(f:MapEntry→MapEntry):(⟨l⟩:Array MapEntry).modify i f=⟨l.modify i f⟩:=by
 apply Array.ext'
 simp
theorem Hz {m:Inj P} (r:Rel m A w) {v':Value} (hx:AI m x x') (hk:AI m k k') (hv:AI m v v')
  (h:BV P A t x k v=some A'):∃ w',(Instr.mapUpdate t x' k' v').run P w=.ok () w'∧Ev m A w m A' w':=by
 unfold BV at h;split at h
 rotate_left
 ·cases h
 rename_i kt et i hmt;cases hq:H3 P false kt k with
 |false=>rw [hq] at h;cases h
 |true=>
  rw [hq,Ct] at h;obtain ⟨hkc,rfl,hck⟩:=FQ (P:=P) hk hq w;obtain ⟨kd,hkd⟩:=Ho hq;split at h
  rotate_left
  ·cases h
  rename_i es clock hg;obtain ⟨c,es',rfl,hm,hc,he⟩:=r.map hg hx;split at h
  ·cases h
  ·rename_i j hf;split at h
   ·rename_i e hej;cases hsb:(AG 4 e.key&&Instr.sameBits 10000 e.key k') with
    |false=>rw [hsb] at h;cases h
    |true=>
     rw [hsb,Ct] at h;simp only [Oi] at h;subst h;simp only [Bq] at hsb;obtain ⟨q,h1,e1,e1',_,h3,h4,h5,h6⟩:=Dj hk hkd w he hf;simp only [Nat.sub_zero] at h3 h4;rw [hej] at h3;simp only [Oi] at h3;subst h3;subst h5;have hkey:e1'.key=e.key:=D7 4 _ _ hsb.1 h6.key;have hkeep:((((⟨es'⟩:Array MapEntry)[j]?).map (·.key)).getD k')=e.key:=by
      simp [h4,hkey]
     refine ⟨{ w with heap:=w.heap.setIfInBounds c (.map ⟨es'.modify j fun e=>{ e with key:=k',val:=v' }⟩ clock) },?_,?_⟩
     ·simp only [Instr.mapUpdate,Sem.run_bind,run_underlying (Ck hmt),Result.andThen_ok,Be P w c _ hc (by simp),hck,h1];simp only [hkeep,Instr.keyThatStays,hsb.2,if_true,Sem.run_pure,Result.andThen_ok,Je];exact BM P w c _ _ hc (by simp)
     ·exact Ev.Ek r hg rfl rfl hm hc ⟨rfl,_,rfl,BK.DE j _ he hk hv (fun _ _=>rfl)⟩ rfl rfl
   ·cases h
  ·rename_i hf;simp only [Oi] at h;subst h;obtain ⟨q,h1,h2⟩:=Dj hk hkd w he hf;simp only [Found] at h2;subst h2;refine ⟨{ w with heap:=w.heap.setIfInBounds c (.map ⟨es'++[{ key:=k',val:=v',born:=clock }]⟩ (clock+1)) },?_,?_⟩
   ·simp only [Instr.mapUpdate,Sem.run_bind,run_underlying (Ck hmt),Result.andThen_ok,Be P w c _ hc (by simp),hck,h1];rw [show (⟨es'⟩:Array MapEntry).push { key:=k',val:=v',born:=clock }=⟨es'++[{ key:=k',val:=v',born:=clock }]⟩ from by simp];exact BM P w c _ _ hc (by simp)
   ·exact Ev.Ek r hg rfl rfl hm hc ⟨rfl,_,rfl,he.append (.cons ⟨hk,hv,rfl⟩ .nil)⟩ rfl rfl
theorem AI.HJ{m:Inj P}{a b a' b':Value}(ha:AI m a a')(hb:AI m b b'):AI m (.tuple #[a,b]) (.tuple #[a',b']):=.tuple (.cons ha (.cons hb .nil))
theorem ME {m:Inj P} (r:Rel m A w) (hx:AI m x x') (hk:AI m k k')
  (h:Iy P A t x k=some (v,A')):∃ v' w',(Instr.mapEntry t x' k').run P w=.ok v' w'∧Ev m A w m A' w'∧AI m v v':=by
 unfold Iy at h;split at h
 rotate_left
 ·cases h
 rename_i kt et i hmt;cases hq:H3 P false kt k with
 |false=>rw [hq] at h;cases h
 |true=>
  rw [hq,Ct] at h;obtain ⟨hkc,rfl,hck⟩:=FQ (P:=P) hk hq w;obtain ⟨kd,hkd⟩:=Ho hq;split at h
  rotate_left
  ·cases h
  rename_i es clock hg;obtain ⟨c,es',rfl,hm,hc,he⟩:=r.map hg hx;split at h
  ·cases h
  ·rename_i j hf;split at h
   ·rename_i e hej;cases hsb:(AG 4 e.key&&Instr.sameBits 10000 e.key k') with
    |false=>rw [hsb] at h;cases h
    |true=>
     rw [hsb,Ct] at h;simp only [Oi,Pj] at h;obtain ⟨rfl,rfl⟩:=h;simp only [Bq] at hsb;obtain ⟨q,h1,e1,e1',_,h3,h4,h5,h6⟩:=Dj hk hkd w he hf;simp only [Nat.sub_zero] at h3 h4;rw [hej] at h3;simp only [Oi] at h3;subst h3;subst h5;have hkey:e1'.key=e.key:=D7 4 _ _ hsb.1 h6.key;have hkeep:((((⟨es'⟩:Array MapEntry)[j]?).map (·.key)).getD k')=e.key:=by
      simp [h4,hkey]
     have hborn:((((⟨es'⟩:Array MapEntry)[j]?).map (fun x=>(x.born:Int))).getD 0)=(e.born:Int):=by
      simp [h4,h6.born]
     refine ⟨.tuple #[e1'.val,.int .i64 e.born],{ w with heap:=w.heap.setIfInBounds c (.map ⟨es'.modify j fun e=>{ e with key:=k' }⟩ clock) },?_,?_,.HJ h6.val (.int _ _)⟩
     ·simp only [Instr.mapEntry,Sem.run_bind,run_underlying (Ck hmt),Result.andThen_ok,Be P w c _ hc (by simp),hck,h1];simp only [hkeep,hborn,Instr.keyThatStays,hsb.2,if_true,Sem.run_pure,Result.andThen_ok,Je];rw [BM P w c _ _ hc (by simp)];rfl
     ·refine Ev.Ek r hg rfl rfl hm hc ⟨rfl,_,rfl,BK.DE j _ he hk h6.val (fun x hx=>?_)⟩ rfl rfl;rw [h4] at hx;simp only [Oi] at hx;subst hx;rfl
   ·cases h
  ·rename_i hf;split at h
   ·rename_i z hz;simp only [Oi,Pj] at h;obtain ⟨rfl,rfl⟩:=h;obtain ⟨q,h1,h2⟩:=Dj hk hkd w he hf;simp only [Found] at h2;subst h2;have hzr:=BP (m:=m) 4 z (Cr hz).2;refine ⟨.tuple #[z,.int .i64 clock],{ w with heap:=w.heap.setIfInBounds c (.map ⟨es'++[{ key:=k',val:=z,born:=clock }]⟩ (clock+1)) },?_,?_,.HJ hzr (.int _ _)⟩
    ·simp only [Instr.mapEntry,Sem.run_bind,run_underlying (Ck hmt),Result.andThen_ok,Be P w c _ hc (by simp),hck,h1,Bl hz];rw [show (⟨es'⟩:Array MapEntry).push { key:=k',val:=z,born:=clock }=⟨es'++[{ key:=k',val:=z,born:=clock }]⟩ from by simp];rw [BM P w c _ _ hc (by simp)];rfl
    ·exact Ev.Ek r hg rfl rfl hm hc ⟨rfl,_,rfl,he.append (.cons ⟨hk,hzr,rfl⟩ .nil)⟩ rfl rfl
   ·cases h
theorem FU{m:Inj P}{n:Nat}:∀ {es es':List MapEntry} {i j:Nat},BK (EU m) es es'→DK n es i=some j→i≤j∧es'.findIdx? (fun e=>(e.born:Int)==(n:Int))=some (j-i)∧(∃ e,es[j-i]? =some e∧e.born=n)
 |_,_,i,j,.nil,h=>by simp [DK] at h
 |_,_,i,j,.cons (a:=e) (b:=e') he ht,h=>by
  simp only [DK] at h;cases hb:Nat.beq e.born n with
  |true=>
   rw [hb,Ct] at h;simp only [Oi] at h;subst h;have hb:=beq_true.1 hb;refine ⟨Nl _,?_,e,by simp,hb⟩;rw [List.findIdx?_cons];simp [he.born,hb]
  |false=>
   rw [hb,Cf] at h;have hb:=beq_false.1 hb;obtain ⟨h1,h2,e0,h3,h4⟩:=FU ht h;refine ⟨by omega,?_,e0,?_,h4⟩
   ·rw [List.findIdx?_cons];have hne:((e'.born:Int)==(n:Int))=false:=by
     rw [he.born]
     simp;omega
    rw [Ff (by simp [hne]),h2]
    simp;omega
   ·rw [show j-i=(j-(i+1))+1 by omega];simpa using h3
end
variable {A A':AW} {w:World} {t ty:TypeId} {x x':Value}
section
variable {P:Program}
theorem Ma:∀ (es:List MapEntry) (i:Nat) (v:Value) (e:MapEntry),es[i]? =some e→DE es i e.key v=es.modify i fun e=>{ e with val:=v }
 |[],i,v,e,h=>by simp at h
 |x::r,0,v,e,h=>by simp at h;subst h;simp [DE]
 |x::r,i+1,v,e,h=>by simp only [DE,List.modify_succ_cons];rw [Ma r i v e (by simpa using h)]
theorem BK.N2{m:Inj P}:∀ {es es':List MapEntry} (i:Nat) {v v':Value},BK (EU m) es es'→AI m v v'→
  BK (EU m) (es.modify i fun e=>{ e with val:=v }) (es'.modify i fun e=>{ e with val:=v' })
 |_,_,_,_,_,.nil,_=>by simp;exact .nil
 |_,_,0,_,_,.cons r t,hv=>by simp only [List.modify_zero_cons];exact .cons ⟨r.key,hv,r.born⟩ t
 |_,_,i+1,_,_,.cons r t,hv=>by simp only [List.modify_succ_cons];exact .cons r (BK.N2 i t hv)
theorem KD {m:Inj P} (r:Rel m A w) {s s' v v':Value} (hx:AI m x x') (hs:AI m s s') (hv:AI m v v')
  (h:Gt A x s v=some A'):∃ w',(Instr.entryStore t x' s' v').run P w=.ok () w'∧Ev m A w m A' w':=by
 unfold Gt at h;split at h
 rotate_left
 ·cases h
 rename_i i k n;cases hs;split at h
 rotate_left
 ·cases h
 rename_i es clock hg;obtain ⟨c,es',rfl,hm,hc,he⟩:=r.map hg hx;split at h
 rotate_left
 ·cases h
 rename_i j hj;obtain ⟨_,h2,e0,h3,h4⟩:=FU he hj;simp only [Nat.sub_zero] at h2 h3;split at h
 rotate_left
 ·cases h
 rename_i e hej;rw [h3] at hej;simp only [Oi] at hej;subst hej;simp only [Oi] at h;subst h;refine ⟨{ w with heap:=w.heap.setIfInBounds c (.map ⟨es'.modify j fun e=>{ e with val:=v' }⟩ clock) },?_,?_⟩
 ·simp only [Instr.entryStore,Sem.run_bind,Be P w c _ hc (by simp),Result.andThen_ok,asInt,asIntOf,Sem.run_pure];rw [show (⟨es'⟩:Array MapEntry).findIdx? (fun e=>(e.born:Int)==Int.ofNat n)=some j from by simpa using h2];simp only [Je];exact BM P w c _ _ hc (by simp)
 ·rw [Ma es j v e0 h3];exact Ev.Ek r hg rfl rfl hm hc ⟨rfl,_,rfl,he.N2 j hv⟩ rfl rfl
theorem BK.eraseIdx{m:Inj P}:∀ {es es':List MapEntry} (i:Nat),BK (EU m) es es'→BK (EU m) (es.eraseIdx i) (es'.eraseIdx i)
 |_,_,_,.nil=>by simp;exact .nil
 |_,_,0,.cons _ t=>by simpa using t
 |_,_,i+1,.cons r t=>by simpa using .cons r (BK.eraseIdx i t)
theorem O3 {m:Inj P} (r:Rel m A w) {t2:TypeId} {k k':Value} (hx:AI m x x') (hk:AI m k k')
  (h:Fw P A t x k=some A'):∃ w',(Builtin.delete_ #[t,t2] ty #[x',k']).run P w=.ok (.tuple #[]) w'∧Ev m A w m A' w':=by
 unfold Fw at h;split at h
 rotate_left
 ·cases h
 rename_i kt et hmt;split at h
 ·cases hx;cases hq:H3 P true kt k with
  |false=>rw [hq] at h;cases h
  |true=>
   rw [hq,Ct] at h;simp only [Oi] at h;subst h;obtain ⟨_,rfl,hck⟩:=FQ (P:=P) hk hq w;refine ⟨w,?_,.refl r⟩;simp [Builtin.delete_,run_underlying (Ck hmt),hck]
 ·rename_i i;split at h
  rotate_left
  ·cases h
  rename_i es clock hg;obtain ⟨c,es',rfl,hm,hc,he⟩:=r.map hg hx;cases hq:H3 P es.isEmpty kt k with
  |false=>rw [hq] at h;cases h
  |true=>
   rw [hq,Ct] at h;obtain ⟨_,rfl,hck⟩:=FQ (P:=P) hk hq w;obtain ⟨kd,hkd⟩:=Ho hq;rw [← isEmpty_eq he] at hck;split at h
   ·cases h
   ·rename_i j hf;simp only [Oi] at h;subst h;obtain ⟨q,h1,e1,e1',_,h3,h4,h5,h6⟩:=Dj hk hkd w he hf;subst h5;refine ⟨{ w with heap:=w.heap.setIfInBounds c (.map ⟨es'.eraseIdx j⟩ clock) },?_,Ev.Ek r hg rfl rfl hm hc ⟨rfl,_,rfl,he.eraseIdx j⟩ rfl rfl⟩;have hsize:j<es'.length:=by
     have:=(Gs.1 h4).1
     simpa using this
    have herase:(⟨es'⟩:Array MapEntry).eraseIdxIfInBounds j=⟨es'.eraseIdx j⟩:=by
     apply Array.ext';simp [Array.eraseIdxIfInBounds,hsize]
    simp [Builtin.delete_,run_underlying (Ck hmt),Be P w c _ hc,hck,h1,BM P w c _ _ hc]
   ·rename_i hf;simp only [Oi] at h;subst h;obtain ⟨q,h1,h2⟩:=Dj hk hkd w he hf;simp only [Found] at h2;subst h2;refine ⟨{ w with heap:=w.heap.setIfInBounds c (.map ⟨es'⟩ clock) },?_,Ev.Ek r hg rfl rfl hm hc ⟨rfl,_,rfl,he⟩ rfl rfl⟩;simp [Builtin.delete_,run_underlying (Ck hmt),Be P w c _ hc,hck,h1,BM P w c _ _ hc]
 ·cases h
theorem TC{m:Inj P}(r:Rel m A w)(hx:AI m x x'):Gg P m w (Br P A t x) (Builtin.len_ #[t] ty #[x']):=by
 intro v h;unfold Br at h;split at h
 ·rename_i s hu;cases hx;simp only [Oi] at h;subst h;rw [← Lib.size_eq];exact ⟨_,by simp [Builtin.len_,run_underlying hu,goInt],.int _ _⟩
 ·rename_i n e hu;simp only [Oi] at h;subst h;refine ⟨_,?_,.int _ _⟩;cases hx<;>simp [Builtin.len_,run_underlying hu,goInt]
 ·rename_i e a n c hu;simp only [Oi] at h;subst h;cases hx with
  |sliceNil=>exact ⟨_,by simp [Builtin.len_,run_underlying hu,goInt],.int _ _⟩
  |slice hc hn ha=>exact ⟨_,by simp [Builtin.len_,run_underlying hu,goInt],.int _ _⟩
 ·rename_i k e hu;cases hx;simp only [Oi] at h;subst h;exact ⟨_,by simp [Builtin.len_,run_underlying hu,goInt],.int _ _⟩
 ·rename_i k e i hu;split at h
  ·rename_i es clock ro hg;simp only [Oi] at h;subst h;obtain ⟨c,es',rfl,hm,hc,he⟩:=r.map hg hx;refine ⟨_,?_,.int _ _⟩;simp [Builtin.len_,run_underlying hu,goInt,Be P w c _ hc,he.length]
  ·cases h
 ·cases h
theorem QD {m:Inj P} (r:Rel m A w) (hx:AI m x x')
  (h:O6 P A t x=some A'):∃ w',(Builtin.clear_ #[t] ty #[x']).run P w=.ok (.tuple #[]) w'∧Ev m A w m A' w':=by
 unfold O6 at h;split at h
 ·rename_i d hu;cases hx;simp only [Oi] at h;subst h;exact ⟨w,by simp [Builtin.clear_,run_underlying hu],.refl r⟩
 ·rename_i d n c hu;cases hx;simp only [Oi] at h;subst h;exact ⟨w,by simp [Builtin.clear_,run_underlying hu],.refl r⟩
 ·rename_i d a c hu;simp only [Oi] at h;subst h;cases hx<;>exact ⟨w,by simp [Builtin.clear_,run_underlying hu],.refl r⟩
 ·rename_i kt et i hu;split at h
  ·rename_i es clock hg;obtain ⟨c,es',rfl,hm,hc,he⟩:=r.map hg hx;simp only [Oi] at h;subst h;exact ⟨{ w with heap:=w.heap.setIfInBounds c (.map #[] clock) },by simp [Builtin.clear_,run_underlying hu,Be P w c _ hc,BM P w c _ _ hc],Ev.Ek r hg rfl rfl hm hc ⟨rfl,[],rfl,.nil⟩ rfl rfl⟩
  ·cases h
 ·rename_i e a n c hne hu;split at h
  ·rename_i z hz;have hzr:=AJ.Jp (AJ.closed (m:=m) (Cr hz).2) n;cases hx with
   |slice hcc hn ha=>
    rename_i a' c';have hn0:n≠0:=fun e=>hne e;obtain ⟨w',h1,h2,_⟩:=Ev.setCells (i:=0) r hzr (fun _=>by simpa [Addr.add] using ha (by omega)) h;refine ⟨w',?_,h2⟩;have hzc:(Builtin.zeroCells z.cells n).toList=DC z.cells.toList n:=by
     rw [Builtin.zeroCells,Ej]
    cases n with
    |zero=>exact absurd rfl hn0
    |succ n=>simp [Builtin.clear_,run_underlying hu,Bl hz,hzc,h1]
  ·cases h
 ·cases h
end
variable {m bytes need n c:Nat} {w:World} {t t2 ty e:TypeId} {x:Value} {new:List Value}
section
variable {P:Program}
structure Src (P:Program) (e:TypeId) (d2:TypeDesc) (i:TypeInfo) (x:Value) (m:Nat) (new:List Value) (w:World):Prop where
 Jp:∀ k,d2=.int k→∃ k',x=.int k' (m:Int)∧m<68719476736∧((m*i.size=0∧new=[])∨(m*i.size≠0∧∃ z:Value,(∀ w,(zeroValue e).run P w=.ok z w)∧Builtin.zeroCells z.cells m=⟨new⟩))
 cells:(∀ k,d2≠ .int k)→(Builtin.lenOf x).run P w=.ok m w∧(Builtin.firstCells i.size m x).run P w=.ok ⟨new⟩ w
theorem QG(h:need*bytes<68719476736)(hm:m≤need):¬ (281474976710656<(m:Int)*(bytes:Int)):=by
 have h1:m*bytes≤need*bytes:=Nat.mul_le_mul_right _ hm
 have:(m:Int)*(bytes:Int)=((m*bytes:Nat):Int):=by simp
 rw [this];omega
theorem GC {w':World} {d2:TypeDesc} {i:TypeInfo} {a:Addr} (hu:P.underlying t=some (.slice e)) (h2:P.underlying t2=some d2)
  (hi:P.info? e=some i) (hsrc:Src P e d2 i x m new w) (h:n+m≤c) (hb:(n+m)*i.bytes<68719476736) (hst:(storeCells (a.add (n*i.size)) new).run P w=.ok () w'):
  (Builtin.append_ #[t,t2] ty #[.slice (some a) n c,x]).run P w=.ok (.slice (some a) (n+m) c) w':=by
 by_cases hk:∃ k,d2=.int k
 ·obtain ⟨k,rfl⟩:=hk;obtain ⟨k',rfl,hm,hz⟩:=hsrc.Jp k rfl;have hw:IntKind.i64.wrap (m:Int)=m:=HG (by omega);have h0:¬ ((m:Int)<0):=by omega
  have hbn:=QG (m:=m) hb (by omega);rcases hz with ⟨h3,rfl⟩ | ⟨h3,z,hz,hzc⟩
  ·simp [Builtin.append_,run_underlying hu,run_underlying h2,sizeOf,Bz hi,asInt,asIntOf,hw,h0,hbn,h,h3,hst]
  ·simp [Builtin.append_,run_underlying hu,run_underlying h2,sizeOf,Bz hi,asInt,asIntOf,hw,h0,hbn,h,h3,hz,hzc,hst]
 ·have hk':∀ k,d2≠ .int k:=fun k e=>hk ⟨k,e⟩;obtain ⟨hl,hc⟩:=hsrc.cells hk';cases d2<;>first
   |(exact absurd rfl (hk' _))
   |simp [Builtin.append_,run_underlying hu,run_underlying h2,sizeOf,Bz hi,hl,hc,h,hst]
theorem Oa(newLen:Nat):∀ (r c:Nat),c<newLen→Builtin.growBy newLen r c≤newLen+(newLen+768)/4+768
 |0,c,h=>by simp only [Builtin.growBy];omega
 |r+1,c,h=>by
  simp only [Builtin.growBy];rw [Ff (by omega)];by_cases h':c+(c+768)/4<newLen
  ·exact Oa newLen r _ h'
  ·cases r with
   |zero=>simp only [Builtin.growBy];omega
   |succ r=>simp only [Builtin.growBy];rw [if_pos (by omega)];omega
theorem nextslicecap_le(h:c<need):Builtin.nextslicecap need c≤2*need+2000:=by
 unfold Builtin.nextslicecap;split
 ·omega
 ·split
  ·omega
  ·have:=Oa need 4 c h
   omega
theorem Jd(h:c<need)(hb:need*bytes<68719476736):¬ (281474976710656<Builtin.nextslicecap need c*bytes):=by
 have h1:=nextslicecap_le h;have h2:Builtin.nextslicecap need c*bytes≤(2*need+2000)*bytes:=Nat.mul_le_mul_right _ h1;have h3:(2*need+2000)*bytes=2*(need*bytes)+2000*bytes:=by rw [Nat.add_mul,Nat.mul_assoc]
 have h4:bytes≤need*bytes:=Nat.le_mul_of_pos_left _ (by omega)
 have:2000*bytes≤2000*(need*bytes):=Nat.mul_le_mul_left _ h4
 omega
theorem GK(need old:Nat)(e:TypeId)(t:Nat):need≤(Question.appendCap need old e).cut t:=by
 simp [Question.cut]
theorem Afx(old new:List Value)(X:Array Value):(⟨old⟩:Array Value)++((⟨new⟩:Array Value)++X)=(old++new).toArray++X:=by
 apply Array.ext'
 simp
theorem Qj(w:World)(old new:List Value)(X:Array Value)(e:TypeId):w.drew.alloc (.cells ((⟨old⟩:Array Value)++((⟨new⟩:Array Value)++X)) e)=
  { heap:=w.heap.push (.cells ((old++new).toArray++X) e),tape:=w.tape,drawn:=w.drawn+1,os:=w.os,output:=w.output }:=by
 rw [Afx];rfl
theorem run_append_grow {d2:TypeDesc} {i:TypeInfo} {base:Option Addr} {z:Value} {old:List Value} (hu:P.underlying t=some (.slice e)) (h2:P.underlying t2=some d2)
  (hi:P.info? e=some i) (hsrc:∀ w1:World,w1.heap=w.heap→Src P e d2 i x m new w1) (h:c<n+m) (hb:(n+m)*i.bytes<68719476736) (hnm:n+m<68719476736) (hz:C2 P e=some z)
  (hold:∀ w1:World,w1.heap=w.heap→(Builtin.firstCells i.size n (.slice base n c)).run P w1=.ok ⟨old⟩ w1):
  ∃ (newCap:Nat) (rest:Array Value),n+m≤newCap∧rest.size=(newCap-(n+m))*z.cells.size∧
   (Builtin.append_ #[t,t2] ty #[.slice base n c,x]).run P w=.ok (.slice (some ⟨w.heap.size,0,none⟩) (n+m) newCap) { w with drawn:=w.drawn+1,heap:=w.heap.push (.cells (⟨old⟩++⟨new⟩++rest) e) }:=by
 have hle:¬ (n+m≤c):=by omega
 have hcap:=Jd h hb;have hmax':¬ (9223372036854775807<(n:Int)+(m:Int)):=by omega
 refine ⟨(Question.appendCap (n+m) c e).cut (w.tape w.drawn (.appendCap (n+m) c e)),Builtin.zeroCells z.cells ((Question.appendCap (n+m) c e).cut (w.tape w.drawn (.appendCap (n+m) c e))-(n+m)),GK _ _ _ _,by rw [Builtin.zeroCells,Ej];simp [EV],?_⟩;have hf:(Question.appendCap (n+m) c e).forced=false:=rfl;have ho:=hold w.drew rfl;have hs1:=hsrc w.drew rfl;by_cases hk:∃ k,d2=.int k
 ·obtain ⟨k,rfl⟩:=hk;obtain ⟨k',rfl,hm,hz'⟩:=hs1.Jp k rfl;have hw:IntKind.i64.wrap (m:Int)=m:=HG (by omega);have h0:¬ ((m:Int)<0):=by omega
  have hbn:=QG (m:=m) hb (by omega);rcases hz' with ⟨h3,rfl⟩ | ⟨h3,z',hz',hzc⟩
  ·simp [Builtin.append_,run_underlying hu,run_underlying h2,sizeOf,Bz hi,asInt,asIntOf,hw,h0,hbn,hle,h3,hcap,hmax',hf,ho,Bl hz,Ci];rfl
  ·simp [Builtin.append_,run_underlying hu,run_underlying h2,sizeOf,Bz hi,asInt,asIntOf,hw,h0,hbn,hle,h3,hz',hzc,hcap,hmax',hf,ho,Ci];have hzz:=hz' w;rw [Bl hz] at hzz;injection hzz with hzz
   subst hzz;exact Qj _ _ _ _ _
 ·have hk':∀ k,d2≠ .int k:=fun k e=>hk ⟨k,e⟩;obtain ⟨hl,hc⟩:=hs1.cells hk';obtain ⟨hl0,_⟩:=(hsrc w rfl).cells hk';cases d2<;>first
   |(exact absurd rfl (hk' _))
   |(simp [Builtin.append_,run_underlying hu,run_underlying h2,sizeOf,Bz hi,hl0,hc,hle,hcap,hmax',hf,ho,Bl hz,Ci];exact Qj _ _ _ _ _)
end
section
variable {P:Program}
theorem HN(c:Nat)(e:TypeId)(fr:Nat × Nat)(a:Addr)(hac:a.block=c)(has:a.spot=none):∀ (l:List Value) (i:Nat) (cs:Array Value) (w:World),w.heap[c]? =some (.cells cs e fr)→a.off+i+l.length≤cs.size→
  (∀ k,k<l.length→¬ (fr.1≤a.off+i+k∧a.off+i+k<fr.2))→(∀ v∈l,AP v=true)→
  ∃ w' cs2,(storeCells a l i).run P w=.ok () w'∧w'.heap[c]? =some (.cells cs2 e fr)∧cs2.size=cs.size∧(∀ j,(j<a.off+i∨a.off+i+l.length≤j)→cs2[j]? =cs[j]?)∧
   (∀ j,j<l.length→cs2[a.off+i+j]? =l[j]?)∧(∀ b,b≠c→w'.heap[b]? =w.heap[b]?)∧w'.heap.size=w.heap.size∧w'.os=w.os∧w'.tape=w.tape∧w'.output=w.output∧w'.drawn=w.drawn
 |[],i,cs,w,hw,_,_,_=>⟨w,cs,rfl,hw,rfl,fun _ _=>rfl,fun j hj=>by simp at hj,fun _ _=>rfl,rfl,rfl,rfl,rfl,rfl⟩
 |v::l,i,cs,w,hw,hlen,hfr,h1=>by
  have hsp:(a.add i).spot=none:=Addr.J7 a i has;have hbl:(a.add i).block=c:=by rw [Addr.G3,hac]
  have hof:(a.add i).off=a.off+i:=Addr.Hv a i;simp only [Lc] at hlen hfr;have hlt:a.off+i<cs.size:=by omega
  have hcell:(w.cell? (a.add i)).isSome=true:=by simp [World.cell?,hbl,hw,hsp,hof,hlt]
  have hfz:w.frozen? (a.add i)=false:=by
   simp only [World.frozen?,hbl,hw,hof]
   have:=hfr 0 (by omega)
   cases hx:(decide (fr.1≤a.off+i)&&decide (a.off+i<fr.2)) with
   |false=>rfl
   |true=>simp at hx;exact (this (by simpa using hx)).elim
  have hst:=JC P w (a.add i) v (h1 v (by simp)) hcell hfz;have hself:(w.setCell (a.add i) v).heap[c]? =some (.cells (cs.setIfInBounds (a.off+i) v) e fr):=by
   have:=Gb w (a.add i) v cs e fr (by rw [hbl];exact hw) hsp
   rw [hbl,hof] at this;exact this
  obtain ⟨w',cs2,g1,g2,g3,g4,g5,g6,g7,g8,g9,g10,g11⟩:=HN c e fr a hac has l (i+1) (cs.setIfInBounds (a.off+i) v) (w.setCell (a.add i) v) hself (by simp;omega)
   (fun k hk=>by have:=hfr (k+1) (by omega);rw [show a.off+(i+1)+k=a.off+i+(k+1) by omega];exact this) (fun u hu=>h1 u (by simp [hu]))
  refine ⟨w',cs2,?_,g2,by simpa using g3,?_,?_,?_,by rw [g7];simp [World.setCell],g8,g9,g10,g11⟩
  ·simp only [storeCells,Sem.run_bind,hst,Result.andThen_ok];exact g1
  ·intro j hj;simp only [Lc] at hj;rw [g4 j (by omega),Array.getElem?_setIfInBounds_ne (by omega)]
  ·intro j hj;simp only [Lc] at hj;cases j with
   |zero=>
    rw [g4 _ (by omega)];simp [hlt]
   |succ j=>
    have:=g5 j (by omega)
    rw [show a.off+i+(j+1)=a.off+(i+1)+j by omega,this]
    simp
  ·intro b hb;rw [g6 b hb,heap_setCell_other _ _ _ _ (by rw [hbl];exact hb)]
theorem RC{A A':AW}{cs:List Value}{e fam base:Nat}{a:Addr}(h:A.HY cs e fam base=some (a,A'))(hf:fam<Ak):
  a=⟨A.next,0,none⟩∧A.next<Ak∧A'.next=A.next+1∧(∀ j,A'.get j=if j=A.next then some (.row cs e fam base false) else A.get j)∧
   (∀ f,A'.fams.get? f=if f=fam then some (A.next::A.members fam) else A.fams.get? f):=by
 unfold AW.HY AW.new at h;cases hlt:Nat.blt A.next Ak with
 |false=>simp [hlt] at h
 |true=>
  simp only [hlt,Ct,Oi,Pj] at h;obtain ⟨rfl,rfl⟩:=h;have hmax:=Ax.1 hlt;refine ⟨rfl,hmax,rfl,fun j=>A.Cp A.next j _ hmax,fun f=>?_⟩;exact Trie.get?_put depth _ fam f _ (by unfold depth;unfold Ak at hf;omega)
theorem Ev.HY {m:Inj P} {A A1 A':AW} {w w':World} (r:Rel m A w) {cells:List Value} {e fam b0 coord:Nat} {a:Addr} {ib:Nat} {csb:List Value}
  (hb:A.get ib=some (.row csb e fam b0 false)) {c d:Nat} (hm:m ib=some (c,d))
  (hA1:A1=BL coord (A.members fam) A) {off:Nat} (h:A1.HY cells e fam (b0+off)=some (a,A'))
  {cn dn R st:Nat} (hR:R≠0→szT P e=some st)
  (hos:w'.os=w.os) (htape:w'.tape=w.tape) (hout:w'.output=w.output) (hdr:w.drawn≤w'.drawn) (hsz:w.heap.size≤w'.heap.size)
  (hkeep:∀ b,b<w.heap.size→b≠c→w'.heap[b]? =w.heap[b]?)
  (hnew:∃ cs' fr,w'.heap[cn]? =some (.cells cs' e fr)∧Gf m dn cells false cs' fr∧dn+R≤cs'.size∧(∀ k,k<R→¬ (fr.1≤dn+k∧dn+k<fr.2)))
  (hcase:(cn=c∧dn=d+off∧∃ cs1 cs2 e1 fr,w.heap[c]? =some (.cells cs1 e1 fr)∧w'.heap[c]? =some (.cells cs2 e1 fr)∧cs2.size=cs1.size∧∀ j,j+b0<coord+d→cs2[j]? =cs1[j]?)∨
   (cn=w.heap.size∧∀ b,b<w.heap.size→w'.heap[b]? =w.heap[b]?)):
  Ev m A w (m.ext A.next (cn,dn) R e st hR) A' w'∧a=⟨A.next,0,none⟩:=by
 obtain ⟨_,hfam⟩:=r.mem ib _ fam b0 hb rfl;have hfmax:fam<Ak:=Nat.lt_of_lt_of_le hfam r.lim;obtain ⟨hp1,hp2,hp3⟩:=MQ coord (A.members fam) A (fun i o hi=>r.N5 hi);rw [← hA1] at hp1 hp2 hp3;obtain ⟨rfl,hn1,hn2,hn3,hn4⟩:=RC h hfmax;rw [hp1] at hn1 hn2 hn3 hn4;have hmn:=(r.fresh A.next (Nl _)).2.1;have hle:m.le (m.ext A.next (cn,dn) R e st hR):=Inj.RK hmn;have hmem1:A1.members fam=A.members fam:=GF hp2 fam;have hlt:∀ {i:Nat} {o:AO},A.get i=some o→i≠A.next:=fun {i o} hi e=>by have:=r.lt hi;omega
 have hwas:∀ i o,i≠A.next→A'.get i=some o→∃ o0,A.get i=some o0∧o.ro=o0.ro∧o.fam=o0.fam∧(o=o0∨(i∈A.members fam∧o=N0 coord o0))∧(∀ csx ex fx bx rox,o=.row csx ex fx bx rox→∃ csy,o0=.row csy ex fx bx rox):=by
  intro i o hne hi;rw [hn3,Ff hne,hp3] at hi;split at hi
  ·rename_i hmemi;cases h0:A.get i with
   |none=>rw [h0] at hi;cases hi
   |some o0=>
    rw [h0] at hi;simp only [Option.map_some,Oi] at hi;subst hi;refine ⟨o0,rfl,by cases o0<;>rfl,by cases o0<;>rfl,.inr ⟨hmemi,rfl⟩,?_⟩;intro csx ex fx bx rox he;cases o0<;>simp [N0] at he;obtain ⟨_,rfl,rfl,rfl,rfl⟩:=he;exact ⟨_,rfl⟩
  ·exact ⟨o,hi,rfl,rfl,.inl rfl,fun csx ex fx bx rox he=>⟨csx,he⟩⟩
 have hblk:=fun {i c0 d0:Nat} {o:AO} (hi:A.get i=some o) (hmi:m i=some (c0,d0))=>r.Ez hi hmi;have hpoisRow:∀ {dd:Nat} {csx:List Value} {bx:Nat} {rox:Bool} {cs1:Array Value} {fr:Nat × Nat},Gf m dd csx rox cs1 fr→Gf m dd (BN csx (coord-bx)) rox cs1 fr:=by
  intro dd csx bx rox cs1 fr hr k x hk;obtain ⟨u,hu,hx⟩:=Hx hk;obtain ⟨v',g1,g2,g3⟩:=hr k u hu;refine ⟨v',g1,fun t=>?_,g3⟩;rcases hx with ⟨_,rfl⟩ | ⟨_,rfl⟩
  ·exact g2 t
  ·simp [EJ,isTuple] at t
 refine ⟨⟨hle,⟨?_,?_,?_,?_,?_,?_,?_⟩,hsz,hos,htape,hout,hdr,?_,?_,by rw [hn2];omega,fun i hi=>Inj.Bp (by omega)⟩,by rw [hp1]⟩
 ·
  intro i o c0 d0 hi g1;by_cases hne:i=A.next
  ·subst hne;rw [hn3,if_pos rfl] at hi;cases hi;obtain ⟨cs',fr,g1',g2,_⟩:=hnew;rw [Inj.Bs] at g1;cases g1;exact ⟨_,g1',cs',fr,rfl,g2.mono hle⟩
  ·rw [Inj.Bp hne] at g1;obtain ⟨o0,h0,hro,hff,hcs,_⟩:=hwas i o hne hi;obtain ⟨o',g2,g3⟩:=r.obj i o0 c0 d0 h0 g1;have hlt0:=hblk h0 g1;by_cases hc0:c0=c
   ·subst hc0;rcases hcase with ⟨_,_,cs1,cs2,e1,fr,k1,k2,k3,k4⟩ | ⟨_,k1⟩
    ·
     rw [k1] at g2;cases g2;refine ⟨_,k2,?_⟩;have hal:i=ib∨∃ f bi bj,o0.fam=some (f,bi)∧(AO.row csb e fam b0 false).fam=some (f,bj)∧d0+bj=d+bi:=by
      by_cases hii:i=ib
      ·exact .inl hii
      ·rcases r.sep i ib o0 _ c0 d0 d hii h0 hb g1 hm with ⟨_,h2⟩ | h2
       ·simp [AO.ro] at h2
       ·exact .inr h2
     have hrow:∃ csx ex bx rox,o0=.row csx ex fam bx rox∧d0+b0=d+bx:=by
      rcases hal with rfl | ⟨f,bi,bj,q1,q2,q3⟩
      ·rw [hb] at h0;cases h0;rw [hm] at g1;cases g1;exact ⟨csb,e,b0,false,rfl,rfl⟩
      ·simp only [AO.fam,Oi,Pj] at q2;obtain ⟨rfl,rfl⟩:=q2;cases o0 with
       |row csx ex fx bx rox=>
        simp only [AO.fam,Oi,Pj] at q1;obtain ⟨rfl,rfl⟩:=q1;exact ⟨csx,ex,bx,rox,rfl,q3⟩
       |_=>simp [AO.fam] at q1
     obtain ⟨csx,ex,bx,rox,rfl,hbx⟩:=hrow;have himem:=(r.mem i _ fam bx h0 rfl).1;obtain ⟨cs1',fr',he1,hrr⟩:=g3;cases he1;have ho:o=N0 coord (.row csx e1 fam bx rox):=by
      rw [hn3,Ff hne,hp3,if_pos himem,h0] at hi
      simpa using hi.symm
     subst ho;refine ⟨cs2,fr,rfl,fun k x hk=>?_⟩;obtain ⟨u,hu,hx⟩:=Hx hk;obtain ⟨v',q1,q2,q3⟩:=hrr k u hu;rcases hx with ⟨hkl,rfl⟩ | ⟨_,rfl⟩
     ·exact ⟨v',by rw [k4 _ (by omega)];exact q1,fun t=>(q2 t).mono hle,q3⟩
     ·have hks:d0+k<cs2.size:=by rw [k3];exact (Array.getElem?_eq_some_iff.1 q1).1
      exact ⟨cs2[d0+k],Array.getElem?_eq_getElem hks,(fun t=>by simp [EJ,isTuple] at t),q3⟩
    ·refine ⟨o',by rw [k1 _ hlt0];exact g2,?_⟩;rcases hcs with rfl | ⟨_,rfl⟩
     ·exact g3.mono hle
     ·cases o0 with
      |row csx ex fx bx rox=>
       obtain ⟨cs1',fr',he1,hrr⟩:=g3;exact ⟨cs1',fr',he1,(hpoisRow hrr).mono hle⟩
      |_=>exact g3.mono hle
   ·refine ⟨o',by rw [hkeep _ hlt0 hc0];exact g2,?_⟩;rcases hcs with rfl | ⟨_,rfl⟩
    ·exact g3.mono hle
    ·cases o0 with
     |row csx ex fx bx rox=>
      obtain ⟨cs1',fr',he1,hrr⟩:=g3;exact ⟨cs1',fr',he1,(hpoisRow hrr).mono hle⟩
     |_=>exact g3.mono hle
 ·
  intro i csx ex bx rox hi c0 d0 hmi;by_cases hne:i=A.next
  ·subst hne;rw [hn3,if_pos rfl] at hi;simp only [Oi,AO.row.injEq] at hi;obtain ⟨_,_,h3,_⟩:=hi;omega
  ·rw [Inj.Bp hne] at hmi;obtain ⟨o0,h0,_,_,_,hx⟩:=hwas i _ hne hi;obtain ⟨csy,rfl⟩:=hx _ _ _ _ _ rfl;exact r.home i csy ex bx rox h0 c0 d0 hmi
 ·
  have hone:∀ j oj c0 dj,j≠A.next→A'.get j=some oj→m j=some (c0,dj)→c0=cn→∃ f bj,oj.fam=some (f,bj)∧f=fam∧dn+bj=dj+(b0+off):=by
   intro j oj c0 dj hne hj hmj hcc;obtain ⟨o0,h0,_,hff,_,_⟩:=hwas j oj hne hj;rw [hff];have hl:=hblk h0 hmj;rcases hcase with ⟨rfl,rfl,_⟩ | ⟨rfl,_⟩
   ·subst hcc;by_cases hji:j=ib
    ·subst hji;rw [hb] at h0;cases h0;rw [hm] at hmj;cases hmj;exact ⟨fam,b0,rfl,rfl,by omega⟩
    ·rcases r.sep j ib o0 _ c0 dj d hji h0 hb hmj hm with ⟨_,h2⟩ | ⟨f,bi,bj,q1,q2,q3⟩
     ·simp [AO.ro] at h2
     ·simp only [AO.fam,Oi,Pj] at q2;obtain ⟨rfl,rfl⟩:=q2;exact ⟨_,bi,q1,rfl,by omega⟩
   ·omega
  intro i j oi oj c0 di dj hij hi hj hmi hmj;by_cases hni:i=A.next
  ·subst hni;rw [hn3,if_pos rfl] at hi;cases hi;rw [Inj.Bs] at hmi;cases hmi;rw [Inj.Bp (Ne.symm hij)] at hmj;obtain ⟨f,bj,q1,rfl,q3⟩:=hone j oj _ dj (Ne.symm hij) hj hmj rfl;exact .inr ⟨_,_,bj,rfl,q1,q3⟩
  ·by_cases hnj:j=A.next
   ·subst hnj;rw [hn3,if_pos rfl] at hj;cases hj;rw [Inj.Bs] at hmj;cases hmj;rw [Inj.Bp hni] at hmi;obtain ⟨f,bi,q1,rfl,q3⟩:=hone i oi _ di hni hi hmi rfl;exact .inr ⟨_,bi,_,q1,rfl,by omega⟩
   ·rw [Inj.Bp hni] at hmi;rw [Inj.Bp hnj] at hmj;obtain ⟨oi0,hi0,hir,hif,_⟩:=hwas i oi hni hi;obtain ⟨oj0,hj0,hjr,hjf,_⟩:=hwas j oj hnj hj;rw [hir,hjr,hif,hjf];exact r.sep i j oi0 oj0 c0 di dj hij hi0 hj0 hmi hmj
 ·
  intro i o f b hi hfo;have hmems:∀ f,A'.members f=if f=fam then A.next::A.members fam else A.members f:=by
   intro f;unfold AW.members;rw [hn4];by_cases hff:f=fam
   ·simp only [hff,if_true];rw [hmem1];rfl
   ·simp only [hff,if_false,hp2]
  rw [hmems];by_cases hne:i=A.next
  ·subst hne;rw [hn3,if_pos rfl] at hi;cases hi;simp only [AO.fam,Oi,Pj] at hfo;obtain ⟨rfl,_⟩:=hfo;exact ⟨by simp,by omega⟩
  ·obtain ⟨o0,h0,_,hff,_,_⟩:=hwas i o hne hi;rw [hff] at hfo;obtain ⟨h1,h2⟩:=r.mem i o0 f b h0 hfo;refine ⟨?_,by omega⟩;split
   ·subst f;exact List.mem_cons_of_mem _ h1
   ·exact h1
 ·
  intro i hi;rw [hn2] at hi;obtain ⟨h1,h2,h3⟩:=r.fresh i (by omega);refine ⟨?_,by rw [Inj.Bp (by omega)];exact h2,by rw [hn4,Ff (by omega),hp2];exact h3⟩;rw [hn3,Ff (by omega),hp3,h1];split<;>rfl
 ·rw [hn2];have:=hn1;omega
 ·
  intro i csx ex fx bx rox c0 d0 hi hmi;by_cases hne:i=A.next
  ·subst hne;rw [hn3,if_pos rfl] at hi;simp only [Oi,AO.row.injEq] at hi;obtain ⟨rfl,rfl,rfl,rfl,rfl⟩:=hi;rw [Inj.Bs] at hmi;cases hmi;rw [Inj.CQ,Inj.RS];obtain ⟨cs',fr,g1,_,g3,g4⟩:=hnew;exact ⟨fun _=>rfl,cs',e,fr,g1,g3,fun _=>g4⟩
  ·rw [Inj.Bp hne] at hmi;rw [Inj.FW hne,Inj.Hq hne];obtain ⟨o0,h0,hro,_,_,hx⟩:=hwas i _ hne hi;obtain ⟨csy,rfl⟩:=hx _ _ _ _ _ rfl;obtain ⟨g1,cs1,e1,fr1,g2,g3,g4⟩:=r.room i csy ex fx bx rox c0 d0 h0 hmi;refine ⟨g1,?_⟩;have hlt0:=hblk h0 hmi;by_cases hc0:c0=c
   ·subst hc0;rcases hcase with ⟨_,_,cs1',cs2,e1',fr,k1,k2,k3,_⟩ | ⟨_,k1⟩
    ·rw [k1] at g2;cases g2;exact ⟨cs2,_,_,k2,by omega,g4⟩
    ·exact ⟨cs1,e1,fr1,by rw [k1 _ hlt0];exact g2,g3,g4⟩
   ·exact ⟨cs1,e1,fr1,by rw [hkeep _ hlt0 hc0];exact g2,g3,g4⟩
 ·
  intro b hbl hno;by_cases hbc:b=c
  ·subst hbc;exact absurd ⟨ib,_,d,hb,rfl,hm⟩ hno
  ·exact hkeep b hbl hbc
 ·
  rintro b hbl ⟨i,o,d0,hi,hro,hmi⟩;by_cases hne:i=A.next
  ·subst hne;rw [Inj.Bs] at hmi;simp only [Oi,Pj] at hmi;obtain ⟨rfl,rfl⟩:=hmi;rcases hcase with ⟨rfl,_⟩ | ⟨rfl,_⟩
   ·exact ⟨ib,_,d,hb,rfl,hm⟩
   ·omega
  ·rw [Inj.Bp hne] at hmi;obtain ⟨o0,h0,hr0,_⟩:=hwas i o hne hi;exact ⟨i,o0,d0,h0,by rw [← hr0];exact hro,hmi⟩
end
variable {w w1:World} {a:Addr} {l new old:List Value} {n k size:Nat} {A:AW} {e t2 t ty:TypeId} {x x':Value}
section
variable {P:Program}
theorem Sb(h:w1.heap=w.heap)(a:Addr):w1.cell? a=w.cell? a:=by simp [World.cell?,h]
theorem Dz(h:w1.heap=w.heap)(hl:∀ (i:Nat) (v:Value),l[i]? =some v→w.cell? (a.add i)=some v)(hn:l.length=n):
  (loadCells a n).run P w1=.ok ⟨l⟩ w1:=by
 subst hn;exact run_loadCells_list (P:=P) w1 a l (fun j v hj=>by rw [Sb h];exact hl j v hj)
theorem strCells(s:ByteArray):((s.extract 0 s.size).data.map fun b=>Value.int .u8 b.toNat)=⟨s.data.toList.map fun b=>Value.int .u8 b.toNat⟩:=by
 apply Array.ext';rw [Array.toList_map];have h:=Lib.extract_data s 0 s.size;rw [h,Lib.size_eq];simp only [Nat.sub_zero,List.drop_zero,List.take_length]
theorem Ow {m:Inj P} (r:Rel m A w) {d2:TypeDesc} {i:TypeInfo} (h2:P.underlying t2=some d2)
  (hx:AI m x x') (h:BF P A e t2 i.size x=some (k,new)):∃ new',AJ m new new'∧∀ w1:World,w1.heap=w.heap→Src P e d2 i x' k new' w1:=by
 unfold BF at h;rw [h2] at h;split at h
 ·rename_i hd;cases hd
 ·
  rename_i k1 k2 n hd;simp only [Oi] at hd;subst hd;cases hx;cases hb:Nat.blt n room with
  |false=>rw [hb] at h;cases h
  |true=>
   rw [hb,Ct] at h;have hb:=Ax.1 hb;unfold room at hb;split at h
   ·rename_i l hl;simp only [Oi,Pj] at h;obtain ⟨rfl,rfl⟩:=h;unfold E4 at hl;by_cases h0:n*i.size=0
    ·rw [beq_true.2 h0,Ct] at hl;simp only [Oi] at hl;subst hl;exact ⟨[],.nil,fun w1 _=>⟨fun k _=>⟨_,rfl,by omega,.inl ⟨h0,rfl⟩⟩,fun hne=>absurd rfl (hne _)⟩⟩
    ·rw [beq_false.2 h0,Cf] at hl;split at hl
     ·rename_i z hz;cases hbz:Nat.beq z.cells.toList.length i.size with
      |false=>rw [hbz] at hl;cases hl
      |true=>
       rw [hbz,Ct] at hl;simp only [Oi] at hl;subst hl;refine ⟨DC z.cells.toList n,AJ.Jp (AJ.closed (Cr hz).2) n,fun w1 _=>⟨fun k _=>⟨_,rfl,by omega,.inr ⟨h0,z,fun w=>Bl hz w,?_⟩⟩,fun hne=>absurd rfl (hne _)⟩⟩;rw [Builtin.zeroCells,Ej]
     ·cases hl
   ·cases h
 ·cases h
 ·
  rename_i d hne hd _;simp only [Oi] at hd;subst hd;have hne':∀ k,d2≠ .int k:=fun k hk=>by subst hk;exact hne _ rfl
  unfold DY at h;split at h
  ·rename_i a n c _;cases hx with
   |slice hc hn ha=>
    rename_i a' c';split at h
    ·rename_i l hl;simp only [Oi,Pj] at h;obtain ⟨rfl,rfl⟩:=h;obtain ⟨h1,l',h3,h4⟩:=r.cells hl (fun hp=>ha (by
      rcases Nat.eq_zero_or_pos n with h0 | h0
      ·subst h0;simp at hp
      ·omega))
     refine ⟨l',h3,fun w1 hw1=>⟨fun k hk=>absurd hk (hne' k),fun _=>⟨rfl,?_⟩⟩⟩;exact Dz hw1 h4 (by rw [h3.length,h1])
    ·cases h
  ·cases hx;change some (0,([]:List Value))=some (k,new) at h;simp only [Oi,Pj] at h;obtain ⟨rfl,rfl⟩:=h;exact ⟨[],.nil,fun w1 hw1=>⟨fun k hk=>absurd hk (hne' k),fun _=>⟨rfl,rfl⟩⟩⟩
  ·cases hx;rename_i s _;cases hq:Nat.beq i.size 1 with
   |false=>rw [hq] at h;cases h
   |true=>
    rw [hq] at h;simp only [Ct,Oi,Pj] at h;obtain ⟨rfl,rfl⟩:=h;refine ⟨_,AJ.map _ _ (fun b=>.int _ _) _,fun w1 hw1=>⟨fun k hk=>absurd hk (hne' k),fun _=>⟨?_,?_⟩⟩⟩
    ·show Result.ok s.size w1=_;rw [Lib.size_eq]
    ·have:s.data.toList.length=s.size:=(Lib.size_eq s).symm
     rw [this];simp only [Builtin.firstCells,strCells];rfl
  ·cases h
theorem AJ.Vi{m:Inj P}{l':List Value}(h:AJ m l l')(h1:l.all AP=true):∀ v∈l',AP v=true:=by
 intro v hv;obtain ⟨i,hi⟩:=List.getElem?_of_mem hv;have hlt:i<l.length:=by rw [← h.length];exact (Gs.1 hi).1
 obtain ⟨v',h2,h3⟩:=h.get (Ge hlt);rw [hi] at h2;simp only [Oi] at h2;subst h2;rw [h3.AP];exact List.all_eq_true.1 h1 _ (List.getElem_mem hlt)
theorem EX(h:A.CS a n=some l):l.length=n∧(0<n→a.spot=none∧∃ cs e f b ro,A.get a.block=some (.row cs e f b ro)∧l=(cs.drop a.off).take n∧n≤(cs.drop a.off).length):=by
 unfold AW.CS at h;split at h
 ·cases h;exact ⟨rfl,fun h=>by omega⟩
 ·split at h
  ·cases h
  ·rename_i hs;split at h
   ·rename_i cs e f b ro hg;obtain ⟨h1,h2⟩:=G9 h;refine ⟨by rw [h1,List.length_take];omega,fun _=>⟨hs,cs,e,f,b,ro,hg,h1,h2⟩⟩
   ·cases h
theorem N1{m:Inj P}(r:Rel m A w){a':Addr}(h:A.CS a n=some l)(ha:0<n→Gi m a a'):
  ∃ l':List Value,l'.length=n∧(∀ (i:Nat) (v:Value),l[i]? =some v→∃ v',l'[i]? =some v'∧(isTuple v=false→AI m v v'))∧∀ (i:Nat) (v:Value),l'[i]? =some v→w.cell? (a'.add i)=some v:=by
 obtain ⟨h1,h2⟩:=EX h;rcases Nat.eq_zero_or_pos n with h0 | h0
 ·subst h0
  have:l=[]:=List.eq_nil_of_length_eq_zero h1
  subst this;exact ⟨[],rfl,fun i v hv=>by simp at hv,fun i v hv=>by simp at hv⟩
 ·obtain ⟨hs,cs,e,f,b,ro,hg,rfl,hle⟩:=h2 h0;obtain ⟨_,hs',d,hm,ho⟩:=ha h0;obtain ⟨c0,d0,o',g1,g2,cs',fr,rfl,hr⟩:=r.EE hg hm;rw [hm] at g1;cases g1;have key:∀ i,i<n→∃ u u',cs[a.off+i]? =some u∧cs'[d+(a.off+i)]? =some u'∧(isTuple u=false→AI m u u'):=by
   intro i hi;have hlt:a.off+i<cs.length:=by rw [List.length_drop] at hle;omega
   obtain ⟨u',q1,q2,_⟩:=hr (a.off+i) _ (Ge hlt);exact ⟨_,u',Ge hlt,q1,q2⟩
  refine ⟨(List.range n).map fun i=>(cs'[d+(a.off+i)]?).getD undef,by simp,fun i v hv=>?_,fun i v hv=>?_⟩
  ·have hi:i<n:=by rw [← h1];exact (Gs.1 hv).1
   obtain ⟨u,u',q1,q2,q3⟩:=key i hi;rw [List.getElem?_take,if_pos hi,List.getElem?_drop,q1] at hv;simp only [Oi] at hv;subst hv;exact ⟨u',by simp [hi,q2],q3⟩
  ·have hi:i<n:=by
    have:=(Gs.1 hv).1
    simpa using this
   obtain ⟨u,u',q1,q2,q3⟩:=key i hi;simp [hi,q2] at hv;subst hv;simp only [World.cell?,Addr.G3,g2,Addr.J7 _ _ hs',Option.isSome_none,Addr.Hv,ho];rw [show d+a.off+i=d+(a.off+i) by omega]
   simpa using q2
theorem SR{m:Inj P}{old' new':List Value}(h1:old'.length=old.length)(h2:∀ (i:Nat) (v:Value),old[i]? =some v→∃ v',old'[i]? =some v'∧(isTuple v=false→AI m v v'))(h3:AJ m new new')(rest:Array Value):
  Gf m 0 (old++new) false ((old'++new').toArray++rest) (0,0):=by
 intro i v hv;have hlen:i<(old'++new').length:=by
  have:=(Gs.1 hv).1
  simp only [Lq] at this ⊢;rw [h1,h3.length];exact this
 rw [List.getElem?_append] at hv;have hget:((old'++new').toArray++rest)[0+i]? =(old'++new')[i]? :=by
  rw [Nat.zero_add,Array.getElem?_append_left (by simpa using hlen)]
  simp
 rw [hget,List.getElem?_append];split at hv
 ·rename_i hi;rw [if_pos (by omega)];obtain ⟨v',g1,g2⟩:=h2 i v hv;exact ⟨v',g1,g2,fun _=>by omega⟩
 ·rename_i hi;rw [Ff (by omega),h1];obtain ⟨v',g1,g2⟩:=h3.get hv;exact ⟨v',g1,fun _=>g2,fun _=>by omega⟩
theorem SE {i:TypeInfo} {base:Option Addr} {c:Nat} (hlen:old.length=n*i.size) (hb:base=none→n=0)
  (h:∀ a,base=some a→∀ (j:Nat) (v:Value),old[j]? =some v→w.cell? (a.add j)=some v):∀ w1:World,w1.heap=w.heap→(Builtin.firstCells i.size n (.slice base n c)).run P w1=.ok ⟨old⟩ w1:=by
 intro w1 hw1;cases base with
 |none=>
  have:=hb rfl
  subst this
  have:old=[]:=List.eq_nil_of_length_eq_zero (by simpa using hlen)
  subst this;rfl
 |some a=>exact Dz hw1 (h a rfl) hlen
theorem Nr(h:BF P A e t2 size x=some (k,new)):new.length=k*size:=by
 unfold BF at h;split at h
 ·cases h
 ·rename_i k1 k2 n hd;cases hb:Nat.blt n room with
  |false=>rw [hb] at h;cases h
  |true=>
   rw [hb,Ct] at h;split at h
   ·rename_i l hl;simp only [Oi,Pj] at h;obtain ⟨rfl,rfl⟩:=h;unfold E4 at hl;by_cases h0:n*size=0
    ·rw [beq_true.2 h0,Ct] at hl;simp only [Oi] at hl;subst hl;rw [h0];rfl
    ·rw [beq_false.2 h0,Cf] at hl;split at hl
     ·rename_i z hz;cases hbz:Nat.beq z.cells.toList.length size with
      |false=>rw [hbz] at hl;cases hl
      |true=>
       rw [hbz,Ct] at hl;simp only [Oi] at hl;subst hl;rw [EV,beq_true.1 hbz]
     ·cases hl
   ·cases h
 ·cases h
 ·unfold DY at h;split at h
  ·split at h
   ·rename_i l hl;simp only [Oi,Pj] at h;obtain ⟨rfl,rfl⟩:=h;unfold AW.cells? at hl;split at hl
    ·rename_i h0;cases hl;rw [h0];rfl
    ·rename_i h0;split at hl
     ·cases hl
     ·split at hl
      ·rw [(FG hl).1,h0]
      ·cases hl
   ·cases h
  ·rename_i n c _;cases hb:Nat.beq n 0 with
   |false=>rw [hb] at h;cases h
   |true=>
    rw [hb] at h;simp only [Ct,Oi,Pj] at h;obtain ⟨rfl,rfl⟩:=h
    simp
  ·cases hq:Nat.beq size 1 with
   |false=>rw [hq] at h;cases h
   |true=>
    rw [hq] at h;simp only [Ct,Oi,Pj] at h;obtain ⟨rfl,rfl⟩:=h;rw [beq_true.1 hq];simp
  ·cases h
theorem run_append_nil {d2:TypeDesc} {i:TypeInfo} (hu:P.underlying t=some (.slice e)) (h2:P.underlying t2=some d2)
  (hi:P.info? e=some i) (hsrc:Src P e d2 i x 0 [] w):(Builtin.append_ #[t,t2] ty #[.slice none 0 0,x]).run P w=.ok (.slice none 0 0) w:=by
 by_cases hk:∃ k,d2=.int k
 ·obtain ⟨k,rfl⟩:=hk;obtain ⟨k',rfl,hm,hz⟩:=hsrc.Jp k rfl;have hw:IntKind.i64.wrap ((0:Nat):Int)=0:=HG (by omega);simp [Builtin.append_,run_underlying hu,run_underlying h2,sizeOf,Bz hi,asInt,asIntOf];simp at hw;simp [hw]
 ·have hk':∀ k,d2≠ .int k:=fun k e=>hk ⟨k,e⟩;obtain ⟨hl,hc⟩:=hsrc.cells hk';cases d2<;>first
   |(exact absurd rfl (hk' _))
   |simp [Builtin.append_,run_underlying hu,run_underlying h2,sizeOf,Bz hi,hl,hc]
theorem Rel.congr{m:Inj P}(r:Rel m A w)(h:w1.heap=w.heap):Rel m A w1:=by
 refine ⟨?_,r.home,r.sep,r.mem,r.fresh,r.lim,?_⟩
 ·rw [h];exact r.obj
 ·rw [h];exact r.room
theorem N9{rest:Array Value}{newCap z:Nat}(h1:old.length=n*size)(h2:new.length=k*size)(h3:rest.size=(newCap-(n+k))*z)(h4:z=size)(h5:n+k≤newCap):
  newCap*size≤((⟨old⟩:Array Value)++(⟨new⟩:Array Value)++rest).size:=by
 subst h4;simp only [Array.size_append,List.size_toArray];rw [h1,h2,h3]
 have:newCap*z=n*z+k*z+(newCap-(n+k))*z:=by rw [← Nat.add_mul,← Nat.add_mul];congr 1;omega
 omega
theorem Pd{m:Inj P}(r:Rel m A w){s s':Value}(hs:AI m s s')(hx:AI m x x'):
  Uf P m A w AI (AT P A t t2 s x) (Builtin.append_ #[t,t2] ty #[s',x']):=by
 unfold AT;split
 rotate_left
 ·trivial
 rename_i e base n cap he;have hu:=CA he;split
 ·trivial
 rotate_left
 ·trivial
 rename_i size bytes hsz0 hsz hby;obtain ⟨i,hi,rfl⟩:=L2 hsz;obtain ⟨i',hi',rfl⟩:=Lj hby;rw [hi] at hi';cases hi';have hsz1:0<i.size:=Nat.pos_of_ne_zero hsz0;split
 ·trivial
 rename_i k new hsrc;have hd2:∃ d2,P.underlying t2=some d2:=by
  cases hq:P.underlying t2 with
  |some d=>exact ⟨d,rfl⟩
  |none=>simp [BF,hq] at hsrc
 obtain ⟨d2,h2⟩:=hd2;obtain ⟨new',hnew,hS⟩:=Ow (i:=i) r h2 hx hsrc;have hlen:=Nr hsrc;have hlen':new'.length=k*i.size:=by rw [hnew.length,hlen]
 simp only;cases hroom:(Nat.blt (n+k) room&&Nat.blt ((n+k)*i.bytes) room&&CE P e i.size) with
 |false=>simp only [Bool.not_false,Ct];trivial
 |true=>
  simp only [Bool.not_true,Cf];simp only [Bq] at hroom;have hr1:=Ax.1 hroom.1.1;have hr2:=Ax.1 hroom.1.2;unfold room at hr1 hr2;obtain ⟨z,hz,hzs⟩:∃ z,C2 P e=some z∧z.cells.size=i.size:=by
   have:=hroom.2
   unfold CE at this;split at this
   ·rename_i z hz;exact ⟨z,hz,by simpa using beq_true.1 this⟩
   ·cases this
  split
  ·
   have hn0:new=[]:=List.eq_nil_of_length_eq_zero (by simpa using hlen);have hn0':new'=[]:=List.eq_nil_of_length_eq_zero (by simpa using hlen');subst hn0;subst hn0';cases hs with
   |sliceNil=>exact ⟨_,w,m,run_append_nil hu h2 hi (hS w rfl),.refl r,.sliceNil⟩
   |slice hc hn ha=>
    exact ⟨_,w,m,GC hu h2 hi (hS w rfl) (by omega) hr2 (w':=w) rfl,.refl r,.slice hc hn ha⟩
  ·rename_i k;have hlen:new.length=(k+1)*i.size:=hlen;have hlen':new'.length=(k+1)*i.size:=hlen';have hr1:n+(k+1)<68719476736:=hr1;have hr2:(n+(k+1))*i.bytes<68719476736:=hr2;have hlb:∀ c',(cap<Bo∧c'=cap∨Bo≤cap∧cap-Bo≤c')→(bif Nat.ble Bo cap then cap-Bo else cap)≤c':=by
    intro c' h;rcases h with ⟨h1,h2⟩ | ⟨h1,h2⟩
    ·rw [BA.2 h1,Cf];omega
    ·rw [Bj.2 h1,Ct];exact h2
   cases hin:Nat.ble (n+(k+1)) (bif Nat.ble Bo cap then cap-Bo else cap) with
   |true=>
    simp only [Ct];have hin:=Bj.1 hin;split
    ·trivial
    rename_i a;split
    rotate_left
    ·trivial
    rename_i A' hset;cases hs with
    |slice hc hn ha=>
     rename_i a' c';have hle:=hlb c' (hc.imp id fun h=>⟨h.1,h.2.1⟩);have har:=ha (by omega);obtain ⟨w',g1,g2,_⟩:=Ev.setCells (i:=0) r hnew (fun _=>by simpa [Addr.add] using har.add (n*i.size)) hset;exact ⟨_,w',m,GC hu h2 hi (hS w rfl) (by omega) hr2 g1,g2,.slice hc (by omega) (fun _=>har)⟩
   |false=>
    simp only [Cf];have hin:=BA.1 hin;cases hcu:Nat.ble Bo cap with
    |true=>
     simp only [Ct];have hcu':=Bj.1 hcu;split
     ·trivial
     rename_i a;split
     rotate_left
     ·trivial
     rename_i csb e' fam b0 hsp hg;cases hel:(Nat.beq e' e&&new.all AP) with
     |false=>simp only [Bool.not_false,Ct];trivial
     |true=>
      simp only [Bool.not_true,Cf];simp only [Bq] at hel;have hee:=beq_true.1 hel.1;subst hee;split
      ·trivial
      rename_i old hold;split
      rotate_left
      ·trivial
      rename_i aN A' hnw;cases hs with
      |slice hc hn ha=>
       rename_i a' c';obtain ⟨_,hlb',hcl,hcr,⟨cb,db⟩,hxx⟩:=hc.resolve_left (fun h=>by omega);obtain ⟨_,hrl⟩:=r.mem _ _ fam b0 hg rfl;by_cases hfit:n+(k+1)≤c'
       ·
        have hc0:0<c':=by omega
        have hR:=hcr hc0;obtain ⟨_,hs',d,hm,ho⟩:=ha hc0;rw [hxx] at hm;simp only [Oi,Pj] at hm;obtain ⟨rfl,rfl⟩:=hm;obtain ⟨q1,cs0,e0,fr0,q2,q3,q4⟩:=r.room _ _ _ _ _ _ _ _ hg hxx;obtain ⟨c1,d1,o1,p1,p2,cs1,fr1,rfl,p3⟩:=r.EE hg hxx;rw [hxx] at p1;simp only [Oi,Pj] at p1;obtain ⟨rfl,rfl⟩:=p1;rw [p2] at q2;cases q2;have hst:m.st a.block=i.size:=by
         have h1:=m.ok _ hR;rw [q1 hR,hsz] at h1
         simpa using h1.symm
        rw [hst] at hcl;have hmul:n*i.size+(k+1)*i.size≤c'*i.size:=by rw [← Nat.add_mul];exact Nat.mul_le_mul_right _ hfit
        obtain ⟨w',cs2,g1,g2,g3,g4,g5,g6,g7,g8,g9,g10,g11⟩:=HN (P:=P) a'.block e' fr0 (a'.add (n*i.size)) (Addr.G3 _ _) (Addr.J7 _ _ hs') new' 0 cs0 w p2
         (by rw [Addr.Hv,ho,hlen'];omega)
         (fun j hj=>by
          rw [hlen'] at hj;rw [Addr.Hv,ho]
          have:=q4 rfl (a.off+n*i.size+j) (by omega)
          rw [show db+a.off+n*i.size+0+j=db+(a.off+n*i.size+j) by omega];exact this)
         (hnew.Vi hel.2)
        rw [Addr.Hv,ho] at g4 g5;obtain ⟨h1,h2'⟩:=EX hold;have hrow:Gf m (db+a.off) (old++new) false cs2 fr0:=by
         intro j v hv;have hjl:j<n*i.size+(k+1)*i.size:=by
          have:=(Gs.1 hv).1
          simp only [Lq,h1,hlen] at this;omega
         rw [List.getElem?_append] at hv;have hun:¬ (fr0.1≤db+a.off+j∧db+a.off+j<fr0.2):=by
          have:=q4 rfl (a.off+j) (by omega)
          rw [show db+a.off+j=db+(a.off+j) by omega];exact this
         split at hv
         ·rename_i hj;rw [h1] at hj;obtain ⟨_,csq,eq,fq,bq,roq,hgq,hold',hle⟩:=h2' (by omega);rw [hg] at hgq;cases hgq;rw [hold',List.getElem?_take,if_pos hj,List.getElem?_drop] at hv;obtain ⟨v',p4,p5,_⟩:=p3 _ _ hv;refine ⟨v',?_,p5,fun _=>hun⟩;rw [g4 _ (.inl (by omega)),show db+a.off+j=db+(a.off+j) by omega];exact p4
         ·rename_i hj;rw [h1] at hj hv;obtain ⟨v',p4,p5⟩:=hnew.get hv;refine ⟨v',?_,fun _=>p5,fun _=>hun⟩
          have:=g5 (j-n*i.size) (by rw [hlen'];omega)
          rw [show db+a.off+n*i.size+0+(j-n*i.size)=db+a.off+j by omega] at this;rw [this];exact p4
        obtain ⟨hev,rfl⟩:=Ev.HY (m:=m) (A:=A) (w:=w) (w':=w') r hg hxx rfl hnw (cn:=a'.block) (dn:=db+a.off) (R:=m.room a.block-a.off) (st:=i.size) (fun _=>hsz) g8 g9 g10 (by omega) (by omega)
         (fun b _ hb=>g6 b hb) ⟨cs2,fr0,g2,hrow,by omega,fun j hj=>by
          have:=q4 rfl (a.off+j) (by omega)
          rw [show db+a.off+j=db+(a.off+j) by omega];exact this⟩
         (.inl ⟨rfl,rfl,cs0,cs2,e',fr0,p2,g2,g3,fun j hj=>g4 j (.inl (by omega))⟩)
        refine ⟨_,w',_,GC hu h2 hi (hS w rfl) hfit hr2 g1,hev,.slice (.inr ⟨by omega,by omega,?_,?_,_,Inj.Bs⟩) (by omega) (fun _=>⟨rfl,hs',_,Inj.Bs,by simpa using ho⟩)⟩
        ·simp only [Inj.CQ,Inj.Kx];omega
        ·intro _;simp only [Inj.CQ]
         have:0<c'*i.size:=Nat.mul_pos hc0 hsz1
         omega
       ·
        obtain ⟨old',o1,o2,o3⟩:=N1 r hold (fun hp=>ha (by
         rcases Nat.eq_zero_or_pos n with h0 | h0
         ·subst h0;simp at hp
         ·omega))
        obtain ⟨h1,_⟩:=EX hold;obtain ⟨newCap,rest,hcap,hrs,hrun⟩:=run_append_grow (w:=w) (ty:=ty) hu h2 hi hS (by omega) hr2 hr1 hz (SE (w:=w) (i:=i) (base:=some a') (n:=n) (c:=c') o1 (fun h=>by cases h) (fun b hb=>by cases hb;exact o3));have hgs:=N9 (old:=old') (new:=new') (rest:=rest) o1 hlen' hrs hzs hcap;have happ:(⟨old'⟩:Array Value)++(⟨new'⟩:Array Value)++rest=(old'++new').toArray++rest:=by simp
        obtain ⟨hev,rfl⟩:=Ev.HY (m:=m) (A:=A) (w:=w) (w':={ w with drawn:=w.drawn+1,heap:=w.heap.push (.cells ((⟨old'⟩:Array Value)++(⟨new'⟩:Array Value)++rest) e') }) r hg hxx rfl hnw (cn:=w.heap.size) (dn:=0) (R:=newCap*i.size) (st:=i.size) (fun _=>hsz) rfl rfl rfl (Nat.le_succ _) (by simp)
         (fun b hb _=>CL w _ b hb) ⟨_,(0,0),Dr w _,by rw [happ];exact SR (by rw [o1,h1]) o2 hnew rest,by omega,fun j hj=>by omega⟩
         (.inr ⟨rfl,fun b hb=>CL w _ b hb⟩)
        refine ⟨_,_,_,hrun,hev,.slice (.inr ⟨by omega,by omega,?_,?_,_,Inj.Bs⟩) hcap (fun _=>⟨rfl,rfl,_,Inj.Bs,rfl⟩)⟩
        ·simp only [Inj.CQ,Inj.Kx];omega
        ·intro hp;simp only [Inj.CQ]
         have:0<newCap*i.size:=Nat.mul_pos hp hsz1
         omega
    |false=>
     simp only [Cf];have hcu':=BA.1 hcu;rw [hcu,Cf] at hin;split
     ·trivial
     rename_i old hold;split
     rotate_left
     ·trivial
     rename_i b A' hnw;obtain ⟨base',old',hs',hbn,o1,o2,o3⟩:∃ (base':Option Addr) (old':List Value),s'=.slice base' n cap∧(base'=none→n=0)∧(old'.length=n*i.size∧old.length=n*i.size)∧
       (∀ (j:Nat) (v:Value),old[j]? =some v→∃ v',old'[j]? =some v'∧(isTuple v=false→AI m v v'))∧(∀ a,base'=some a→∀ (j:Nat) (v:Value),old'[j]? =some v→w.cell? (a.add j)=some v):=by
      cases hs with
      |sliceNil=>
       simp only [Oi] at hold;subst hold;exact ⟨none,[],rfl,fun _=>rfl,⟨by simp,by simp⟩,fun j v hv=>by simp at hv,fun a ha=>by cases ha⟩
      |slice hc hn ha=>
       rename_i a a' c';rcases hc with ⟨_,rfl⟩ | ⟨h,_⟩
       ·obtain ⟨old',o1,o2,o3⟩:=N1 r hold (fun hp=>ha (by
         rcases Nat.eq_zero_or_pos n with h0 | h0
         ·subst h0;simp at hp
         ·omega))
        exact ⟨some a',old',rfl,(fun h=>by cases h),⟨o1,(EX hold).1⟩,o2,fun b hb=>by cases hb;exact o3⟩
       ·omega
     subst hs';obtain ⟨newCap,rest,hcap,hrs,hrun⟩:=run_append_grow (w:=w) (ty:=ty) hu h2 hi hS (by omega) hr2 hr1 hz (SE (w:=w) (i:=i) (base:=base') (n:=n) (c:=cap) o1.1 hbn o3);have hgs:=N9 (old:=old') (new:=new') (rest:=rest) o1.1 hlen' hrs hzs hcap;have happ:(⟨old'⟩:Array Value)++(⟨new'⟩:Array Value)++rest=(old'++new').toArray++rest:=by simp
     have r1:Rel m A { w with drawn:=w.drawn+1 }:=r.congr rfl;have hor:G4 m 0 (.row (old++new) e A.next 0 false) (.cells ((⟨old'⟩:Array Value)++(⟨new'⟩:Array Value)++rest) e):=
      ⟨_,(0,0),rfl,by rw [happ];exact SR (by rw [o1.1,o1.2]) o2 hnew rest⟩
     obtain ⟨rfl,_,hev⟩:=Ev.new r1 hnw hor (fun f b hf=>by simp [AO.fam] at hf;exact hf.1.symm) (R:=newCap*i.size) (el:=e) (st:=i.size) (fun _=>hsz)
      (fun csx ex fx bx rox hx=>by
       cases hx;exact ⟨fun _=>rfl,_,_,_,rfl,hgs,fun _ j hj=>by omega⟩)
     refine ⟨_,_,_,hrun,(Ev.drawn r _ (Nat.le_succ _)).trans hev,.slice (.inr ⟨by omega,by omega,?_,?_,_,Inj.Bs⟩) hcap (fun _=>⟨rfl,rfl,_,Inj.Bs,rfl⟩)⟩
     ·simp only [Inj.CQ,Inj.Kx];omega
     ·intro hp;simp only [Inj.CQ]
      have:0<newCap*i.size:=Nat.mul_pos hp hsz1
      omega
end
variable {x x':Value} {n0:Nat} {A:AW} {w:World}
section
variable {P:Program}
theorem Qa{m:Inj P}(hx:AI m x x')(h:MH x=some n0)(w:World):(Builtin.lenOf x').run P w=.ok n0 w:=by
 cases hx with
 |sliceNil=>simp only [MH,Oi] at h;subst h;rfl
 |slice hc hn ha=>simp only [MH,Oi] at h;subst h;rfl
 |string s=>
  simp only [MH,Oi] at h;subst h;show Result.ok s.size w=_;rw [Lib.size_eq]
 |_=>cases h
theorem Qc(a b:Nat):least a b=Nat.min a b:=by
 unfold least;cases hb:Nat.ble a b with
 |true=>have:=Bj.1 hb;rw [Ct];exact (Nat.min_eq_left this).symm
 |false=>have:=BA.1 hb;rw [Cf];exact (Nat.min_eq_right (by omega)).symm
theorem LF{m:Inj P}(r:Rel m A w)(hx:AI m x x'){size d:Nat}{cells:List Value}(hn:MH x=some n0)(h:FE A size (Nat.min n0 d) x=some cells):
  ∃ cells',AJ m cells cells'∧(Builtin.firstCells size (Nat.min n0 d) x').run P w=.ok ⟨cells'⟩ w∧(d=0→cells=[]):=by
 unfold FE at h;split at h
 ·rename_i a sn sc;cases hx with
  |slice hc hn' ha=>
   rename_i a' c2;simp only [MH,Oi] at hn;subst hn;obtain ⟨h1,l',h3,h4⟩:=r.cells h (fun hp=>ha (by
    have hm:=Nat.min_le_left sn d;rcases Nat.eq_zero_or_pos sn with h0 | h0
    ·subst h0
     have:Nat.min 0 d=0:=Nat.zero_min d
     rw [this] at hp;simp at hp
    ·omega))
   refine ⟨l',h3,Dz rfl h4 (by rw [h3.length,h1]),fun hd=>?_⟩;subst hd
   have:Nat.min sn 0=0:=Nat.min_zero sn
   rw [this] at h1;exact List.eq_nil_of_length_eq_zero (by simpa using h1)
 ·cases hx;simp only [Oi] at h;subst h;exact ⟨[],.nil,rfl,fun _=>rfl⟩
 ·rename_i s;cases hx;simp only [Oi] at h;subst h;refine ⟨_,AJ.map _ _ (fun b=>.int _ _) _,?_,fun hd=>?_⟩
  ·simp only [Builtin.firstCells];show Result.ok _ w=_
   congr 1
   apply Array.ext';rw [Array.toList_map,Lib.extract_data]
   simp
  ·subst hd
   have:Nat.min n0 0=0:=Nat.min_zero n0
   rw [this];rfl
 ·cases h
theorem R9{m:Inj P}(r:Rel m A w){t t2 ty:TypeId}{d d':Value}(hd:AI m d d')(hx:AI m x x'):
  Uf P m A w AI (G0 P A t d x) (Builtin.copy_ #[t,t2] ty #[d',x']):=by
 unfold G0;split
 rotate_left
 ·trivial
 rename_i e base dLen cap he;have hu:=CA he;split
 rotate_left
 ·trivial
 rename_i size n0 hsz hn0;have hl:=Qa (P:=P) hx hn0 w;rw [Qc];split
 ·trivial
 rename_i cells hcells;obtain ⟨base',c',hd',hbase⟩:∃ (base':Option Addr) (c':Nat),d'=.slice base' dLen c'∧((base=none∧base'=none∧dLen=0)∨∃ a a',base=some a∧base'=some a'∧dLen≤c'∧(0<c'→Gi m a a')):=by
  cases hd with
  |sliceNil=>exact ⟨none,0,rfl,.inl ⟨rfl,rfl,rfl⟩⟩
  |slice hc hn ha=>exact ⟨_,_,rfl,.inr ⟨_,_,rfl,rfl,hn,ha⟩⟩
 subst hd';obtain ⟨cells',hcr,hcrun,hnil⟩:=LF r hx hn0 hcells;rcases hbase with ⟨rfl,rfl,rfl⟩ | ⟨a,a',rfl,rfl,hn,ha⟩
 ·simp only;refine ⟨_,w,m,?_,.refl r,.int _ _⟩;have h0:Nat.min n0 0=0:=Nat.min_zero n0;rw [h0] at hcrun;simp [Builtin.copy_,run_underlying hu,hl,Bg hsz,hcrun,goInt]
 ·simp only;split
  rotate_left
  ·trivial
  rename_i A' hset;have hne:cells≠[]→Gi m a a':=by
   intro hce;apply ha;rcases Nat.eq_zero_or_pos dLen with h0 | h0
   ·exact absurd (hnil h0) hce
   ·omega
  obtain ⟨w',g1,g2,_⟩:=Ev.setCells (i:=0) r hcr (fun hce=>by simpa [Addr.add] using hne hce) hset;refine ⟨_,w',m,?_,g2,.int _ _⟩;simp [Builtin.copy_,run_underlying hu,hl,Bg hsz,hcrun,goInt,g1]
theorem JB(s:ByteArray):∀ (b i:Nat) (acc:Array Value),Conv.runesFrom s b i acc=acc++(Ei s b i).toArray
 |0,i,acc=>by simp [Conv.runesFrom,Ei]
 |b+1,i,acc=>by
  simp only [Conv.runesFrom,Ei];by_cases h:i<s.size
  ·have h':Nat.blt i s.data.toList.length=true:=Ax.2 (by rw [← Lib.size_eq];exact h);rw [if_pos h,h',Ct];rw [JB s b];apply Array.ext'
   simp
  ·have h':Nat.blt i s.data.toList.length=false:=EQ.2 (by rw [← Lib.size_eq];omega);rw [Ff h,h',Cf]
   simp
theorem EO{m:Inj P}:∀ {cs cs':List Value} {l:List UInt8},Bv cs=some l→AJ m cs cs'→cs'=cs
 |[],_,_,_,.nil=>rfl
 |_::_,_,l,h,.cons r t=>by
  cases r with
  |int k n=>
   cases k<;>simp only [Bv] at h<;>try (cases h;done)
   split at h
   ·rename_i l' hl;rw [EO hl t]
   ·cases h
  |_=>simp [Bv] at h
theorem Hw{m:Inj P}:∀ {cs cs':List Value} {l:List UInt8},CJ cs=some l→AJ m cs cs'→cs'=cs
 |[],_,_,_,.nil=>rfl
 |_::_,_,l,h,.cons r t=>by
  cases r with
  |int k n=>
   cases k<;>simp only [CJ] at h<;>try (cases h;done)
   split at h
   ·rename_i l' hl;rw [Hw hl t]
   ·cases h
  |_=>simp [CJ] at h
theorem Lb(f:Value→ByteArray→Sem (ForInStep ByteArray))(hf:∀ n s,f (.int .u8 n) s=pure (.yield (s.push (UInt8.ofNat n.toNat)))):∀ (cs:List Value) (l:List UInt8) (acc:ByteArray) (w:World),Bv cs=some l→
  (forIn cs acc f:Sem ByteArray).run P w=.ok ⟨acc.data++l.toArray⟩ w
 |[],l,acc,w,h=>by
  simp only [Bv,Oi] at h;subst h
  simp
 |c::cs,l,acc,w,h=>by
  cases c<;>try (simp [Bv] at h;done)
  rename_i k n;cases k<;>try (simp [Bv] at h;done)
  simp only [Bv] at h;split at h
  ·rename_i l' hl;simp only [Oi] at h;subst h;simp only [List.forIn_cons,hf,Sem.run_bind,Sem.run_pure,Result.andThen_ok];rw [Lb f hf cs l' _ w hl]
   congr 2
   apply Array.ext';simp [ByteArray.push]
  ·cases h
end
variable {A A':AW} {w:World} {e:TypeId} {s:ByteArray} {b:Nat}
section
variable {P:Program}
theorem PZ(a:Array Obj)(x:Obj)(f:Obj→Obj):(a.push x).modify a.size f=a.push (f x):=by
 apply Array.ext_getElem?;intro i;rw [Array.getElem?_modify];rcases Nat.lt_trichotomy i a.size with h | h | h
 ·rw [Ff (by omega),Array.getElem?_push,Array.getElem?_push,Ff (by omega),Ff (by omega)]
 ·subst h;simp
 ·rw [Ff (by omega),Array.getElem?_push,Array.getElem?_push,Ff (by omega),Ff (by omega)]
theorem PM(w:World)(cs:Array Value)(e:TypeId):
  (markStringish ⟨w.heap.size,0,none⟩).run P { w with heap:=w.heap.push (.cells cs e) }=.ok () { w with heap:=w.heap.push (.cells cs e (cs.size,cs.size+1)) }:=by
 have hsh:({ w with heap:=w.heap.push (.cells cs e) }:World).shape? w.heap.size=some (e,cs.size):=by simp [World.shape?]
 simp only [markStringish,Sem.run_bind,run_shape,hsh,Result.andThen_ok,run_freeze]
 congr 1
 simp only [World.freeze];rw [Ff (by omega)];simp only [PZ]
 simp
theorem PO{m:Inj P}{l l':List Value}(h:AJ m l l')(rest:Array Value)(fr:Nat × Nat)(hf:l.length≤fr.1):Gf m 0 l false (l'.toArray++rest) fr:=by
 intro i v hv;have hi:i<l.length:=(Gs.1 hv).1;obtain ⟨v',h1,h2⟩:=h.get hv;refine ⟨v',?_,fun _=>h2,fun _=>by omega⟩;rw [Nat.zero_add,Array.getElem?_append_left (by simp [h.length];exact hi)]
 simpa using h1
theorem Kc {m:Inj P} (r:Rel m A w) (hs1:szT P e=some 1)
  (h:A.new (.row (s.data.toList.map fun b=>.int .u8 b.toNat) e A.next 0 false)=some (b,A')):
  ∃ v' w' m',(Conv.stringToBytes e s).run P w=.ok v' w'∧Ev m A w m' A' w'∧AI m' (.slice (some ⟨b,0,none⟩) s.data.toList.length (Bo+s.data.toList.length)) v':=by
 have r1:Rel m A { w with drawn:=w.drawn+1 }:=r.congr rfl;have hf:(Question.appendCap s.size 0 e).forced=false:=rfl;have hcut:=GK s.size 0 e (w.tape w.drawn (.appendCap s.size 0 e));have hsz:=Lib.size_eq s;generalize hcap:(Question.appendCap s.size 0 e).cut (w.tape w.drawn (.appendCap s.size 0 e))=cap at *;have harr:(s.data.map fun b=>Value.int .u8 b.toNat)=(s.data.toList.map fun b=>Value.int .u8 (b.toNat:Int)).toArray:=by
  apply Array.ext';simp
 have hsize:((s.data.toList.map fun b=>Value.int .u8 (b.toNat:Int)).toArray++Array.replicate (cap-s.size) (Value.int .u8 0)).size=cap:=by
  simp only [Array.size_append,List.size_toArray,List.length_map,Array.size_replicate];omega
 have hrel:AJ m (s.data.toList.map fun b=>Value.int .u8 (b.toNat:Int)) (s.data.toList.map fun b=>Value.int .u8 (b.toNat:Int)):=AJ.map _ _ (fun b=>.int _ _) _;have hor:G4 m 0 (.row (s.data.toList.map fun b=>.int .u8 (b.toNat:Int)) e A.next 0 false) (.cells ((s.data.toList.map fun b=>Value.int .u8 (b.toNat:Int)).toArray++Array.replicate (cap-s.size) (Value.int .u8 0)) e (cap,cap+1)):=
  ⟨_,_,rfl,PO hrel _ _ (by simp only [List.length_map];omega)⟩
 obtain ⟨rfl,_,hev⟩:=Ev.new r1 h hor (fun f b hf=>by simp [AO.fam] at hf;exact hf.1.symm) (R:=cap) (el:=e) (st:=1) (fun _=>hs1)
  (fun csx ex fx bx rox hx=>by cases hx;exact ⟨fun _=>rfl,_,_,_,rfl,by omega,fun _ j hj=>by simp;omega⟩)
 refine ⟨.slice (some ⟨w.heap.size,0,none⟩) s.size cap,_,_,?_,(Ev.drawn r _ (Nat.le_succ _)).trans hev,?_⟩
 ·simp only [Conv.stringToBytes,Sem.run_bind,run_choose,hf,Bool.false_eq_true,if_false,hcap,Result.andThen_ok,Ci,harr]
  have:=PM (P:=P) { w with drawn:=w.drawn+1 } ((s.data.toList.map fun b=>Value.int .u8 (b.toNat:Int)).toArray++Array.replicate (cap-s.size) (Value.int .u8 0)) e
  rw [hsize] at this;simp only at this;rw [this];rfl
 ·rw [← hsz];exact .slice (.inr ⟨by omega,by omega,by simp only [Inj.CQ,Inj.Kx];omega,fun hp=>by simp only [Inj.CQ];omega,_,Inj.Bs⟩) hcut (fun _=>⟨rfl,rfl,_,Inj.Bs,rfl⟩)
theorem Kb {m:Inj P} (r:Rel m A w) (hs1:szT P e=some 1)
  (h:A.new (.row (Ei s s.data.toList.length 0) e A.next 0 false)=some (b,A')):
  ∃ v' w' m',(Conv.stringToRunes e s).run P w=.ok v' w'∧Ev m A w m' A' w'∧AI m' (.slice (some ⟨b,0,none⟩) (Ei s s.data.toList.length 0).length (Bo+(Ei s s.data.toList.length 0).length)) v':=by
 have r1:Rel m A { w with drawn:=w.drawn+1 }:=r.congr rfl;generalize hL:Ei s s.data.toList.length 0=L at *;have helems:Conv.runesFrom s s.size 0 #[]=L.toArray:=by
  rw [JB,Lib.size_eq,hL];simp
 have hclosed:∀ (b i:Nat),∀ v∈Ei s b i,AG 1 v=true:=by
  intro b
  induction b with
  |zero=>intro i v hv;simp [Ei] at hv
  |succ b ih=>
   intro i v hv;simp only [Ei] at hv;cases hb:Nat.blt i s.data.toList.length with
   |false=>rw [hb] at hv;simp at hv
   |true=>
    rw [hb,Ct] at hv;rcases Mk.1 hv with rfl | hv
    ·rfl
    ·exact ih _ v hv
 have hrel:AJ m L L:=AJ.De fun v hv=>BP 1 v (hclosed _ _ v (by rw [hL];exact hv));have hf:(Question.appendCap L.length 0 e).forced=false:=rfl;have hcut:=GK L.length 0 e (w.tape w.drawn (.appendCap L.length 0 e));generalize hcap:(Question.appendCap L.length 0 e).cut (w.tape w.drawn (.appendCap L.length 0 e))=cap at *;have hor:G4 m 0 (.row L e A.next 0 false) (.cells (L.toArray++Array.replicate (cap-L.length) (Value.int .i32 0)) e (0,0)):=by
  refine ⟨_,_,rfl,?_⟩;intro i v hv;have hi:i<L.length:=(Gs.1 hv).1;obtain ⟨v',h1,h2⟩:=hrel.get hv;refine ⟨v',?_,fun _=>h2,fun _=>by simp⟩;rw [Nat.zero_add,Array.getElem?_append_left (by simpa using hi)]
  simpa using h1
 obtain ⟨rfl,_,hev⟩:=Ev.new r1 h hor (fun f b hf=>by simp [AO.fam] at hf;exact hf.1.symm) (R:=cap) (el:=e) (st:=1) (fun _=>hs1)
  (fun csx ex fx bx rox hx=>by cases hx;exact ⟨fun _=>rfl,_,_,_,rfl,by simp;omega,fun _ j hj=>by simp⟩)
 refine ⟨.slice (some ⟨w.heap.size,0,none⟩) L.length cap,_,_,?_,(Ev.drawn r _ (Nat.le_succ _)).trans hev,?_⟩
 ·simp only [Conv.stringToRunes,helems,List.size_toArray,Sem.run_bind,run_choose,hf,Bool.false_eq_true,if_false,hcap,Result.andThen_ok,Ci];rfl
 ·exact .slice (.inr ⟨by omega,by omega,by simp only [Inj.CQ,Inj.Kx];omega,fun hp=>by simp only [Inj.CQ];omega,_,Inj.Bs⟩) hcut (fun _=>⟨rfl,rfl,_,Inj.Bs,rfl⟩)
end
variable {A:AW} {w:World} {x x':Value}
section
variable {P:Program}
theorem La(f:Value→ByteArray→Sem (ForInStep ByteArray))(hf:∀ n s,f (.int .i32 n) s=pure (.yield (s++Utf8.encode n))):∀ (cs:List Value) (l:List UInt8) (acc:ByteArray) (w:World),CJ cs=some l→
  (forIn cs acc f:Sem ByteArray).run P w=.ok ⟨acc.data++l.toArray⟩ w
 |[],l,acc,w,h=>by
  simp only [CJ,Oi] at h;subst h
  simp
 |c::cs,l,acc,w,h=>by
  cases c<;>try (simp [CJ] at h;done)
  rename_i k n;cases k<;>try (simp [CJ] at h;done)
  simp only [CJ] at h;split at h
  ·rename_i l' hl;simp only [Oi] at h;subst h;simp only [List.forIn_cons,hf,Sem.run_bind,Sem.run_pure,Result.andThen_ok];rw [La f hf cs l' _ w hl,Lk]
   congr 2
   apply Array.ext'
   simp
  ·cases h
theorem Md(w:World)(c:Nat)(cs:Array Value)(e:TypeId)(fr:Nat × Nat)(h:w.heap[c]? =some (.cells cs e fr)):(viewAt c).run P w=.ok none w:=by
 simp [viewAt,World.shape?,h]
theorem P8(p:Program):∀ (d:Nat) (e:TypeId) (c c' off:Nat) (u:TypeId) (n:Nat),c≤c'→liesAt p d e c off u n=true→liesAt p d e c' off u n=true:=by
 have hrow:∀ (f:TypeId→Bool) (d:Nat) (e:TypeId) (c c' off n:Nat),c≤c'→rowAt p f d e c off n=true→rowAt p f d e c' off n=true:=by
  intro f d;cases d with
  |zero=>intro e c c' off n hc h;simp [rowAt] at h
  |succ d=>
   intro e c c' off n hc h;simp only [rowAt] at h ⊢;split at h
   ·cases h
   ·rename_i hs;rw [Ff hs];simp only [Bool.or_eq_true,Bq,decide_eq_true_eq] at h ⊢;rcases h with ⟨⟨h1,h2⟩,h3⟩ | ⟨h1,h2⟩
    ·exact .inl ⟨⟨h1,by omega⟩,h3⟩
    ·exact .inr ⟨by omega,h2⟩
 intro d
 induction d with
 |zero=>intro e c c' off u n hc h;simp [liesAt] at h
 |succ d ih=>
  intro e c c' off u n hc h;simp only [liesAt,Bool.or_eq_true] at h ⊢;rcases h with h | h
  ·exact .inl (hrow _ _ _ _ _ _ _ hc h)
  ·refine .inr ?_;split at h
   ·exact ih _ _ _ _ _ _ hc h
   ·cases h
theorem Rel.SF{m:Inj P}(r:Rel m A w){i:Nat}{cs:List Value}{e f b:Nat}{ro:Bool}(hg:A.get i=some (.row cs e f b ro)){c d:Nat}(hm:m i=some (c,d)):
  ∃ cs' fr,w.heap[c]? =some (.cells cs' e fr)∧(0<cs.length→d+cs.length≤cs'.size):=by
 obtain ⟨c0,d0,o',g1,g2,cs',fr,rfl,hr⟩:=r.EE hg hm;rw [hm] at g1;simp only [Oi,Pj] at g1;obtain ⟨rfl,rfl⟩:=g1;refine ⟨cs',fr,g2,fun hp=>?_⟩;obtain ⟨v',h1,_⟩:=hr (cs.length-1) _ (Ge (by omega))
 have:=(Array.getElem?_eq_some_iff.1 h1).1
 omega
theorem NM{m:Inj P}(r:Rel m A w){src dst:TypeId}(hx:AI m x x'):Uf P m A w AI (AK P A src dst x) (convert src dst x'):=by
 unfold AK;split
 ·rename_i d k k0 n hs hd;cases hx;refine ⟨_,w,m,?_,.refl r,.int _ _⟩;cases d<;>simp [convert,run_underlying hs,run_underlying hd,Conv.intToInt]
 ·rename_i d k n hs hd;cases hx;refine ⟨_,w,m,?_,.refl r,.string _⟩;cases d<;>simp [convert,run_underlying hs,run_underlying hd,Conv.intToString]
 ·rename_i d s hs hd;cases hx;refine ⟨_,w,m,?_,.refl r,.string _⟩;cases d<;>simp [convert,run_underlying hs,run_underlying hd]
 ·rename_i e s hs hd;cases hx;split
  ·rename_i he h1;split
   rotate_left
   ·trivial
   rename_i b A' hn;obtain ⟨v',w',m',g1,g2,g3⟩:=Kc r h1 hn;exact ⟨v',w',m',by simp [convert,run_underlying hs,run_underlying hd,run_underlying he,g1],g2,g3⟩
  ·rename_i he h1;split
   rotate_left
   ·trivial
   rename_i b A' hn;obtain ⟨v',w',m',g1,g2,g3⟩:=Kb r h1 hn;exact ⟨v',w',m',by simp [convert,run_underlying hs,run_underlying hd,run_underlying he,g1],g2,g3⟩
  ·trivial
 ·rename_i e n c hs hd;cases hx;split
  ·rename_i he;exact ⟨_,w,m,by simp [convert,run_underlying hs,run_underlying hd,run_underlying he,Conv.bytesToString],.refl r,.string _⟩
  ·rename_i he;exact ⟨_,w,m,by simp [convert,run_underlying hs,run_underlying hd,run_underlying he,Conv.runesToString],.refl r,.string _⟩
  ·trivial
 ·rename_i e a n c hs hd;cases hx with
  |slice hc hn ha=>
   rename_i a' c';have hcells:∀ {cs:List Value},A.cells? a n=some cs→cs.length=n∧∃ cs',AJ m cs cs'∧(loadCells a' n).run P w=.ok ⟨cs'⟩ w:=by
    intro cs hcs;obtain ⟨h1,l',h3,h4⟩:=r.cells hcs (fun hp=>ha (by omega));exact ⟨h1,l',h3,Dz rfl h4 (by rw [h3.length,h1])⟩
   split
   ·rename_i cs he hcs;obtain ⟨h1,cs',h2,h3⟩:=hcells hcs;split
    rotate_left
    ·trivial
    rename_i l hl;rw [EO hl h2] at h3;refine ⟨_,w,m,?_,.refl r,.string _⟩;simp [convert,run_underlying hs,run_underlying hd,run_underlying he,Conv.bytesToString,h3];rw [Lb _ (fun _ _=>rfl) cs l .empty w hl]
    simp
   ·rename_i cs he hcs;obtain ⟨h1,cs',h2,h3⟩:=hcells hcs;split
    rotate_left
    ·trivial
    rename_i l hl;rw [Hw hl h2] at h3;refine ⟨_,w,m,?_,.refl r,.string _⟩;simp [convert,run_underlying hs,run_underlying hd,run_underlying he,Conv.runesToString,h3];rw [La _ (fun _ _=>rfl) cs l .empty w hl]
    simp
   ·trivial
 ·rename_i t hs hd;cases hx;exact ⟨_,w,m,by simp [convert,run_underlying hs,run_underlying hd,Conv.unsafePointer],.refl r,.ptrNil⟩
 ·rename_i t a hs hd;cases hx with
  |ptr ha=>
   rename_i a';split
   rotate_left
   ·trivial
   rename_i k cs e f b ro hk hsp hg;cases hb:Nat.blt a.off cs.length with
   |false=>simp only [Cf];trivial
   |true=>
    simp only [Ct];have hb:=Ax.1 hb;obtain ⟨_,hs',d,hm,ho⟩:=ha;obtain ⟨cs',fr,hh,hsz⟩:=r.SF hg hm;have hsz:=hsz (by omega);refine ⟨_,w,m,?_,.refl r,.ptr ⟨hsp,hs',d,hm,ho⟩⟩;have hsh:w.shape? a'.block=some (e,cs'.size):=by simp [World.shape?,hh]
    have hno:¬ (cs'.size≤a'.off):=by omega
    simp [convert,run_underlying hs,run_underlying hd,Conv.unsafePointer,Conv.seenAt,Md w _ _ _ _ hh,cellsIn,hsh,Bg hk,hs',hno]
 ·rename_i t hs hd;cases hx;exact ⟨_,w,m,by simp [convert,run_underlying hs,run_underlying hd,Conv.unsafePointer],.refl r,.ptrNil⟩
 ·rename_i t a hs hd;cases hx with
  |ptr ha=>
   rename_i a';split
   rotate_left
   ·trivial
   rename_i cs e f b ro su hsp hg hsu;cases hb:(Nat.beq f a.block&&liesAt P P.depth e (cs.length/P.cellsOf e) a.off t 1) with
   |false=>simp only [Cf];trivial
   |true=>
    simp only [Ct];simp only [Bq] at hb;have hf:=beq_true.1 hb.1;subst hf;obtain ⟨_,hs',d,hm,ho⟩:=ha;obtain ⟨cs',fr,hh,hsz⟩:=r.SF hg hm;have hd0:=r.home _ _ _ _ _ hg _ _ hm;subst hd0;refine ⟨_,w,m,?_,.refl r,.ptr ⟨hsp,hs',0,hm,ho⟩⟩;have hsh:w.shape? a'.block=some (e,cs'.size):=by simp [World.shape?,hh]
    have hle:cs.length/P.cellsOf e≤cs'.size/P.cellsOf e:=by
     apply Nat.div_le_div_right;rcases Nat.eq_zero_or_pos cs.length with h0 | h0
     ·omega
     ·have:=hsz h0;omega
    have hli:=P8 P P.depth e _ _ a.off t 1 hle hb.2;have ho':a'.off=a.off:=by omega
    have hva:(variablesAt a' t 1).run P w=.ok true w:=by
     simp [variablesAt,hsh,ho',hli]
    simp [convert,run_underlying hs,run_underlying hd,Conv.unsafePointer,Conv.seenAt,Md w _ _ _ _ hh,Bg hsu,hva]
 ·trivial
theorem Ka{m:Inj P}{xt at_:TypeId}{ok:Bool}(hx:AI m x x')(w:World):Gg P m w (Gj P x xt at_ ok) (Instr.typeAssert x' xt at_ ok):=by
 intro v h;have hholds:∀ {y y':Value},AI m y y'→AI m (bif ok then .tuple #[y,.bool true] else y) (if ok then .tuple #[y',.bool true] else y'):=by
  intro y y' hy;cases ok
  ·exact hy
  ·exact .HJ hy (.bool true)
 unfold Gj at h;simp only at h;split at h
 ·rename_i ms hu;cases hx;cases ok with
  |false=>cases h
  |true=>
   simp only [Ct] at h;split at h
   ·rename_i z hz;simp only [Oi] at h;subst h;exact ⟨_,by simp [Instr.typeAssert,run_underlying hu,Bl hz],.HJ (BP 4 z (Cr hz).2) (.bool false)⟩
   ·cases h
 ·rename_i want t v0 hu;cases hx with
  |iface _ hv=>
   split at h
   ·rename_i i hi;split at h
    ·rename_i hm;simp only [Oi] at h;subst h;exact ⟨_,by simp [Instr.typeAssert,run_underlying hu,Bz hi,hm],hholds (.iface t hv)⟩
    ·rename_i mm hm;cases ok with
     |false=>cases h
     |true=>
      simp only [Ct] at h;split at h
      ·rename_i z hz;simp only [Oi] at h;subst h;exact ⟨_,by simp [Instr.typeAssert,run_underlying hu,Bz hi,hm,Bl hz],.HJ (BP 4 z (Cr hz).2) (.bool false)⟩
      ·cases h
   ·cases h
 ·rename_i d hne hu;cases hx;cases ok with
  |false=>cases h
  |true=>
   simp only [Ct] at h;split at h
   ·rename_i z hz;simp only [Oi] at h;subst h;refine ⟨_,?_,.HJ (BP 4 z (Cr hz).2) (.bool false)⟩;cases d<;>simp [Instr.typeAssert,run_underlying hu,Bl hz]<;>rfl
   ·cases h
 ·rename_i d t v0 hne hu;cases hx with
  |iface _ hv=>
   have hne':∀ ms,d≠ .interface ms:=fun ms e=>by subst e;exact hne _ rfl
   cases hb:Nat.beq t at_ with
   |true=>
    have hb':=beq_true.1 hb;rw [hb,Ct] at h;simp only [Oi] at h;subst h;refine ⟨_,?_,hholds hv⟩;cases d<;>first | (exact absurd rfl (hne' _)) | (simp [Instr.typeAssert,run_underlying hu,hb']<;>rfl)
   |false=>
    have hb':=beq_false.1 hb;rw [hb,Cf] at h;cases ok with
    |false=>cases h
    |true=>
     simp only [Ct] at h;split at h
     ·rename_i z hz;simp only [Oi] at h;subst h;refine ⟨_,?_,.HJ (BP 4 z (Cr hz).2) (.bool false)⟩;cases d<;>first | (exact absurd rfl (hne' _)) | (simp [Instr.typeAssert,run_underlying hu,hb',Bl hz]<;>rfl)
     ·cases h
 ·cases h
 ·cases h
end
variable {A A':AW} {w:World} {why:String} {x x':Value}
section
variable {P:Program}
def Afy(m:Inj P):AN→Next→Prop
 |.value v,n=>∃ v',n=.value v'∧AI m v v'
 |.skip,n=>n=.skip
 |.enter f args,n=>∃ args',n=.enter f ⟨args'⟩∧AJ m args args'
 |.round l fn tm assign body,n=>∃ l' tmps',n=.round l' fn tmps' assign body∧m l=some (l',0)∧Db m tm tmps'∧codeOk P assign=true∧codeOk P body=true
 |.defer d,n=>∃ d',n=.defer d'∧QS m d d'
 |.recover,n=>n=.recover
 |.rangeNext _,_=>True
def Bd(P:Program)(m:Inj P)(A:AW)(w:World)(r:R AN)(s:Sem Next):Prop:=
 match r with
 |.ok (.rangeNext _) _=>True
 |.ok n A'=>∃ n' w' m',s.run P w=.ok n' w'∧Ev m A w m' A' w'∧Afy m' n n'
 |.panic v A'=>∃ v' w' m',s.run P w=.halt (.panic v') w'∧Ev m A w m' A' w'∧AI m' v v'
 |.fail _=>True
theorem Bd.Mx{m:Inj P}{r:R Value}{s:Sem Value}(h:Uf P m A w AI r s):
  Bd P m A w (match (generalizing:=false) r with | .ok v w=>.ok (.value v) w | .panic v w=>.panic v w | .fail y=>.fail y) (do pure (.value (← s))):=by
 cases r with
 |ok v A'=>
  obtain ⟨v',w',m',h1,h2,h3⟩:=h;exact ⟨.value v',w',m',by simp [h1],h2,v',rfl,h3⟩
 |panic v A'=>
  obtain ⟨v',w',m',h1,h2,h3⟩:=h;exact ⟨v',w',m',by simp [h1],h2,h3⟩
 |fail y=>trivial
theorem Bd.DA{m:Inj P}(r:Rel m A w){o:Option Value}{s:Sem Value}{why:String}(h:Gg P m w o s):
  Bd P m A w (match (generalizing:=false) o with | some v=>.ok (.value v) A | none=>.fail why) (do pure (.value (← s))):=by
 cases o with
 |none=>trivial
 |some v=>
  obtain ⟨v',h1,h2⟩:=h v rfl;exact ⟨.value v',w,m,by simp [h1],.refl r,v',rfl,h2⟩
theorem Bd.LI{m:Inj P}{o:Option AW}{s:Sem Unit}{why:String}(h:∀ A',o=some A'→∃ w',s.run P w=.ok () w'∧∃ m',Ev m A w m' A' w'):
  Bd P m A w (match (generalizing:=false) o with | some A'=>.ok .skip A' | none=>.fail why) (do s;pure .skip):=by
 cases o with
 |none=>trivial
 |some A'=>
  obtain ⟨w',h1,m',h2⟩:=h A' rfl;exact ⟨.skip,w',m',by simp [h1],h2,rfl⟩
theorem Bd.Rz{m:Inj P}{v:Value}{s:Sem Value}(h:∃ v' w' m',s.run P w=.ok v' w'∧Ev m A w m' A' w'∧AI m' v v'):
  Bd P m A w (.ok (.value v) A') (do pure (.value (← s))):=by
 obtain ⟨v',w',m',h1,h2,h3⟩:=h;exact ⟨.value v',w',m',by simp [h1],h2,v',rfl,h3⟩
theorem Dh{m:Inj P}(r:Rel m A w){o:AO}{o':Obj}{b:Nat}(h:A.new o=some (b,A'))(hr:G4 m 0 o o')(hf:o.fam=none):
  ∃ m',Ev m A w m' A' { w with heap:=w.heap.push o' }∧m' b=some (w.heap.size,0):=by
 obtain ⟨rfl,_,h3⟩:=Ev.new r h hr (fun f b hfb=>by rw [hf] at hfb;cases hfb) (R:=0) (el:=0) (st:=0) (fun h=>absurd rfl h) (fun cs e f b ro he=>by subst he;simp [AO.fam] at hf);exact ⟨_,h3,Inj.Bs⟩
theorem N7:∀ l:List Nat,Jg l=l.getLast?
 |[]=>rfl
 |[x]=>rfl
 |x::y::r=>by
  rw [show Jg (x::y::r)=Jg (y::r) from rfl,N7 (y::r)]
  simp
theorem IW{m:Inj P}{n:Nat}:∀ {es es':List MapEntry} {i j:Nat} {e:MapEntry},BK (EU m) es es'→DK n es i=some j→es[j-i]? =some e→∃ e',es'.find? (·.born==n)=some e'∧EU m e e'
 |_,_,i,j,e,.nil,h,_=>by simp [DK] at h
 |_,_,i,j,e,.cons (a:=x) (b:=x') he ht,h,hj=>by
  simp only [DK] at h;cases hb:Nat.beq x.born n with
  |true=>
   rw [hb,Ct] at h;simp only [Oi] at h;subst h;have hb:=beq_true.1 hb;simp at hj;subst hj;exact ⟨x',by simp [he.born,hb],he⟩
  |false=>
   rw [hb,Cf] at h;have hb:=beq_false.1 hb;have hle:=(FU ht h).1;rw [show j-i=(j-(i+1))+1 by omega] at hj;obtain ⟨e',h1,h2⟩:=IW ht h (by simpa using hj);refine ⟨e',?_,h2⟩;rw [List.find?_cons_of_neg (by simp [he.born,hb])];exact h1
theorem Qw{m:Inj P}(r:Rel m A w)(hx:AI m x x'):Gg P m w (KE A x) (Instr.entry x'):=by
 intro v h;unfold KE at h;split at h
 ·rename_i rr sp;cases hx with
  |ptr ha=>
   rename_i a';obtain ⟨hs,hs',d,hm,ho⟩:=ha;simp only at hs hm ho;split at h
   ·rename_i i since seen stepped hg;obtain ⟨c0,d0,o',g1,g2,g3,r',rfl,g4⟩:=r.EE hg hm;rw [hm] at g1;simp only [Oi,Pj] at g1;obtain ⟨rfl,rfl⟩:=g1;subst g3;split at h
    ·rename_i stamp es clock ro hst hgm;obtain ⟨c1,d1,o1,k1,k2,k3,es',rfl,k4⟩:=r.EE hgm g4;rw [g4] at k1;simp only [Oi,Pj] at k1;obtain ⟨rfl,_⟩:=k1;cases hb:Nat.beq clock stepped with
     |false=>rw [hb] at h;cases h
     |true=>
      rw [hb,Ct] at h;have hb:=beq_true.1 hb;split at h
      ·rename_i j hj;split at h
       ·rename_i e hej;simp only [Oi] at h;subst h;obtain ⟨ab,ao,asp⟩:=a';simp only at hs' hm ho g2;subst hs';simp only [Nat.add_zero] at ho;subst ho;obtain ⟨e',q1,q2⟩:=IW k4 hj (by simpa using hej);refine ⟨_,?_,.HJ q2.key q2.val⟩;have hback:(⟨seen⟩:Array Nat).back? =some stamp:=by
         rw [N7] at hst
         simpa using hst
        subst hb;simp [Instr.entry,Be P w ab _ g2,hback,Be P w _ _ k2,q1]
       ·cases h
      ·cases h
    ·cases h
   ·cases h
 ·cases h
theorem Nx{m:Inj P}(r:Rel m A w){isS:Bool}{ty:TypeId}(hx:AI m x x'):Bd P m A w (MA A x isS) (do pure (.value (← Instr.next x' isS ty))):=by
 unfold MA;split
 rotate_left
 ·trivial
 rename_i rr sp;cases hx with
 |ptr ha=>
  rename_i a';obtain ⟨hs,hs',d,hm,ho⟩:=ha;simp only at hs hm ho;obtain ⟨ab,ao,asp⟩:=a';simp only at hs' hm ho;subst hs';split
  ·rename_i s pos hg;obtain ⟨c0,d0,o',g1,g2,g3⟩:=r.EE hg hm;rw [hm] at g1;simp only [Oi,Pj] at g1;obtain ⟨rfl,rfl⟩:=g1;obtain ⟨rfl,rfl⟩:=g3;simp only [Nat.add_zero] at ho;subst ho;cases hb:Nat.blt pos s.data.toList.length with
   |true=>
    have hb':=Ax.1 hb;rw [← Lib.size_eq] at hb';simp only [Ct];refine ⟨_,_,m,?_,Ev.Ek r hg rfl rfl hm g2 (o2:=.sit s (pos+(Utf8.decode s pos).2)) ⟨rfl,rfl⟩ rfl rfl,_,rfl,.tuple (.cons (.bool true) (.cons (.int _ _) (.cons (.int _ _) .nil)))⟩;simp only [Instr.next,Sem.run_bind,Be P w ab _ g2 (by simp),Result.andThen_ok,if_pos hb',BM P w ab _ _ g2 (by simp)];rfl
   |false=>
    have hb':=EQ.1 hb;rw [← Lib.size_eq] at hb';simp only [Cf];refine ⟨_,w,m,?_,.refl r,_,rfl,.tuple (.cons (.bool false) .nil)⟩;simp only [Instr.next,Sem.run_bind,Be P w ab _ g2 (by simp),Result.andThen_ok,Ff (show ¬ pos<s.size by omega)];rfl
  ·rename_i hg;rename_i since seen stepped;obtain ⟨c0,d0,o',g1,g2,g3⟩:=r.EE hg hm;rw [hm] at g1;simp only [Oi,Pj] at g1;obtain ⟨rfl,rfl⟩:=g1;obtain ⟨rfl,rfl⟩:=g3;simp only [Nat.add_zero] at ho;subst ho;refine ⟨_,w,m,?_,.refl r,_,rfl,.tuple (.cons (.bool false) .nil)⟩;simp only [Instr.next,Sem.run_bind,Be P w ab _ g2 (by simp),Result.andThen_ok];rfl
  ·trivial
  ·trivial
end
section
variable {P:Program}
structure XOk (P:Program) (X:Bc):Prop where
 clone:∀ f,Em f X.clone=true→∃ fn,P.funcs[f]? =some fn∧fn.body=none∧(fn.name== "runtime.NumGoroutine")=false∧Extern.findNext fn=none∧Extern.find fn=some Extern.MapsClone.clone
 noEscape:∀ f,Em f X.noEscape=true→∃ fn,P.funcs[f]? =some fn∧fn.body=none∧(fn.name== "runtime.NumGoroutine")=false∧Extern.findNext fn=none∧Extern.find fn=some Extern.AbiNoEscape.same
 noZero:∀ f,Em f X.noZero=true→∃ fn,P.funcs[f]? =some fn∧fn.body=none∧(fn.name== "runtime.NumGoroutine")=false∧Extern.findNext fn=none∧Extern.find fn=some (Extern.BytealgMakeNoZero.makeNoZero fn.params fn.resultTypes)∧fn.resultTypes.size=1
theorem I9 {f:FuncId} {fn:Func} {e:Array Value→Sem Value} (hf:P.funcs[f]? =some fn) (hb:fn.body=none) (hn:(fn.name== "runtime.NumGoroutine")=false) (h1:Extern.findNext fn=none) (h2:Extern.find fn=some e)
  (args:Array Value) (w:World):(callFunc f args).run P w=((e args).run P w).andThen fun v w'=>.ok (.value v) w':=by
 simp only [callFunc,Sem.run_bind,run_program,Result.andThen_ok,hf,hn,hb,Option.isNone_none,if_true,Bool.false_eq_true,if_false,run_mark,h1,h2,Sem.run_pure]
theorem Tp{f:FuncId}(h:IA P f=true)(args:Array Value)(w:World):(callFunc f args).run P w=.ok (.enter f args) w:=by
 unfold IA at h;split at h
 ·rename_i fn hf;simp only [Bq,Bool.not_eq_true'] at h;have hb:fn.body.isNone=false:=by cases hq:fn.body<;>simp_all
  simp only [callFunc,Sem.run_bind,run_program,Result.andThen_ok,hf,h.2,hb,Bool.false_eq_true,if_false,Sem.run_pure]
 ·cases h
theorem AJ.TX{m:Inj P}{l l':List Value}(h:AJ m l l')(hc:l.all (AG 4)=true):l'=l:=
 AJ.Oc h fun v hv v' hr=>D7 4 v v' (List.all_eq_true.1 hc v hv) hr
theorem KU:∀ (n i:Nat) (v:Value),(Hf n)[i]? =some v→i<n∧isTuple v=true
 |0,i,v,h=>by simp [Hf] at h
 |n+1,0,v,h=>by simp [Hf] at h;subst h;exact ⟨by omega,rfl⟩
 |n+1,i+1,v,h=>by
  simp [Hf] at h;obtain ⟨h1,h2⟩:=KU n i v h;exact ⟨by omega,h2⟩
theorem Tq{es:Array MapEntry}{clock:Nat}(w:World)(t:TypeId)(c:Nat)(hc:w.heap[c]? =some (.map es clock)):
  (Extern.MapsClone.clone ⟨[.iface t (.map (some c))]⟩).run P w=.ok (.iface t (.map (some w.heap.size))) (w.alloc (.map es clock)):=by
 refine (show Sem.run P (getObj c >>=_) w=_ from ?_);rw [Sem.run_bind,Be P w c _ hc (fun _ _ _ h=>by cases h),Result.andThen_ok];rfl
theorem Gc{X:Bc}(hX:XOk P X){m:Inj P}{A:AW}{w:World}(r:Rel m A w){f:FuncId}{args args':List Value}(ha:AJ m args args'):
  Bd P m A w (C9 P X A f args) (callFunc f ⟨args'⟩):=by
 unfold C9;cases hb:IA P f with
 |true=>exact ⟨_,w,m,Tp hb _ w,.refl r,args',rfl,ha⟩
 |false=>
  simp only [Cf];cases hcl:Em f X.clone with
  |true=>
   simp only [Ct];split
   rotate_left
   ·trivial
   rename_i t i;obtain ⟨fn,h1,h2,h3,h4,h5⟩:=hX.clone f hcl;cases ha with
   |cons hv ht=>
    cases ht;cases hv with
    |iface _ hv=>
     split
     rotate_left
     ·trivial
     rename_i es clock ro hg;obtain ⟨c,es',rfl,hm,hc,he⟩:=r.map hg hv;split
     rotate_left
     ·trivial
     rename_i b A' hn;obtain ⟨m',g1,g2⟩:=Dh (o':=.map ⟨es'⟩ clock) r hn ⟨rfl,es',rfl,he⟩ rfl;refine ⟨_,_,m',?_,g1,_,rfl,.iface t (.map g2)⟩;rw [I9 h1 h2 h3 h4 h5,Tq w t c hc];rfl
  |false=>
   simp only [Cf];cases hne:Em f X.noEscape with
   |true=>
    simp only [Ct];split
    rotate_left
    ·trivial
    rename_i x;obtain ⟨fn,h1,h2,h3,h4,h5⟩:=hX.noEscape f hne;cases ha with
    |cons hv ht=>
     cases ht;refine ⟨_,w,m,?_,.refl r,_,rfl,hv⟩;rw [I9 h1 h2 h3 h4 h5];rfl
   |false=>
    simp only [Cf];cases hnz:Em f X.noZero with
    |true=>
     simp only [Ct];split
     rotate_left
     ·trivial
     rename_i n e he;obtain ⟨fn,h1,h2,h3,h4,h5,h6⟩:=hX.noZero f hnz;cases hq:(Nat.blt n room&&(match szT P e with | some 1=>true | _=>false)) with
     |false=>simp only [Cf];trivial
     |true=>
      simp only [Ct];simp only [Bq] at hq;have hn1:=Ax.1 hq.1;unfold room at hn1;have hs1:szT P e=some 1:=by
       have:=hq.2
       split at this
       ·assumption
       ·cases this
      split
      rotate_left
      ·trivial
      rename_i b A' hn;cases ha with
      |cons hv ht=>
       cases ht;cases hv;rw [h1] at he;simp only [Option.bind_some] at he;obtain ⟨t0,ht0,hte⟩:∃ t0,fn.resultTypes=#[t0]∧Bt P t0=some e:=by
        obtain ⟨t0,h7⟩:=Array.size_eq_one_iff.1 h6;rw [h7] at he;exact ⟨t0,h7,he⟩
       rw [ht0] at h5;obtain ⟨cs,hrun,hcs,_⟩:=Go.Lib.run_makeNoZero w fn.params t0 e (CA hte) n (by omega);have r1:Rel m A w.drew.drew:=r.congr rfl;have hor:G4 m 0 (.row (Hf n) e A.next 0 false) (.cells cs e (0,0)):=by
        refine ⟨_,_,rfl,fun i v hv=>?_⟩;obtain ⟨q1,q2⟩:=KU n i v hv;refine ⟨cs[0+i]'(by omega),Array.getElem?_eq_getElem _,fun t=>?_,fun _=>by simp⟩;rw [q2] at t;cases t
       obtain ⟨rfl,_,hev⟩:=Ev.new r1 hn hor (fun f b hf=>by simp [AO.fam] at hf;exact hf.1.symm) (R:=cs.size) (el:=e) (st:=1) (fun _=>hs1)
        (fun csx ex fx bx rox hx=>by cases hx;exact ⟨fun _=>rfl,_,_,_,rfl,by omega,fun _ j hj=>by simp⟩)
       refine ⟨.value (.slice (some ⟨w.heap.size,0,none⟩) n cs.size),_,_,?_,(Ev.drawn r (w.drawn+1+1) (by omega)).trans hev,_,rfl,.slice (.inr ⟨by omega,by omega,by simp only [Inj.CQ,Inj.Kx];omega,fun hp=>by simp only [Inj.CQ];omega,_,Inj.Bs⟩) hcs (fun _=>⟨rfl,rfl,_,Inj.Bs,rfl⟩)⟩;rw [I9 h1 h2 h3 h4 h5,show Int.ofNat n=(n:Int) from rfl,hrun];rfl
    |false=>
     simp only [Cf];cases hall:args.all (AG 4) with
     |false=>simp only [Cf];trivial
     |true=>
      simp only [Ct];rw [ha.TX hall];split
      ·rename_i v hq;cases hv:AG 4 v with
       |false=>simp only [Cf];trivial
       |true=>
        simp only [Ct];exact ⟨_,w,m,EI _ hq w,.refl r,v,rfl,BP 4 v hv⟩
      ·trivial
end
variable {A:AW} {w:World} {t:TypeId} {v:Value}
section
variable {P:Program}
inductive Lo (m:Inj P):Ip→Place→Prop
 |val {v v':Value} (h:AI m v v'):Lo m (.val v) (.val v')
 |var {a a':Addr} (h:Gi m a a'):Lo m (.var a) (.var a')
def Ip.AeG(P:Program)(A:AW)(t:TypeId):Ip→Option Value
 |.val v=>some v
 |.var a=>CC P A t a
theorem Lo.get {m:Inj P} (r:Rel m A w) {x:Ip} {x':Place} (hx:Lo m x x')
  (h:x.AeG P A t=some v):∃ v',(x'.get t).run P w=.ok v' w∧AI m v v':=by
 cases hx with
 |val hv=>cases h;exact ⟨_,rfl,hv⟩
 |var ha=>exact Dv r h ha
theorem Fm{m:Inj P}{A:AW}{w:World}(r:Rel m A w):∀ {path:List FieldStep} {t:TypeId} {x:Ip} {x':Place} {t1:TypeId} {y:Ip},
  Lo m x x'→Hp P A path t x=some (t1,y)→∃ y',(follow path t x').run P w=.ok (t1,y') w∧Lo m y y'
 |[],t,x,x',t1,y,hx,h=>by
  simp only [Hp,Oi,Pj] at h;obtain ⟨rfl,rfl⟩:=h;exact ⟨x',rfl,hx⟩
 |s::rest,t,x,x',t1,y,hx,h=>by
  unfold Hp at h;split at h
  ·cases h
  rename_i f hf;obtain ⟨fs,hu,hfs⟩:=H9 hf;split at h
  ·cases h
  ·cases h
  rename_i n hn0 hn;have hnz:n≠0:=hn0;have hplace:∀ a:Addr,(fieldPlace a f).run P w=.ok (a.add f.offset) w:=fun a=>by simp [fieldPlace,Bg hn,hnz]
  rw [follow];cases hd:s.deref with
  |true=>
   rw [hd,Ct] at h;split at h
   rotate_left
   ·cases h
   rename_i a hg;obtain ⟨v',h1,h2⟩:=Lo.get r hx hg;cases h2 with
   |ptr ha=>
    rename_i a';obtain ⟨y',g1,g2⟩:=Fm r (path:=rest) (.var (ha.add f.offset)) h;exact ⟨y',by simp [run_underlying hu,hfs,h1,asAddr,hplace,g1],g2⟩
  |false=>
   rw [hd,Cf] at h;cases hx with
   |var ha=>
    rename_i a a';obtain ⟨y',g1,g2⟩:=Fm r (path:=rest) (.var (ha.add f.offset)) h;exact ⟨y',by simp [run_underlying hu,hfs,hplace,g1],g2⟩
   |val hv=>
    cases hv with
    |agg hcs=>
     simp only at h;split at h
     rotate_left
     ·cases h
     rename_i v hp;obtain ⟨v',k1,k2⟩:=Jc hcs w v hp;obtain ⟨y',g1,g2⟩:=Fm r (path:=rest) (.val k2) h;exact ⟨y',by simp [run_underlying hu,hfs,k1,g1],g2⟩
    |_=>cases h
theorem Mf {m:Inj P} (r:Rel m A w) {v' u:Value} {path:Array FieldStep} {ptr:Bool} (hv:AI m v v')
  (h:Kf P A t v path.toList ptr=some u):∃ u',(receiverVia t v' path ptr).run P w=.ok u' w∧AI m u u':=by
 unfold Kf at h;split at h
 ·cases h
 rename_i xt x hf;obtain ⟨x',h1,h2⟩:=Fm r (.val hv) hf;simp only [receiverVia,Sem.run_bind,h1,Result.andThen_ok,receiverAt];split at h
 ·
  rename_i hu;rw [run_underlying hu];cases h2 with
  |val hv=>cases h;exact ⟨_,rfl,hv⟩
 ·rename_i hu;rw [run_underlying hu];cases h2 with
  |var ha=>
   obtain ⟨u',g1,g2⟩:=Dv r h ha;exact ⟨u',by simpa [Place.get] using g1,g2⟩
 ·rename_i e hu;rw [run_underlying hu];split at h
  rotate_left
  ·cases h
  rename_i a hg;obtain ⟨p',g1,g2⟩:=Lo.get r h2 hg;cases g2 with
  |ptr ha=>
   obtain ⟨u',k1,k2⟩:=Dv r h ha;exact ⟨u',by simp [g1,asAddr,k1],k2⟩
 ·rename_i td a hn hu;rw [run_underlying hu];cases h2 with
  |var ha=>
   cases h;cases td<;>first | exact absurd rfl (hn _) | exact ⟨_,rfl,.ptr ha⟩
 ·cases h
 ·rename_i td a hn hu;rw [run_underlying hu];cases h2 with
  |val ha=>
   cases h;cases td<;>first | exact absurd rfl (hn _) | exact ⟨_,rfl,ha⟩
 ·rename_i td a hn hu;rw [run_underlying hu];cases h2 with
  |var ha=>
   obtain ⟨u',g1,g2⟩:=Dv r h ha;cases td<;>first | exact absurd rfl (hn _) | exact ⟨u',g1,g2⟩
 ·cases h
end
variable {A:AW} {w:World} {args args':List Value}
section
variable {P:Program}
theorem EM{X:Bc}(hX:XOk P X){m:Inj P}(r:Rel m A w){x x':Value}(hx:AI m x x'){name:String}(ha:AJ m args args'):
  Bd P m A w (Dd P X A x name args) (callMethod x' name ⟨args'⟩):=by
 unfold Dd;cases hx with
 |iface t hv=>
  rename_i v v';simp only;split
  ·trivial
  rename_i i hi;split
  ·trivial
  rename_i md hm;have hm':i.methods.find? (·.name==name)=some md:=by rw [← Array.find?_toList];exact hm
  have key:∀ f (p:Bool),md.path.toList=[]→md.func=some (f,p)→(receiverAt t (.val v') p (some ((name.splitOn ".").getLast?.getD name))).run P w=.ok v' w→
    Bd P m A w (C9 P X A f (v::args)) (callMethod (.iface t v') name ⟨args'⟩):=by
   intro f p hp hf hr;have he:md.path=#[]:=Array.toList_eq_nil_iff.1 hp;have h1:(method (P.types.size+Made.depth) t v' name).run P w=.ok (f,v') w:=by
    rw [show P.types.size+Made.depth=(P.types.size+99)+1 from rfl,method];simp [typeInfo,hi,hm',follow,hf,he,hr]
   have h2:=Gc hX r (f:=f) (AJ.cons hv ha);have h3:(callMethod (.iface t v') name ⟨args'⟩).run P w=(callFunc f ⟨v'::args'⟩).run P w:=by
    simp [callMethod,h1]
   unfold Bd at h2 ⊢;rw [h3];exact h2
  split
  ·rename_i f e h1 h2 h3;exact key _ _ h1 h2 (by simp [receiverAt,run_underlying h3,Place.get])
  ·trivial
  ·trivial
  ·rename_i f td hn h1 h2 h3;refine key _ _ h1 h2 ?_;rw [receiverAt];simp only [Sem.run_bind,run_underlying h3,Result.andThen_ok];cases td<;>first | exact absurd rfl (hn _) | rfl
  ·trivial
 |_=>trivial
theorem AJ.two{m:Inj P}{ρ ρ':Operand→Value}:∀ {l:List Operand},(∀ x∈l,AI m (ρ x) (ρ' x))→AJ m (l.map ρ) (l.map ρ')
 |[],_=>.nil
 |x::l,h=>.cons (h x (by simp)) (AJ.two fun y hy=>h y (by simp [hy]))
theorem Db.set{m:Inj P}{t:Tm}{t':Array Value}(r:Db m t t'){i:Nat}{v v':Value}(hv:AI m v v'):Db m (t.set i v) (t'.setIfInBounds i v'):=by
 unfold Tm.set;cases hb:Nat.blt i t.sz with
 |false=>
  rw [Cf]
  have:=EQ.1 hb
  rw [Array.setIfInBounds_eq_of_size_le (by rw [r.size];exact this)];exact r
 |true=>
  rw [Ct];have hlt:=Ax.1 hb;refine ⟨by simp [r.size],r.small,fun j=>?_⟩;have hs:=r.small;have hp:=Trie.get?_put depth t.t i j (some v) (by unfold depth;unfold Ak at hs;omega);unfold Tm.get;rw [hp];by_cases h:j=i
  ·subst h;simp only [if_true];rw [Array.getD_eq_getD_getElem?,Array.getElem?_setIfInBounds_self_of_lt (by rw [r.size];exact hlt)];exact hv
  ·rw [Ff h,Array.getD_eq_getD_getElem?,Array.getElem?_setIfInBounds_ne (Ne.symm h),← Array.getD_eq_getD_getElem?];exact r.val j
theorem Db.CZ{m:Inj P}:∀ {ps:List Tmp} {args args':List Value} {t:Tm} {t':Array Value},Db m t t'→AJ m args args'→
  Db m (CZ t (ps.zip args)) ((ps.zip args').foldl (fun tmps x=>tmps.setIfInBounds x.1 x.2) t')
 |[],_,_,_,_,r,_=>by simpa [Abs.CZ] using r
 |_::_,_,_,_,_,r,.nil=>by simpa [Abs.CZ] using r
 |p::ps,_,_,_,_,r,.cons hv ht=>by
  simp only [List.zip_cons_cons,Abs.CZ,List.foldl_cons];exact Db.CZ (r.set hv) ht
theorem FR {X:Bc} (hX:XOk P X) {m:Inj P} (r:Rel m A w) {f f':Fn} {c:Array Value} {c':List Value}
  (hf:No m f f') (hc:AJ m c.toList c') (ha:AJ m args args'):Bd P m A w (BU P X A (.fn f c) args) (invoke (.fn f' ⟨c'⟩) ⟨args'⟩):=by
 unfold BU;rcases hf with ⟨rfl,hny⟩ | ⟨l,l',rfl,rfl,hl⟩
 ·split
  ·rename_i f cp he;cases he
   have:=Gc hX r (f:=f) (ha.append hc)
   unfold Bd at this ⊢
   simpa [invoke] using this
  ·rename_i name cp he;cases he;cases ha with
   |nil=>trivial
   |cons hv ht=>
    have:=EM hX r hv (name:=name) ht
    simpa [invoke] using this
  ·rename_i t name cp he;cases he;cases ha with
   |nil=>trivial
   |cons hv ht=>
    simp only;split
    ·rename_i ms hu
     have:=EM hX r hv (name:=name) ht
     unfold Bd at this ⊢
     simpa [invoke,run_underlying hu] using this
    ·rename_i td hn hu
     have:=EM hX r (.iface t hv) (name:=name) ht
     unfold Bd at this ⊢;simp only [invoke];cases td<;>first | exact absurd rfl (hn _) | simpa [run_underlying hu] using this
    ·trivial
  ·rename_i t path f p cp he;cases he;cases ha with
   |nil=>trivial
   |cons hv ht=>
    simp only;split
    ·rename_i u hr;obtain ⟨u',g1,g2⟩:=Mf r hv hr
     have:=Gc hX r (f:=f) (AJ.cons g2 ht)
     unfold Bd at this ⊢
     simpa [invoke,g1] using this
    ·trivial
  ·rename_i l cp he;cases he;exact absurd rfl (hny l)
  ·rename_i he;cases he
  ·trivial
 ·simp only;split
  rotate_left
  ·trivial
  rename_i lp hg;cases hb:Nat.beq args.length lp.params.length with
  |false=>trivial
  |true=>
   have hb:=beq_true.1 hb;rw [Ct];obtain ⟨c0,d0,o',h1,h2,rfl,l1,rfl,h4⟩:=r.EE hg hl;rw [hl] at h1;simp only [Oi,Pj] at h1;obtain ⟨rfl,_⟩:=h1;refine ⟨.round l' lp.fn ((lp.params.zip args').foldl (fun tmps x=>tmps.setIfInBounds x.1 x.2) l1.tmps) lp.assign lp.body,w,m,?_,.refl r,l',_,rfl,hl,h4.tm.CZ ha,h4.ok.1,h4.ok.2.1⟩;have hlen:=ha.length;simp [invoke,Instr.yield,Instr.getLoop,Be P w l' _ h2,h4.params,h4.fn,h4.assign,h4.body,hlen,hb]
end
variable {e:TypeId} {A:AW} {w:World} {a:Addr} {n:Nat}
section
variable {P:Program}
theorem Lw{u:TypeId}(hc:P.cellsOf e=1)(hs:sameLayout P P.depth e u=true)(count off n:Nat)(hn:off+n≤count):liesAt P P.depth e count off u n=true:=by
 have hd:P.depth=(2*(P.types.size+Made.depth)+1)+1:=rfl;rw [hd] at hs ⊢;simp only [liesAt,Bool.or_eq_true]
 left
 rw [hd];simp [rowAt,hc,hn,hs,Nat.mod_one]
theorem E1(w:World)(a:Addr)(n:Nat)(hn:n≠0)(j:Nat):(w.freeze a n).heap[j]? =if j=a.block then (w.heap[j]?).map (fun | .cells c elem (lo,hi)=>.cells c elem (if lo==hi then (a.off,a.off+n) else (min lo a.off,max hi (a.off+n))) | o=>o) else w.heap[j]? :=by
 unfold World.freeze;rw [Ff hn];simp only [Array.getElem?_modify];by_cases h:a.block=j
 ·subst h;rw [if_pos rfl,if_pos rfl];cases w.heap[a.block]? with
  |none=>rfl
  |some o=>cases o<;>rfl
 ·rw [Ff h,Ff (Ne.symm h)]
theorem Rel.freeze{m:Inj P}(r:Rel m A w)(hn:n≠0)(h:∀ j o d,A.get j=some o→m j=some (a.block,d)→∃ cs e f b,o=.row cs e f b true):Rel m A (w.freeze a n):=by
 refine ⟨fun i o c d hi h1=>?_,r.home,r.sep,r.mem,r.fresh,r.lim,fun i cs e f b ro c d hi hm=>?_⟩
 ·obtain ⟨o',h2,h3⟩:=r.obj i o c d hi h1;by_cases hc:c=a.block
  ·subst hc;obtain ⟨cs,e,f,b,rfl⟩:=h i o d hi h1;obtain ⟨cs',fr,rfl,h4⟩:=h3;refine ⟨_,by rw [E1 w a n hn,if_pos rfl,h2];rfl,cs',_,rfl,fun k v hv=>?_⟩;obtain ⟨v',g1,g2,_⟩:=h4 k v hv;exact ⟨v',g1,g2,fun hf=>by cases hf⟩
  ·exact ⟨o',by rw [E1 w a n hn,Ff hc];exact h2,h3⟩
 ·obtain ⟨h1,cs',e',fr,h2,h3,h4⟩:=r.room i cs e f b ro c d hi hm;refine ⟨h1,?_⟩;by_cases hc:c=a.block
  ·subst hc;obtain ⟨cs1,e1,f1,b1,he⟩:=h i _ d hi hm;cases he;exact ⟨cs',e',_,by rw [E1 w a n hn,if_pos rfl,h2];rfl,h3,fun hf=>by cases hf⟩
  ·exact ⟨cs',e',fr,by rw [E1 w a n hn,Ff hc];exact h2,h3,h4⟩
theorem Ev.freeze{m:Inj P}(r:Rel m A w){a':Addr}(hn:n≠0)(ha:Gi m a a'){cs:List Value}{f b:Nat}(hg:A.get a.block=some (.row cs e f b false)):
  Ev m A w m (BZ (A.members f) A) (w.freeze a' n):=by
 obtain ⟨hs,hs',d,hm,ho⟩:=ha;obtain ⟨k1,k2,k3⟩:=NA (A.members f) A (fun i o h=>r.N5 h);have hw:Ev m A w m (BZ (A.members f) A) w:=by
  refine Ev.weaken r k1 k2 fun i o hi=>?_;rw [k3] at hi;split at hi
  ·cases h0:A.get i with
   |none=>rw [h0] at hi;cases hi
   |some o0=>
    rw [h0] at hi;simp only [Option.map_some,Oi] at hi;subst hi;refine ⟨o0,rfl,?_⟩;cases o0 with
    |row cs e f b ro=>
     refine ⟨rfl,fun h=>(by cases h),fun _=>rfl,fun d o' ⟨cs',fr,h1,h2⟩=>⟨cs',fr,h1,fun k v hv=>?_⟩,fun cs1 e1 f1 b1 ro1 he=>by cases he;exact ⟨cs,ro,rfl⟩⟩;obtain ⟨v',g1,g2,_⟩:=h2 k v hv;exact ⟨v',g1,g2,fun hf=>by cases hf⟩
    |_=>exact ⟨rfl,fun h=>h,fun h=>h,fun _ _ h=>h,fun cs1 e1 f1 b1 ro1 he=>by cases he⟩
  ·exact ⟨o,hi,rfl,fun h=>h,fun h=>h,fun _ _ h=>h,fun cs1 e1 f1 b1 ro1 he=>⟨cs1,ro1,he⟩⟩
 have hself:=(r.mem a.block _ f b hg rfl).1;have hall:∀ j o d,(BZ (A.members f) A).get j=some o→m j=some (a'.block,d)→∃ cs e f b,o=.row cs e f b true:=by
  intro j o dj hj hmj;rw [k3] at hj;by_cases hji:j=a.block
  ·subst hji;rw [if_pos hself,hg] at hj;cases hj;exact ⟨_,_,_,_,rfl⟩
  ·have:∃ o0,A.get j=some o0:=by
    cases h0:A.get j with
    |none=>rw [h0] at hj;split at hj<;>cases hj
    |some o0=>exact ⟨o0,rfl⟩
   obtain ⟨o0,h0⟩:=this;rcases r.sep a.block j _ o0 a'.block d dj (Ne.symm hji) hg h0 hm hmj with ⟨h1,_⟩ | ⟨f1,bi,bj,h1,h2,h3⟩
   ·cases h1
   ·cases h1;have hmem:=(r.mem j o0 f bj h0 h2).1;rw [if_pos hmem,h0] at hj;cases o0 with
    |row cs1 e1 f1 b1 ro1=>cases hj;exact ⟨_,_,_,_,rfl⟩
    |_=>cases h2
 have hsz:(w.freeze a' n).heap.size=w.heap.size:=by unfold World.freeze;rw [Ff hn];simp
 refine ⟨.refl m,hw.rel.freeze hn hall,by rw [hsz];exact Nl _,?_,?_,?_,?_,fun c hc hno=>?_,hw.own,hw.next,fun _ _=>rfl⟩
 ·unfold World.freeze;rw [Ff hn]
 ·unfold World.freeze;rw [Ff hn]
 ·unfold World.freeze;rw [Ff hn]
 ·unfold World.freeze;rw [Ff hn];exact Nl _
 ·rw [E1 w a' n hn,Ff];rintro rfl;exact hno ⟨a.block,_,d,hg,rfl,hm⟩
theorem J1:∀ {cs:List Value} {l:List UInt8} {w:World} {a:Addr} {acc:ByteArray},Bv cs=some l→(∀ (i:Nat) (v:Value),cs[i]? =some v→w.cell? (a.add i)=some v)→
  (loadBytes a acc cs.length).run P w=.ok ⟨acc.data++l.toArray⟩ w
 |[],l,w,a,acc,h,_=>by
  simp only [Bv,Oi] at h;subst h;simp [loadBytes]
 |x::r,l,w,a,acc,h,hc=>by
  unfold Bv at h;split at h
  ·cases ‹x::r=[]›
  rotate_left
  ·cases h
  rename_i n r' he;cases he;split at h
  rotate_left
  ·cases h
  rename_i l' hl;simp only [Oi] at h;subst h;have h0:w.cell? a=some (.int .u8 n):=by simpa [Addr.add] using hc 0 _ rfl
  have ih:=J1 (w:=w) (a:=a.add 1) (acc:=acc.push n.toNat.toUInt8) hl (fun i v hv=>by
   have:=hc (i+1) v (by simpa using hv)
   have e:(a.add 1).add i=a.add (i+1):=by
    unfold Addr.add;by_cases hj:i=0
    ·subst hj;simp
    ·simp [hj];omega
   rw [e];exact this)
  simp only [Lc,loadBytes,Sem.run_bind,run_load,h0,Result.andThen];rw [ih]
  congr 1
  apply ByteArray.ext;simp [ByteArray.push]
end
section
variable {P:Program}
theorem MB{k:IntKind}:∀ {l:List Value} {a n:Int} {m:Inj P} {l':List Value} (w:World),P7 a l=some n→AJ m l l'→(l'.foldlM Builtin.min2 (.int k a)).run P w=.ok (.int k n) w
 |[],a,n,m,l',w,h,hl=>by
  cases hl;simp only [P7,Oi] at h;subst h;rfl
 |x::l,a,n,m,l',w,h,hl=>by
  cases hl with
  |cons hx ht=>
   cases hx with
   |int k2 b=>
    have:=MB (k:=k) w (by simpa only [P7] using h) ht
    simpa [List.foldlM_cons,Builtin.min2] using this
   |_=>simp [P7] at h
theorem MD{k:IntKind}:∀ {l:List Value} {a n:Int} {m:Inj P} {l':List Value} (w:World),RE a l=some n→AJ m l l'→(l'.foldlM Builtin.max2 (.int k a)).run P w=.ok (.int k n) w
 |[],a,n,m,l',w,h,hl=>by
  cases hl;simp only [RE,Oi] at h;subst h;rfl
 |x::l,a,n,m,l',w,h,hl=>by
  cases hl with
  |cons hx ht=>
   cases hx with
   |int k2 b=>
    have:=MD (k:=k) w (by simpa only [RE] using h) ht
    simpa [List.foldlM_cons,Builtin.max2] using this
   |_=>simp [RE] at h
theorem IK (w:World) (pt:TypeId) (rs:List TypeId) (ty u e:TypeId) (hp:P.underlying pt=some (.pointer u)) (hc:P.cellsOf e=1) (hs:sameLayout P P.depth e u=true) (a:Addr) (cells:Nat) (hsh:w.shape? a.block=some (e,cells)) (k:IntKind) (n:Nat) (s:ByteArray) (h0:n≠0)
  (hn:a.off+n≤cells) (h63:n≤9223372036854775807) (hl:(loadBytes a .empty n).run P w=.ok s w):
  (Builtin.unsafeString_ ⟨pt::rs⟩ ty ⟨[.pointer (some a),.int k n]⟩).run P w=.ok (.string s) (w.freeze a n):=by
 have hlies:=Lw hc hs (cells/P.cellsOf e) a.off n (by rw [hc];simpa using hn);have h63':¬ (9223372036854775807:Int)<(n:Int):=by omega
 have hmax:IntKind.i64.max=9223372036854775807:=rfl;have hneg:¬ (n:Int)<0:=by omega
 refine (show Sem.run P (asInt (.int k n) >>=_) w=_ from ?_);simp [asInt,asIntOf,hmax,h63',hneg,h0,variablesAt,hsh,elemOf,run_underlying hp,hlies,hl]
theorem ED(w:World)(pt:TypeId)(r:List TypeId)(ty:TypeId)(p:Option Addr)(k:IntKind):(Builtin.unsafeString_ ⟨pt::r⟩ ty ⟨[.pointer p,.int k 0]⟩).run P w=.ok (.string .empty) w:=by
 have hmax:IntKind.i64.max=9223372036854775807:=rfl;refine (show Sem.run P (asInt (.int k 0) >>=_) w=_ from ?_);cases p<;>simp [asInt,asIntOf,hmax]
theorem NP{m:Inj P}{A:AW}{w:World}(r:Rel m A w){b:Builtin}{ts:List TypeId}{ty:TypeId}{cs:Array Bool}{args args':List Value}(ha:AJ m args args'):
  Bd P m A w (Ca P A b ts ty args) (builtin b ⟨ts⟩ ty cs ⟨args'⟩):=by
 unfold Ca;simp only;split
 ·cases ha with
  |cons hs h1=>cases h1 with
   |cons hx h2=>cases h2;exact Bd.Mx (Pd r hs hx)
 ·cases ha with
  |cons hs h1=>cases h1 with
   |cons hx h2=>cases h2;exact Bd.Mx (R9 r hs hx)
 ·cases ha with
  |cons hs h1=>cases h1;exact Bd.DA r (TC r hs)
 ·cases ha with
  |cons hs h1=>
   cases h1;split
   rotate_left
   ·trivial
   rename_i _ _ c _ _ e he;cases hc:Nat.ble Bo c with
   |true=>trivial
   |false=>
    rw [Cf];have hlt:=BA.1 hc;have hu:=CA he;cases hs with
    |sliceNil=>exact ⟨.value (.int .i64 0),w,m,by simp [builtin,Builtin.cap_,run_underlying hu,goInt],.refl r,_,rfl,.int _ _⟩
    |slice h1 _ _=>
     rcases h1 with ⟨_,rfl⟩ | ⟨h1,_⟩
     ·exact ⟨.value (.int .i64 _),w,m,by simp [builtin,Builtin.cap_,run_underlying hu,goInt],.refl r,_,rfl,.int _ _⟩
     ·omega
 ·cases ha with
  |cons hs h1=>cases h1 with
   |cons hx h2=>
    cases h2;split
    ·rename_i A' h;obtain ⟨w',g1,g2⟩:=O3 (ty:=ty) r hs hx h;exact ⟨_,w',m,by simp only [builtin,Sem.run_bind];exact (congrArg (fun x=>Result.andThen x _) g1).trans rfl,g2,_,rfl,.tuple .nil⟩
    ·trivial
 ·cases ha with
  |cons hs h1=>
   cases h1;split
   ·rename_i A' h;obtain ⟨w',g1,g2⟩:=QD (ty:=ty) r hs h;exact ⟨_,w',m,by simp [builtin,g1],g2,_,rfl,.tuple .nil⟩
   ·trivial
 ·cases ha with
  |cons hs h1=>
   cases hs;split
   ·rename_i n h;exact ⟨_,w,m,by simp [builtin,Builtin.min_,MB w h h1],.refl r,_,rfl,.int _ _⟩
   ·trivial
 ·cases ha with
  |cons hs h1=>
   cases hs;split
   ·rename_i n h;exact ⟨_,w,m,by simp [builtin,Builtin.max_,MD w h h1],.refl r,_,rfl,.int _ _⟩
   ·trivial
 ·exact ⟨_,w,m,rfl,.refl r,rfl⟩
 ·cases ha with
  |cons hs h1=>
   cases h1;cases hs;exact ⟨_,w,m,by simp [builtin,Go.Lib.run_unsafeSliceData_nil],.refl r,_,rfl,.ptrNil⟩
 ·cases ha with
  |cons hs h1=>
   cases h1;rename_i a n c _;cases hb:(Nat.blt 0 n || (!Nat.ble Bo c&&Nat.blt 0 c)) with
   |false=>trivial
   |true=>
    rw [Ct];cases hs with
    |slice h1 h2 h3=>
     rename_i a' c';have hpos:0<c':=by
      simp only [Bool.or_eq_true,Bq,Bool.not_eq_true'] at hb;rcases hb with hb | ⟨hb1,hb2⟩
      ·have:=Ax.1 hb;omega
      ·have:=BA.1 hb1
       have:=Ax.1 hb2
       rcases h1 with ⟨_,rfl⟩ | ⟨h1,_⟩<;>omega
     have:=Go.Lib.run_unsafeSliceData_row (P:=P) w ⟨ts⟩ ty a' n c' (by omega)
     exact ⟨_,w,m,by simp [builtin,this],.refl r,_,rfl,.ptr (h3 hpos)⟩
 ·cases ha with
  |cons hs h1=>cases h1 with
   |cons hx h2=>
    cases h2;cases hx;cases hs with
    |ptrNil=>exact ⟨_,w,m,by simp only [builtin,Sem.run_bind];rw [show Int.ofNat 0=0 from rfl,ED];rfl,.refl r,_,rfl,.string _⟩
    |ptr h=>exact ⟨_,w,m,by simp only [builtin,Sem.run_bind];rw [show Int.ofNat 0=0 from rfl,ED];rfl,.refl r,_,rfl,.string _⟩
 ·rename_i pt r1 a k n hz;rename_i b0 ts0 args0;split
  rotate_left
  ·trivial
  rename_i cs1 e fam b1 u hcs hg hu;cases hq:(Nat.blt n room&&(Nat.beq (P.cellsOf e) 1&&sameLayout P P.depth e u)) with
  |false=>trivial
  |true=>
   rw [Ct];simp only [Bq] at hq;have hq1:=Ax.1 hq.1;have hq2:=beq_true.1 hq.2.1;unfold room at hq1;split
   rotate_left
   ·trivial
   rename_i l hl;cases ha with
   |cons hs h1=>cases h1 with
    |cons hx h2=>
     cases h2;cases hx;cases hs with
     |ptr har=>
      rename_i a';have hn0:n≠0:=by
       rintro rfl;exact hz rfl
      obtain ⟨g1,l',g2,g3⟩:=r.cells hcs (fun _=>har);have g4:=EO hl g2;subst g4;have g5:=J1 (P:=P) (w:=w) (a:=a') (acc:=.empty) hl g3;rw [g1] at g5;obtain ⟨_,hsp,d,hm,ho⟩:=har;obtain ⟨c1,d1,o',k1,k2,cs',fr,rfl,k3⟩:=r.EE hg hm;rw [hm] at k1;simp only [Oi,Pj] at k1;obtain ⟨rfl,rfl⟩:=k1;have hsh:w.shape? a'.block=some (e,cs'.size):=by simp [World.shape?,k2]
      have hlast:a'.off+n≤cs'.size:=by
       have hc:=g3 (n-1) _ (Ge (by omega));have hadd:a'.add (n-1)=⟨a'.block,a'.off+(n-1),none⟩:=by
        unfold Addr.add;by_cases hj:n-1=0
        ·rw [if_pos hj,hj];cases a'
         simp_all
        ·rw [Ff hj]
       rw [hadd] at hc;simp only [World.cell?,k2,Option.isSome_none,Bool.false_eq_true,if_false] at hc
       have:=(Array.getElem?_eq_some_iff.1 hc).1
       omega
      have g6:=IK (P:=P) w pt r1 ty u e hu hq2 hq.2.2 a' cs'.size hsh k n _ hn0 hlast (by omega) g5;refine ⟨.value (.string ⟨⟨l⟩⟩),_,m,?_,Ev.freeze r hn0 ⟨‹_›,hsp,d,hm,ho⟩ hg,_,rfl,.string _⟩;simp only [builtin,Sem.run_bind];exact (congrArg (fun x=>Result.andThen x _) g6).trans (by simp)
 ·cases ha with
  |cons hs h1=>
   cases h1;cases hs with
   |iface _ hv=>exact ⟨_,w,m,by simp [builtin,Instr.panic,goPanic],.refl r,.iface _ hv⟩
 ·trivial
end
variable {x c a ix k mm it:Operand} {e t s:TypeId} {parts:Array (Nat × Operand)} {f:Nat} {ok:Bool}
section
variable {P:Program}
theorem IN{m:Inj P}{ρ ρ':Operand→Value}{c:Call}{type:TypeId}{d:Deferred}(hc:∀ x∈c.operands.toList,AI m (ρ x) (ρ' x))(h:C7 ρ c type=some d)(hb:∀ b,c.callee≠ .builtin b)(w:World):
  ∃ f f' cs cs' args args',d=⟨.fn f ⟨cs⟩,⟨args⟩⟩∧(resolve ρ' c type).run P w=.ok ⟨.fn f' ⟨cs'⟩,⟨args'⟩⟩ w∧No m f f'∧AJ m cs cs'∧AJ m args args':=by
 obtain ⟨callee,args,ats⟩:=c;have hargs:AJ m (args.toList.map ρ) (args.toList.map ρ'):=AJ.two fun x hx=>hc x (by simp [Call.operands,hx]);unfold C7 at h;simp only at h;cases callee with
 |builtin b=>exact absurd rfl (hb b)
 |invoke recv name=>
  simp only [Oi] at h;subst h;have hr:=hc recv (by simp [Call.operands]);refine ⟨_,.method name,[],[],_,_,rfl,?_,.inl ⟨rfl,fun l=>by simp⟩,.nil,.cons hr hargs⟩;simp [resolve]
 |value f=>
  have hr:=hc f (by simp [Call.operands]);simp only at h;split at h
  ·rename_i fn first captured he
   rw [he] at hr;simp only [Oi] at h;subst h;generalize hf':ρ' f=y at hr;cases hr with
   |func h1 h2 h3=>
    refine ⟨_,_,_,_,_,_,rfl,?_,h1,h3,h2.append hargs⟩;simp [resolve,hf',Deferred.ofValue]
  ·cases h
theorem Dl.map{m:Inj P}{ρ ρ':Operand→Value}:∀ {o:Option Operand},(∀ y,o=some y→AI m (ρ y) (ρ' y))→Dl m (o.map ρ) (o.map ρ')
 |none,_=>trivial
 |some y,h=>h y rfl
variable {X:Bc} {m:Inj P} {A:AW} {w:World} {ρ ρ':Operand→Value} {dst:Option Tmp} {type:TypeId} {pos:String} {after:Array Edge} {guard:Option (Nat × Bool)}
theorem TS(r:Rel m A w)(hρ:∀ z∈(Op.move x).operands.toList,AI m (ρ z) (ρ' z)):
  Bd P m A w (AL P X ρ ⟨dst,.move x,type,pos,after,guard⟩ A) (execOp ρ' ⟨dst,.move x,type,pos,after,guard⟩):=by
 unfold AL;exact ⟨_,w,m,rfl,.refl r,_,rfl,hρ x (by simp [Op.operands])⟩
theorem Qu(r:Rel m A w)(hρ:∀ z∈(Op.assign x).operands.toList,AI m (ρ z) (ρ' z)):
  Bd P m A w (AL P X ρ ⟨dst,.assign x,type,pos,after,guard⟩ A) (execOp ρ' ⟨dst,.assign x,type,pos,after,guard⟩):=by
 unfold AL;exact ⟨_,w,m,rfl,.refl r,_,rfl,hρ x (by simp [Op.operands])⟩
theorem TQ(r:Rel m A w){b:Operand}(hρ:∀ z∈(Op.pick c a b).operands.toList,AI m (ρ z) (ρ' z)):
  Bd P m A w (AL P X ρ ⟨dst,.pick c a b,type,pos,after,guard⟩ A) (execOp ρ' ⟨dst,.pick c a b,type,pos,after,guard⟩):=by
 unfold AL;have hc:=hρ c (by simp [Op.operands]);have ha:=hρ a (by simp [Op.operands]);have hb:=hρ b (by simp [Op.operands]);simp only;split
 ·rename_i h;rw [h] at hc;generalize hq:ρ' c=y at hc;cases hc;exact ⟨.value (ρ' a),w,m,by simp [execOp,hq,asBool],.refl r,_,rfl,ha⟩
 ·rename_i h;rw [h] at hc;generalize hq:ρ' c=y at hc;cases hc;exact ⟨.value (ρ' b),w,m,by simp [execOp,hq,asBool],.refl r,_,rfl,hb⟩
 ·trivial
theorem R3(r:Rel m A w)(_hρ:∀ z∈(Op.alloc e).operands.toList,AI m (ρ z) (ρ' z)):
  Bd P m A w (AL P X ρ ⟨dst,.alloc e,type,pos,after,guard⟩ A) (execOp ρ' ⟨dst,.alloc e,type,pos,after,guard⟩):=by
 unfold AL;simp only;split
 rotate_left
 ·trivial
 rename_i z hz;split
 rotate_left
 ·trivial
 rename_i a A' h;exact Bd.Rz (QP r hz h)
theorem VT(r:Rel m A w)(hρ:∀ z∈(Op.box e x).operands.toList,AI m (ρ z) (ρ' z)):
  Bd P m A w (AL P X ρ ⟨dst,.box e x,type,pos,after,guard⟩ A) (execOp ρ' ⟨dst,.box e x,type,pos,after,guard⟩):=by
 unfold AL;simp only;split
 rotate_left
 ·trivial
 rename_i a A' h;exact Bd.Rz (Ua r (hρ x (by simp [Op.operands])) h)
theorem R1(r:Rel m A w)(hρ:∀ z∈(Op.build t parts).operands.toList,AI m (ρ z) (ρ' z)):
  Bd P m A w (AL P X ρ ⟨dst,.build t parts,type,pos,after,guard⟩ A) (execOp ρ' ⟨dst,.build t parts,type,pos,after,guard⟩):=by
 unfold AL;have hp:Gh m (EK parts.toList ρ) (parts.map fun x=>(x.1,ρ' x.2)).toList:=by
  rw [Array.toList_map];exact Hh parts.toList fun x hx=>hρ x.2 (List.mem_map.2 ⟨x,hx,rfl⟩)
 have:=QH (P:=P) (t:=t) hp w
 exact Bd.DA r this
theorem LC(r:Rel m A w){len:Nat}(hρ:∀ z∈(Op.buildSlice t len parts).operands.toList,AI m (ρ z) (ρ' z)):
  Bd P m A w (AL P X ρ ⟨dst,.buildSlice t len parts,type,pos,after,guard⟩ A) (execOp ρ' ⟨dst,.buildSlice t len parts,type,pos,after,guard⟩):=by
 unfold AL;have hp:Gh m (EK parts.toList ρ) (parts.map fun x=>(x.1,ρ' x.2)).toList:=by
  rw [Array.toList_map];exact Hh parts.toList fun x hx=>hρ x.2 (List.mem_map.2 ⟨x,hx,rfl⟩)
 have:=KI (P:=P) (t:=t) (len:=len) r hp
 exact Bd.Mx this
theorem TT(r:Rel m A w)(hρ:∀ z∈(Op.load t a).operands.toList,AI m (ρ z) (ρ' z)):
  Bd P m A w (AL P X ρ ⟨dst,.load t a,type,pos,after,guard⟩ A) (execOp ρ' ⟨dst,.load t a,type,pos,after,guard⟩):=by
 unfold AL;have ha:=hρ a (by simp [Op.operands]);simp only;split
 ·rename_i b hb;refine Bd.DA r (s:=Instr.loadAt t (ρ' a)) fun v hv=>?_;rw [hb] at ha;generalize ρ' a=y at ha;exact RI (t:=t) r ha hv
 ·trivial
theorem RT(r:Rel m A w)(hρ:∀ z∈(Op.store t a x).operands.toList,AI m (ρ z) (ρ' z)):
  Bd P m A w (AL P X ρ ⟨dst,.store t a x,type,pos,after,guard⟩ A) (execOp ρ' ⟨dst,.store t a x,type,pos,after,guard⟩):=by
 unfold AL;have ha:=hρ a (by simp [Op.operands]);have hx:=hρ x (by simp [Op.operands]);simp only;split
 ·rename_i b hb;refine Bd.LI (s:=Instr.storeAt t (ρ' a) (ρ' x)) fun A' h=>?_;rw [hb] at ha;generalize ρ' a=y at ha;cases ha with
  |ptr ha=>
   obtain ⟨w',g1,g2,_⟩:=L4 r h ha hx;exact ⟨w',by simp [Instr.storeAt,Instr.sureAddr,g1],m,g2⟩
 ·trivial
theorem ND(r:Rel m A w)(hρ:∀ z∈(Op.nilCheck x).operands.toList,AI m (ρ z) (ρ' z)):
  Bd P m A w (AL P X ρ ⟨dst,.nilCheck x,type,pos,after,guard⟩ A) (execOp ρ' ⟨dst,.nilCheck x,type,pos,after,guard⟩):=by
 unfold AL;have hx:=hρ x (by simp [Op.operands]);simp only;generalize hy:ρ x=y at *;generalize hy':ρ' x=y' at *;split
 ·trivial
 ·trivial
 ·trivial
 ·trivial
 ·rename_i h1 h2 h3 h4;refine ⟨.value y',w,m,?_,.refl r,_,rfl,hx⟩;simp only [execOp,hy'];cases hx with
  |func hf ha hc=>
   rename_i f f' a a' c c';cases f'<;>first | rfl | skip
   rcases hf with ⟨hf,_⟩ | ⟨l,l',_,hf,_⟩
   ·exact absurd (by rw [← hf]) (h4 _ _ _)
   ·cases hf
  |ptrNil=>exact absurd rfl h1
  |nilIface=>exact absurd rfl h2
  |nilFunc=>exact absurd rfl h3
  |_=>rfl
theorem R2(r:Rel m A w){op:BinOp}{y:Operand}{b:_}(hρ:∀ z∈(Op.binOp op t x y b).operands.toList,AI m (ρ z) (ρ' z)):
  Bd P m A w (AL P X ρ ⟨dst,.binOp op t x y b,type,pos,after,guard⟩ A) (execOp ρ' ⟨dst,.binOp op t x y b,type,pos,after,guard⟩):=by
 unfold AL;exact Bd.DA r (Ud (hρ x (by simp [Op.operands])) (hρ y (by simp [Op.operands])) w)
theorem TP(r:Rel m A w){op:UnOp}(hρ:∀ z∈(Op.unOp op t x).operands.toList,AI m (ρ z) (ρ' z)):
  Bd P m A w (AL P X ρ ⟨dst,.unOp op t x,type,pos,after,guard⟩ A) (execOp ρ' ⟨dst,.unOp op t x,type,pos,after,guard⟩):=by
 unfold AL;exact Bd.DA r (UK (hρ x (by simp [Op.operands])) w)
theorem O1(r:Rel m A w){d:TypeId}(hρ:∀ z∈(Op.convert s d x).operands.toList,AI m (ρ z) (ρ' z)):
  Bd P m A w (AL P X ρ ⟨dst,.convert s d x,type,pos,after,guard⟩ A) (execOp ρ' ⟨dst,.convert s d x,type,pos,after,guard⟩):=by
 unfold AL;exact Bd.Mx (NM r (hρ x (by simp [Op.operands])))
theorem Jj(r:Rel m A w)(hρ:∀ z∈(Op.makeInterface t x).operands.toList,AI m (ρ z) (ρ' z)):
  Bd P m A w (AL P X ρ ⟨dst,.makeInterface t x,type,pos,after,guard⟩ A) (execOp ρ' ⟨dst,.makeInterface t x,type,pos,after,guard⟩):=by
 unfold AL;have hx:=hρ x (by simp [Op.operands]);simp only;split
 ·trivial
 ·rename_i td hn hu;refine ⟨.value (.iface t (ρ' x)),w,m,?_,.refl r,_,rfl,.iface t hx⟩;simp only [execOp,Instr.makeInterface,Sem.run_bind,run_underlying hu,Result.andThen_ok];cases td<;>first | exact absurd rfl (hn _) | rfl
 ·trivial
theorem NF(r:Rel m A w){fn:Fn}{first captured:Array Operand}(hρ:∀ z∈(Op.makeFunc fn first captured).operands.toList,AI m (ρ z) (ρ' z)):
  Bd P m A w (AL P X ρ ⟨dst,.makeFunc fn first captured,type,pos,after,guard⟩ A) (execOp ρ' ⟨dst,.makeFunc fn first captured,type,pos,after,guard⟩):=by
 unfold AL;simp only;have hv:(∀ l,fn≠ .yield l)→Bd P m A w (.ok (.value (.func fn ⟨first.toList.map ρ⟩ ⟨captured.toList.map ρ⟩)) A) (execOp ρ' ⟨dst,.makeFunc fn first captured,type,pos,after,guard⟩):=by
  intro hn;refine ⟨.value (.func fn ⟨first.toList.map ρ'⟩ ⟨captured.toList.map ρ'⟩),w,m,?_,.refl r,_,rfl,.func (.inl ⟨rfl,hn⟩) (AJ.two fun y hy=>hρ y (by simp [Op.operands];exact .inl (by simpa using hy))) (AJ.two fun y hy=>hρ y (by simp [Op.operands];exact .inr (by simpa using hy)))⟩;have e:∀ l:Array Operand,l.map ρ'=⟨l.toList.map ρ'⟩:=fun l=>by cases l;simp
  simp only [execOp,Instr.makeFunc,e];rfl
 split
 ·trivial
 ·rename_i hn;exact hv fun l=>hn l
theorem OZ(r:Rel m A w){q:Option Operand}(hρ:∀ z∈(Op.makeMap t q).operands.toList,AI m (ρ z) (ρ' z)):
  Bd P m A w (AL P X ρ ⟨dst,.makeMap t q,type,pos,after,guard⟩ A) (execOp ρ' ⟨dst,.makeMap t q,type,pos,after,guard⟩):=by
 unfold AL;have hnew:∀ b A',A.new (.map [] 0 false)=some (b,A')→∃ m',Ev m A w m' A' (w.alloc (.map #[] 0))∧m' b=some (w.heap.size,0):=by
  intro b A' h;exact Dh (o':=.map #[] 0) r h ⟨rfl,[],rfl,.nil⟩ rfl
 cases q with
 |none=>
  simp only;split
  rotate_left
  ·trivial
  rename_i b A' h;obtain ⟨m',g2,g3⟩:=hnew b A' h;exact ⟨.value (.map (some w.heap.size)),_,m',by simp [execOp,Instr.makeMap],g2,_,rfl,.map g3⟩
 |some y=>
  have hy:=hρ y (by simp [Op.operands]);simp only;split
  rotate_left
  ·trivial
  rename_i mt k n hm hi;split
  rotate_left
  ·trivial
  rename_i b A' h;obtain ⟨m',g2,g3⟩:=hnew b A' h;rw [hi] at hy;generalize hq:ρ' y=z at hy;cases hy;unfold Dp at hm;split at hm
  ·rename_i hu;exact ⟨.value (.map (some w.heap.size)),_,m',by simp [execOp,Instr.makeMap,run_underlying hu,hq,asInt,asIntOf],g2,_,rfl,.map g3⟩
  ·cases hm
theorem M4(r:Rel m A w){l:Operand}(hρ:∀ z∈(Op.makeSlice t l c).operands.toList,AI m (ρ z) (ρ' z)):
  Bd P m A w (AL P X ρ ⟨dst,.makeSlice t l c,type,pos,after,guard⟩ A) (execOp ρ' ⟨dst,.makeSlice t l c,type,pos,after,guard⟩):=by
 unfold AL;exact Bd.Mx (Lv r (hρ l (by simp [Op.operands])) (hρ c (by simp [Op.operands])))
theorem RU(r:Rel m A w){lo hi mx:Option Operand}(hρ:∀ z∈(Op.slice t x lo hi mx).operands.toList,AI m (ρ z) (ρ' z)):
  Bd P m A w (AL P X ρ ⟨dst,.slice t x lo hi mx,type,pos,after,guard⟩ A) (execOp ρ' ⟨dst,.slice t x lo hi mx,type,pos,after,guard⟩):=by
 unfold AL;exact Bd.DA r (PH r (hρ x (by simp [Op.operands])) (Dl.map fun y hy=>hρ y (by simp [Op.operands,hy])) (Dl.map fun y hy=>hρ y (by simp [Op.operands,hy])) (Dl.map fun y hy=>hρ y (by simp [Op.operands,hy])))
theorem M6(r:Rel m A w)(hρ:∀ z∈(Op.fieldAddr s x f).operands.toList,AI m (ρ z) (ρ' z)):
  Bd P m A w (AL P X ρ ⟨dst,.fieldAddr s x f,type,pos,after,guard⟩ A) (execOp ρ' ⟨dst,.fieldAddr s x f,type,pos,after,guard⟩):=by
 unfold AL;exact Bd.DA r (Lz (hρ x (by simp [Op.operands])) w)
theorem RY(r:Rel m A w)(hρ:∀ z∈(Op.field s x f).operands.toList,AI m (ρ z) (ρ' z)):
  Bd P m A w (AL P X ρ ⟨dst,.field s x f,type,pos,after,guard⟩ A) (execOp ρ' ⟨dst,.field s x f,type,pos,after,guard⟩):=by
 unfold AL;exact Bd.DA r (Qo (hρ x (by simp [Op.operands])) w)
theorem M5(r:Rel m A w)(hρ:∀ z∈(Op.indexAddr t x ix).operands.toList,AI m (ρ z) (ρ' z)):
  Bd P m A w (AL P X ρ ⟨dst,.indexAddr t x ix,type,pos,after,guard⟩ A) (execOp ρ' ⟨dst,.indexAddr t x ix,type,pos,after,guard⟩):=by
 unfold AL;exact Bd.DA r (Lx (hρ x (by simp [Op.operands])) (hρ ix (by simp [Op.operands])) w)
theorem RX(r:Rel m A w)(hρ:∀ z∈(Op.index t x ix).operands.toList,AI m (ρ z) (ρ' z)):
  Bd P m A w (AL P X ρ ⟨dst,.index t x ix,type,pos,after,guard⟩ A) (execOp ρ' ⟨dst,.index t x ix,type,pos,after,guard⟩):=by
 unfold AL;exact Bd.DA r (Qh (hρ x (by simp [Op.operands])) (hρ ix (by simp [Op.operands])) w)
theorem Qs(r:Rel m A w)(hρ:∀ z∈(Op.lookup t x k ok).operands.toList,AI m (ρ z) (ρ' z)):
  Bd P m A w (AL P X ρ ⟨dst,.lookup t x k ok,type,pos,after,guard⟩ A) (execOp ρ' ⟨dst,.lookup t x k ok,type,pos,after,guard⟩):=by
 unfold AL;exact Bd.DA r (OO r (hρ x (by simp [Op.operands])) (hρ k (by simp [Op.operands])))
theorem M3(r:Rel m A w)(hρ:∀ z∈(Op.mapUpdate t mm k x).operands.toList,AI m (ρ z) (ρ' z)):
  Bd P m A w (AL P X ρ ⟨dst,.mapUpdate t mm k x,type,pos,after,guard⟩ A) (execOp ρ' ⟨dst,.mapUpdate t mm k x,type,pos,after,guard⟩):=by
 unfold AL;exact Bd.LI (s:=Instr.mapUpdate t (ρ' mm) (ρ' k) (ρ' x)) fun A' h=>by
  obtain ⟨w',g1,g2⟩:=Hz r (hρ mm (by simp [Op.operands])) (hρ k (by simp [Op.operands])) (hρ x (by simp [Op.operands])) h;exact ⟨w',g1,m,g2⟩
theorem Qt(r:Rel m A w)(hρ:∀ z∈(Op.insert t mm k x).operands.toList,AI m (ρ z) (ρ' z)):
  Bd P m A w (AL P X ρ ⟨dst,.insert t mm k x,type,pos,after,guard⟩ A) (execOp ρ' ⟨dst,.insert t mm k x,type,pos,after,guard⟩):=by
 unfold AL;exact Bd.LI (s:=Instr.mapUpdate t (ρ' mm) (ρ' k) (ρ' x)) fun A' h=>by
  obtain ⟨w',g1,g2⟩:=Hz r (hρ mm (by simp [Op.operands])) (hρ k (by simp [Op.operands])) (hρ x (by simp [Op.operands])) h;exact ⟨w',g1,m,g2⟩
theorem NE(r:Rel m A w)(hρ:∀ z∈(Op.mapEntry t mm k).operands.toList,AI m (ρ z) (ρ' z)):
  Bd P m A w (AL P X ρ ⟨dst,.mapEntry t mm k,type,pos,after,guard⟩ A) (execOp ρ' ⟨dst,.mapEntry t mm k,type,pos,after,guard⟩):=by
 unfold AL;simp only;split
 ·rename_i v A' h;obtain ⟨v',w',g1,g2,g3⟩:=ME r (hρ mm (by simp [Op.operands])) (hρ k (by simp [Op.operands])) h;exact Bd.Rz ⟨v',w',m,g1,g2,g3⟩
 ·trivial
theorem LB(r:Rel m A w){s:Operand}(hρ:∀ z∈(Op.entryStore t mm s x).operands.toList,AI m (ρ z) (ρ' z)):
  Bd P m A w (AL P X ρ ⟨dst,.entryStore t mm s x,type,pos,after,guard⟩ A) (execOp ρ' ⟨dst,.entryStore t mm s x,type,pos,after,guard⟩):=by
 unfold AL;exact Bd.LI (s:=Instr.entryStore t (ρ' mm) (ρ' s) (ρ' x)) fun A' h=>by
  obtain ⟨w',g1,g2⟩:=KD r (hρ mm (by simp [Op.operands])) (hρ s (by simp [Op.operands])) (hρ x (by simp [Op.operands])) h;exact ⟨w',g1,m,g2⟩
theorem RV(r:Rel m A w)(hρ:∀ z∈(Op.range t x).operands.toList,AI m (ρ z) (ρ' z)):
  Bd P m A w (AL P X ρ ⟨dst,.range t x,type,pos,after,guard⟩ A) (execOp ρ' ⟨dst,.range t x,type,pos,after,guard⟩):=by
 unfold AL;have hx:=hρ x (by simp [Op.operands]);simp only;split
 ·rename_i s hu hs;rw [hs] at hx;generalize hq:ρ' x=z at hx;cases hx;split
  rotate_left
  ·trivial
  rename_i b A' h;obtain ⟨m',g2,g3⟩:=Dh (o':=.stringIter s 0) r h ⟨rfl,rfl⟩ rfl;exact ⟨.value (.pointer (some ⟨w.heap.size,0,none⟩)),_,m',by simp [execOp,Instr.range,run_underlying hu,hq],g2,_,rfl,.ptr ⟨rfl,rfl,0,g3,rfl⟩⟩
 ·rename_i kt vt hu hs;rw [hs] at hx;generalize hq:ρ' x=z at hx;cases hx;split
  rotate_left
  ·trivial
  rename_i b A' h;obtain ⟨m',g2,g3⟩:=Dh (o':=.mapIter none 0 #[] 0) r h ⟨rfl,rfl⟩ rfl;exact ⟨.value (.pointer (some ⟨w.heap.size,0,none⟩)),_,m',by simp [execOp,Instr.range,run_underlying hu,hq],g2,_,rfl,.ptr ⟨rfl,rfl,0,g3,rfl⟩⟩
 ·rename_i kt vt mm hu hs;rw [hs] at hx;split
  rotate_left
  ·trivial
  rename_i es clock ro hg;obtain ⟨c,es',hz,hm,hc,he⟩:=r.map hg hx;split
  rotate_left
  ·trivial
  rename_i b A' h;obtain ⟨m',g2,g3⟩:=Dh (o':=.mapIter (some c) clock #[] clock) r h ⟨rfl,c,rfl,hm⟩ rfl;exact ⟨.value (.pointer (some ⟨w.heap.size,0,none⟩)),_,m',by simp [execOp,Instr.range,run_underlying hu,hz,Be P w c _ hc],g2,_,rfl,.ptr ⟨rfl,rfl,0,g3,rfl⟩⟩
 ·trivial
theorem TR(r:Rel m A w){isString:Bool}(hρ:∀ z∈(Op.next it isString).operands.toList,AI m (ρ z) (ρ' z)):
  Bd P m A w (AL P X ρ ⟨dst,.next it isString,type,pos,after,guard⟩ A) (execOp ρ' ⟨dst,.next it isString,type,pos,after,guard⟩):=by
 unfold AL;exact Nx r (hρ it (by simp [Op.operands]))
theorem RZ(r:Rel m A w)(hρ:∀ z∈(Op.entry it).operands.toList,AI m (ρ z) (ρ' z)):
  Bd P m A w (AL P X ρ ⟨dst,.entry it,type,pos,after,guard⟩ A) (execOp ρ' ⟨dst,.entry it,type,pos,after,guard⟩):=by
 unfold AL;exact Bd.DA r (Qw r (hρ it (by simp [Op.operands])))
theorem LA(r:Rel m A w){xt at_:TypeId}(hρ:∀ z∈(Op.typeAssert x xt at_ ok).operands.toList,AI m (ρ z) (ρ' z)):
  Bd P m A w (AL P X ρ ⟨dst,.typeAssert x xt at_ ok,type,pos,after,guard⟩ A) (execOp ρ' ⟨dst,.typeAssert x xt at_ ok,type,pos,after,guard⟩):=by
 unfold AL;exact Bd.DA r (Ka (hρ x (by simp [Op.operands])) w)
theorem O0(r:Rel m A w){t:Operand}{ix:Nat}(hρ:∀ z∈(Op.extract t ix).operands.toList,AI m (ρ z) (ρ' z)):
  Bd P m A w (AL P X ρ ⟨dst,.extract t ix,type,pos,after,guard⟩ A) (execOp ρ' ⟨dst,.extract t ix,type,pos,after,guard⟩):=by
 unfold AL;have hx:=hρ t (by simp [Op.operands]);simp only;split
 ·rename_i vs hv;refine Bd.DA r (s:=Instr.extract (ρ' t) ix) ?_;rw [hv] at hx;generalize ρ' t=y at hx;exact NC (i:=ix) hx w
 ·trivial
theorem TU(hX:XOk P X)(r:Rel m A w){c:Call}(hρ:∀ z∈(Op.call c).operands.toList,AI m (ρ z) (ρ' z)):
  Bd P m A w (AL P X ρ ⟨dst,.call c,type,pos,after,guard⟩ A) (execOp ρ' ⟨dst,.call c,type,pos,after,guard⟩):=by
 unfold AL;simp only;cases hc:c.callee with
 |builtin b=>
  have hargs:AJ m (c.args.toList.map ρ) (c.args.toList.map ρ'):=AJ.two fun y hy=>hρ y (by simp [Op.operands,Call.operands,hc];simpa using hy);have hra:C7 ρ c type=some ⟨.builtin b c.argTypes type #[],⟨c.args.toList.map ρ⟩⟩:=by unfold C7;rw [hc]
  rw [hra];have e:c.args.map ρ'=⟨c.args.toList.map ρ'⟩:=by cases c.args;simp
  have h:=NP r (b:=b) (ts:=c.argTypes.toList) (ty:=type) (cs:=c.args.map fun | .const _=>true | _=>false) hargs;have hrun:(execOp ρ' ⟨dst,.call c,type,pos,after,guard⟩).run P w=(builtin b c.argTypes type (c.args.map fun | .const _=>true | _=>false) ⟨c.args.toList.map ρ'⟩).run P w:=by
   simp only [execOp,resolve,hc,Sem.run_bind,Sem.run_pure,Result.andThen_ok,e];rfl
  unfold Bd at h ⊢;rw [hrun];exact h
 |_=>
  all_goals
   cases hr:C7 ρ c type with
   |none=>trivial
   |some d=>
    obtain ⟨f,f',cs,cs',args,args',rfl,h1,h2,h3,h4⟩:=IN hρ hr (fun b=>by rw [hc];simp) w;have h:=FR hX r (c:=⟨cs⟩) h2 h3 h4;have hrun:(execOp ρ' ⟨dst,.call c,type,pos,after,guard⟩).run P w=(invoke (.fn f' ⟨cs'⟩) ⟨args'⟩).run P w:=by
     simp only [execOp,Sem.run_bind,h1,Result.andThen_ok]
    unfold Bd at h ⊢;rw [hrun];exact h
theorem R0(r:Rel m A w){c:Call}(hρ:∀ z∈(Op.defer c).operands.toList,AI m (ρ z) (ρ' z)):
  Bd P m A w (AL P X ρ ⟨dst,.defer c,type,pos,after,guard⟩ A) (execOp ρ' ⟨dst,.defer c,type,pos,after,guard⟩):=by
 unfold AL;simp only;split
 ·trivial
 ·rename_i d hr hb;obtain ⟨f,f',cs,cs',args,args',rfl,h1,h2,h3,h4⟩:=IN hρ hr (fun b h=>hb b h) w;refine ⟨.defer ⟨.fn f' ⟨cs'⟩,⟨args'⟩⟩,w,m,?_,.refl r,_,rfl,⟨f',cs',rfl,h2,h3⟩,h4⟩;simp only [execOp,Sem.run_bind,h1,Result.andThen_ok,Sem.run_pure]
 ·trivial
theorem RW(r:Rel m A w)(hρ:∀ z∈(Op.panic x).operands.toList,AI m (ρ z) (ρ' z)):
  Bd P m A w (AL P X ρ ⟨dst,.panic x,type,pos,after,guard⟩ A) (execOp ρ' ⟨dst,.panic x,type,pos,after,guard⟩):=by
 unfold AL;have hx:=hρ x (by simp [Op.operands]);simp only;split
 ·rename_i t v hv;rw [hv] at hx;generalize hq:ρ' x=z at hx;cases hx with
  |iface _ h=>exact ⟨_,w,m,by simp [execOp,hq,Instr.panic,goPanic],.refl r,.iface t h⟩
 ·trivial
theorem FX(hX:XOk P X)(r:Rel m A w){o:Oper}(hρ:∀ x∈o.op.operands.toList,AI m (ρ x) (ρ' x)):
  Bd P m A w (AL P X ρ o A) (execOp ρ' o):=by
 obtain ⟨dst,op,type,pos,after,guard⟩:=o;cases op with
 |move x=>exact TS r (x:=x) hρ
 |assign x=>exact Qu r (x:=x) hρ
 |pick c a b=>exact TQ r (c:=c) (a:=a) (b:=b) hρ
 |alloc e=>exact R3 r (e:=e) hρ
 |box e x=>exact VT r (e:=e) (x:=x) hρ
 |build t parts=>exact R1 r (t:=t) (parts:=parts) hρ
 |buildSlice t len parts=>exact LC r (t:=t) (len:=len) (parts:=parts) hρ
 |load t a=>exact TT r (t:=t) (a:=a) hρ
 |store t a x=>exact RT r (t:=t) (a:=a) (x:=x) hρ
 |nilCheck x=>exact ND r (x:=x) hρ
 |binOp op t x y b=>exact R2 r (op:=op) (t:=t) (x:=x) (y:=y) (b:=b) hρ
 |unOp op t x=>exact TP r (op:=op) (t:=t) (x:=x) hρ
 |convert s d x=>exact O1 r (s:=s) (d:=d) (x:=x) hρ
 |makeInterface t x=>exact Jj r (t:=t) (x:=x) hρ
 |makeFunc fn first captured=>exact NF r (fn:=fn) (first:=first) (captured:=captured) hρ
 |makeMap t q=>exact OZ r (t:=t) (q:=q) hρ
 |makeSlice t l c=>exact M4 r (t:=t) (l:=l) (c:=c) hρ
 |slice t x lo hi mx=>exact RU r (t:=t) (x:=x) (lo:=lo) (hi:=hi) (mx:=mx) hρ
 |fieldAddr s x f=>exact M6 r (s:=s) (x:=x) (f:=f) hρ
 |field s x f=>exact RY r (s:=s) (x:=x) (f:=f) hρ
 |indexAddr t x ix=>exact M5 r (t:=t) (x:=x) (ix:=ix) hρ
 |index t x ix=>exact RX r (t:=t) (x:=x) (ix:=ix) hρ
 |lookup t x k ok=>exact Qs r (t:=t) (x:=x) (k:=k) (ok:=ok) hρ
 |mapUpdate t mm k x=>exact M3 r (t:=t) (mm:=mm) (k:=k) (x:=x) hρ
 |insert t mm k x=>exact Qt r (t:=t) (mm:=mm) (k:=k) (x:=x) hρ
 |mapEntry t mm k=>exact NE r (t:=t) (mm:=mm) (k:=k) hρ
 |entryStore t mm s x=>exact LB r (t:=t) (mm:=mm) (s:=s) (x:=x) hρ
 |range t x=>exact RV r (t:=t) (x:=x) hρ
 |next it isString=>exact TR r (it:=it) (isString:=isString) hρ
 |entry it=>exact RZ r (it:=it) hρ
 |typeAssert x xt at_ ok=>exact LA r (x:=x) (xt:=xt) (at_:=at_) (ok:=ok) hρ
 |extract t ix=>exact O0 r (t:=t) (ix:=ix) hρ
 |call c=>exact TU hX r (c:=c) hρ
 |defer c=>exact R0 r (c:=c) hρ
 |panic x=>exact RW r (x:=x) hρ
 |_=>trivial
end
def DQ:List UInt8→List UInt8→Bool
 |[],[]=>true
 |a::r,b::s=>Nat.beq a.toNat b.toNat&&DQ r s
 |_,_=>false
def sameAddr(a b:Addr):Bool:=Nat.beq a.block b.block&&(Nat.beq a.off b.off&&(a.spot.isNone&&b.spot.isNone))
def JA:Int→Int→Bool
 |.ofNat a,.ofNat b=>Nat.beq a b
 |.negSucc a,.negSucc b=>Nat.beq a b
 |_,_=>false
def D9(f:Value→Value→Bool):List Value→List Value→Bool
 |[],[]=>true
 |a::r,b::s=>f a b&&D9 f r s
 |_,_=>false
def C3:Nat→Value→Value→Bool
 |0,_,_=>false
 |_+1,.bool a,.bool b=>a==b
 |_+1,.int k a,.int l b=>decide (k=l)&&JA a b
 |_+1,.string a,.string b=>DQ a.data.toList b.data.toList
 |_+1,.nilFunc,.nilFunc=>true
 |_+1,.nilIface,.nilIface=>true
 |_+1,.pointer none,.pointer none=>true
 |_+1,.pointer (some a),.pointer (some b)=>sameAddr a b
 |_+1,.slice none n c,.slice none n' c'=>Nat.beq n n'&&Nat.beq c c'
 |_+1,.slice (some a) n c,.slice (some b) n' c'=>sameAddr a b&&(Nat.beq n n'&&Nat.beq c c')
 |_+1,.map none,.map none=>true
 |_+1,.map (some a),.map (some b)=>Nat.beq a b
 |f+1,.iface t v,.iface u w=>Nat.beq t u&&C3 f v w
 |f+1,.agg a,.agg b=>D9 (C3 f) a.toList b.toList
 |f+1,.tuple a,.tuple b=>D9 (C3 f) a.toList b.toList
 |f+1,.func (.func g) a c,.func (.func g') a' c'=>Nat.beq g g'&&(D9 (C3 f) a.toList a'.toList&&D9 (C3 f) c.toList c'.toList)
 |_+1,_,_=>false
theorem Hb:∀ {a b:List UInt8},DQ a b=true→a=b
 |[],[],_=>rfl
 |a::r,b::s,h=>by
  simp only [DQ,Bq] at h;rw [UInt8.toNat_inj.1 (Nb h.1),Hb h.2]
 |[],_::_,h=>by simp [DQ] at h
 |_::_,[],h=>by simp [DQ] at h
theorem KQ{a b:Addr}(h:sameAddr a b=true):a=b:=by
 unfold sameAddr at h;simp only [Bq,Option.isNone_iff_eq_none] at h;obtain ⟨h1,h2,h3,h4⟩:=h;have h1:=Nb h1;have h2:=Nb h2;cases a;cases b
 simp_all
theorem Rb:∀ {a b:Int},JA a b=true→a=b
 |.ofNat _,.ofNat _,h=>by rw [Nb h]
 |.negSucc _,.negSucc _,h=>by rw [Nb h]
 |.ofNat _,.negSucc _,h=>by simp [JA] at h
 |.negSucc _,.ofNat _,h=>by simp [JA] at h
theorem FI{f:Value→Value→Bool}(hf:∀ a b,f a b=true→a=b):∀ {a b:List Value},D9 f a b=true→a=b
 |[],[],_=>rfl
 |a::r,b::s,h=>by
  simp only [D9,Bq] at h;rw [hf _ _ h.1,FI hf h.2]
 |[],_::_,h=>by simp [D9] at h
 |_::_,[],h=>by simp [D9] at h
theorem FH:∀ (n:Nat) (a b:Value),C3 n a b=true→a=b:=by
 intro n
 induction n with
 |zero=>intro a b h;simp [C3] at h
 |succ n ih=>
  intro a b h;unfold C3 at h;split at h
  ·contradiction
  ·simp at h;rw [h]
  ·simp only [Bq,decide_eq_true_eq] at h;rw [h.1,Rb h.2]
  ·have:=Hb h
   congr 1
   exact ByteArray.ext (Array.toList_inj.1 this)
  ·rfl
  ·rfl
  ·rfl
  ·rw [KQ h]
  ·simp only [Bq] at h;rw [Nb h.1,Nb h.2]
  ·simp only [Bq] at h;rw [KQ h.1,Nb h.2.1,Nb h.2.2]
  ·rfl
  ·rw [Nb h]
  ·have hn:=Nat.succ.inj ‹n+1=_+1›;subst hn;simp only [Bq] at h;rw [Nb h.1,ih _ _ h.2]
  ·have hn:=Nat.succ.inj ‹n+1=_+1›;subst hn
   have:=FI ih h
   rw [Array.toList_inj.1 this]
  ·have hn:=Nat.succ.inj ‹n+1=_+1›;subst hn
   have:=FI ih h
   rw [Array.toList_inj.1 this]
  ·have hn:=Nat.succ.inj ‹n+1=_+1›;subst hn;simp only [Bq] at h;rw [Nb h.1,Array.toList_inj.1 (FI ih h.2.1),Array.toList_inj.1 (FI ih h.2.2)]
  ·contradiction
def Rj:Builtin→Bool
 |.len=>true
 |.cap=>true
 |.min=>true
 |.max=>true
 |.unsafeSliceData=>true
 |_=>false
def Cj(P:Program):Op→Bool
 |.move _ | .pick .. | .build .. | .load .. | .nilCheck _ | .binOp .. | .unOp .. | .makeInterface .. | .makeFunc .. | .slice .. | .fieldAddr .. | .field .. | .indexAddr .. | .index .. | .lookup .. | .entry _
 |.typeAssert .. | .extract .. =>true
 |.convert _ d _=>(match P.underlying d with | some (.slice _)=>false | some _=>true | none=>false)
 |.call c=>(match c.callee with
  |.builtin b=>Rj b
  |_=>false)
 |_=>false
def D1:Op→Bool
 |.alloc _ | .box .. | .buildSlice .. | .makeMap .. =>true
 |_=>false
def nth:List Nat→Nat→Nat
 |[],_=>0
 |x::_,0=>x
 |_::r,n+1=>nth r n
def E2(acc:List Nat):List Edge→Nat
 |[]=>0
 |e::r=>bif Region.binds .any e then (1 <<< e.on) ||| (nth acc e.on ||| E2 acc r) else E2 acc r
def Dc:List Oper→List Nat→List Nat
 |[],acc=>acc
 |o::r,acc=>Dc r (acc++[E2 acc o.after.toList])
def within(a b:Nat):Bool:=Nat.beq (a&&& b) a
def D6(cls:Nat→Bool)(done:Nat):List Nat→Nat→Option Nat
 |[],_=>none
 |mk::r,i=>bif !done.testBit i&&(cls i&&within mk done) then some i else D6 cls done r (i+1)
def again(n:Nat)(eff done mask:Nat):Nat→List Nat
 |0=>[]
 |k+1=>bif done.testBit k&&(!eff.testBit k&&!mask.testBit k) then (n+k)::again n eff done mask k else again n eff done mask k
def Ik(done e:Nat):List Nat→Nat→Bool
 |[],_=>true
 |mk::r,i=>(done.testBit i || (Nat.beq i e || mk.testBit e))&&Ik done e r (i+1)
def Kw(eff alc done:Nat)(ms:List Nat):Option Nat:=
 match D6 (fun i=>!eff.testBit i&&alc.testBit i) done ms 0 with
 |some i=>some i
 |none=>D6 (fun i=>!eff.testBit i) done ms 0
def Kh(n:Nat)(ms:List Nat)(eff alc:Nat):Nat→Nat→Option (List Nat)
 |0,done=>bif Nat.beq (done+1) (1 <<< n) then some [] else none
 |f+1,done=>match Kw eff alc done ms with
  |some i=>(match Kh n ms eff alc f (done ||| (1 <<< i)) with
   |some p=>some (i::bif alc.testBit i then again n eff (done ||| (1 <<< i)) 0 n++p else p)
   |none=>none)
  |none=>match D6 (fun i=>eff.testBit i) done ms 0 with
   |some i=>bif Ik done i ms 0 then
     (match Kh n ms eff alc f (done ||| (1 <<< i)) with
     |some p=>some (i::(again n eff done (nth ms i) n++p))
     |none=>none)
    else none
   |none=>none
def Dw(c:Op→Bool):List Oper→Nat→Nat
 |[],_=>0
 |o::r,i=>bif c o.op then (1 <<< i) ||| Dw c r (i+1) else Dw c r (i+1)
def JP(t:Tmp):Operand→Bool
 |.tmp u=>Nat.beq t u
 |_=>false
def CX(ops:List Oper)(o:Oper)(t:Tmp):Bool:=
 o.op.operands.toList.any (JP t) ||
 (match o.guard with
 |none=>false
 |some (j,_)=>(match ops[j]? with | some g=>(match g.dst with | some d=>Nat.beq t d | none=>false) | none=>false))
def Jv(ops:List Oper)(eff mi:Nat)(i:Nat)(d:Tmp):List Oper→List Nat→Nat→Bool
 |[],_,_=>true
 |o::r,mm,j=>(bif CX ops o d then
    ((match mm with | x::_=>x.testBit i | []=>false) || (eff.testBit i&&(Nat.beq i j || mi.testBit j))) else true)&&
   ((Nat.beq i j || (match o.dst with | some e=>!Nat.beq d e | none=>true))&&Jv ops eff mi i d r mm.tail (j+1))
def GN(ops:List Oper)(ms:List Nat)(eff:Nat):List Oper→Nat→Bool
 |[],_=>true
 |o::r,i=>(match o.dst with
   |some d=>Jv ops eff (nth ms i) i d ops ms 0
   |none=>eff.testBit i)&&
   ((o.after.toList.all fun e=>!Region.binds .any e || Nat.blt e.on i)&&GN ops ms eff r (i+1))
def Mt(P:Program)(ops:List Oper):Option (List Nat):=
 let ms:=Dc ops [];let eff:=Dw (fun o=>!(Cj P o || D1 o)) ops 0
 bif GN ops ms eff ops 0 then Kh ops.length ms eff (Dw D1 ops 0) ops.length 0 else none
inductive QR where
 |row (cs:List Value) (e:TypeId)
 |slice (cs:List Value) (e:TypeId) (len:Nat)
 |map
section
variable (P:Program) (X:Bc)
def Bi(ρ:Operand→Value):Op→Option QR
 |.alloc e=>(match C2 P e with
  |some z=>bif z.cells.toList.all AP then some (.row z.cells.toList e) else none
  |none=>none)
 |.box e x=>bif (ρ x).cells.toList.all AP then some (.row (ρ x).cells.toList e) else none
 |.makeMap t r=>(match r with
  |none=>some .map
  |some h=>(match Dp P t,ρ h with
   |some _,.int _ _=>some .map
   |_,_=>none))
 |.buildSlice t len parts=>(match Bt P t with
  |some e=>(match szT P e with
   |some size=>
    bif Nat.ble (len*size) 16777216&&Nat.blt len room then
     (match E4 P e size len with
     |some zs=>(match Ld (fun i=>some (i*size,size)) zs (EK parts.toList ρ) with
      |some cs=>bif cs.all AP then some (.slice cs e len) else none
      |none=>none)
     |none=>none)
    else none
   |none=>none)
  |none=>none)
 |_=>none
def EH(w:AW)(b:Nat)(cs:List Value)(e:TypeId):Bool:=
 match w.get b with
 |some (.row ds e' _ _ _)=>Nat.beq e e'&&D9 (C3 6) cs ds
 |_=>false
def Cb(w:AW)(v:Value):QR→Bool
 |.row cs e=>(match v with
  |.pointer (some a)=>Nat.beq a.off 0&&(a.spot.isNone&&EH w a.block cs e)
  |_=>false)
 |.slice cs e len=>(match v with
  |.slice (some a) n c=>Nat.beq a.off 0&&(a.spot.isNone&&(Nat.beq n len&&(Nat.beq c len&&EH w a.block cs e)))
  |_=>false)
 |.map=>(match v with
  |.map (some b)=>(match w.get b with | some (.map [] 0 _)=>true | _=>false)
  |_=>false)
def FK(fr:AFr)(w:AW)(ops:Array Oper)(j:Nat):Bool:=
 match ops.toList[j]? with
 |none=>false
 |some o=>(match o.dst with
  |none=>false
  |some d=>bif AS ops fr.tm o then
    (bif Cj P o.op then (match AL P X fr.eval o w with | .ok (.value v) _=>C3 6 v (fr.tm.get d) | _=>false)
    else (match Bi P fr.eval o.op with | some c=>Cb w (fr.tm.get d) c | none=>false))
   else C3 6 undef (fr.tm.get d))
def D5(s:ASt)(ops:Array Oper)(i:Nat):Option (FuncId × List Value × AW):=
 match X.known with
 |[]=>none
 |_::_=>(match ops.toList[i]? with
  |some o=>bif AS ops s.fr.tm o then
    (match AL P X s.fr.eval o s.w with
    |.ok (.enter f args) w=>bif Em f X.known then some (f,args,w) else none
    |_=>none)
   else none
  |none=>none)
def JV(s:ASt)(ops:Array Oper)(i:Nat):Option AW:=
 match X.forks with
 |[]=>none
 |_::_=>bif Em s.fr.fn X.forks then (match ops.toList[i]? with
  |some o=>(match o.op with
   |.binOp op _ _ _ _=>bif (match op with | .lss=>true | .leq=>true | .gtr=>true | .geq=>true | .eql=>true | .neq=>true | _=>false)&&AS ops s.fr.tm o then
     (match AL P X s.fr.eval o s.w with
     |.ok (.value (.bool _)) w=>some w
     |_=>none) else none
   |_=>none)
  |none=>none) else none
def Ng(s:ASt)(ops:Array Oper)(j:Nat):Option (Value × Value):=
 match X.asks with
 |[]=>none
 |_::_=>bif Em s.fr.fn X.asks then (match ops.toList[j]? with
  |some o=>(match o.dst with
   |some d=>bif AS ops s.fr.tm o&&Cj P o.op then
     (match AL P X s.fr.eval o s.w with
     |.ok (.value v) _=>some (v,s.fr.tm.get d)
     |_=>none) else none
   |none=>none)
  |none=>none) else none
def SU(f d:Nat):List (FuncId × Tmp × Value)→Option Value
 |[]=>none
 |(g,e,v)::r=>bif Nat.beq f g&&Nat.beq d e then some v else SU f d r
def Jy(s:ASt)(ops:Array Oper)(i:Nat):Option (Value × Value × AW):=
 match X.says with
 |[]=>none
 |_::_=>(match ops.toList[i]? with
  |some o=>(match o.dst with
   |some d=>(match SU s.fr.fn d X.says with
    |some v'=>bif AS ops s.fr.tm o then
      (match AL P X s.fr.eval o s.w with
      |.ok (.value v) w=>some (v,v',w)
      |_=>none) else none
    |none=>none)
   |none=>none)
  |none=>none)
def Ie(n:Nat):List Oper→Bool
 |[]=>true
 |o::r=>(match o.dst with | some d=>Nat.blt d n | none=>true)&&Ie n r
def Ba(s:ASt):CT:=
 match s.fr.mode,s.fr.todo with
 |.run,.code (.region _ ops true)::k=>bif Ie s.fr.tm.sz ops.toList then (match Mt P ops.toList with
  |some p=>.next { s with fr:={ s.fr with todo:=.inRegion ops p::k,dr:=true } }
  |none=>.fail "no plan") else .fail "no slot"
 |.run,.inRegion ops (i::rest)::k=>
  bif s.fr.dr&&!Nat.blt i ops.toList.length then
   (match Ng P X s ops (i-ops.toList.length) with
   |some (v,v')=>.asks v v' { s with fr:={ s.fr with todo:=.inRegion ops rest::k } }
   |none=>bif FK P X s.fr s.w ops (i-ops.toList.length) then .next { s with fr:={ s.fr with todo:=.inRegion ops rest::k } } else .fail "recheck")
  else (match D5 P X s ops i with
   |some (f,args,w)=>.calls f args ⟨s.fr,s.cs,w⟩
   |none=>(match JV P X s ops i with
    |some w=>.branch [⟨s.fr.finish (.bool true),s.cs,w⟩,⟨s.fr.finish (.bool false),s.cs,w⟩]
    |none=>(match Jy P X s ops i with
     |some (v,v',w)=>.asks v v' ⟨s.fr.finish v',s.cs,w⟩
     |none=>Dm P X s)))
 |.run,.code (.cond c a b)::k=>bif Em s.fr.fn X.forks then (match s.fr.eval c with
   |.bool _=>.branch [{ s with fr:={ s.fr with todo:=.code a::k } },{ s with fr:={ s.fr with todo:=.code b::k } }]
   |_=>.fail "cond") else Dm P X s
 |_,_=>Dm P X s
end
end Go.Abs
