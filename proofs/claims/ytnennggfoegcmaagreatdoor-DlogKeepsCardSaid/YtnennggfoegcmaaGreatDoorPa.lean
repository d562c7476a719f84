/-
  Operations on an abstract heap are shown to do what the model does with them. Conditions: those that each theorem states.
-/
import Derived.Below
import Derived.Calls
import Derived.IntWalk
import Derived.Laws.Tables
import Derived.Lib.Strings
import Derived.Orders
set_option linter.all false
set_option maxRecDepth 100000
set_option maxHeartbeats 1000000
namespace Go
abbrev Oi:=@Option.some.injEq
abbrev Ms:=@List.mem_singleton
abbrev Lq:=@List.length_append
abbrev Lc:=@List.length_cons
abbrev Ln:=@List.length_nil
abbrev Mc:=@List.map_cons
abbrev Mn:=@List.map_nil
abbrev Li:=@List.cons.injEq
abbrev Pj:=@Prod.mk.injEq
abbrev Ge:=@List.getElem?_eq_getElem
abbrev Gs:=@List.getElem?_eq_some_iff
abbrev Bq:=@Bool.and_eq_true
abbrev Nl:=@Nat.le_refl
abbrev Nb:=@Nat.eq_of_beq_eq_true
abbrev Ct:=@cond_true
abbrev Cf:=@cond_false
abbrev Ff:=@if_neg
abbrev Mk:=@List.mem_cons
abbrev Mz:=@List.mem_append
abbrev Mw:=@List.append_assoc
end Go
namespace Go.Abs
def Bo:Nat:=18446744073709551616
inductive Trie (α:Type) where
 |nil
 |node (v:Option α) (l r:Trie α)
def Trie.get?{α:Type}:Trie α->Nat->Option α
 |.nil,_=>none
 |.node v l r,n=>bif Nat.beq n 0 then v else bif Nat.beq (n%2) 1 then l.get? (n/2) else r.get? (n/2-1)
def Trie.put{α:Type}:Nat->Trie α->Nat->Option α->Trie α
 |0,t,_,_=>t
 |k+1,.nil,n,x=>bif Nat.beq n 0 then .node x .nil .nil else bif Nat.beq (n%2) 1 then .node none (Trie.put k .nil (n/2) x) .nil else .node none .nil (Trie.put k .nil (n/2-1) x)
 |k+1,.node v l r,n,x=>bif Nat.beq n 0 then .node x l r else bif Nat.beq (n%2) 1 then .node v (Trie.put k l (n/2) x) r else .node v l (Trie.put k r (n/2-1) x)
def depth:Nat:=44
structure Tm where
 sz:Nat
 t:Trie Value
def Tm.get(m:Tm)(i:Nat):Value:=match m.t.get? i with | some v=>v | none=>undef
def Tm.set(m:Tm)(i:Nat)(v:Value):Tm:=bif Nat.blt i m.sz then ⟨m.sz,m.t.put depth i (some v)⟩ else m
def Tm.fill(m:Tm)(i:Nat):List Value->Tm
 |[]=>m
 |v::r=>Tm.fill (m.set i v) (i+1) r
structure GV where
 state:LoopState
 pending:Option Code
 fn:FuncId
 tm:Tm
 params:List Tmp
 assign:Code
 body:Code
 defers:Nat
inductive AO where
 |row (cells:List Value) (elem:TypeId) (fam base:Nat) (ro:Bool)
 |map (es:List MapEntry) (clock:Nat) (ro:Bool)
 |mit (map:Option Nat) (since:Nat) (seen:List Nat) (stepped:Nat)
 |loop (l:GV)
 |deferred (live:Bool)
structure AW where
 heap:Trie AO
 next:Nat
 fams:Trie (List Nat)
inductive R (α:Type) where
 |ok (a:α) (w:AW)
 |fail (why:String)
def isTuple:Value->Bool | .tuple _=>true | _=>false
def FZ:Value:=.tuple #[.bool false]
def AK:Value->Bool | .agg _ | .tuple _=>false | _=>true
def AW.get(w:AW)(b:Nat):Option AO:=w.heap.get? b
def AW.put(w:AW)(b:Nat)(o:AO):AW:={ w with heap:=w.heap.put depth b (some o) }
def cellOf:List Value->Nat->Option Value
 |[],_=>none
 |v::_,0=>bif isTuple v then none else some v
 |_::r,n+1=>cellOf r n
def AW.cell?(w:AW)(a:Addr):Option Value:=
 match a.spot with
 |some _=>none
 |none=>match w.get a.block with
  |some (.row cs _ _ _ _)=>cellOf cs a.off
  |_=>none
def Bh:List Value->Nat->Option (List Value)
 |_,0=>some []
 |[],_+1=>none
 |v::r,n+1=>bif isTuple v then none else (match Bh r n with | some l=>some (v::l) | none=>none)
def D6:List Value->Nat->Option (List Value)
 |_,0=>some []
 |[],_+1=>none
 |v::r,n+1=>match D6 r n with | some l=>some (v::l) | none=>none
def AW.cells?(w:AW)(a:Addr)(n:Nat):Option (List Value):=
 match n with
 |0=>some []
 |n+1=>match a.spot with
  |some _=>none
  |none=>match w.get a.block with
   |some (.row cs _ _ _ _)=>Bh (cs.drop a.off) (n+1)
   |_=>none
def AW.members(w:AW)(fam:Nat):List Nat:=match w.fams.get? fam with | some l=>l | none=>[fam]
def BU(Dr coord:Nat):List Nat->AW->AW
 |[],w=>w
 |i::r,w=>
  BU Dr coord r (bif Nat.beq i Dr then w else
   match w.get i with
   |some (.row cs e fam base ro)=>bif Nat.ble base coord then w.put i (.row (cs.set (coord-base) FZ) e fam base ro) else w
   |_=>w)
def DA:List Value->List Value
 |[]=>[]
 |_::r=>FZ::DA r
def BS:List Value->Nat->List Value
 |l,0=>DA l
 |[],_+1=>[]
 |v::r,n+1=>v::BS r n
def BO(coord:Nat):List Nat->AW->AW
 |[],w=>w
 |i::r,w=>
  BO coord r (match w.get i with
   |some (.row cs e fam base ro)=>w.put i (.row (BS cs (coord-base)) e fam base ro)
   |_=>w)
def AW.setCell(w:AW)(a:Addr)(v:Value):Option AW:=
 match a.spot with
 |some _=>none
 |none=>match w.get a.block with
  |some (.row cs e fam base ro)=>
   bif ro || !AK v || Nat.ble cs.length a.off then none
   else some (BU a.block (base+a.off) (w.members fam) (w.put a.block (.row (cs.set a.off v) e fam base ro)))
  |_=>none
def AW.setCells(w:AW)(a:Addr):List Value->Option AW
 |[]=>some w
 |v::r=>match w.setCell a v with
  |some w'=>AW.setCells w' { a with off:=a.off+1 } r
  |none=>none
def Aj:Nat:=1099511627776
def AW.new(w:AW)(o:AO):Option (Nat × AW):=
 bif Nat.blt w.next Aj then some (w.next,{ (w.put w.next o) with next:=w.next+1 }) else none
def AW.newRow(w:AW)(cs:List Value)(e:TypeId):Option (Addr × AW):=
 bif cs.all AK then (match w.new (.row cs e w.next 0 false) with
  |some (b,w')=>some (⟨b,0,none⟩,w')
  |none=>none) else none
structure Bt where
 known:List FuncId:=[]
section
variable (P:Program)
def Ax:Nat->Value->Bool
 |_,.bool _=>true
 |_,.int _ _=>true
 |_,.float _ _=>true
 |_,.complex _ _ _=>true
 |_,.string _=>true
 |_,.nilFunc=>true
 |_,.nilIface=>true
 |_,.pointer none=>true
 |_,.slice none 0 0=>true
 |_,.map none=>true
 |_,.chan none=>true
 |n+1,.iface _ v=>Ax n v
 |n+1,.agg cs=>cs.toList.all (Ax n)
 |n+1,.tuple cs=>cs.toList.all (Ax n)
 |n+1,.func fn f c=>(match fn with | .yield _=>false | _=>true)&&(f.toList.all (Ax n)&&c.toList.all (Ax n))
 |_,_=>false
def quiet{α:Type}:Sem α->Option α
 |.pure a=>some a
 |.program k=>quiet (k P)
 |.mark _ k=>quiet k
 |_=>none
def szT(t:TypeId):Option Nat:=match P.info? t with | some i=>some i.size | none=>none
def EB(t:TypeId):Option Nat:=match P.info? t with | some i=>some i.bytes | none=>none
def Dt(t:TypeId):Option Value:=match P.info? t with
 |some i=>(match i.zero with | some z=>bif Ax 4 z then some z else none | none=>none)
 |none=>none
def N7(t:TypeId):Option Bool:=match P.underlying t with
 |some (.struct _)=>some true
 |some (.array _ _)=>some true
 |some _=>some false
 |none=>none
def Us(t:TypeId)(f:Nat):Option Field:=match P.underlying t with
 |some (.struct fs)=>fs.toList[f]?
 |_=>none
def BG(t:TypeId):Option TypeId:=match P.underlying t with | some (.slice e)=>some e | _=>none
def Ef(w:AW)(t:TypeId)(a:Addr):Option Value:=
 match N7 P t with
 |some true=>match szT P t with
  |some n=>match w.cells? a n with | some l=>some (.agg ⟨l⟩) | none=>none
  |none=>none
 |some false=>w.cell? a
 |none=>none
def Jy(w:AW)(t:TypeId)(a:Addr)(v:Value):Option AW:=
 match szT P t with
 |some n=>let cs:=v.cells.toList;bif Nat.beq cs.length n then w.setCells a cs else none
 |none=>none
def Yi(t:TypeId)(cs:List Value)(off:Nat):Option Value:=
 match N7 P t with
 |some true=>match szT P t with
  |some n=>match D6 (cs.drop off) n with | some l=>some (.agg ⟨l⟩) | none=>none
  |none=>none
 |some false=>cs[off]?
 |none=>none
def EX:List Value->Nat->List Value->Option (List Value)
 |l,_,[]=>some l
 |[],_,_::_=>none
 |_::r,0,v::vs=>match EX r 0 vs with | some r'=>some (v::r') | none=>none
 |x::r,n+1,v::vs=>match EX r n (v::vs) with | some r'=>some (x::r') | none=>none
def ML(place:Nat->Option (Nat × Nat)):List Value->List (Nat × Value)->Option (List Value)
 |cells,[]=>some cells
 |cells,(i,v)::rest=>match place i with
  |some (off,size)=>
   let vs:=v.cells.toList
   bif Nat.beq vs.length size&&Nat.ble (off+size) cells.length then (match EX cells off vs with | some cells'=>ML place cells' rest | none=>none) else none
  |none=>none
def Lj:List Field->Option (List (Nat × Nat))
 |[]=>some []
 |f::r=>match szT P f.type,Lj r with
  |some n,some l=>some ((f.offset,n)::l)
  |_,_=>none
def Bd(t:TypeId)(parts:List (Nat × Value)):Option Value:=
 match Dt P t with
 |none=>none
 |some z=>match P.underlying t with
  |some (.struct fs)=>(match Lj P fs.toList with
   |some ps=>(match ML (λi=>ps[i]?) z.cells.toList parts with | some l=>some (.agg ⟨l⟩) | none=>none)
   |none=>none)
  |some (.array _ e)=>(match szT P e with
   |some n=>(match ML (λi=>some (i*n,n)) z.cells.toList parts with | some l=>some (.agg ⟨l⟩) | none=>none)
   |none=>none)
  |_=>none
def EO(z:List Value):Nat->List Value
 |0=>[]
 |n+1=>z++EO z n
def Hf(e:TypeId)(size n:Nat):Option (List Value):=
 bif Nat.beq (n*size) 0 then some [] else
 match Dt P e with
 |some z=>bif Nat.beq z.cells.toList.length size then some (EO z.cells.toList n) else none
 |none=>none
def eqA(t:TypeId)(x y:Value):Option Bool:=
 bif Ax 4 x&&Ax 4 y then quiet P (Op.equal t x y) else
 match P.underlying t,x,y with
 |some (.pointer _),.pointer none,.pointer b=>some b.isNone
 |some (.pointer _),.pointer (some _),.pointer none=>some false
 |some (.pointer e),.pointer (some a),.pointer (some b)=>
  (match szT P e,a.spot,b.spot with
  |some (_+1),none,none=>bif Nat.beq a.block b.block then some (Nat.beq a.off b.off) else none
  |_,_,_=>none)
 |some (.slice _),.slice none _ _,.slice b _ _=>some b.isNone
 |some (.slice _),.slice (some _) _ _,.slice none _ _=>some false
 |some (.map _ _),.map none,.map b=>some b.isNone
 |some (.map _ _),.map (some _),.map none=>some false
 |some (.func _ _ _),.nilFunc,.func _ _ _=>some false
 |some (.func _ _ _),.func _ _ _,.nilFunc=>some false
 |some (.interface _),.nilIface,.iface _ _=>some false
 |some (.interface _),.iface _ _,.nilIface=>some false
 |_,_,_=>none
def isConst:Operand->Bool | .const _=>true | _=>false
def DI(t:TypeId)(xo yo:Operand)(x y:Value):Bool:=
 match x,y with
 |.nilIface,.nilIface=>isConst xo || isConst yo
 |.agg _,.agg _=>!P.eqGuardType P.depth t
 |_,_=>true
def TO(op:BinOp)(x y:ByteArray):Option Value:=
 let a:=x.data.toList;let b:=y.data.toList
 match op with
 |.add=>let l:=a++b;bif Nat.blt l.length 1099511627776 then some (.string ⟨⟨l⟩⟩) else none
 |.eql=>some (.bool (a==b))
 |.neq=>some (.bool !(a==b))
 |.lss=>some (.bool (Op.bytesLess a b))
 |.leq=>some (.bool (Op.bytesLess a b || a==b))
 |.gtr=>some (.bool !(Op.bytesLess a b || a==b))
 |.geq=>some (.bool !(Op.bytesLess a b))
 |_=>none
def C3(v:Option Value):Option Value:=match v with | some v=>bif Ax 4 v then some v else none | none=>none
def An(op:BinOp)(t:TypeId)(xo yo:Operand)(x y:Value):Option Value:=
 match x,y with
 |.int _ _,.int _ _=>C3 (quiet P (binOp op t x y))
 |.string a,.string b=>TO op a b
 |.float _ _,.float _ _=>none
 |.complex _ _ _,.complex _ _ _=>none
 |_,_=>match op with
  |.eql=>bif DI P t xo yo x y then (match eqA P t x y with | some b=>some (.bool b) | none=>none) else none
  |.neq=>bif DI P t xo yo x y then (match eqA P t x y with | some b=>some (.bool !b) | none=>none) else none
  |_=>none
def unA(op:UnOp)(x:Value):Option Value:=bif Ax 1 x then C3 (quiet P (Op.unary op x)) else none
def Ek(a:Addr)(n:Nat):Addr:=bif Nat.beq n 0 then a else ⟨a.block,a.off+n,none⟩
def Ad(s:TypeId)(x:Value)(f:Nat):Option Value:=
 match x with
 |.pointer (some a)=>match Us P s f with
  |some fd=>(match szT P fd.type with
   |some (_+1)=>some (.pointer (some (Ek a fd.offset)))
   |_=>none)
  |none=>none
 |_=>none
def Ar(t:TypeId)(x ix:Value):Option Value:=
 match ix with
 |.int _ (.ofNat i)=>
  match P.underlying t,x with
  |some (.array len e),.pointer (some a)=>
   bif Nat.blt i len then (match szT P e with | some n=>some (.pointer (some (Ek a (i*n)))) | none=>none) else none
  |some (.slice e),.slice (some a) len _=>
   bif Nat.blt i len then (match szT P e with | some n=>some (.pointer (some (Ek a (i*n)))) | none=>none) else none
  |_,_=>none
 |_=>none
def Io(t:TypeId)(x ix:Value):Option Value:=
 match ix with
 |.int _ (.ofNat i)=>
  match P.underlying t,x with
  |some (.array len e),.agg cs=>
   bif Nat.blt i len then (match szT P e with | some n=>Yi P e cs.toList (i*n) | none=>none) else none
  |some .string,.string s=>(match s.data.toList[i]? with | some b=>some (.int .u8 b.toNat) | none=>none)
  |_,_=>none
 |_=>none
def Dn(v:Option Value)(dflt y:Nat):Option Nat:=
 match v with
 |none=>some dflt
 |some (.int _ (.ofNat i))=>bif Nat.ble i y then some i else none
 |some _=>none
def FQ(mx hi:Option Value):Bool:=hi.isSome || !mx.isSome
def bounds(len cap:Nat)(lo hi mx:Option Value):Option (Nat × Nat × Nat):=
 bif FQ mx hi then
  match Dn mx cap cap with
  |none=>none
  |some m=>match Dn hi len m with
   |none=>none
   |some h=>match Dn lo 0 h with
    |none=>none
    |some l=>some (l,h,m)
 else none
def Gc(a:Option Addr)(n:Nat):Option Addr:=match a with | some a=>some (Ek a n) | none=>none
def HA(w:AW)(a:Option Addr)(e:TypeId):Bool:=
 match a with
 |some a=>(match w.get a.block with | some (.row _ e' _ _ _)=>Nat.beq e' e | _=>false)
 |none=>false
def AX(w:AW)(t:TypeId)(x:Value)(lo hi mx:Option Value):Option Value:=
 match P.underlying t,x with
 |some .string,.string s=>
  (match mx,bounds s.data.toList.length s.data.toList.length lo hi none with
  |none,some (l,h,_)=>some (.string ⟨⟨(s.data.toList.take h).drop l⟩⟩)
  |_,_=>none)
 |some (.slice e),.slice a len cap=>
  (match szT P e with
  |none=>none
  |some size=>
   bif Nat.ble Bo cap then
    (match mx with
    |none=>(match bounds len (cap-Bo) lo hi none with
     |some (l,h,m)=>bif Nat.ble h m&&HA w a e then some (.slice (Gc a (l*size)) (h-l) (Bo+(m-l))) else none
     |none=>none)
    |some _=>(match bounds len (cap-Bo) lo hi mx with
     |some (l,h,m)=>bif Nat.blt m Bo then some (.slice (Gc a (l*size)) (h-l) (m-l)) else none
     |none=>none))
   else
    (match bounds len cap lo hi mx with
    |some (l,h,m)=>some (.slice (bif Nat.beq m l then a else Gc a (l*size)) (h-l) (m-l))
    |none=>none))
 |some (.array n e),.pointer (some a)=>
  (match szT P e with
  |none=>none
  |some size=>(match bounds n n lo hi mx with
   |some (l,h,m)=>bif Nat.blt m Bo then some (.slice (some (bif Nat.beq m l then a else Ek a (l*size))) (h-l) (m-l)) else none
   |none=>none))
 |_,_=>none
def HK(kt:TypeId)(k:Value):List MapEntry->Nat->Option (Option Nat)
 |[],_=>some none
 |e::es,i=>match eqA P kt k e.key with
  |some true=>some (some i)
  |some false=>HK kt k es (i+1)
  |none=>none
def KB(empty:Bool)(kt:TypeId)(k:Value):Bool:=Ax 4 k&&(match quiet P (Instr.checkKey empty 10000 kt k) with | some _=>true | none=>false)
def D0(t:TypeId):Option (TypeId × TypeId):=match P.underlying t with | some (.map k e)=>some (k,e) | _=>none
def L8(w:AW)(x:Value):Option (List MapEntry):=
 match x with
 |.map none=>some []
 |.map (some r)=>(match w.get r with | some (.map es _ _)=>some es | _=>none)
 |_=>none
def Cu(w:AW)(t:TypeId)(x k:Value)(commaOk:Bool):Option Value:=
 match D0 P t with
 |none=>none
 |some (kt,et)=>
  match L8 w x with
  |none=>none
  |some es=>
   bif KB P es.isEmpty kt k then
    match HK P kt k es 0 with
    |none=>none
    |some (some i)=>(match es[i]? with
     |some e=>some (bif commaOk then .tuple #[e.val,.bool true] else e.val)
     |none=>none)
    |some none=>(match Dt P et with
     |some z=>some (bif commaOk then .tuple #[z,.bool false] else z)
     |none=>none)
   else none
def GD:List MapEntry->Nat->Value->Value->List MapEntry
 |[],_,_,_=>[]
 |e::r,0,k,v=>{ e with key:=k,val:=v }::r
 |e::r,n+1,k,v=>e::GD r n k v
def Cp(w:AW)(t:TypeId)(m k v:Value):Option AW:=
 match D0 P t,m with
 |some (kt,_),.map (some r)=>
  bif KB P false kt k then
   match w.get r with
   |some (.map es clock false)=>
    (match HK P kt k es 0 with
    |none=>none
    |some (some i)=>(match es[i]? with
     |some e=>bif Ax 4 e.key&&Instr.sameBits 10000 e.key k then some (w.put r (.map (GD es i k v) clock false)) else none
     |none=>none)
    |some none=>some (w.put r (.map (es++[{ key:=k,val:=v,born:=clock }]) (clock+1) false)))
   |_=>none
  else none
 |_,_=>none
def Eh(n:Nat):List MapEntry->Nat->Option Nat
 |[],_=>none
 |e::r,i=>bif Nat.beq e.born n then some i else Eh n r (i+1)
def FJ(w:AW)(t:TypeId)(m k:Value):Option AW:=
 match D0 P t with
 |some (kt,_)=>
  (match m with
  |.map none=>bif KB P true kt k then some w else none
  |.map (some r)=>(match w.get r with
   |some (.map es clock false)=>
    bif KB P es.isEmpty kt k then
     (match HK P kt k es 0 with
     |none=>none
     |some (some i)=>some (w.put r (.map (es.eraseIdx i) clock false))
     |some none=>some (w.put r (.map es clock false)))
    else none
   |_=>none)
  |_=>none)
 |_=>none
def Bi(w:AW)(t:TypeId)(x:Value):Option Value:=
 match P.underlying t,x with
 |some .string,.string s=>some (.int .i64 s.data.toList.length)
 |some (.array n _),_=>some (.int .i64 n)
 |some (.slice _),.slice _ n _=>some (.int .i64 n)
 |some (.map _ _),.map none=>some (.int .i64 0)
 |some (.map _ _),.map (some r)=>(match w.get r with | some (.map es _ _)=>some (.int .i64 es.length) | _=>none)
 |_,_=>none
def Df(w:AW)(size:Nat)(x:Value):Option (Nat × List Value):=
 match x with
 |.slice (some a) n _=>(match w.cells? a (n*size) with | some l=>some (n,l) | none=>none)
 |.slice none n _=>bif Nat.beq n 0 then some (0,[]) else none
 |.string s=>bif Nat.beq size 1 then some (s.data.toList.length,s.data.toList.map λb=>.int .u8 b.toNat) else none
 |_=>none
def room:Nat:=68719476736
def AW.CE(w:AW)(a:Addr)(n:Nat):Option (List Value):=
 match n with
 |0=>some []
 |n+1=>match a.spot with
  |some _=>none
  |none=>match w.get a.block with
   |some (.row cs _ _ _ _)=>D6 (cs.drop a.off) (n+1)
   |_=>none
def AW.I0(w:AW)(cs:List Value)(e:TypeId)(fam base:Nat):Option (Addr × AW):=
 match w.new (.row cs e fam base false) with
 |some (b,w')=>some (⟨b,0,none⟩,{ w' with fams:=w'.fams.put depth fam (some (b::w.members fam)) })
 |none=>none
def C9(e:TypeId)(size:Nat):Bool:=match Dt P e with | some z=>Nat.beq z.cells.toList.length size | none=>false
def BM(w:AW)(e t2:TypeId)(size:Nat)(x:Value):Option (Nat × List Value):=
 match P.underlying t2,x with
 |none,_=>none
 |some (.int _),.int _ (.ofNat n)=>bif Nat.blt n room then (match Hf P e size n with | some l=>some (n,l) | none=>none) else none
 |some (.int _),_=>none
 |some _,x=>Df w size x
def AU(w:AW)(t t2:TypeId)(s x:Value):R Value:=
 match BG P t,s with
 |some e,.slice base n cap=>
  (match szT P e,EB P e with
  |some 0,_=>.fail "append size 0"
  |some size,some bytes=>
   match BM P w e t2 size x with
   |none=>.fail "append source"
   |some (m,new)=>
    let need:=n+m
    bif !(Nat.blt need room&&Nat.blt (need*bytes) room&&C9 P e size) then .fail "append room" else
    match m with
    |0=>.ok s w
    |_+1=>
     let lb:=bif Nat.ble Bo cap then cap-Bo else cap
     bif Nat.ble need lb then
      match base with
      |none=>.fail "append nil with room"
      |some a=>(match w.setCells (Ek a (n*size)) new with
       |some w'=>.ok (.slice base need cap) w'
       |none=>.fail "append set")
     else bif Nat.ble Bo cap then
      match base with
      |none=>.fail "append nil with unknown capacity"
      |some a=>match a.spot,w.get a.block with
       |none,some (.row _ e' fam b0 false)=>
        bif !(Nat.beq e' e&&new.all AK) then .fail "append elements" else
        (match w.CE a (n*size) with
        |none=>.fail "append old cells"
        |some old=>
         match (BO (b0+a.off+n*size) (w.members fam) w).I0 (old++new) e fam (b0+a.off) with
         |some (a',w')=>.ok (.slice (some a') need (Bo+need)) w'
         |none=>.fail "append new")
       |_,_=>.fail "append base row"
     else
      match (match base with | some a=>w.CE a (n*size) | none=>some []) with
      |none=>.fail "append old cells"
      |some old=>(match w.new (.row (old++new) e w.next 0 false) with
       |some (b,w')=>.ok (.slice (some ⟨b,0,none⟩) need (Bo+need)) w'
       |none=>.fail "append new")
  |_,_=>.fail "append type")
 |_,_=>.fail "append"
def O8:Value->Option Nat
 |.slice _ n _=>some n
 |.string s=>some s.data.toList.length
 |_=>none
def HQ(w:AW)(size n:Nat):Value->Option (List Value)
 |.slice (some a) _ _=>w.cells? a (n*size)
 |.slice none _ _=>some []
 |.string s=>some ((s.data.toList.take n).map λb=>.int .u8 b.toNat)
 |_=>none
def least(a b:Nat):Nat:=bif Nat.ble a b then a else b
def LG(w:AW)(t:TypeId)(d x:Value):R Value:=
 match BG P t,d with
 |some e,.slice base dLen _=>(match szT P e,O8 x with
  |some size,some n0=>
   (match HQ w size (least n0 dLen) x with
    |none=>.fail "copy cells"
    |some cells=>(match base with
     |none=>.ok (.int .i64 (least n0 dLen)) w
     |some a=>(match w.setCells a cells with | some w'=>.ok (.int .i64 (least n0 dLen)) w' | none=>.fail "copy set")))
  |_,_=>.fail "copy source")
 |_,_=>.fail "copy"
def B7:List Value->Option (List UInt8)
 |[]=>some []
 |.int .u8 n::r=>(match B7 r with | some l=>some (UInt8.ofNat n.toNat::l) | none=>none)
 |_::_=>none
def AQ(w:AW)(src dst:TypeId)(x:Value):R Value:=
 match P.underlying src,P.underlying dst,x with
 |some _,some (.int k),.int _ n=>.ok (.int k (k.wrap n)) w
 |some .string,some (.slice e),.string s=>(match P.underlying e,szT P e with
  |some (.int .u8),some 1=>(match w.new (.row (s.data.toList.map λb=>.int .u8 b.toNat) e w.next 0 false) with
   |some (b,w')=>.ok (.slice (some ⟨b,0,none⟩) s.data.toList.length (Bo+s.data.toList.length)) w'
   |none=>.fail "convert new")
  |_,_=>.fail "convert string")
 |some (.slice e),some .string,.slice none _ _=>(match P.underlying e with
  |some (.int .u8)=>.ok (.string .empty) w
  |_=>.fail "convert")
 |some (.slice e),some .string,.slice (some a) n _=>(match P.underlying e,w.cells? a n with
  |some (.int .u8),some cs=>(match B7 cs with | some l=>.ok (.string ⟨⟨l⟩⟩) w | none=>.fail "convert bytes")
  |_,_=>.fail "convert")
 |_,_,_=>.fail "convert"
def CH(w:AW)(t:TypeId)(len cap:Value):R Value:=
 match BG P t,len,cap with
 |some e,.int _ (.ofNat l),.int _ (.ofNat c)=>
  (match szT P e,EB P e with
  |some size,some bytes=>
   bif Nat.ble l c&&Nat.blt c room&&Nat.blt (c*bytes) room then
    (match Hf P e size c with
    |none=>.fail "makeSlice zero"
    |some cs=>(match w.newRow cs e with
     |some (a,w')=>.ok (.slice (some a) l c) w'
     |none=>.fail "makeSlice new"))
   else .fail "makeSlice size"
  |_,_=>.fail "makeSlice type")
 |_,_,_=>.fail "makeSlice"
def Aq(w:AW)(t:TypeId)(len:Nat)(parts:List (Nat × Value)):R Value:=
 match BG P t with
 |some e=>(match szT P e with
  |none=>.fail "buildSlice"
  |some size=>
   bif Nat.ble (len*size) 16777216&&Nat.blt len room then
    match Hf P e size len with
    |none=>.fail "buildSlice zero"
    |some zs=>(match ML (λi=>some (i*size,size)) zs parts with
     |none=>.fail "buildSlice parts"
     |some cs=>(match w.newRow cs e with
      |some (a,w')=>.ok (.slice (some a) len len) w'
      |none=>.fail "buildSlice new"))
   else .fail "buildSlice size")
 |none=>.fail "buildSlice"
inductive AN where
 |value (v:Value)
 |skip
 |enter (f:FuncId) (args:List Value)
 |round (l:Nat) (fn:FuncId) (tm:Tm) (assign body:Code)
 |rangeNext (it:Nat)
def Cn(m:Tm):List (Tmp × Value)->Tm
 |[]=>m
 |(t,v)::r=>Cn (m.set t v) r
def JI(f:FuncId):Bool:=match P.funcs[f]? with | some fn=>fn.body.isSome&&!(fn.name== "runtime.NumGoroutine") | none=>false
def NW(n:Nat):List Nat->Bool
 |[]=>false
 |x::r=>bif Nat.beq x n then true else NW n r
def Gy(w:AW)(f:FuncId)(args:List Value):R AN:=
 bif JI P f then .ok (.enter f args) w else .fail "no body"
def Sm:Int->List Value->Option Int
 |a,[]=>some a
 |a,.int _ b::r=>Sm (if b<a then b else a) r
 |_,_::_=>none
def Sn:Int->List Value->Option Int
 |a,[]=>some a
 |a,.int _ b::r=>Sn (if b>a then b else a) r
 |_,_::_=>none
def Dm(w:AW)(b:Builtin)(ts:List TypeId)(_type:TypeId)(args:List Value):R AN:=
 let v (r:R Value):R AN:=match r with | .ok v w=>.ok (.value v) w | .fail y=>.fail y
 let o (r:Option AW) (why:String):R AN:=match r with | some w=>.ok (.value (.tuple #[])) w | none=>.fail why
 match b,ts,args with
 |.append,[t,t2],[s,x]=>v (AU P w t t2 s x)
 |.copy,[t,_],[d,x]=>v (LG P w t d x)
 |.len,[t],[x]=>(match Bi P w t x with | some y=>.ok (.value y) w | none=>.fail "len")
 |.delete,[t,_],[m,k]=>o (FJ P w t m k) "delete"
 |.min,_,.int k x::r=>(match Sm x r with | some n=>.ok (.value (.int k n)) w | none=>.fail "min")
 |.max,_,.int k x::r=>(match Sn x r with | some n=>.ok (.value (.int k n)) w | none=>.fail "max")
 |_,_,_=>.fail "builtin"
def Cz(w:AW)(t:Target)(args:List Value):R AN:=
 match t with
 |.fn (.func f) captured=>Gy P w f (args++captured.toList)
 |.fn (.yield l) _=>(match w.get l with
  |some (.loop r)=>bif Nat.beq args.length r.params.length then .ok (.round l r.fn (Cn r.tm (r.params.zip args)) r.assign r.body) w else .fail "yield arguments"
  |_=>.fail "yield loop")
 |.builtin b ts type _=>Dm P w b ts.toList type args
 |_=>.fail "invoke"
def DH(ρ:Operand->Value)(c:Call)(type:TypeId):Option Deferred:=
 let args:=c.args.toList.map ρ
 match c.callee with
 |.builtin b=>some { target:=.builtin b c.argTypes type #[],args:=⟨args⟩ }
 |.value f=>match ρ f with
  |.func fn first captured=>some { target:=.fn fn captured,args:=⟨first.toList++args⟩ }
  |_=>none
 |_=>none
def Lk(w:AW)(it:Value)(isString:Bool):R AN:=
 match it with
 |.pointer (some ⟨r,0,_⟩)=>(match w.get r,isString with
  |some (.mit none _ _ _),false=>.ok (.value (.tuple #[.bool false])) w
  |some (.mit (some _) _ _ _),false=>.ok (.rangeNext r) w
  |_,_=>.fail "next")
 |_=>.fail "next"
def Kz:List Nat->Option Nat
 |[]=>none
 |[x]=>some x
 |_::r=>Kz r
def Mf(w:AW)(it:Value):Option Value:=
 match it with
 |.pointer (some ⟨r,0,_⟩)=>(match w.get r with
  |some (.mit (some m) _ seen stepped)=>(match Kz seen,w.get m with
   |some stamp,some (.map es clock _)=>
    bif Nat.beq clock stepped then (match Eh stamp es 0 with
     |some i=>(match es[i]? with | some e=>some (.tuple #[e.key,e.val]) | none=>none)
     |none=>none)
    else none
   |_,_=>none)
  |_=>none)
 |_=>none
def Fq:List (Nat × Operand)->(Operand->Value)->List (Nat × Value)
 |[],_=>[]
 |(i,x)::r,ρ=>(i,ρ x)::Fq r ρ
def Ba(ρ:Operand->Value)(o:Oper)(w:AW):R AN:=
 let v (r:R Value):R AN:=match r with | .ok v w=>.ok (.value v) w | .fail y=>.fail y
 let p (r:Option Value) (why:String):R AN:=match r with | some v=>.ok (.value v) w | none=>.fail why
 let u (r:Option AW) (why:String):R AN:=match r with | some w=>.ok .skip w | none=>.fail why
 match o.op with
 |.move x=>.ok (.value (ρ x)) w
 |.assign x=>.ok (.value (ρ x)) w
 |.pick c a b=>(match ρ c with | .bool true=>.ok (.value (ρ a)) w | .bool false=>.ok (.value (ρ b)) w | _=>.fail "pick")
 |.alloc e=>(match Dt P e with
  |some z=>(match w.newRow z.cells.toList e with | some (a,w)=>.ok (.value (.pointer (some a))) w | none=>.fail "alloc")
  |none=>.fail "alloc")
 |.box e x=>(match w.newRow (ρ x).cells.toList e with | some (a,w)=>.ok (.value (.pointer (some a))) w | none=>.fail "box")
 |.build t parts=>p (Bd P t (Fq parts.toList ρ)) "build"
 |.buildSlice t len parts=>v (Aq P w t len (Fq parts.toList ρ))
 |.load t a=>(match ρ a with | .pointer (some a)=>p (Ef P w t a) "load" | _=>.fail "load no address")
 |.store t a x=>(match ρ a with | .pointer (some a)=>u (Jy P w t a (ρ x)) "store" | _=>.fail "store no address")
 |.nilCheck x=>(match ρ x with
  |.pointer none=>.fail "nilCheck"
  |.nilIface=>.fail "nilCheck"
  |.nilFunc=>.fail "nilCheck"
  |.func (.method _) _ _=>.fail "nilCheck of a method value"
  |x=>.ok (.value x) w)
 |.binOp op t x y _=>p (An P op t x y (ρ x) (ρ y)) "binOp"
 |.unOp op _ x=>p (unA P op (ρ x)) "unOp"
 |.convert s d x=>v (AQ P w s d (ρ x))
 |.makeInterface t x=>(match P.underlying t with
  |some (.interface _)=>.fail "makeInterface"
  |some _=>.ok (.value (.iface t (ρ x))) w
  |none=>.fail "makeInterface")
 |.makeFunc fn first captured=>(match fn with | .yield _=>.fail "makeFunc" | _=>.ok (.value (.func fn ⟨first.toList.map ρ⟩ ⟨captured.toList.map ρ⟩)) w)
 |.makeMap t r=>(match r with
  |none=>(match w.new (.map [] 0 false) with | some (b,w)=>.ok (.value (.map (some b))) w | none=>.fail "makeMap")
  |some h=>(match D0 P t,ρ h with
   |some _,.int _ _=>(match w.new (.map [] 0 false) with | some (b,w)=>.ok (.value (.map (some b))) w | none=>.fail "makeMap")
   |_,_=>.fail "makeMap"))
 |.makeSlice t l c=>v (CH P w t (ρ l) (ρ c))
 |.slice t x lo hi mx=>p (AX P w t (ρ x) (lo.map ρ) (hi.map ρ) (mx.map ρ)) "slice"
 |.fieldAddr s x f=>p (Ad P s (ρ x) f) "fieldAddr"
 |.indexAddr t x ix=>p (Ar P t (ρ x) (ρ ix)) "indexAddr"
 |.index t x ix=>p (Io P t (ρ x) (ρ ix)) "index"
 |.lookup t x k ok=>p (Cu P w t (ρ x) (ρ k) ok) "lookup"
 |.mapUpdate t m k x=>u (Cp P w t (ρ m) (ρ k) (ρ x)) "mapUpdate"
 |.range t x=>(match P.underlying t,ρ x with
  |some (.map _ _),.map none=>(match w.new (.mit none 0 [] 0) with | some (b,w)=>.ok (.value (.pointer (some ⟨b,0,none⟩))) w | none=>.fail "range")
  |some (.map _ _),.map (some m)=>(match w.get m with
   |some (.map _ clock _)=>(match w.new (.mit (some m) clock [] clock) with | some (b,w)=>.ok (.value (.pointer (some ⟨b,0,none⟩))) w | none=>.fail "range")
   |_=>.fail "range")
  |_,_=>.fail "range")
 |.next it isString=>Lk w (ρ it) isString
 |.entry it=>p (Mf w (ρ it)) "entry"
 |.extract t ix=>(match ρ t with | .tuple vs=>p vs.toList[ix]? "extract" | _=>.fail "extract")
 |.call c=>(match DH ρ c o.type with | some d=>Cz P w d.target d.args.toList | none=>.fail "call no function")
 |_=>.fail "op"
end
end Go.Abs
namespace Go.Abs
structure AFr where
 fn:FuncId
 tm:Tm
 todo:List Item
 defers:List Deferred
 mode:FrameMode
 kind:CallKind
 roundOf:Option Nat
 dr:Bool
structure ASt where
 fr:AFr
 cs:List AFr
 w:AW
inductive Em where
 |next (s:ASt)
 |branch (l:List ASt)
 |calls (f:FuncId) (args:List Value) (s:ASt)
 |done (v:Value) (w:AW)
 |fail (why:String)
def AFr.eval(fr:AFr):Operand->Value
 |.tmp t=>fr.tm.get t
 |.const v=>v
 |.global g=>.pointer (some ⟨g,0,none⟩)
 |.func f=>.func (.func f) #[] #[]
def AFr.finish(fr:AFr)(v:Value):AFr:=
 match fr.todo with
 |.inRegion ops (i::rest)::k=>
  { fr with tm:=(match ops.toList[i]? with | some o=>(match o.dst with | some d=>fr.tm.set d v | none=>fr.tm) | none=>fr.tm),todo:=.inRegion ops rest::k }
 |.inRangeFunc l::k=>{ fr with todo:=.endRangeFunc l::k }
 |.beginRound::k=>{ fr with todo:=k }
 |_=>fr
def EP(ops:Array Oper)(tm:Tm)(j:Nat):Option Bool:=
 match ops.toList[j]? with
 |some o=>(match o.dst with
  |some d=>(match tm.get d with | .bool b=>some b | _=>none)
  |none=>none)
 |none=>none
def Bv(ops:Array Oper)(tm:Tm)(o:Oper):Bool:=
 match o.guard with
 |none=>true
 |some (j,want)=>(match EP ops tm j with | some b=>b==want | none=>false)
section
variable (P:Program)
def CD(f:FuncId)(args:List Value)(kind:CallKind):Option AFr:=
 match P.funcs[f]? with
 |some fn=>(match fn.body with
  |some c=>let n:=(bif Nat.ble fn.ntmps args.length then args.length else fn.ntmps)
   bif Nat.blt n Aj then some { fn:=f,tm:=Tm.fill ⟨n,.nil⟩ 0 args,todo:=[.code c],defers:=[],mode:=.run,kind,roundOf:=none,dr:=false } else none
  |none=>none)
 |none=>none
def CB(w:AW)(fn:Func)(tm:Tm):Option Value:=
 let one:ResultVar->Option Value
  |.tmp t=>some (tm.get t)
  |.cell a t=>(match tm.get a with | .pointer (some a)=>Ef P w t a | _=>none)
 let rec go:List ResultVar->Option (List Value)
  |[]=>some []
  |r::rs=>(match one r,go rs with | some v,some l=>some (v::l) | _,_=>none)
 match go fn.results.toList with
 |some [v]=>some v
 |some l=>some (.tuple ⟨l⟩)
 |none=>none
def Dl(fr:AFr)(cs:List AFr)(v:Value)(w:AW):Em:=
 match cs with
 |c::rest=>(match fr.kind with
  |.normal=>.next ⟨c.finish v,rest,w⟩
  |_=>.fail "doReturn kind")
 |[]=>.fail "doReturn at the bottom"
def Cq(fr:AFr)(cs:List AFr)(r:R AN):Em:=
 match r with
 |.ok (.value v) w=>.next ⟨fr.finish v,cs,w⟩
 |.ok .skip w=>.next ⟨fr.finish undef,cs,w⟩
 |.ok (.enter f args) w=>(match CD P f args .normal with
  |some fr'=>.next ⟨fr',fr::cs,w⟩
  |none=>.fail "enter")
 |.ok (.round l fn tm assign body) w=>
  .next ⟨{ fn,tm,todo:=[.code assign,.beginRound,.code body],defers:=[],mode:=.run,kind:=.normal,roundOf:=some l,dr:=false },fr::cs,w⟩
 |.ok (.rangeNext r) w=>(match w.get r with
  |some (.mit (some m) since seen last)=>(match w.get m with
   |some (.map es clock _)=>
    bif !seen.isEmpty&&!es.isEmpty&&es.all (λe=>Nat.ble last e.born) then .fail "range entries gone" else
    let left:=es.filter λe=>!seen.contains e.born;let old:=left.filter λe=>Nat.blt e.born since;let new:=left.filter λe=>Nat.ble since e.born;let E9:List (Option MapEntry):=(if old.isEmpty then [none] else [])++(old++new).map some
    .branch (E9.map λc=>match c with
     |some e=>⟨fr.finish (.tuple #[.bool true,e.key,e.val]),cs,w.put r (.mit (some m) since (seen++[e.born]) clock)⟩
     |none=>⟨fr.finish (.tuple #[.bool false]),cs,w⟩)
   |_=>.fail "range map")
  |_=>.fail "range iterator")
 |.fail y=>.fail y
def Hc(id:Nat):List Item->Option (List Item)
 |.inBlock id'::k=>bif Nat.beq id' id then some k else Hc id k
 |_::k=>Hc id k
 |[]=>none
def EE(s:ASt):Em:=
 match s with
 |⟨fr,cs,w⟩=>
 match fr.mode with
 |.run=>
  let to (k:List Item):Em:=.next ⟨{ fr with todo:=k },cs,w⟩;let leave (jump:Option Code):Em:=
   match fr.roundOf with
   |none=>(match jump with
    |none=>.next ⟨{ fr with mode:=.returning },cs,w⟩
    |some .ret=>.next ⟨{ fr with mode:=.returning },cs,w⟩
    |_=>.fail "leave")
   |some l=>(match w.get l with
    |some (.loop r)=>Dl fr cs (.bool jump.isNone) (w.put l (.loop { r with state:=if jump.isNone then .ready else .done,pending:=jump }))
    |_=>.fail "endRound")
  (match fr.todo with
  |[]=>leave none
  |.code .ret::_=>leave (some .ret)
  |.code .skip::k=>to k
  |.code (.label _)::k=>to k
  |.inBlock _::k=>to k
  |.inScope _::k=>to k
  |.code (.seq a b)::k=>to (.code a:: .code b::k)
  |.code (.cond c t e)::k=>(match fr.eval c with | .bool b=>to (.code (bif b then t else e)::k) | _=>.fail "cond")
  |.code (.block id body)::k=>to (.code body:: .inBlock id::k)
  |.code (.loop body)::k=>to (.code body:: .inLoop body::k)
  |.inLoop body::k=>to (.code body:: .inLoop body::k)
  |.code (.scope body)::k=>to (.code body:: .inScope body::k)
  |.code (.exit id)::k=>(match Hc id k with | some k'=>to k' | none=>leave (some (.exit id)))
  |.code (.goto l)::k=>(match gotoIn l k with | some k'=>to k' | none=>leave (some (.goto l)))
  |.code (.rangeFunc f ps assign body)::k=>
   (match (match fr.roundOf with
    |some l=>(match w.get l with | some (.loop r)=>some (r.defers,([]:List Deferred),w) | _=>none)
    |none=>(match w.new (.deferred true) with | some (r,w')=>some (r,[{ target:=.collected r,args:=#[] }],w') | none=>none)) with
   |none=>.fail "enterLoop"
   |some (d,mark,w)=>(match w.new (.loop { state:=.ready,pending:=none,fn:=fr.fn,tm:=fr.tm,params:=ps.toList,assign,body,defers:=d }) with
    |none=>.fail "enterLoop"
    |some (l,w)=>
     let fr':={ fr with todo:=.inRangeFunc l::k,defers:=mark++fr.defers }
     match fr.eval f with
     |.func fn first captured=>Cq P fr' cs (Cz P w (.fn fn captured) (first.toList++[.func (.yield l) #[] #[]]))
     |_=>.fail "rangeFunc"))
  |.beginRound::_=>(match fr.roundOf with
   |some l=>(match w.get l with
    |some (.loop r)=>(match r.state with
     |.ready=>.next ⟨fr.finish undef,cs,w.put l (.loop { r with state:=.busy })⟩
     |_=>.fail "beginRound")
    |_=>.fail "beginRound")
   |none=>.fail "beginRound")
  |.endRangeFunc l::k=>(match w.get l with
   |some (.loop r)=>(match r.state with
    |.busy=>.fail "endLoop"
    |_=>.next ⟨{ fr with todo:=(match r.pending with | some c=>.code c::k | none=>k) },cs,w.put l (.loop { r with state:=.exhausted })⟩)
   |_=>.fail "endLoop")
  |.code (.region _ ops _)::k=>to (.inRegion ops (List.range ops.toList.length)::k)
  |.inRegion _ []::k=>.next ⟨{ fr with todo:=k,dr:=false },cs,w⟩
  |.inRegion ops (i::_)::_=>(match ops.toList[i]? with
   |some o=>bif Bv ops fr.tm o then Cq P fr cs (Ba P fr.eval o w) else .next ⟨fr.finish undef,cs,w⟩
   |none=>.fail "no operation")
  |.code (.refuse y)::_=>.fail ("refused "++y)
  |_=>.fail "todo")
 |.returning=>(match fr.defers with
  |{ target:=.collected b,.. }::ds=>(match w.get b with
   |some (.deferred true)=>.next ⟨{ fr with defers:=ds },cs,w.put b (.deferred false)⟩
   |_=>.fail "takeDeferred")
  |_::_=>.fail "defers"
  |[]=>(match P.funcs[fr.fn]? with
   |none=>.fail "unwind fn"
   |some fn=>(match CB P w fn fr.tm with
    |some v=>(match cs with
     |[]=>.done v w
     |_::_=>Dl fr cs v w)
    |none=>.fail "results")))
 |_=>.fail "panicking"
end
variable {a b:Nat}
theorem Trie.get?_nil{α:Type}(n:Nat):(Trie.nil:Trie α).get? n=none:=rfl
theorem Trie.get?_put{α:Type}:∀ (k:Nat) (t:Trie α) (n j:Nat) (x:Option α),n+1<2^k->
  (t.put k n x).get? j=if j=n then x else t.get? j:=by
 intro k
 induction k with
 |zero=>intro t n j x h;simp at h
 |succ k ih=>
  intro t n j x h;have hk:2^(k+1)=2*2^k:=by rw [Nat.pow_succ];omega
  have key:∀ (v:Option α) (l r:Trie α),(Trie.put (k+1) (.node v l r) n x).get? j=if j=n then x else (Trie.node v l r).get? j:=by
   intro v l r;simp only [Trie.put];by_cases h0:n=0
   ·subst h0;simp only [Nat.beq,Ct];by_cases hj:j=0
    ·subst hj;simp [Trie.get?]
    ·have hb:Nat.beq j 0=false:=by
      cases hb:Nat.beq j 0
      ·rfl
      ·exact absurd (Nb hb) hj
     simp only [Trie.get?,hb,Cf,hj,if_false]
   ·have hb0:Nat.beq n 0=false:=by
     cases hb:Nat.beq n 0
     ·rfl
     ·exact absurd (Nb hb) h0
    simp only [hb0,Cf];by_cases h1:n%2=1
    ·have hb1:Nat.beq (n%2) 1=true:=by rw [h1];rfl
     simp only [hb1,Ct];by_cases hj:j=0
     ·subst hj;simp [Trie.get?,Ne.symm h0]
     ·have hbj:Nat.beq j 0=false:=by
       cases hb:Nat.beq j 0
       ·rfl
       ·exact absurd (Nb hb) hj
      simp only [Trie.get?,hbj,Cf];by_cases hj1:j%2=1
      ·have hbj1:Nat.beq (j%2) 1=true:=by rw [hj1];rfl
       simp only [hbj1,Ct];rw [ih l (n/2) (j/2) x (by omega)];by_cases e:j=n
       ·subst e;simp
       ·rw [Ff (by omega),Ff e]
      ·have hbj1:Nat.beq (j%2) 1=false:=by rw [show j%2=0 by omega];rfl
       simp only [hbj1,Cf];rw [Ff (by omega)]
    ·have hb1:Nat.beq (n%2) 1=false:=by rw [show n%2=0 by omega];rfl
     simp only [hb1,Cf];by_cases hj:j=0
     ·subst hj;simp [Trie.get?,Ne.symm h0]
     ·have hbj:Nat.beq j 0=false:=by
       cases hb:Nat.beq j 0
       ·rfl
       ·exact absurd (Nb hb) hj
      simp only [Trie.get?,hbj,Cf];by_cases hj1:j%2=1
      ·have hbj1:Nat.beq (j%2) 1=true:=by rw [hj1];rfl
       simp only [hbj1,Ct];rw [Ff (by omega)]
      ·have hbj1:Nat.beq (j%2) 1=false:=by rw [show j%2=0 by omega];rfl
       simp only [hbj1,Cf];rw [ih r (n/2-1) (j/2-1) x (by omega)];by_cases e:j=n
       ·subst e;simp
       ·rw [Ff (by omega),Ff e]
  cases t with
  |nil=>
   have:=key none .nil .nil
   have e1:Trie.put (k+1) (.nil:Trie α) n x=Trie.put (k+1) (.node none .nil .nil) n x:=by simp only [Trie.put]
   rw [e1,this];have e2:(Trie.node none .nil .nil:Trie α).get? j=none:=by
    simp only [Trie.get?];cases Nat.beq j 0<;>cases Nat.beq (j%2) 1<;>rfl
   rw [e2];rfl
  |node v l r=>exact key v l r
theorem beq_true:Nat.beq a b=true↔a=b:=⟨Nb,λh=>by subst h;simp⟩
theorem beq_false:Nat.beq a b=false↔a≠b:=by
 rw [<- Bool.not_eq_true,beq_true]
theorem AA:Nat.blt a b=true↔a<b:=by simp [Nat.blt,Nat.ble_eq];omega
theorem JQ:Nat.blt a b=false↔b<=a:=by rw [<- Bool.not_eq_true,AA];omega
theorem Bb:Nat.ble a b=true↔a<=b:=by simp [Nat.ble_eq]
theorem BL:Nat.ble a b=false↔b<a:=by rw [<- Bool.not_eq_true,Bb];omega
structure Inj (P:Program) where
 map:Nat->Option (Nat × Nat)
 room:Nat->Nat
 el:Nat->TypeId
 st:Nat->Nat
 ok:∀ i,room i≠0->szT P (el i)=some (st i)
instance {P:Program}:CoeFun (Inj P) (λ_=>Nat->Option (Nat × Nat)):=⟨Inj.map⟩
section
variable {P:Program}
structure Inj.le (m m':Inj P):Prop where
 map:∀ i x,m i=some x->m' i=some x
 room:∀ i x,m i=some x->m'.room i=m.room i/\m'.el i=m.el i/\m'.st i=m.st i
theorem Inj.le.refl(m:Inj P):m.le m:=⟨λ_ _ h=>h,λ_ _ _=>⟨rfl,rfl,rfl⟩⟩
theorem Inj.le.trans{a b c:Inj P}(h:a.le b)(k:b.le c):a.le c:=
 ⟨λi x e=>k.map i x (h.map i x e),λi x e=>by
  obtain ⟨h1,h2,h3⟩:=h.room i x e;obtain ⟨k1,k2,k3⟩:=k.room i x (h.map i x e);exact ⟨k1.trans h1,k2.trans h2,k3.trans h3⟩⟩
def Hu(m:Inj P)(a a':Addr):Prop:=a.spot=none/\a'.spot=none/\∃ d,m a.block=some (a'.block,d)/\a'.off=d+a.off
theorem Hu.mono{m m':Inj P}{a a':Addr}(h:m.le m')(r:Hu m a a'):Hu m' a a':=by
 obtain ⟨h1,h2,d,h3,h4⟩:=r;exact ⟨h1,h2,d,h.map _ _ h3,h4⟩
def Qj(m:Inj P)(f f':Fn):Prop:=
 (f'=f/\∀ l,f≠ .yield l)\/∃ l l',f=.yield l/\f'=.yield l'/\m l=some (l',0)
theorem Qj.mono{m m':Inj P}{f f':Fn}(h:m.le m')(r:Qj m f f'):Qj m' f f':=by
 rcases r with r | ⟨l,l',e,e',x⟩
 ·exact .inl r
 ·exact .inr ⟨l,l',e,e',h.map _ _ x⟩
mutual
inductive AM (m:Inj P):Value->Value->Prop
 |bool (b:Bool):AM m (.bool b) (.bool b)
 |int (k:IntKind) (n:Int):AM m (.int k n) (.int k n)
 |float (k:FloatKind) (n:Nat):AM m (.float k n) (.float k n)
 |complex (k:FloatKind) (a b:Nat):AM m (.complex k a b) (.complex k a b)
 |string (s:ByteArray):AM m (.string s) (.string s)
 |nilFunc:AM m .nilFunc .nilFunc
 |nilIface:AM m .nilIface .nilIface
 |ptrNil:AM m (.pointer none) (.pointer none)
 |ptr {a a':Addr} (h:Hu m a a'):AM m (.pointer (some a)) (.pointer (some a'))
 |sliceNil:AM m (.slice none 0 0) (.slice none 0 0)
 |slice {a a':Addr} {n c c':Nat} (hc:(c<Bo/\c'=c)\/(Bo<=c/\c-Bo<=c'/\a.off+c'*m.st a.block<=m.room a.block/\(0<c'->m.room a.block≠0)/\∃ x,m a.block=some x)) (hn:n<=c') (h:0<c'->Hu m a a'):AM m (.slice (some a) n c) (.slice (some a') n c')
 |mapNil:AM m (.map none) (.map none)
 |map {r r':Nat} (h:m r=some (r',0)):AM m (.map (some r)) (.map (some r'))
 |chanNil:AM m (.chan none) (.chan none)
 |func {f f':Fn} {a a' c c':List Value} (hf:Qj m f f') (ha:AJ m a a') (hc:AJ m c c'):AM m (.func f ⟨a⟩ ⟨c⟩) (.func f' ⟨a'⟩ ⟨c'⟩)
 |iface (t:TypeId) {v v':Value} (h:AM m v v'):AM m (.iface t v) (.iface t v')
 |agg {a a':List Value} (h:AJ m a a'):AM m (.agg ⟨a⟩) (.agg ⟨a'⟩)
 |tuple {a a':List Value} (h:AJ m a a'):AM m (.tuple ⟨a⟩) (.tuple ⟨a'⟩)
inductive AJ (m:Inj P):List Value->List Value->Prop
 |nil:AJ m [] []
 |cons {v v':Value} {l l':List Value} (h:AM m v v') (t:AJ m l l'):AJ m (v::l) (v'::l')
end
mutual
theorem AM.mono{m m':Inj P}(h:m.le m'):∀ {v v':Value},AM m v v'->AM m' v v'
 |_,_,.bool b=>.bool b
 |_,_,.int k n=>.int k n
 |_,_,.float k n=>.float k n
 |_,_,.complex k a b=>.complex k a b
 |_,_,.string s=>.string s
 |_,_,.nilFunc=>.nilFunc
 |_,_,.nilIface=>.nilIface
 |_,_,.ptrNil=>.ptrNil
 |_,_,.ptr r=>.ptr (r.mono h)
 |_,_,.sliceNil=>.sliceNil
 |_,_,.slice hc hn r=>.slice (hc.imp id λ⟨h1,h2,h3,h5,x,h4⟩=>⟨h1,h2,by obtain ⟨g1,_,g3⟩:=h.room _ _ h4;rw [g1,g3];exact h3,by rw [(h.room _ _ h4).1];exact h5,x,h.map _ _ h4⟩) hn (λp=>(r p).mono h)
 |_,_,.mapNil=>.mapNil
 |_,_,.map r=>.map (h.map _ _ r)
 |_,_,.chanNil=>.chanNil
 |_,_,.func hf ha hc=>.func (hf.mono h) (AJ.mono h ha) (AJ.mono h hc)
 |_,_,.iface t r=>.iface t (AM.mono h r)
 |_,_,.agg r=>.agg (AJ.mono h r)
 |_,_,.tuple r=>.tuple (AJ.mono h r)
theorem AJ.mono{m m':Inj P}(h:m.le m'):∀ {l l':List Value},AJ m l l'->AJ m' l l'
 |_,_,.nil=>.nil
 |_,_,.cons r t=>.cons (AM.mono h r) (AJ.mono h t)
end
theorem AJ.length{m:Inj P}:∀ {l l':List Value},AJ m l l'->l'.length=l.length
 |_,_,.nil=>rfl
 |_,_,.cons _ t=>by simp [AJ.length t]
theorem AJ.get{m:Inj P}:∀ {l l':List Value},AJ m l l'->∀ {i:Nat} {v:Value},l[i]? =some v->∃ v',l'[i]? =some v'/\AM m v v'
 |_,_,.nil,i,v,h=>by simp at h
 |_,_,.cons r t,0,v,h=>by simp at h;subst h;exact ⟨_,rfl,r⟩
 |_,_,.cons r t,i+1,v,h=>by simp at h;obtain ⟨v',h',r'⟩:=AJ.get t h;exact ⟨v',by simpa using h',r'⟩
theorem AJ.Yu{m:Inj P}:∀ {l l':List Value},l'.length=l.length->(∀ (i:Nat) (v:Value),l[i]? =some v->∃ v',l'[i]? =some v'/\AM m v v')->AJ m l l'
 |[],[],_,_=>.nil
 |[],_::_,h,_=>by simp at h
 |_::_,[],h,_=>by simp at h
 |v::l,v'::l',h,hg=>by
  refine .cons ?_ (AJ.Yu (by simpa using h) λi u hu=>?_)
  ·obtain ⟨x,hx,r⟩:=hg 0 v rfl;simp at hx;subst hx;exact r
  ·obtain ⟨x,hx,r⟩:=hg (i+1) u (by simpa using hu);exact ⟨x,by simpa using hx,r⟩
theorem AJ.append{m:Inj P}:∀ {a a' b b':List Value},AJ m a a'->AJ m b b'->AJ m (a++b) (a'++b')
 |_,_,_,_,.nil,h=>h
 |_,_,_,_,.cons r t,h=>.cons r (AJ.append t h)
theorem AJ.drop{m:Inj P}:∀ (n:Nat) {a a':List Value},AJ m a a'->AJ m (a.drop n) (a'.drop n)
 |0,_,_,h=>h
 |_+1,_,_,.nil=>.nil
 |n+1,_,_,.cons _ t=>AJ.drop n t
theorem AJ.take{m:Inj P}:∀ (n:Nat) {a a':List Value},AJ m a a'->AJ m (a.take n) (a'.take n)
 |0,_,_,_=>by simpa using .nil
 |_+1,_,_,.nil=>.nil
 |n+1,_,_,.cons r t=>by simpa using .cons r (AJ.take n t)
theorem AJ.map{m:Inj P}{α:Type}(f g:α->Value)(h:∀ x,AM m (f x) (g x)):∀ l:List α,AJ m (l.map f) (l.map g)
 |[]=>.nil
 |x::l=>.cons (h x) (AJ.map f g h l)
theorem AJ.Dr{m:Inj P}:∀ {l:List Value},(∀ v∈l,AM m v v)->AJ m l l
 |[],_=>.nil
 |v::l,h=>.cons (h v (by simp)) (AJ.Dr λu hu=>h u (by simp [hu]))
theorem AJ.SQ{m:Inj P}:∀ {l l':List Value},AJ m l l'->(∀ v∈l,∀ v',AM m v v'->v'=v)->l'=l
 |_,_,.nil,_=>rfl
 |_,_,.cons r t,h=>by rw [h _ (by simp) _ r,AJ.SQ t λu hu=>h u (by simp [hu])]
theorem Cb{m:Inj P}:∀ (n:Nat) (v:Value),Ax n v=true->AM m v v:=by
 intro n
 induction n with
 |zero=>
  intro v h;cases v with
  |pointer a=>cases a<;>simp [Ax] at h;exact .ptrNil
  |slice a n c=>
   cases a with
   |some a=>simp [Ax] at h
   |none=>
    cases n<;>cases c<;>simp [Ax] at h;exact .sliceNil
  |map r=>cases r<;>simp [Ax] at h;exact .mapNil
  |chan r=>cases r<;>simp [Ax] at h;exact .chanNil
  |bool b=>exact .bool b
  |int k n=>exact .int k n
  |float k n=>exact .float k n
  |complex k a b=>exact .complex k a b
  |string s=>exact .string s
  |nilFunc=>exact .nilFunc
  |nilIface=>exact .nilIface
  |_=>simp [Ax] at h
 |succ n ih=>
  intro v h;cases v with
  |pointer a=>cases a<;>simp [Ax] at h;exact .ptrNil
  |slice a n c=>
   cases a with
   |some a=>simp [Ax] at h
   |none=>
    cases n<;>cases c<;>simp [Ax] at h;exact .sliceNil
  |map r=>cases r<;>simp [Ax] at h;exact .mapNil
  |chan r=>cases r<;>simp [Ax] at h;exact .chanNil
  |bool b=>exact .bool b
  |int k n=>exact .int k n
  |float k n=>exact .float k n
  |complex k a b=>exact .complex k a b
  |string s=>exact .string s
  |nilFunc=>exact .nilFunc
  |nilIface=>exact .nilIface
  |iface t v=>simp only [Ax] at h;exact .iface t (ih v h)
  |agg cs=>
   obtain ⟨l⟩:=cs;simp only [Ax,List.all_eq_true] at h;exact .agg (AJ.Dr λu hu=>ih u (h u hu))
  |tuple cs=>
   obtain ⟨l⟩:=cs;simp only [Ax,List.all_eq_true] at h;exact .tuple (AJ.Dr λu hu=>ih u (h u hu))
  |func f a c=>
   obtain ⟨a⟩:=a;obtain ⟨c⟩:=c;simp only [Ax,Bq,List.all_eq_true] at h;refine .func (.inl ⟨rfl,λl e=>?_⟩) (AJ.Dr λu hu=>ih u (h.2.1 u hu)) (AJ.Dr λu hu=>ih u (h.2.2 u hu));subst e;simp at h
theorem DC{m:Inj P}:∀ (n:Nat) (v v':Value),Ax n v=true->AM m v v'->v'=v:=by
 intro n
 induction n with
 |zero=>
  intro v v' h r;cases r<;>first | rfl | (simp [Ax] at h;done)
 |succ n ih=>
  intro v v' h r;cases r with
  |iface t r=>simp only [Ax] at h;rw [ih _ _ h r]
  |agg r=>
   simp only [Ax,List.all_eq_true] at h;rw [AJ.SQ r λu hu u' ru=>ih u u' (h u hu) ru]
  |tuple r=>
   simp only [Ax,List.all_eq_true] at h;rw [AJ.SQ r λu hu u' ru=>ih u u' (h u hu) ru]
  |func hf ha hc=>
   simp only [Ax,Bq,List.all_eq_true] at h;rw [AJ.SQ ha λu hu u' ru=>ih u u' (h.2.1 u hu) ru,AJ.SQ hc λu hu u' ru=>ih u u' (h.2.2 u hu) ru];rcases hf with ⟨rfl,_⟩ | ⟨l,l',rfl,rfl,_⟩
   ·rfl
   ·simp at h
  |_=>first | rfl | (simp [Ax] at h;done)
end
variable {d j c:Nat} {o':Obj} {A A':AW} {w:World}
section
variable {P:Program}
def AO.ro:AO->Bool
 |.row _ _ _ _ ro=>ro
 |.map _ _ ro=>ro
 |_=>false
def AO.fam:AO->Option (Nat × Nat)
 |.row _ _ f b _=>some (f,b)
 |_=>none
def ZM(m:Inj P)(d d':Deferred):Prop:=∃ r r',d.target=.collected r/\d'.target=.collected r'/\m r=some (r',0)
inductive B5 {α β:Type} (R:α->β->Prop):List α->List β->Prop
 |nil:B5 R [] []
 |cons {a:α} {b:β} {l:List α} {l':List β} (h:R a b) (t:B5 R l l'):B5 R (a::l) (b::l')
theorem B5.mono{α β:Type}{R S:α->β->Prop}(h:∀ a b,R a b->S a b):∀ {l:List α} {l':List β},B5 R l l'->B5 S l l'
 |_,_,.nil=>.nil
 |_,_,.cons r t=>.cons (h _ _ r) (B5.mono h t)
theorem B5.length{α β:Type}{R:α->β->Prop}:∀ {l:List α} {l':List β},B5 R l l'->l'.length=l.length
 |_,_,.nil=>rfl
 |_,_,.cons _ t=>by simp [B5.length t]
theorem B5.append{α β:Type}{R:α->β->Prop}:∀ {a:List α} {a':List β} {b:List α} {b':List β},B5 R a a'->B5 R b b'->B5 R (a++b) (a'++b')
 |_,_,_,_,.nil,h=>h
 |_,_,_,_,.cons r t,h=>.cons r (B5.append t h)
theorem B5.get{α β:Type}{R:α->β->Prop}:∀ {l:List α} {l':List β},B5 R l l'->∀ {i:Nat} {a:α},l[i]? =some a->∃ b,l'[i]? =some b/\R a b
 |_,_,.nil,i,a,h=>by simp at h
 |_,_,.cons r t,0,a,h=>by simp at h;subst h;exact ⟨_,rfl,r⟩
 |_,_,.cons r t,i+1,a,h=>by simp at h;obtain ⟨b,h',r'⟩:=B5.get t h;exact ⟨b,by simpa using h',r'⟩
theorem ZM.mono{m m':Inj P}(h:m.le m'){d d':Deferred}:ZM m d d'->ZM m' d d':=λ⟨r,r',a,b,hr⟩=>⟨r,r',a,b,h.map _ _ hr⟩
structure Gb (m:Inj P) (e e':MapEntry):Prop where
 key:AM m e.key e'.key
 val:AM m e.val e'.val
 born:e'.born=e.born
theorem Gb.mono{m m':Inj P}(h:m.le m'){e e':MapEntry}(r:Gb m e e'):Gb m' e e':=⟨r.key.mono h,r.val.mono h,r.born⟩
structure Dp (m:Inj P) (t:Tm) (t':Array Value):Prop where
 size:t'.size=t.sz
 small:t.sz<Aj
 val:∀ i,AM m (t.get i) (t'.getD i undef)
theorem Dp.mono{m m':Inj P}(h:m.le m'){t:Tm}{t':Array Value}(r:Dp m t t'):Dp m' t t':=⟨r.size,r.small,λi=>(r.val i).mono h⟩
def JC(P:Program):Operand->Bool
 |.const v=>Ax 4 v
 |.global g=>Nat.blt g P.globals.size
 |_=>true
def Aam(P:Program)(o:Oper):Bool:=o.op.operands.toList.all (JC P)
def codeOk(P:Program):Code->Bool
 |.region _ ops _=>ops.toList.all (Aam P)
 |.seq a b=>codeOk P a&&codeOk P b
 |.cond c a b=>JC P c&&(codeOk P a&&codeOk P b)
 |.block _ b=>codeOk P b
 |.loop b=>codeOk P b
 |.rangeFunc f _ a b=>JC P f&&(codeOk P a&&codeOk P b)
 |.scope b=>codeOk P b
 |_=>true
structure ZA (m:Inj P) (l:GV) (l':Loop):Prop where
 state:l'.state=l.state
 pending:l'.pending=l.pending
 fn:l'.fn=l.fn
 tm:Dp m l.tm l'.tmps
 params:l'.params=⟨l.params⟩
 assign:l'.assign=l.assign
 body:l'.body=l.body
 defers:m l.defers=some (l'.defers,0)
 ok:codeOk P l.assign=true/\codeOk P l.body=true/\∀ c,l.pending=some c->codeOk P c=true
theorem ZA.mono{m m':Inj P}(h:m.le m'){l:GV}{l':Loop}(r:ZA m l l'):ZA m' l l':=
 ⟨r.state,r.pending,r.fn,r.tm.mono h,r.params,r.assign,r.body,h.map _ _ r.defers,r.ok⟩
def GS(m:Inj P)(d:Nat)(cs:List Value)(ro:Bool)(cs':Array Value)(fr:Nat × Nat):Prop:=
 ∀ i v,cs[i]? =some v->∃ v',cs'[d+i]? =some v'/\(isTuple v=false->AM m v v')/\(ro=false->¬ (fr.1<=d+i/\d+i<fr.2))
def Jv(m:Inj P)(d:Nat):AO->Obj->Prop
 |.row cs e _ _ ro,o'=>∃ cs' fr,o'=.cells cs' e fr/\GS m d cs ro cs' fr
 |.map es clock _,o'=>d=0/\∃ es',o'=.map ⟨es'⟩ clock/\B5 (Gb m) es es'
 |.mit none since seen stepped,o'=>d=0/\o'=.mapIter none since ⟨seen⟩ stepped
 |.mit (some r) since seen stepped,o'=>d=0/\∃ r',o'=.mapIter (some r') since ⟨seen⟩ stepped/\m r=some (r',0)
 |.loop l,o'=>d=0/\∃ l',o'=.loop l'/\ZA m l l'
 |.deferred b,o'=>d=0/\o'=.deferred (bif b then some [] else none)
theorem GS.mono{m m':Inj P}(h:m.le m'){cs:List Value}{ro:Bool}{cs':Array Value}{fr:Nat × Nat}(r:GS m d cs ro cs' fr):GS m' d cs ro cs' fr:=by
 intro i v hv;obtain ⟨v',h1,h2,h3⟩:=r i v hv;exact ⟨v',h1,λt=>(h2 t).mono h,h3⟩
theorem Jv.mono{m m':Inj P}(h:m.le m'){o:AO}(r:Jv m d o o'):Jv m' d o o':=by
 cases o with
 |row cs e f b ro=>obtain ⟨cs',fr,e',hr⟩:=r;exact ⟨cs',fr,e',hr.mono h⟩
 |map es c ro=>obtain ⟨h0,es',e',hr⟩:=r;exact ⟨h0,es',e',hr.mono λ_ _ x=>x.mono h⟩
 |mit mp a b c=>
  cases mp with
  |none=>exact r
  |some r0=>obtain ⟨h0,r',e',hr⟩:=r;exact ⟨h0,r',e',h.map _ _ hr⟩
 |loop l=>obtain ⟨h0,l',e',hr⟩:=r;exact ⟨h0,l',e',hr.mono h⟩
 |deferred b=>exact r
structure Rel (m:Inj P) (A:AW) (w:World):Prop where
 obj:∀ i o c d,A.get i=some o->m i=some (c,d)->∃ o',w.heap[c]? =some o'/\Jv m d o o'
 home:∀ i cs e b ro,A.get i=some (.row cs e i b ro)->∀ c d,m i=some (c,d)->d=0
 sep:∀ i j oi oj c di dj,i≠j->A.get i=some oi->A.get j=some oj->m i=some (c,di)->m j=some (c,dj)->
  (oi.ro=true/\oj.ro=true)\/∃ f bi bj,oi.fam=some (f,bi)/\oj.fam=some (f,bj)/\di+bj=dj+bi
 mem:∀ i o f b,A.get i=some o->o.fam=some (f,b)->i∈A.members f/\f<A.next
 fresh:∀ i,A.next<=i->A.get i=none/\m i=none/\A.fams.get? i=none
 lim:A.next<=Aj
 room:∀ i cs e f b ro c d,A.get i=some (.row cs e f b ro)->m i=some (c,d)->(m.room i≠0->m.el i=e)/\
  ∃ cs' e' fr,w.heap[c]? =some (.cells cs' e' fr)/\d+m.room i<=cs'.size/\(ro=false->∀ k,k<m.room i->¬ (fr.1<=d+k/\d+k<fr.2))
def Own(m:Inj P)(A:AW)(c:Nat):Prop:=∃ i o d,A.get i=some o/\o.ro=false/\m i=some (c,d)
def Fl(m:Inj P):Prop:=m.st 0=1/\∃ x,m 0=some x
class Nfl (m:Inj P):Prop where
 ex:∃ x,m 0=some x
 no:m.st 0≠1
theorem Fl.le{m m':Inj P}(f:Fl m)(h:m.le m'):Fl m':=by
 obtain ⟨h1,x,h2⟩:=f;exact ⟨by rw [(h.room 0 x h2).2.2,h1],x,h.map 0 x h2⟩
theorem Nfl.not{m m':Inj P}[n:Nfl m](h:m.le m'):¬ Fl m':=λf=>by
 obtain ⟨x,h2⟩:=n.ex;exact n.no (by rw [<- (h.room 0 x h2).2.2];exact f.1)
structure Ev (m:Inj P) (A:AW) (w:World) (m':Inj P) (A':AW) (w':World):Prop where
 ext:m.le m'
 rel:Rel m' A' w'
 size:w.heap.size<=w'.heap.size
 os:w'.os=w.os
 tape:w'.tape=w.tape
 output:w'.output=w.output
 draws:Fl m->w.drawn<=w'.drawn
 keep:∀ c,c<w.heap.size->¬ Own m A c->w'.heap[c]? =w.heap[c]?
 own:∀ c,c<w.heap.size->Own m' A' c->Own m A c
 next:A.next<=A'.next
 same:∀ i,i<A.next->m' i=m i
theorem Ev.refl{m:Inj P}(r:Rel m A w):Ev m A w m A w:=
 ⟨.refl m,r,Nl _,rfl,rfl,rfl,λ_=>Nl _,λ_ _ _=>rfl,λ_ _ h=>h,Nl _,λ_ _=>rfl⟩
theorem Ev.trans{m m' m'':Inj P}{A'':AW}{w' w'':World}(h:Ev m A w m' A' w')(k:Ev m' A' w' m'' A'' w''):Ev m A w m'' A'' w'':=by
 refine ⟨h.ext.trans k.ext,k.rel,Nat.le_trans h.size k.size,k.os.trans h.os,k.tape.trans h.tape,k.output.trans h.output,λf=>Nat.le_trans (h.draws f) (k.draws (f.le h.ext)),λc hc hn=>?_,λc hc ho=>?_,Nat.le_trans h.next k.next,λi hi=>(k.same i (Nat.lt_of_lt_of_le hi h.next)).trans (h.same i hi)⟩
 ·rw [k.keep c (Nat.lt_of_lt_of_le hc h.size) (λho=>hn (h.own c hc ho)),h.keep c hc hn]
 ·exact h.own c hc (k.own c (Nat.lt_of_lt_of_le hc h.size) ho)
theorem Ev.drawn{m:Inj P}{A:AW}{w:World}(r:Rel m A w)(n:Nat)(hn:w.drawn<=n):Ev m A w m A { w with drawn:=n }:=
 ⟨.refl m,⟨r.obj,r.home,r.sep,r.mem,r.fresh,r.lim,r.room⟩,Nl _,rfl,rfl,rfl,λ_=>hn,λ_ _ _=>rfl,λ_ _ h=>h,Nl _,λ_ _=>rfl⟩
theorem AW.CA(A:AW)(i j:Nat)(o:AO)(hi:i<Aj):(A.put i o).get j=if j=i then some o else A.get j:=by
 unfold AW.put AW.get;exact Trie.get?_put depth A.heap i j (some o) (by unfold depth;unfold Aj at hi;omega)
theorem Rel.lt{m:Inj P}(r:Rel m A w){i:Nat}{o:AO}(h:A.get i=some o):i<A.next:=by
 rcases Nat.lt_or_ge i A.next with h' | h'
 ·exact h'
 ·rw [(r.fresh i h').1] at h;cases h
theorem Rel.Vf{m:Inj P}(r:Rel m A w){i:Nat}{o:AO}(h:A.get i=some o):i<Aj:=Nat.lt_of_lt_of_le (r.lt h) r.lim
def Inj.ext(m:Inj P)(i:Nat)(x:Nat × Nat)(R:Nat)(e:TypeId)(s:Nat)(h:R≠0->szT P e=some s):Inj P where
 map:=λj=>if j=i then some x else m j
 room:=λj=>if j=i then R else m.room j
 el:=λj=>if j=i then e else m.el j
 st:=λj=>if j=i then s else m.st j
 ok:=λj hj=>by
  by_cases e':j=i
  ·simp only [e',if_true] at hj ⊢;exact h hj
  ·simp only [e',if_false] at hj ⊢;exact m.ok j hj
section
variable {m:Inj P} {i:Nat} {x:Nat × Nat} {R:Nat} {e:TypeId} {s:Nat} {h:R≠0->szT P e=some s}
theorem Inj.QQ(hi:m i=none):m.le (m.ext i x R e s h):=by
 refine ⟨λj y hj=>?_,λj y hj=>?_⟩
 ·have:j≠i:=λe=>by subst e;rw [hi] at hj;cases hj
  simp only [Inj.ext,this,if_false];exact hj
 ·have:j≠i:=λe=>by subst e;rw [hi] at hj;cases hj
  simp [Inj.ext,this]
theorem Inj.Bu:(m.ext i x R e s h) i=some x:=by simp [Inj.ext]
theorem Inj.Bf(hj:j≠i):(m.ext i x R e s h) j=m j:=by simp [Inj.ext,hj]
theorem Inj.Da:(m.ext i x R e s h).room i=R:=by simp [Inj.ext]
theorem Inj.QZ:(m.ext i x R e s h).el i=e:=by simp [Inj.ext]
theorem Inj.On:(m.ext i x R e s h).st i=s:=by simp [Inj.ext]
theorem Inj.E5(hj:j≠i):(m.ext i x R e s h).room j=m.room j:=by simp [Inj.ext,hj]
theorem Inj.Gt(hj:j≠i):(m.ext i x R e s h).el j=m.el j:=by simp [Inj.ext,hj]
end
theorem CJ(w:World)(o:Obj):(w.heap.push o)[w.heap.size]? =some o:=by simp
theorem Cc(w:World)(o:Obj)(c:Nat)(h:c<w.heap.size):(w.heap.push o)[c]? =w.heap[c]? :=by
 rw [Array.getElem?_push,Ff (by omega)]
theorem Rel.GK{m:Inj P}(r:Rel m A w){i:Nat}{o:AO}(h:A.get i=some o)(hm:m i=some (c,d)):∃ c' d' o',m i=some (c',d')/\w.heap[c']? =some o'/\Jv m d' o o':=by
 obtain ⟨o',h1,h2⟩:=r.obj i o c d h hm;exact ⟨c,d,o',hm,h1,h2⟩
theorem Rel.DD{m:Inj P}(r:Rel m A w){i:Nat}{o:AO}(h:A.get i=some o)(hm:m i=some (c,d)):c<w.heap.size:=by
 obtain ⟨o',h2,_⟩:=r.obj i o c d h hm;exact (Array.getElem?_eq_some_iff.1 h2).1
theorem Ev.new {m:Inj P} (r:Rel m A w) {o:AO} {b:Nat} (h:A.new o=some (b,A')) (hr:Jv m 0 o o')
  (hf:∀ f b,o.fam=some (f,b)->f=A.next) {R:Nat} {el:TypeId} {st:Nat} (hR:R≠0->szT P el=some st)
  (hroom:∀ cs e f b ro,o=.row cs e f b ro->(R≠0->el=e)/\∃ cs' e' fr,o'=.cells cs' e' fr/\R<=cs'.size/\(ro=false->∀ k,k<R->¬ (fr.1<=k/\k<fr.2))):
  b=A.next/\A'.get b=some o/\Ev m A w (m.ext b (w.heap.size,0) R el st hR) A' { w with heap:=w.heap.push o' }:=by
 unfold AW.new at h;cases hlt:Nat.blt A.next Aj with
 |false=>rw [hlt] at h;cases h
 |true=>
  rw [hlt] at h;simp only [Ct,Oi,Pj] at h;obtain ⟨rfl,rfl⟩:=h;have hmax:=AA.1 hlt;have hg:∀ j,(A.put A.next o).get j=if j=A.next then some o else A.get j:=λj=>AW.CA A _ j o hmax
  have hg':∀ j,({ A.put A.next o with next:=A.next+1 }:AW).get j=if j=A.next then some o else A.get j:=hg
  have hmn:=(r.fresh A.next (Nl _)).2.1;have hle:m.le (m.ext A.next (w.heap.size,0) R el st hR):=Inj.QQ hmn;have hold:∀ {j:Nat} {oj:AO},A.get j=some oj->j≠A.next:=λ{j oj} hj e=>by have:=r.lt hj;omega
  refine ⟨rfl,by rw [hg',if_pos rfl],hle,⟨?_,?_,?_,?_,?_,?_,?_⟩,by simp,rfl,rfl,rfl,λ_=>Nl _,?_,?_,by simp,λi hi=>Inj.Bf (by omega)⟩
  ·intro i oi c d hi hm;rw [hg'] at hi;split at hi
   ·rename_i e;subst e;cases hi;rw [Inj.Bu] at hm;cases hm;exact ⟨o',CJ w o',hr.mono hle⟩
   ·rename_i hne;rw [Inj.Bf hne] at hm;obtain ⟨oi',h2,h3⟩:=r.obj i oi c d hi hm;exact ⟨oi',by rw [Cc _ _ _ (r.DD hi hm)];exact h2,h3.mono hle⟩
  ·intro i cs e b ro hi c d hm;rw [hg'] at hi;split at hi
   ·rename_i e';subst e';rw [Inj.Bu] at hm;cases hm;rfl
   ·rename_i hne;rw [Inj.Bf hne] at hm;exact r.home i cs e b ro hi c d hm
  ·intro i j oi oj c di dj hij hi hj hmi hmj;rw [hg'] at hi hj;split at hi
   ·rename_i ei;subst ei;rw [Inj.Bu] at hmi;cases hmi;rw [Ff (by omega)] at hj;rw [Inj.Bf (by omega)] at hmj
    have:=r.DD hj hmj
    omega
   ·rename_i hni;rw [Inj.Bf hni] at hmi;split at hj
    ·rename_i ej;subst ej;rw [Inj.Bu] at hmj;cases hmj
     have:=r.DD hi hmi
     omega
    ·rename_i hnj;rw [Inj.Bf hnj] at hmj;exact r.sep i j oi oj c di dj hij hi hj hmi hmj
  ·intro i oi f b hi hfam;rw [hg'] at hi;split at hi
   ·rename_i e;subst e;cases hi
    have:=hf f b hfam
    subst this;refine ⟨?_,by show _<A.next+1;omega⟩
    have:A.fams.get? A.next=none:=(r.fresh _ (Nl _)).2.2
    show A.next∈AW.members _ A.next;unfold AW.members;show A.next∈(match A.fams.get? A.next with | some l=>l | none=>[A.next]);rw [this];simp
   ·obtain ⟨h1,h2⟩:=r.mem i oi f b hi hfam;exact ⟨h1,by show _<A.next+1;omega⟩
  ·intro i hi;have hi':A.next+1<=i:=hi;obtain ⟨h1,h2,h3⟩:=r.fresh i (by omega);exact ⟨by rw [hg',Ff (by omega)];exact h1,by rw [Inj.Bf (by omega)];exact h2,h3⟩
  ·show A.next+1<=Aj;omega
  ·intro i cs e f b ro c d hi hm;rw [hg'] at hi;split at hi
   ·rename_i e';subst e';cases hi;rw [Inj.Bu] at hm;cases hm;rw [Inj.Da,Inj.QZ];obtain ⟨g1,cs',e',fr,rfl,g2,g3⟩:=hroom _ _ _ _ _ rfl;exact ⟨g1,cs',e',fr,CJ w _,by omega,by simpa using g3⟩
   ·rename_i hne;rw [Inj.Bf hne] at hm;rw [Inj.E5 hne,Inj.Gt hne];obtain ⟨g1,cs',e',fr,g2,g3,g4⟩:=r.room i cs e f b ro c d hi hm;exact ⟨g1,cs',e',fr,by rw [Cc _ _ _ (r.DD hi hm)];exact g2,g3,g4⟩
  ·intro c hc _;exact Cc w o' c hc
  ·rintro c hc ⟨i,oi,d,hi,hro,hm⟩;rw [hg'] at hi;split at hi
   ·rename_i e;subst e;rw [Inj.Bu] at hm;cases hm;omega
   ·rename_i hne;rw [Inj.Bf hne] at hm;exact ⟨i,oi,d,hi,hro,hm⟩
end
variable {A A':AW} {w:World} {a a':Addr} {v:Value}
section
variable {P:Program}
theorem MO:∀ {cs:List Value} {i:Nat} {v:Value},cellOf cs i=some v->cs[i]? =some v/\isTuple v=false
 |[],_,_,h=>by simp [cellOf] at h
 |x::r,0,v,h=>by
  simp only [cellOf] at h;cases ht:isTuple x<;>simp [ht] at h;subst h;exact ⟨rfl,ht⟩
 |_::r,i+1,v,h=>by
  simp only [cellOf] at h
  simpa using MO h
theorem AM.AK{m:Inj P}{v v':Value}(h:AM m v v'):AK v'=AK v:=by
 cases h<;>rfl
theorem T8(v:Value):v.oneCell'=Abs.AK v:=by cases v<;>rfl
theorem Rel.cell{m:Inj P}(r:Rel m A w)(h:A.cell? a=some v)(ha:Hu m a a'):
  ∃ v',w.cell? a'=some v'/\AM m v v':=by
 obtain ⟨hs,hs',d,hm,ho⟩:=ha;unfold AW.cell? at h;rw [hs] at h;simp only at h;split at h
 ·rename_i cs e f b ro hg;obtain ⟨c0,d0,o',h1,h2,cs',fr,rfl,hr⟩:=r.GK hg hm;rw [hm] at h1;cases h1;obtain ⟨hcs,ht⟩:=MO h;obtain ⟨v',h3,h4,_⟩:=hr _ _ hcs;refine ⟨v',?_,h4 ht⟩;simp only [World.cell?,h2,hs',Option.isSome_none,ho]
  simpa using h3
 ·cases h
theorem GB:∀ {n:Nat} {cs l:List Value},Bh cs n=some l->l.length=n/\∀ (i:Nat) (v:Value),l[i]? =some v->cs[i]? =some v/\isTuple v=false
 |0,cs,l,h=>by simp [Bh] at h;subst h;simp
 |n+1,[],l,h=>by simp [Bh] at h
 |n+1,x::r,l,h=>by
  simp only [Bh] at h;cases ht:isTuple x with
  |true=>simp [ht] at h
  |false=>
   simp only [ht,Cf] at h;cases hr:Bh r n with
   |none=>simp [hr] at h
   |some l'=>
    simp only [hr,Oi] at h;subst h;obtain ⟨h1,h2⟩:=GB hr;refine ⟨by simp [h1],λi v hv=>?_⟩;cases i with
    |zero=>simp at hv;subst hv;exact ⟨rfl,ht⟩
    |succ i=>simpa using h2 i v (by simpa using hv)
theorem H0:∀ {n:Nat} {cs l:List Value},D6 cs n=some l->l=cs.take n/\n<=cs.length
 |0,cs,l,h=>by simp [D6] at h;subst h;simp
 |n+1,[],l,h=>by simp [D6] at h
 |n+1,x::r,l,h=>by
  simp only [D6] at h;cases hr:D6 r n with
  |none=>simp [hr] at h
  |some l'=>
   simp only [hr,Oi] at h;subst h;obtain ⟨h1,h2⟩:=H0 hr;exact ⟨by simp [h1],by simpa using h2⟩
theorem Hu.add{m:Inj P}(h:Hu m a a')(n:Nat):Hu m (Ek a n) (a'.add n):=by
 obtain ⟨h1,h2,d,h3,h4⟩:=h;unfold Ek Addr.add;by_cases hn:n=0
 ·subst hn;simp;exact ⟨h1,h2,d,h3,h4⟩
 ·rw [beq_false.2 hn,Ff hn];exact ⟨rfl,rfl,d,h3,by simp [h4];omega⟩
theorem Addr.Iu(a:Addr)(n:Nat):(a.add n).off=a.off+n:=by unfold Addr.add;split<;>simp_all
theorem Addr.HT(a:Addr)(n:Nat):(a.add n).block=a.block:=by unfold Addr.add;split<;>rfl
theorem Addr.LN(a:Addr)(n:Nat)(h:a.spot=none):(a.add n).spot=none:=by unfold Addr.add;split<;>simp_all
theorem Rel.cells{m:Inj P}(r:Rel m A w){n:Nat}{l:List Value}(h:A.cells? a n=some l)(ha:0<n->Hu m a a'):
  l.length=n/\∃ l',AJ m l l'/\∀ (i:Nat) (v:Value),l'[i]? =some v->w.cell? (a'.add i)=some v:=by
 unfold AW.cells? at h;split at h
 ·cases h;exact ⟨rfl,[],.nil,by simp⟩
 ·rename_i n;obtain ⟨hs,hs',d,hm,ho⟩:=ha (by omega);rw [hs] at h;simp only at h;split at h
  ·rename_i cs e f b ro hg;obtain ⟨c0,d0,o',h1,h2,cs',fr,rfl,hr⟩:=r.GK hg hm;rw [hm] at h1;cases h1;obtain ⟨hlen,hl⟩:=GB h;refine ⟨hlen,(List.range (n+1)).map λi=>(cs'[d+(a.off+i)]?).getD undef,AJ.Yu (by simp [hlen]) λi v hv=>?_,λi v hv=>?_⟩
   ·obtain ⟨h3,h4⟩:=hl i v hv;rw [List.getElem?_drop] at h3;obtain ⟨v',h5,h6,_⟩:=hr _ _ h3;have hi:i<n+1:=by rw [<- hlen];exact (Gs.1 hv).1
    exact ⟨v',by simp [hi,h5],h6 h4⟩
   ·have hi:i<n+1:=by
     have:=(Gs.1 hv).1
     simpa using this
    simp [hi] at hv;obtain ⟨u,hu⟩:∃ u,l[i]? =some u:=⟨l[i],Ge (by omega)⟩;obtain ⟨h3,h4⟩:=hl i u hu;rw [List.getElem?_drop] at h3;obtain ⟨v',h5,h6,_⟩:=hr _ _ h3;rw [h5] at hv;simp at hv;subst hv;simp only [World.cell?,Addr.HT,h2,Addr.LN _ _ hs',Option.isSome_none,Addr.Iu,ho];rw [show d+a.off+i=d+(a.off+i) by omega]
    simpa using h5
  ·cases h
def IB(coord:Nat):AO->AO
 |.row cs e f b ro=>bif Nat.ble b coord then .row (cs.set (coord-b) FZ) e f b ro else .row cs e f b ro
 |o=>o
theorem Wd(coord:Nat)(o:AO):IB coord (IB coord o)=IB coord o:=by
 cases o with
 |row cs e f b ro=>cases h:Nat.ble b coord<;>simp [IB,h]
 |_=>rfl
theorem Gn{lim:Nat}(Dr coord:Nat):∀ (l:List Nat) (A:AW),(∀ i o,A.get i=some o->i<Aj)->
  (BU Dr coord l A).next=A.next/\(BU Dr coord l A).fams=A.fams/\
  ∀ j,(BU Dr coord l A).get j=if j∈l/\j≠Dr then (A.get j).map (IB coord) else A.get j
 |[],A,_=>by simp [BU]
 |i::r,A,hA=>by
  simp only [BU];by_cases hi:i=Dr
  ·rw [beq_true.2 hi,Ct];obtain ⟨h1,h2,h3⟩:=Gn (lim:=lim) Dr coord r A hA;refine ⟨h1,h2,λj=>?_⟩;rw [h3 j];subst hi;by_cases hj:j=i
   ·subst hj;simp
   ·simp [hj]
  ·rw [beq_false.2 hi,Cf];cases hg:A.get i with
   |none=>
    obtain ⟨h1,h2,h3⟩:=Gn (lim:=lim) Dr coord r A hA;refine ⟨h1,h2,λj=>?_⟩;simp only [h3 j];by_cases hj:j=i
    ·subst hj;simp [hg]
    ·simp [hj]
   |some o=>
    have key:∀ o',(o'=IB coord o)->(∀ A',A'=A.put i o'\/(o'=o/\A'=A)->(BU Dr coord r A').next=A.next/\(BU Dr coord r A').fams=A.fams/\
      ∀ j,(BU Dr coord r A').get j=if j∈i::r/\j≠Dr then (A.get j).map (IB coord) else A.get j):=by
     intro o' ho' A' hA';have hget:∀ j,A'.get j=if j=i then some o' else A.get j:=by
      intro j;rcases hA' with rfl | ⟨e,rfl⟩
      ·exact A.CA i j o' (hA i o hg)
      ·split
       ·subst j;rw [hg,e]
       ·rfl
     have hn:A'.next=A.next/\A'.fams=A.fams:=by rcases hA' with rfl | ⟨_,rfl⟩<;>exact ⟨rfl,rfl⟩
     obtain ⟨h1,h2,h3⟩:=Gn (lim:=lim) Dr coord r A' (λk ok hk=>by
      rw [hget] at hk;split at hk
      ·subst k;exact hA i o hg
      ·exact hA k ok hk)
     refine ⟨h1.trans hn.1,h2.trans hn.2,λj=>?_⟩;rw [h3 j,hget j];by_cases hj:j=i
     ·subst hj;simp [hi,hg,ho',Wd]
     ·simp [hj]
    cases o with
    |row cs e f b ro=>
     simp only;cases hb:Nat.ble b coord with
     |true=>exact key (.row (cs.set (coord-b) FZ) e f b ro) (by simp [IB,hb]) _ (.inl rfl)
     |false=>exact key (.row cs e f b ro) (by simp [IB,hb]) _ (.inr ⟨rfl,rfl⟩)
    |_=>exact key _ rfl _ (.inr ⟨rfl,rfl⟩)
theorem GR(w:World)(a:Addr)(u:Value)(cs:Array Value)(e:TypeId)(fr:Nat × Nat)(h:w.heap[a.block]? =some (.cells cs e fr))(hs:a.spot=none):
  (w.setCell a u).heap[a.block]? =some (.cells (cs.setIfInBounds a.off u) e fr):=by
 simp [World.setCell,Array.getElem?_modify,h,hs]
theorem heap_setCell_other(w:World)(a:Addr)(u:Value)(c:Nat)(h:c≠a.block):(w.setCell a u).heap[c]? =w.heap[c]? :=by
 simp only [World.setCell,Array.getElem?_modify];rw [Ff (by omega)]
theorem JY(h:A'.fams=A.fams)(f:Nat):A'.members f=A.members f:=by unfold AW.members;rw [h]
theorem Aaj:isTuple FZ=true:=rfl
theorem Ev.setCell{m:Inj P}(r:Rel m A w){v':Value}(h:A.setCell a v=some A')(ha:Hu m a a')(hv:AM m v v'):
  AK v'=true/\(w.cell? a').isSome=true/\w.frozen? a'=false/\Ev m A w m A' (w.setCell a' v')/\A'.next=A.next:=by
 obtain ⟨hs,hs',d,hm,ho⟩:=ha;unfold AW.setCell at h;rw [hs] at h;simp only at h;split at h
 rotate_left
 ·cases h
 rename_i cs e f b ro hg;cases hc:(ro || !AK v || Nat.ble cs.length a.off) with
 |true=>rw [hc] at h;cases h
 |false=>
  rw [hc,Cf] at h;simp only [Oi] at h;subst h;simp only [Bool.or_eq_false_iff,Bool.not_eq_false'] at hc;obtain ⟨⟨rfl,h1⟩,hlen⟩:=hc;have hlen:=BL.1 hlen;obtain ⟨c0,d0,o',e1,h2,cs',fr,rfl,hr⟩:=r.GK hg hm;rw [hm] at e1;cases e1;obtain ⟨u,hu⟩:∃ u,cs[a.off]? =some u:=⟨cs[a.off],Ge hlen⟩;obtain ⟨u',hu',_,hfr⟩:=hr _ _ hu;have hsz:d+a.off<cs'.size:=(Array.getElem?_eq_some_iff.1 hu').1;have hmax:a.block<Aj:=r.Vf hg;have hput:∀ j,(A.put a.block (.row (cs.set a.off v) e f b false)).get j=if j=a.block then some (.row (cs.set a.off v) e f b false) else A.get j:=λj=>A.CA _ j _ hmax
  obtain ⟨hn,hf,hget0⟩:=Gn (lim:=0) a.block (b+a.off) (A.members f) (A.put a.block (.row (cs.set a.off v) e f b false)) (λi o hi=>by
   rw [hput] at hi;split at hi
   ·subst i;exact hmax
   ·exact r.Vf hi)
  have hget:∀ j,(BU a.block (b+a.off) (A.members f) (A.put a.block (.row (cs.set a.off v) e f b false))).get j=
    if j=a.block then some (.row (cs.set a.off v) e f b false) else if j∈A.members f then (A.get j).map (IB (b+a.off)) else A.get j:=by
   intro j;rw [hget0 j,hput j];by_cases hj:j=a.block
   ·simp [hj]
   ·simp [hj]
  refine ⟨by rw [hv.AK];exact h1,?_,?_,?_,hn⟩
  ·simp [World.cell?,h2,hs',ho,hsz]
  ·simp only [World.frozen?,h2,ho];cases hx:(decide (fr.1<=d+a.off)&&decide (d+a.off<fr.2)) with
   |false=>rfl
   |true=>simp at hx;exact (hfr rfl hx).elim
  have hself:(w.setCell a' v').heap[a'.block]? =some (.cells (cs'.setIfInBounds a'.off v') e fr):=GR w a' v' cs' e fr h2 hs';have hobj:∀ i o c di o',A.get i=some o->m i=some (c,di)->w.heap[c]? =some o'->Jv m di o o'->i≠a.block->
    (w.setCell a' v').heap[c]? =some o'/\(∀ x,(x=o\/x=IB (b+a.off) o)->Jv m di x o')\/
    (c=a'.block/\i∈A.members f/\∃ o2',(w.setCell a' v').heap[c]? =some o2'/\Jv m di (IB (b+a.off) o) o2'):=by
   intro i o c di o' hi hmi hh hor hne;by_cases hcb:c=a'.block
   ·right
    subst hcb;rcases r.sep i a.block o _ a'.block di d hne hi hg hmi hm with ⟨_,hro⟩ | ⟨f',bi,bj,hfi,hfj,hal⟩
    ·simp [AO.ro] at hro
    ·simp only [AO.fam,Oi,Pj] at hfj;obtain ⟨rfl,rfl⟩:=hfj;refine ⟨rfl,(r.mem i o f bi hi hfi).1,_,hself,?_⟩;rw [h2] at hh;cases hh;cases o with
     |row csi ei fi bi' roi=>
      simp only [AO.fam,Oi,Pj] at hfi;obtain ⟨rfl,rfl⟩:=hfi;obtain ⟨cs1,fr1,he1,hri⟩:=hor;cases he1;have hbase:∀ csx:List Value,(∀ k x,csx[k]? =some x->(isTuple x=true\/di+k≠d+a.off)/\∃ y,csi[k]? =some y/\(isTuple x=false->x=y))->
        GS m di csx roi (cs'.setIfInBounds a'.off v') fr:=by
       intro csx hx k x hk;obtain ⟨hk1,y,hy,hxy⟩:=hx k x hk;obtain ⟨y',hy',hy2,hy3⟩:=hri k y hy;by_cases hcc:di+k=d+a.off
       ·rcases hk1 with ht | hne'
        ·exact ⟨v',by rw [hcc,<- ho];simp [ho,hsz],(λt=>by rw [ht] at t;cases t),hy3⟩
        ·exact (hne' hcc).elim
       ·refine ⟨y',?_,λt=>by rw [hxy t];exact hy2 (by rw [<- hxy t];exact t),hy3⟩;rw [Array.getElem?_setIfInBounds_ne (by rw [ho];omega)];exact hy'
      simp only [IB];cases hb:Nat.ble bi' (b+a.off) with
      |true=>
       have hb:=Bb.1 hb;rw [Ct];refine ⟨_,fr,rfl,hbase _ λk x hk=>?_⟩;rw [List.getElem?_set] at hk;split at hk
       ·rename_i ek;split at hk
        ·cases hk;refine ⟨.inl rfl,?_⟩;obtain ⟨y,hy⟩:∃ y,csi[k]? =some y:=⟨csi[k]'(by omega),Ge _⟩;exact ⟨y,hy,λt=>by simp [FZ,isTuple] at t⟩
        ·cases hk
       ·rename_i nk;exact ⟨.inr (by omega),x,hk,λ_=>rfl⟩
      |false=>
       have hb:=BL.1 hb;rw [Cf];exact ⟨_,fr,rfl,hbase _ λk x hk=>⟨.inr (by omega),x,hk,λ_=>rfl⟩⟩
     |_=>simp [AO.fam] at hfi
   ·left
    refine ⟨by rw [heap_setCell_other _ _ _ _ hcb];exact hh,?_⟩;rintro x (rfl | rfl)
    ·exact hor
    ·cases o with
     |row csi ei fi bi roi=>
      obtain ⟨cs1,fr1,he1,hri⟩:=hor;simp only [IB];cases hb:Nat.ble bi (b+a.off) with
      |false=>exact ⟨cs1,fr1,he1,hri⟩
      |true=>
       rw [Ct];refine ⟨cs1,fr1,he1,λk x hk=>?_⟩;rw [List.getElem?_set] at hk;split at hk
       ·rename_i ek;split at hk
        ·cases hk;obtain ⟨y',hy',_,hy3⟩:=hri k (csi[k]'(by omega)) (Ge _);exact ⟨y',hy',(λt=>by simp [FZ,isTuple] at t),hy3⟩
        ·cases hk
       ·exact hri k x hk
     |_=>exact hor
  have hwas:∀ j o,(BU a.block (b+a.off) (A.members f) (A.put a.block (.row (cs.set a.off v) e f b false))).get j=some o->
    ∃ o0,A.get j=some o0/\o.ro=o0.ro/\o.fam=o0.fam/\(∀ csx ex fx bx rox,o=.row csx ex fx bx rox->∃ csy,o0=.row csy ex fx bx rox):=by
   intro j o hj;rw [hget] at hj;split at hj
   ·rename_i ej;subst ej;cases hj;exact ⟨_,hg,rfl,rfl,λcsx ex fx bx rox e'=>by cases e';exact ⟨_,rfl⟩⟩
   ·split at hj
    ·cases hj0:A.get j with
     |none=>rw [hj0] at hj;cases hj
     |some o0=>
      rw [hj0] at hj;simp only [Option.map_some,Oi] at hj;subst hj;refine ⟨o0,rfl,?_,?_,?_⟩
      ·cases o0<;>simp only [IB]<;>first | rfl | (split<;>rfl) | (cases Nat.ble _ _<;>rfl)
      ·cases o0<;>simp only [IB]<;>first | rfl | (split<;>rfl) | (cases Nat.ble _ _<;>rfl)
      ·intro csx ex fx bx rox e';cases o0 with
       |row a1 a2 a3 a4 a5=>
        simp only [IB] at e';cases hb:Nat.ble a4 (b+a.off)<;>rw [hb] at e'<;>cases e'<;>exact ⟨_,rfl⟩
       |_=>simp [IB] at e'
    ·exact ⟨o,hj,rfl,rfl,λcsx ex fx bx rox e'=>⟨csx,e'⟩⟩
  refine ⟨.refl m,⟨?_,?_,?_,?_,?_,?_,?_⟩,?_,rfl,rfl,rfl,λ_=>Nl _,?_,?_,?_,λ_ _=>rfl⟩
  ·intro i o c di hi hmi;rw [hget] at hi;split at hi
   ·rename_i ei;subst ei;cases hi;rw [hm] at hmi;cases hmi;refine ⟨_,hself,_,fr,rfl,λk x hk=>?_⟩;rw [List.getElem?_set] at hk;split at hk
    ·rename_i ek;simp at hk;subst hk;subst ek;exact ⟨v',by rw [ho];simp [hsz],λ_=>hv,hfr⟩
    ·rename_i nk;obtain ⟨y',hy',hy2,hy3⟩:=hr k x hk;exact ⟨y',by rw [Array.getElem?_setIfInBounds_ne (by rw [ho];omega)];exact hy',hy2,hy3⟩
   ·rename_i hne;split at hi
    ·cases hi0:A.get i with
     |none=>rw [hi0] at hi;cases hi
     |some o0=>
      rw [hi0] at hi;simp only [Option.map_some,Oi] at hi;subst hi;obtain ⟨oo,g2,g3⟩:=r.obj i o0 c di hi0 hmi;rcases hobj i o0 c di oo hi0 hmi g2 g3 hne with ⟨g4,g5⟩ | ⟨_,_,o2,g4,g5⟩
      ·exact ⟨oo,g4,g5 _ (.inr rfl)⟩
      ·exact ⟨o2,g4,g5⟩
    ·rename_i hnm;obtain ⟨oo,g2,g3⟩:=r.obj i o c di hi hmi;rcases hobj i o c di oo hi hmi g2 g3 hne with ⟨g4,g5⟩ | ⟨_,g6,_⟩
     ·exact ⟨oo,g4,g5 _ (.inl rfl)⟩
     ·exact (hnm g6).elim
  ·intro i csx ex bx rox hi c di hmi;obtain ⟨o0,ho0,_,_,hx⟩:=hwas i _ hi;obtain ⟨csy,rfl⟩:=hx _ _ _ _ _ rfl;exact r.home i csy ex bx rox ho0 c di hmi
  ·intro i j oi oj c di dj hij hi hj hmi hmj;obtain ⟨oi0,hi0,hir,hif,_⟩:=hwas i oi hi;obtain ⟨oj0,hj0,hjr,hjf,_⟩:=hwas j oj hj;rw [hir,hjr,hif,hjf];exact r.sep i j oi0 oj0 c di dj hij hi0 hj0 hmi hmj
  ·intro i o f' b' hi hfam;obtain ⟨o0,hi0,_,hif,_⟩:=hwas i o hi;rw [hif] at hfam;obtain ⟨g1,g2⟩:=r.mem i o0 f' b' hi0 hfam;exact ⟨by rw [JY hf];exact g1,by rw [hn];exact g2⟩
  ·intro i hi;rw [hn] at hi;obtain ⟨g1,g2,g3⟩:=r.fresh i hi;refine ⟨?_,g2,by rw [hf];exact g3⟩;cases hgi:(BU a.block (b+a.off) (A.members f) (A.put a.block (.row (cs.set a.off v) e f b false))).get i with
   |none=>rfl
   |some o=>
    obtain ⟨o0,hi0,_⟩:=hwas i o hgi;rw [g1] at hi0;cases hi0
  ·rw [hn];exact r.lim
  ·intro i csx ex fx bx rox c di hi hmi;obtain ⟨o0,ho0,_,_,hx⟩:=hwas i _ hi;obtain ⟨csy,rfl⟩:=hx _ _ _ _ _ rfl;obtain ⟨g1,cs1,e1,fr1,g2,g3,g4⟩:=r.room i csy ex fx bx rox c di ho0 hmi;refine ⟨g1,?_⟩;by_cases hcb:c=a'.block
   ·subst hcb;rw [h2] at g2;cases g2;exact ⟨_,_,_,hself,by simpa using g3,g4⟩
   ·exact ⟨cs1,e1,fr1,by rw [heap_setCell_other _ _ _ _ hcb];exact g2,g3,g4⟩
  ·simp [World.setCell]
  ·intro c hc hnown;refine heap_setCell_other _ _ _ _ λe'=>hnown ?_;subst e';exact ⟨a.block,_,d,hg,rfl,hm⟩
  ·rintro c hc ⟨i,o,di,hi,hro,hmi⟩;obtain ⟨o0,hi0,hir,_⟩:=hwas i o hi;exact ⟨i,o0,di,hi0,by rw [<- hir];exact hro,hmi⟩
  ·rw [hn];exact Nl _
end
section
variable {P:Program}
theorem Hu.succ{m:Inj P}{a a':Addr}{i:Nat}(h:Hu m a (a'.add i)):Hu m { a with off:=a.off+1 } (a'.add (i+1)):=by
 obtain ⟨h1,h2,d,h3,h4⟩:=h;refine ⟨h1,by simp [Addr.add],d,?_,?_⟩
 ·rw [Addr.HT] at h3 ⊢;exact h3
 ·rw [Addr.Iu] at h4 ⊢;show a'.off+(i+1)=d+(a.off+1);omega
theorem K0(P:Program)(w:World)(a:Addr)(v:Value)(hv:AK v=true)(hc:(w.cell? a).isSome=true)(hf:w.frozen? a=false):
  (store a v).run P w=.ok () (w.setCell a v):=by
 rw [run_store P w a v .plain (by rw [T8];exact hv)];cases h:w.cell? a with
 |none=>rw [h] at hc;cases hc
 |some u=>simp [hf]
theorem Ev.setCells{m:Inj P}:∀ {l l':List Value} {A A':AW} {w:World} {a a':Addr} {i:Nat},Rel m A w->AJ m l l'->(l≠[]->Hu m a (a'.add i))->
  A.setCells a l=some A'->∃ w',(storeCells a' l' i).run P w=.ok () w'/\Ev m A w m A' w'/\A'.next=A.next
 |_,_,A,A',w,a,a',i,r,.nil,_,h=>by
  simp only [AW.setCells,Oi] at h;subst h;exact ⟨w,rfl,.refl r,rfl⟩
 |_,_,A,A',w,a,a',i,r,.cons hv ht,ha,h=>by
  simp only [AW.setCells] at h;split at h
  ·rename_i A1 h1;obtain ⟨g1,g2,g3,g4,g5⟩:=Ev.setCell r h1 (ha (by simp)) hv;obtain ⟨w',k1,k2,k3⟩:=Ev.setCells g4.rel ht (λ_=>(ha (by simp)).succ) h;refine ⟨w',?_,g4.trans k2,k3.trans g5⟩;simp only [storeCells,Sem.run_bind,K0 P w _ _ g1 g2 g3,Result.andThen_ok];exact k1
  ·cases h
theorem Ev.Ie {m:Inj P} {A:AW} {w:World} (r:Rel m A w) {i c:Nat} {o o2:AO} {oc o2':Obj} (h:A.get i=some o) (hro:o.ro=false) (hf:o.fam=none)
  (hm:m i=some (c,0)) (hc:w.heap[c]? =some oc) (hr:Jv m 0 o2 o2') (hro2:o2.ro=false) (hf2:o2.fam=none):
  Ev m A w m (A.put i o2) { w with heap:=w.heap.setIfInBounds c o2' }:=by
 have hmax:i<Aj:=r.Vf h;have hget:∀ j,(A.put i o2).get j=if j=i then some o2 else A.get j:=λj=>A.CA _ j _ hmax
 have hlt:c<w.heap.size:=(Array.getElem?_eq_some_iff.1 hc).1;have hoth:∀ {j cj dj:Nat} {oj:AO},j≠i->A.get j=some oj->m j=some (cj,dj)->cj≠c:=by
  rintro j cj dj oj hne hj hmj rfl;rcases r.sep j i oj o cj dj 0 hne hj h hmj hm with ⟨_,h2⟩ | ⟨f,bi,bj,_,h2,_⟩
  ·rw [hro] at h2;cases h2
  ·rw [hf] at h2;cases h2
 have hwas:∀ j oj,(A.put i o2).get j=some oj->∃ o0,A.get j=some o0/\oj.ro=o0.ro/\oj.fam=o0.fam/\(j=i\/oj=o0):=by
  intro j oj hj;rw [hget] at hj;split at hj
  ·subst j;cases hj;exact ⟨o,h,by rw [hro,hro2],by rw [hf,hf2],.inl rfl⟩
  ·exact ⟨oj,hj,rfl,rfl,.inr rfl⟩
 refine ⟨.refl m,⟨?_,?_,?_,?_,?_,r.lim,?_⟩,by simp,rfl,rfl,rfl,λ_=>Nl _,?_,?_,Nl _,λ_ _=>rfl⟩
 ·intro j oj cj dj hj h1;rw [hget] at hj;split at hj
  ·subst j;cases hj;rw [hm] at h1;cases h1;exact ⟨o2',by simp [hlt],hr⟩
  ·rename_i hne;obtain ⟨oj',h2,h3⟩:=r.obj j oj cj dj hj h1;refine ⟨oj',?_,h3⟩;show (w.heap.setIfInBounds c o2')[cj]? =_;rw [Array.getElem?_setIfInBounds_ne (Ne.symm (hoth hne hj h1))];exact h2
 ·intro j cs e b ro hj cj dj hmj;rw [hget] at hj;split at hj
  ·subst j;cases hj;simp [AO.fam] at hf2
  ·exact r.home j cs e b ro hj cj dj hmj
 ·intro j k oj ok cj dj dk hjk hj hk hmj hmk;obtain ⟨oj0,h1,h2,h3,_⟩:=hwas j oj hj;obtain ⟨ok0,k1,k2,k3,_⟩:=hwas k ok hk;rw [h2,k2,h3,k3];exact r.sep j k oj0 ok0 cj dj dk hjk h1 k1 hmj hmk
 ·intro j oj f b hj hfj;obtain ⟨oj0,h1,h2,h3,_⟩:=hwas j oj hj;rw [h3] at hfj;exact r.mem j oj0 f b h1 hfj
 ·intro j hj;obtain ⟨h1,h2,h3⟩:=r.fresh j hj;refine ⟨?_,h2,h3⟩;rw [hget,Ff (λe=>by subst e;rw [h] at h1;cases h1)];exact h1
 ·intro j cs e f b ro cj dj hj hmj;rw [hget] at hj;split at hj
  ·subst j;cases hj;simp [AO.fam] at hf2
  ·rename_i hne;obtain ⟨g1,cs1,e1,fr1,g2,g3,g4⟩:=r.room j cs e f b ro cj dj hj hmj;refine ⟨g1,cs1,e1,fr1,?_,g3,g4⟩;show (w.heap.setIfInBounds c o2')[cj]? =_;rw [Array.getElem?_setIfInBounds_ne (Ne.symm (hoth hne hj hmj))];exact g2
 ·intro cj hcj hn;show (w.heap.setIfInBounds c o2')[cj]? =_;rw [Array.getElem?_setIfInBounds_ne];intro e;subst e;exact hn ⟨i,o,0,h,hro,hm⟩
 ·rintro cj hcj ⟨j,oj,dj,hj,hroj,hmj⟩;obtain ⟨oj0,h1,h2,_⟩:=hwas j oj hj;exact ⟨j,oj0,dj,h1,by rw [<- h2];exact hroj,hmj⟩
theorem BI(P:Program)(w:World)(c:Nat)(o:Obj)(h:w.heap[c]? =some o)(hc:∀ a e f,o≠ .cells a e f):(getObj c).run P w=.ok o w:=by
 simp only [getObj,Sem.run,h]
theorem Cy(P:Program)(w:World)(c:Nat)(o o':Obj)(h:w.heap[c]? =some o)(hc:∀ a e f,o≠ .cells a e f):
  (setObj c o').run P w=.ok () { w with heap:=w.heap.setIfInBounds c o' }:=by
 simp only [setObj,Sem.run,h]
def frz:AO->AO
 |.row cs e f b _=>.row cs e f b true
 |o=>o
theorem P4 (g:AO->AO) (step:AW->Nat->AW) (hstep:∀ A i,step A i=match A.get i with | some (.row cs e f b ro)=>A.put i (g (.row cs e f b ro)) | _=>A)
  (hg:∀ o,(∀ cs e f b ro,o≠ .row cs e f b ro)->g o=o) (hgg:∀ o,g (g o)=g o):
  ∀ (l:List Nat) (A:AW),(∀ i o,A.get i=some o->i<Aj)->
  (l.foldl step A).next=A.next/\(l.foldl step A).fams=A.fams/\∀ j,(l.foldl step A).get j=if j∈l then (A.get j).map g else A.get j
 |[],A,_=>by simp
 |i::r,A,hA=>by
  have hget:(step A i).next=A.next/\(step A i).fams=A.fams/\∀ j,(step A i).get j=if j=i then (A.get i).map g else A.get j:=by
   rw [hstep];cases hi:A.get i with
   |none=>exact ⟨rfl,rfl,λj=>by split<;>simp_all⟩
   |some o=>
    cases o with
    |row cs e f b ro=>exact ⟨rfl,rfl,λj=>A.CA i j _ (hA i _ hi)⟩
    |_=>
     refine ⟨rfl,rfl,λj=>?_⟩;show A.get j=_;by_cases hj:j=i
     ·subst hj;rw [if_pos rfl,hi];simp only [Option.map_some];rw [hg _ (by intros;simp)]
     ·rw [Ff hj]
  obtain ⟨h1,h2,h3⟩:=P4 g step hstep hg hgg r (step A i) (λj o hj=>by
   rw [hget.2.2] at hj;split at hj
   ·subst j;cases hi:A.get i with
    |none=>rw [hi] at hj;cases hj
    |some o0=>exact hA i o0 hi
   ·exact hA j o hj)
  refine ⟨h1.trans hget.1,h2.trans hget.2.1,λj=>?_⟩;simp only [List.foldl_cons,h3 j,hget.2.2 j];by_cases hj:j=i
  ·subst hj;cases hx:A.get j with
   |none=>simp
   |some o=>simp [hgg]
  ·simp [hj]
def PI(coord:Nat):AO->AO
 |.row cs e f b ro=>.row (BS cs (coord-b)) e f b ro
 |o=>o
theorem O1(l:List Value):DA l=l.map λ_=>FZ:=by
 induction l with
 |nil=>rfl
 |cons v r ih=>simp [DA,ih]
theorem IW:∀ (l:List Value) (n:Nat),BS l n=l.take n++(l.drop n).map λ_=>FZ
 |l,0=>by cases l<;>simp [BS,O1]
 |[],n+1=>by simp [BS]
 |v::r,n+1=>by simp [BS,IW r n]
theorem Ix{l:List Value}{n i:Nat}{v:Value}(h:(BS l n)[i]? =some v):∃ u,l[i]? =some u/\((i<n/\v=u)\/(n<=i/\v=FZ)):=by
 rw [IW,List.getElem?_append] at h;split at h
 ·rename_i hi;rw [List.length_take] at hi;rw [List.getElem?_take,if_pos (by omega)] at h;exact ⟨v,h,.inl ⟨by omega,rfl⟩⟩
 ·rename_i hi;rw [List.length_take] at hi;rw [List.getElem?_map,List.getElem?_drop,List.length_take] at h;cases hx:l[n+(i-min n l.length)]? with
  |none=>rw [hx] at h;cases h
  |some u=>
   rw [hx] at h;have hlt:=(Gs.1 hx).1;simp at h;refine ⟨u,?_,.inr ⟨by omega,h.symm⟩⟩;rw [<- hx];congr 1;omega
theorem LZ(l:List Value):DA (DA l)=DA l:=by
 induction l with
 |nil=>rfl
 |cons v r ih=>simp [DA,ih]
theorem G3:∀ (l:List Value) (n:Nat),BS (BS l n) n=BS l n
 |l,0=>by cases l<;>simp [BS,DA,LZ]
 |[],n+1=>by simp [BS]
 |v::r,n+1=>by simp [BS,G3 r n]
theorem JW(coord:Nat):∀ (l:List Nat) (A:AW),BO coord l A=l.foldl (λA i=>match A.get i with | some (.row cs e fam base ro)=>A.put i (.row (BS cs (coord-base)) e fam base ro) | _=>A) A
 |[],A=>rfl
 |i::r,A=>by simp only [BO,List.foldl_cons];exact JW coord r _
theorem Oa(coord:Nat)(l:List Nat)(A:AW)(hA:∀ i o,A.get i=some o->i<Aj):
  (BO coord l A).next=A.next/\(BO coord l A).fams=A.fams/\∀ j,(BO coord l A).get j=if j∈l then (A.get j).map (PI coord) else A.get j:=by
 rw [JW];refine P4 (PI coord) _ (λA i=>?_) (λo ho=>?_) (λo=>?_) l A hA
 ·cases hi:A.get i with
  |none=>rfl
  |some o=>cases o<;>rfl
 ·cases o with
  |row cs e f b ro=>exact absurd rfl (ho cs e f b ro)
  |_=>rfl
 ·cases o with
  |row cs e f b ro=>
   simp only [PI,G3]
  |_=>rfl
end
variable {t:TypeId} {n f:Nat} {z x x':Value}
section
variable {P:Program}
theorem BX{i:TypeInfo}(h:P.info? t=some i)(w:World):(typeInfo t).run P w=.ok i w:=by
 simp [typeInfo,h]
theorem Bz(h:szT P t=some n)(w:World):(sizeOf t).run P w=.ok n w:=by
 unfold szT at h;split at h
 ·rename_i i hi;simp only [Oi] at h;subst h;simp [sizeOf,BX hi]
 ·cases h
theorem Nu(h:szT P t=some n):∃ i,P.info? t=some i/\i.size=n:=by
 unfold szT at h;split at h
 ·rename_i i hi;simp only [Oi] at h;exact ⟨i,hi,h⟩
 ·cases h
theorem MQ(h:EB P t=some n):∃ i,P.info? t=some i/\i.bytes=n:=by
 unfold EB at h;split at h
 ·rename_i i hi;simp only [Oi] at h;exact ⟨i,hi,h⟩
 ·cases h
theorem Gi{b:Bool}(h:N7 P t=some b)(w:World):(isAgg t).run P w=.ok b w:=by
 unfold N7 at h;unfold isAgg;cases hu:P.underlying t with
 |none=>rw [hu] at h;cases h
 |some d=>
  rw [hu] at h;simp only [Sem.run_bind,run_underlying hu,Result.andThen_ok];cases d<;>simp_all
theorem Es(h:Dt P t=some z):(∃ i,P.info? t=some i/\i.zero=some z)/\Ax 4 z=true:=by
 unfold Dt at h;split at h
 ·rename_i i hi;split at h
  ·rename_i z0 hz;cases hc:Ax 4 z0 with
   |false=>rw [hc] at h;cases h
   |true=>rw [hc] at h;simp only [Ct,Oi] at h;subst h;exact ⟨⟨i,hi,hz⟩,hc⟩
  ·cases h
 ·cases h
theorem B6(h:Dt P t=some z)(w:World):(zeroValue t).run P w=.ok z w:=by
 obtain ⟨⟨i,hi,hz⟩,_⟩:=Es h;simp [zeroValue,BX hi,hz]
theorem AM.cells{m:Inj P}{v v':Value}(h:AM m v v'):AJ m v.cells.toList v'.cells.toList:=by
 cases h with
 |agg h=>exact h
 |bool b=>exact .cons (.bool b) .nil
 |int k n=>exact .cons (.int k n) .nil
 |float k n=>exact .cons (.float k n) .nil
 |complex k a b=>exact .cons (.complex k a b) .nil
 |string s=>exact .cons (.string s) .nil
 |nilFunc=>exact .cons .nilFunc .nil
 |nilIface=>exact .cons .nilIface .nil
 |ptrNil=>exact .cons .ptrNil .nil
 |ptr h=>exact .cons (.ptr h) .nil
 |sliceNil=>exact .cons .sliceNil .nil
 |slice a b c=>exact .cons (.slice a b c) .nil
 |mapNil=>exact .cons .mapNil .nil
 |map h=>exact .cons (.map h) .nil
 |chanNil=>exact .cons .chanNil .nil
 |func a b c=>exact .cons (.func a b c) .nil
 |iface t h=>exact .cons (.iface t h) .nil
 |tuple h=>exact .cons (.tuple h) .nil
def Xd{β:Type}(P:Program)(m:Inj P)(A:AW)(w:World)(V:Inj P->Value->β->Prop)(r:R Value)(s:Sem β):Prop:=
 match r with
 |.ok v A'=>∃ v' w' m',s.run P w=.ok v' w'/\Ev m A w m' A' w'/\V m' v v'
 |.fail _=>True
def HU(P:Program)(m:Inj P)(w:World)(r:Option Value)(s:Sem Value):Prop:=
 ∀ v,r=some v->∃ v',s.run P w=.ok v' w/\AM m v v'
theorem Gv{α:Type}:∀ (s:Sem α) {a:α},quiet P s=some a->∀ w,s.run P w=.ok a w
 |.pure x,a,h,w=>by simp only [quiet,Oi] at h;subst h;rfl
 |.program k,a,h,w=>by simp only [quiet] at h;exact Gv (k P) h w
 |.mark mk k,a,h,w=>by simp only [quiet] at h;exact Gv k h w
 |.load ..,a,h,w=>by simp [quiet] at h
 |.store ..,a,h,w=>by simp [quiet] at h
 |.new ..,a,h,w=>by simp [quiet] at h
 |.shape ..,a,h,w=>by simp [quiet] at h
 |.freeze ..,a,h,w=>by simp [quiet] at h
 |.frozen ..,a,h,w=>by simp [quiet] at h
 |.getObj ..,a,h,w=>by simp [quiet] at h
 |.setObj ..,a,h,w=>by simp [quiet] at h
 |.choose ..,a,h,w=>by simp [quiet] at h
 |.sys ..,a,h,w=>by simp [quiet] at h
 |.halt ..,a,h,w=>by simp [quiet] at h
theorem SK{fd:Field}(h:Us P t f=some fd):∃ fs,P.underlying t=some (.struct fs)/\fs[f]? =some fd:=by
 unfold Us at h;split at h
 ·rename_i fs hu;exact ⟨fs,hu,by simpa using h⟩
 ·cases h
theorem M0{m:Inj P}{s:TypeId}(hx:AM m x x')(w:World):HU P m w (Ad P s x f) (Instr.fieldAt s x' f):=by
 intro v h;unfold Ad at h;split at h
 ·rename_i a;cases hx with
  |ptr ha=>
   rename_i a';split at h
   ·rename_i fd hf;split at h
    ·rename_i n hn;simp only [Oi] at h;subst h;obtain ⟨fs,hu,hfs⟩:=SK hf;refine ⟨.pointer (some (a'.add fd.offset)),?_,.ptr (ha.add _)⟩;simp [Instr.fieldAt,run_underlying hu,hfs,Instr.sureAddr,fieldPlace,Bz hn]
    ·cases h
   ·cases h
 ·cases h
theorem MY{m:Inj P}{ix ix':Value}(hx:AM m x x')(hi:AM m ix ix')(w:World):HU P m w (Ar P t x ix) (Instr.indexAt t x' ix'):=by
 intro v h;unfold Ar at h;split at h
 ·rename_i k i;cases hi;split at h
  ·rename_i len e a hu;cases hx with
   |ptr ha=>
    rename_i a';cases hl:Nat.blt i len with
    |false=>simp [hl] at h
    |true=>
     simp only [hl,Ct] at h;split at h
     ·rename_i n hn;simp only [Oi] at h;subst h;have hl:=AA.1 hl;refine ⟨.pointer (some (a'.add (i*n))),?_,.ptr (ha.add _)⟩;have h1:(0:Int)<=Int.ofNat i/\(Int.ofNat i:Int)<(len:Int):=⟨Int.natCast_nonneg _,by simpa using hl⟩;simp [Instr.indexAt,asIntOf,run_underlying hu,Instr.sureAddr,Bz hn,hl]
     ·cases h
  ·rename_i e a len c hu;cases hx with
   |slice hc hn ha=>
    rename_i a' c';cases hl:Nat.blt i len with
    |false=>simp [hl] at h
    |true=>
     simp only [hl,Ct] at h;split at h
     ·rename_i n hn';simp only [Oi] at h;subst h;have hl:=AA.1 hl;refine ⟨.pointer (some (a'.add (i*n))),?_,.ptr ((ha (by omega)).add _)⟩;simp [Instr.indexAt,asIntOf,run_underlying hu,Bz hn',hl]
     ·cases h
  ·cases h
 ·cases h
theorem T2{m:Inj P}{l l':List Value}{off:Nat}(hl:AJ m l l')(w:World):HU P m w (Yi P t l off) (part t ⟨l'⟩ off):=by
 intro v h;unfold Yi at h;split at h
 ·rename_i hagg;split at h
  ·rename_i n hn;split at h
   ·rename_i cs hcs;simp only [Oi] at h;subst h;obtain ⟨rfl,_⟩:=H0 hcs;refine ⟨.agg ⟨(l'.drop off).take n⟩,?_,.agg ((hl.drop off).take n)⟩;simp only [part,Sem.run_bind,Gi hagg,Result.andThen_ok,if_true,Bz hn,Sem.run_pure]
    congr 2
    apply Array.ext'
    simp
   ·cases h
  ·cases h
 ·rename_i hagg;obtain ⟨v',h1,h2⟩:=hl.get h;refine ⟨v',?_,h2⟩;simp [part,Gi hagg,h1]
 ·cases h
end
variable {A:AW} {w:World} {t:TypeId} {a a':Addr} {v x x':Value}
section
variable {P:Program}
theorem J0{m:Inj P}(r:Rel m A w)(h:Ef P A t a=some v)(ha:Hu m a a'):
  ∃ v',(loadVar t a').run P w=.ok v' w/\AM m v v':=by
 unfold Ef at h;split at h
 ·rename_i hagg;split at h
  ·rename_i n hn;split at h
   ·rename_i l hl;simp only [Oi] at h;subst h;obtain ⟨h1,l',h2,h3⟩:=r.cells hl (λ_=>ha);refine ⟨.agg ⟨l'⟩,?_,.agg h2⟩;have hlen:l'.length=n:=by rw [h2.length,h1]
    have:=run_loadCells_list (P:=P) w a' l' h3
    rw [hlen] at this;simp [loadVar,Gi hagg,Bz hn,this]
   ·cases h
  ·cases h
 ·rename_i hagg;obtain ⟨v',h1,h2⟩:=r.cell h ha;refine ⟨v',?_,h2⟩;simp [loadVar,Gi hagg,h1]
 ·cases h
theorem Nw{m:Inj P}{A':AW}(r:Rel m A w){v':Value}(h:Jy P A t a v=some A')(ha:Hu m a a')(hv:AM m v v'):
  ∃ w',(storeVar t a' v').run P w=.ok () w'/\Ev m A w m A' w'/\A'.next=A.next:=by
 unfold Jy at h;split at h
 ·rename_i n hn;simp only at h;cases hb:Nat.beq v.cells.toList.length n with
  |false=>rw [hb] at h;cases h
  |true=>
   rw [hb,Ct] at h;have hb:=beq_true.1 hb;have hc:=hv.cells;obtain ⟨w',h1,h2,h3⟩:=Ev.setCells (i:=0) r hc (λ_=>by simpa [Addr.add] using ha) h;refine ⟨w',?_,h2,h3⟩;have hs:v'.cells.size=n:=by rw [<- Array.length_toList,hc.length,hb]
   simp [storeVar,Bz hn,hs,h1]
 ·cases h
theorem Uk {m:Inj P} (r:Rel m A w) (hx:AM m x x')
  (h:(match x with | .pointer (some a)=>Ef P A t a | _=>none)=some v):∃ v',(Instr.loadAt t x').run P w=.ok v' w/\AM m v v':=by
 cases hx with
 |ptr ha=>
  obtain ⟨v',h1,h2⟩:=J0 r h ha;exact ⟨v',by simp [Instr.loadAt,Instr.sureAddr,h1],h2⟩
 |_=>cases h
theorem SA{m:Inj P}{ix ix':Value}(hx:AM m x x')(hi:AM m ix ix')(w:World):HU P m w (Io P t x ix) (Instr.index t x' ix'):=by
 intro v h;unfold Io at h;split at h
 ·rename_i k i;cases hi;split at h
  ·rename_i len e cs hu;cases hx with
   |agg hl=>
    cases hb:Nat.blt i len with
    |false=>simp [hb] at h
    |true=>
     simp only [hb,Ct] at h;split at h
     ·rename_i n hn;have hb:=AA.1 hb;obtain ⟨v',h1,h2⟩:=T2 hl w v h;refine ⟨v',?_,h2⟩;simp [Instr.index,asIntOf,run_underlying hu,Bz hn,hb,h1]
     ·cases h
  ·rename_i s hu;cases hx;split at h
   ·rename_i b hb;simp only [Oi] at h;subst h;refine ⟨_,?_,.int _ _⟩
    have:s[i]? =some b:=by
     obtain ⟨hlt,rfl⟩:=Gs.1 hb;have hlt':i<s.size:=by rw [Lib.size_eq];exact hlt
     rw [getElem?_pos s i hlt'];rfl
    simp [Instr.index,asIntOf,run_underlying hu,this]
   ·cases h
  ·cases h
 ·cases h
theorem Pc{m:Inj P}{t t':Value}{i:Nat}(ht:AM m t t')(w:World):
  HU P m w (match t with | .tuple vs=>vs.toList[i]? | _=>none) (Instr.extract t' i):=by
 intro v h;cases ht with
 |tuple hl=>
  obtain ⟨v',h1,h2⟩:=hl.get h;exact ⟨v',by simp [Instr.extract,h1],h2⟩
 |_=>cases h
def lay:List Value->Nat->List Value->List Value
 |l,_,[]=>l
 |l,n,v::vs=>lay (l.set n v) (n+1) vs
theorem Hk:∀ (vs:List Value) (x:Value) (r:List Value) (n:Nat),lay (x::r) (n+1) vs=x::lay r n vs
 |[],_,_,_=>rfl
 |v::vs,x,r,n=>by simp only [lay,List.set_cons_succ];exact Hk vs x _ (n+1)
theorem IX:∀ {l:List Value} {n:Nat} {vs r:List Value},EX l n vs=some r->r=lay l n vs/\n+vs.length<=l.length\/(vs=[]/\r=l)
 |l,n,[],r,h=>by simp [EX] at h;exact .inr ⟨rfl,h.symm⟩
 |[],n,v::vs,r,h=>by simp [EX] at h
 |x::l,0,v::vs,r,h=>by
  simp only [EX] at h;cases ho:EX l 0 vs with
  |none=>simp [ho] at h
  |some r'=>
   simp only [ho,Oi] at h;subst h
   left
   simp only [lay,List.set_cons_zero,Hk];rcases IX ho with ⟨h1,h2⟩ | ⟨rfl,rfl⟩
   ·exact ⟨by rw [h1],by simp;omega⟩
   ·exact ⟨rfl,by simp⟩
 |x::l,n+1,v::vs,r,h=>by
  simp only [EX] at h;cases ho:EX l n (v::vs) with
  |none=>simp [ho] at h
  |some r'=>
   simp only [ho,Oi] at h;subst h
   left
   rcases IX ho with ⟨h1,h2⟩ | ⟨h1,_⟩
   ·refine ⟨?_,by simp at h2 ⊢;omega⟩;rw [h1];exact (Hk (v::vs) x l n).symm
   ·cases h1
theorem QJ{l:List Value}{n:Nat}{vs r:List Value}(h:EX l n vs=some r):r=lay l n vs/\(vs≠[]->n+vs.length<=l.length):=by
 rcases IX h with ⟨h1,h2⟩ | ⟨rfl,rfl⟩
 ·exact ⟨h1,λ_=>h2⟩
 ·exact ⟨rfl,λh=>absurd rfl h⟩
theorem AJ.set{m:Inj P}:∀ {l l':List Value} (n:Nat) {v v':Value},AJ m l l'->AM m v v'->AJ m (l.set n v) (l'.set n v')
 |_,_,_,_,_,.nil,_=>.nil
 |_,_,0,_,_,.cons _ t,h=>.cons h t
 |_,_,n+1,_,_,.cons r t,h=>.cons r (AJ.set n t h)
theorem AJ.lay{m:Inj P}:∀ {vs vs' l l':List Value} (n:Nat),AJ m l l'->AJ m vs vs'->AJ m (lay l n vs) (lay l' n vs')
 |_,_,_,_,_,h,.nil=>h
 |_,_,_,_,n,h,.cons r t=>AJ.lay (n+1) (h.set n r) t
theorem SD:∀ (vs:List Value) (k off:Nat) (cells:Array Value),
  (vs.zipIdx k).foldl (λcs x=>cs.setIfInBounds (off+x.2) x.1) cells=⟨lay cells.toList (off+k) vs⟩
 |[],k,off,cells=>rfl
 |v::vs,k,off,cells=>by
  simp only [List.zipIdx_cons,List.foldl_cons,lay];rw [SD vs (k+1) off];simp [Nat.add_assoc]
def GU(m:Inj P)(p p':List (Nat × Value)):Prop:=B5 (λx y=>y.1=x.1/\AM m x.2 y.2) p p'
theorem GO{m:Inj P}{place place':Nat->Option (Nat × Nat)}(hp:∀ i x,place i=some x->place' i=some x):
  ∀ {parts parts':List (Nat × Value)} {cells cells' out:List Value},GU m parts parts'->AJ m cells cells'->ML place cells parts=some out->
  ∃ out',Instr.fill place' ⟨cells'⟩ parts'=some ⟨out'⟩/\AJ m out out'
 |_,_,cells,cells',out,.nil,hc,h=>by
  simp only [ML,Oi] at h;subst h;exact ⟨cells',rfl,hc⟩
 |_,_,cells,cells',out,.cons (a:=(i,v)) (b:=(i',v')) ⟨he,hv⟩ ht,hc,h=>by
  simp only at he hv;subst he;simp only [ML] at h;split at h
  ·rename_i off size hpl;cases hb:(Nat.beq v.cells.toList.length size&&Nat.ble (off+size) cells.length) with
   |false=>rw [hb] at h;cases h
   |true=>
    rw [hb,Ct] at h;simp only [Bq] at hb;have hb1:=beq_true.1 hb.1;have hb2:=Bb.1 hb.2;split at h
    ·rename_i Zl ho;obtain ⟨h1,_⟩:=QJ ho;have hvc:=hv.cells;obtain ⟨out',h3,h4⟩:=GO hp ht (h1▸AJ.lay off hc hvc) h;refine ⟨out',?_,h4⟩;simp only [Instr.fill,hp _ _ hpl];have hsz:v'.cells.size=size:=by rw [<- Array.length_toList,hvc.length,hb1]
     have hl:=hc.length;have hfold:(v'.cells.zipIdx.foldl (λcs x=>cs.setIfInBounds (off+x.2) x.1) (⟨cells'⟩:Array Value))=⟨lay cells' off v'.cells.toList⟩:=by
      rw [<- Array.foldl_toList,Array.toList_zipIdx,SD]
      simp
     have hcond:¬ (v'.cells.size≠size\/off+v'.cells.size>(⟨cells'⟩:Array Value).size):=by
      rintro (h | h)
      ·exact h hsz
      ·simp at h;omega
     rw [Ff (by simpa using hcond)];rw [show (v'.cells.zipIdx.foldl (λcs x=>match x with | (c,j)=>cs.setIfInBounds (off+j) c) (⟨cells'⟩:Array Value))=⟨lay cells' off v'.cells.toList⟩ from hfold];exact h3
    ·cases h
  ·cases h
end
variable {t e:TypeId} {l l':List Value} {A A':AW} {w:World} {a:Addr}
section
variable {P:Program}
theorem Lh:∀ {fs:List Field} {ps:List (Nat × Nat)},Lj P fs=some ps->fs.mapM (λf=>(P.info? f.type).map λi=>(f.offset,i.size))=some ps
 |[],ps,h=>by simp [Lj] at h;subst h;rfl
 |f::fs,ps,h=>by
  simp only [Lj] at h;split at h
  ·rename_i n l hn hl;simp only [Oi] at h;subst h;obtain ⟨i,hi,rfl⟩:=Nu hn;simp [hi,Lh hl]
  ·cases h
theorem Ih{m:Inj P}{ρ ρ':Operand->Value}:∀ (parts:List (Nat × Operand)),(∀ x∈parts,AM m (ρ x.2) (ρ' x.2))->GU m (Fq parts ρ) (parts.map λx=>(x.1,ρ' x.2))
 |[],_=>.nil
 |(i,x)::r,h=>.cons ⟨rfl,h (i,x) (by simp)⟩ (Ih r λy hy=>h y (by simp [hy]))
theorem S9{m:Inj P}{parts:List (Nat × Value)}{parts':Array (Nat × Value)}(hp:GU m parts parts'.toList)(w:World):
  HU P m w (Bd P t parts) (Instr.build t parts'):=by
 intro v h;unfold Bd at h;split at h
 ·cases h
 ·rename_i z hz;obtain ⟨⟨i,hi,hiz⟩,hcl⟩:=Es hz;have hzr:AJ m z.cells.toList z.cells.toList:=(Cb (m:=m) 4 z hcl).cells;split at h
  ·rename_i fs hu;split at h
   ·rename_i ps hps;split at h
    ·rename_i l hl;simp only [Oi] at h;subst h;obtain ⟨out',h1,h2⟩:=GO (place':=(ps.toArray[·]?)) (λi x hx=>by simpa using hx) hp hzr hl;refine ⟨.agg ⟨out'⟩,run_build w t parts' ⟨out'⟩ ?_,.agg h2⟩;simp only [Program.built,hi,hu,hiz,Lh hps];exact h1
    ·cases h
   ·cases h
  ·rename_i n e hu;split at h
   ·rename_i k hk;split at h
    ·rename_i l hl;simp only [Oi] at h;subst h;obtain ⟨ie,hie,rfl⟩:=Nu hk;obtain ⟨out',h1,h2⟩:=GO (place':=λi=>some (i*ie.size,ie.size)) (λi x hx=>hx) hp hzr hl;refine ⟨.agg ⟨out'⟩,run_build w t parts' ⟨out'⟩ ?_,.agg h2⟩;simp only [Program.built,hi,hu,hiz,hie];exact h1
    ·cases h
   ·cases h
  ·cases h
theorem NF{m:Inj P}(h:AJ m l l')(e:TypeId)(f b:Nat)(ro:Bool):Jv m 0 (.row l e f b ro) (.cells ⟨l'⟩ e):=by
 refine ⟨⟨l'⟩,(0,0),rfl,λi v hv=>?_⟩;obtain ⟨v',h1,h2⟩:=h.get hv;exact ⟨v',by simpa using h1,λ_=>h2,λ_=>by omega⟩
theorem Gm{m:Inj P}(r:Rel m A w)(h:A.newRow l e=some (a,A'))(hl:AJ m l l'):
  ∃ m',Ev m A w m' A' { w with heap:=w.heap.push (.cells ⟨l'⟩ e) }/\Hu m' a ⟨w.heap.size,0,none⟩/\A'.next=A.next+1:=by
 unfold AW.newRow at h;cases hc:l.all AK with
 |false=>rw [hc] at h;cases h
 |true=>
  rw [hc,Ct] at h;split at h
  ·rename_i b A1 hn;simp only [Oi,Pj] at h;obtain ⟨rfl,rfl⟩:=h;obtain ⟨h1,h2,h3⟩:=Ev.new r hn (NF hl e A.next 0 false) (λf b hf=>by simp [AO.fam] at hf;exact hf.1.symm) (R:=0) (el:=0) (st:=0) (λh=>absurd rfl h)
    (λcs e f b ro h=>⟨λh=>absurd rfl h,_,_,_,rfl,Nat.zero_le _,λ_ k hk=>by omega⟩)
   refine ⟨_,h3,⟨rfl,rfl,0,Inj.Bu,rfl⟩,?_⟩;unfold AW.new at hn;cases hb:Nat.blt A.next Aj with
   |false=>rw [hb] at hn;cases hn
   |true=>rw [hb] at hn;simp at hn;rw [<- hn.2]
  ·cases h
theorem Ce(w:World)(e:TypeId)(cs:Array Value):(newRow e cs).run P w=.ok ⟨w.heap.size,0,none⟩ { w with heap:=w.heap.push (.cells cs e) }:=by
 simp [newRow]
theorem Tk{m:Inj P}(r:Rel m A w){z:Value}(hz:Dt P e=some z)(h:A.newRow z.cells.toList e=some (a,A')):
  ∃ v' w' m',(Instr.alloc e true (.tuple #[])).run P w=.ok v' w'/\Ev m A w m' A' w'/\AM m' (.pointer (some a)) v':=by
 obtain ⟨_,hcl⟩:=Es hz;obtain ⟨m',h1,h2,_⟩:=Gm r h (Cb (m:=m) 4 z hcl).cells;exact ⟨_,_,m',by simp [Instr.alloc,B6 hz,newVar,Ce],h1,.ptr h2⟩
theorem W3{m:Inj P}(r:Rel m A w){v v':Value}(hv:AM m v v')(h:A.newRow v.cells.toList e=some (a,A')):
  ∃ x w' m',(Instr.box e v').run P w=.ok x w'/\Ev m A w m' A' w'/\AM m' (.pointer (some a)) x:=by
 obtain ⟨m',h1,h2,_⟩:=Gm r h hv.cells;exact ⟨_,_,m',by simp [Instr.box,newVar,Ce],h1,.ptr h2⟩
theorem FF(z:List Value):∀ n,(EO z n).length=n*z.length
 |0=>by simp [EO]
 |n+1=>by simp [EO,FF z n,Nat.succ_mul];omega
theorem Nj(z:List Value):∀ (n i:Nat),i<n*z.length->(EO z n)[i]? =z[i%z.length]?
 |0,i,h=>by simp at h
 |n+1,i,h=>by
  simp only [EO];rw [List.getElem?_append];split
  ·rename_i hi;rw [Nat.mod_eq_of_lt hi]
  ·rename_i hi;have hz:0<z.length:=by
    rcases Nat.eq_zero_or_pos z.length with h0 | h0
    ·rw [h0] at h;simp at h
    ·exact h0
   rw [Nj z n _ (by rw [Nat.succ_mul] at h;omega)];rw [Nat.mod_eq_sub_mod (by omega:z.length<=i)]
theorem GH(z:Array Value)(n:Nat):((Array.range (n*z.size)).map λi=>z[i%z.size]!)=⟨EO z.toList n⟩:=by
 apply Array.ext';apply List.ext_getElem?;intro i;simp only [Array.toList_map,Array.toList_range,List.getElem?_map];by_cases hi:i<n*z.size
 ·have hzs:0<z.size:=by
   rcases Nat.eq_zero_or_pos z.size with h0 | h0
   ·rw [h0] at hi;simp at hi
   ·exact h0
  have hm:=Nat.mod_lt i hzs;rw [Nj z.toList n i (by simpa using hi)];rw [List.getElem?_range hi];simp only [Option.map_some,Array.length_toList];rw [getElem!_pos z _ hm,Ge (by simpa using hm)]
  simp
 ·rw [List.getElem?_eq_none (by simpa using hi),List.getElem?_eq_none (by rw [FF];simpa using hi)];rfl
theorem DF(h:BG P t=some e):P.underlying t=some (.slice e):=by
 unfold BG at h;split at h
 ·rename_i e' hu;simp only [Oi] at h;subst h;exact hu
 ·cases h
end
variable {n y:Nat} {A:AW} {w:World} {t:TypeId}
section
variable {P:Program}
theorem AJ.closed{m:Inj P}{v:Value}(h:Ax 4 v=true):AJ m v.cells.toList v.cells.toList:=(Cb (m:=m) 4 v h).cells
theorem AJ.Mq{m:Inj P}{z:List Value}(h:AJ m z z):∀ n,AJ m (EO z n) (EO z n)
 |0=>.nil
 |n+1=>h.append (AJ.Mq h n)
theorem ID{m:Inj P}{e:TypeId}{size:Nat}{l:List Value}(h:Hf P e size n=some l):
  AJ m l l/\∃ zero:Array Value,((n*size=0/\zero=#[])\/(n*size≠0/\∃ z:Value,zero=z.cells/\∀ w,(zeroValue e).run P w=.ok z w))/\
   (Array.range (n*size)).map (λx=>zero[x%zero.size]!)=⟨l⟩:=by
 unfold Hf at h;by_cases h0:n*size=0
 ·rw [beq_true.2 h0,Ct] at h;simp only [Oi] at h;subst h;exact ⟨.nil,#[],.inl ⟨h0,rfl⟩,by simp [h0]⟩
 ·rw [beq_false.2 h0,Cf] at h;split at h
  ·rename_i z hz;cases hb:Nat.beq z.cells.toList.length size with
   |false=>rw [hb] at h;cases h
   |true=>
    rw [hb,Ct] at h;simp only [Oi] at h;subst h;have hb:=beq_true.1 hb;refine ⟨AJ.Mq (AJ.closed (Es hz).2) n,z.cells,.inr ⟨h0,z,rfl,λw=>B6 hz w⟩,?_⟩;rw [<- hb,Array.length_toList,GH]
  ·cases h
theorem IF(h:n<1099511627776):IntKind.i64.wrap (n:Int)=n:=IntWalk.i64_in _ ⟨by omega,by omega⟩
theorem MX{m:Inj P}(r:Rel m A w){x x' y y':Value}(hx:AM m x x')(hy:AM m y y'):
  Xd P m A w AM (CH P A t x y) (Instr.makeSlice t x' y'):=by
 unfold CH;split
 rotate_left
 ·trivial
 rename_i e k l k2 c ht;cases hx;cases hy;split
 rotate_left
 ·trivial
 rename_i size bytes hs hby;cases hc:(Nat.ble l c&&Nat.blt c room&&Nat.blt (c*bytes) room) with
 |false=>simp only [Cf];trivial
 |true=>
  simp only [Ct];simp only [Bq] at hc;have h1:=Bb.1 hc.1.1;have h2:=AA.1 hc.1.2;have h3:=AA.1 hc.2;unfold room at h2 h3;split
  ·trivial
  ·rename_i cs hz;split
   rotate_left
   ·trivial
   rename_i a A' hn;obtain ⟨hzr,zero,hrun,hmap⟩:=ID (P:=P) (m:=m) hz;obtain ⟨m',g1,g2,_⟩:=Gm r hn hzr;obtain ⟨i,hi,hib⟩:=MQ hby;refine ⟨.slice (some ⟨w.heap.size,0,none⟩) l c,_,m',?_,g1,.slice (.inl ⟨by unfold Bo;omega,rfl⟩) h1 (λ_=>g2)⟩;have hwl:IntKind.i64.wrap (Int.ofNat l)=l:=IF (by omega);have hwc:IntKind.i64.wrap (Int.ofNat c)=c:=IF (by omega);have hcb:¬ ((bytes:Int)*(c:Int)>2^48):=by
    have:(bytes:Int)*(c:Int)=((c*bytes:Nat):Int):=by rw [Nat.mul_comm];simp
    rw [this];omega
   have hcond:(((decide ((c:Int)<0) || decide ((i.bytes:Int)*(c:Int)>2^48)) || decide ((l:Int)<0)) || decide ((l:Int)>(c:Int)))=false:=by
    rw [hib];simp only [Bool.or_eq_false_iff,decide_eq_false_iff_not];exact ⟨⟨⟨by omega,hcb⟩,by omega⟩,by omega⟩
   simp only [Instr.makeSlice,Sem.run_bind,run_underlying (DF ht),Result.andThen_ok,asInt,asIntOf,Sem.run_pure,BX hi,hwl,hwc,hcond];simp only [Bool.false_eq_true,if_false,Sem.run_bind,run_askRoom,Result.andThen_ok,Bz hs,Int.toNat_natCast];rcases hrun with ⟨h0,rfl⟩ | ⟨h0,z,rfl,hzv⟩
   ·simp only [if_pos h0,Sem.run_bind,Sem.run_pure,Result.andThen_ok,Ce,hmap]
   ·simp only [Ff h0,Sem.run_bind,hzv,Sem.run_pure,Result.andThen_ok,Ce,hmap]
theorem Mo{m:Inj P}(r:Rel m A w){len:Nat}{parts:List (Nat × Value)}{parts':Array (Nat × Value)}(hp:GU m parts parts'.toList):
  Xd P m A w AM (Aq P A t len parts) (Instr.buildSlice t len parts'):=by
 unfold Aq;split
 rotate_left
 ·trivial
 rename_i e ht;split
 ·trivial
 rename_i size hs;cases hc:(Nat.ble (len*size) 16777216&&Nat.blt len room) with
 |false=>simp only [Cf];trivial
 |true=>
  simp only [Ct];simp only [Bq] at hc;have h1:=Bb.1 hc.1;have h2:=AA.1 hc.2;unfold room at h2;split
  ·trivial
  rename_i zs hz;split
  ·trivial
  rename_i cs hcs;split
  rotate_left
  ·trivial
  rename_i a A' hn;obtain ⟨hzr,zero,hrun,hmap⟩:=ID (P:=P) (m:=m) hz;obtain ⟨out',g3,g4⟩:=GO (place':=λi=>some (i*size,size)) (λi x hx=>hx) hp hzr hcs;obtain ⟨m',g1,g2,_⟩:=Gm r hn g4;refine ⟨.slice (some ⟨w.heap.size,0,none⟩) len len,_,m',?_,g1,.slice (.inl ⟨by unfold Bo;omega,rfl⟩) (Nl _) (λ_=>g2)⟩;have hlim:¬ (len*size>2^24):=by omega
  simp only [Instr.buildSlice,Sem.run_bind,run_underlying (DF ht),Result.andThen_ok,Bz hs,Ff hlim];rcases hrun with ⟨h0,rfl⟩ | ⟨h0,z,rfl,hzv⟩
  ·simp only [if_pos h0,Sem.run_bind,Sem.run_pure,Result.andThen_ok,hmap,g3,Ce]
  ·simp only [Ff h0,Sem.run_bind,hzv,Sem.run_pure,Result.andThen_ok,hmap,g3,Ce]
def DE(m:Inj P):Option Value->Option Value->Prop
 |none,none=>True
 |some x,some x'=>AM m x x'
 |_,_=>False
theorem Rh {m:Inj P} {v v':Option Value} {d:Nat} (hv:DE m v v')
  (h:Dn v d y=some n):(v=none/\v'=none/\n=d)\/∃ k,v'=some (.int k (n:Int))/\v.isSome=true/\n<=y:=by
 unfold Dn at h;split at h
 ·simp only [Oi] at h;subst h;cases v' with
  |none=>exact .inl ⟨rfl,rfl,rfl⟩
  |some x=>simp [DE] at hv
 ·rename_i k i;cases hb:Nat.ble i y with
  |false=>rw [hb] at h;cases h
  |true=>
   rw [hb] at h;simp only [Ct,Oi] at h;subst h;cases v' with
   |none=>simp [DE] at hv
   |some x=>
    simp only [DE] at hv;cases hv;exact .inr ⟨k,rfl,rfl,Bb.1 hb⟩
 ·cases h
theorem run_sliceBound{k:IntKind}(h:n<=y)(c:BoundsCode)(w:World):(Instr.sliceBound (.int k (n:Int)) y c).run P w=.ok n w:=by
 simp [Instr.sliceBound,asIntOf,h]
end
variable {v' lo hi mx lo' hi' mx':Option Value} {d y n len cap l h mm:Nat}
section
variable {P:Program}
def Bnd(v':Option Value)(d y n:Nat):Prop:=(v'=none/\n=d)\/((∃ k,v'=some (.int k (n:Int)))/\n<=y)
theorem Bnd.of{m:Inj P}{v:Option Value}(hv:DE m v v')(h:Dn v d y=some n):Bnd v' d y n/\v'.isSome=v.isSome:=by
 rcases Rh (m:=m) hv h with ⟨rfl,rfl,rfl⟩ | ⟨k,rfl,h1,h2⟩
 ·exact ⟨.inl ⟨rfl,rfl⟩,rfl⟩
 ·exact ⟨.inr ⟨⟨k,rfl⟩,h2⟩,by rw [h1];rfl⟩
theorem Bnd.mono{y':Nat}(h:Bnd v' d y n)(hy:y<=y'):Bnd v' d y' n:=by
 rcases h with h | ⟨h1,h2⟩
 ·exact .inl h
 ·exact .inr ⟨h1,by omega⟩
theorem DG{isS:Bool}(h1:Bnd mx cap cap mm)(h2:mx.isSome=true->hi.isSome=true)(h3:Bnd hi len mm h)(h4:Bnd lo 0 h l)(w:World):
  (Instr.sliceBounds isS len cap lo hi mx).run P w=.ok (l,h,mm) w:=by
 rcases h1 with ⟨rfl,rfl⟩ | ⟨⟨k1,rfl⟩,h1⟩<;>rcases h3 with ⟨rfl,rfl⟩ | ⟨⟨k3,rfl⟩,h3⟩<;>rcases h4 with ⟨rfl,rfl⟩ | ⟨⟨k4,rfl⟩,h4⟩<;>
  first
   |(simp at h2;done)
   |simp only [Instr.sliceBounds,Sem.run_bind,Sem.run_pure,Result.andThen_ok,run_sliceBound h4,run_sliceBound h3,run_sliceBound h1]
   |simp only [Instr.sliceBounds,Sem.run_bind,Sem.run_pure,Result.andThen_ok,run_sliceBound h4,run_sliceBound h3]
   |simp only [Instr.sliceBounds,Sem.run_bind,Sem.run_pure,Result.andThen_ok,run_sliceBound h3,run_sliceBound h1]
   |simp only [Instr.sliceBounds,Sem.run_bind,Sem.run_pure,Result.andThen_ok,run_sliceBound h4]
   |simp only [Instr.sliceBounds,Sem.run_bind,Sem.run_pure,Result.andThen_ok,run_sliceBound h3]
   |simp only [Instr.sliceBounds,Sem.run_bind,Sem.run_pure,Result.andThen_ok]
theorem Zm:0<Bo:=by unfold Bo;omega
theorem Fc {m:Inj P} (hlo:DE m lo lo') (hhi:DE m hi hi') (hmx:DE m mx mx')
  (hb:bounds len cap lo hi mx=some (l,h,mm)):
  Bnd mx' cap cap mm/\(mx'.isSome=true->hi'.isSome=true)/\Bnd hi' len mm h/\Bnd lo' 0 h l/\l<=h/\(hi'.isSome=true->h<=mm)/\mm<=cap:=by
 unfold bounds at hb;cases ho:FQ mx hi with
 |false=>rw [ho] at hb;cases hb
 |true=>
  rw [ho,Ct] at hb;split at hb
  ·cases hb
  rename_i m3 hm3;split at hb
  ·cases hb
  rename_i h3 hh3;split at hb
  ·cases hb
  rename_i l3 hl3;simp only [Oi,Pj] at hb;obtain ⟨rfl,rfl,rfl⟩:=hb;obtain ⟨b1,s1⟩:=Bnd.of hhi hh3;obtain ⟨b2,s2⟩:=Bnd.of hlo hl3;obtain ⟨b3,s3⟩:=Bnd.of hmx hm3;refine ⟨b3,?_,b1,b2,?_,?_,?_⟩
  ·rw [s1,s3];intro hq
   simpa [FQ,hq] using ho
  ·rcases b2 with ⟨_,rfl⟩ | ⟨_,h⟩<;>omega
  ·intro hq;rcases b1 with ⟨rfl,_⟩ | ⟨_,h⟩
   ·cases hq
   ·exact h
  ·rcases b3 with ⟨_,rfl⟩ | ⟨_,h⟩<;>omega
theorem KP(a:Addr)(n:Nat):(Ek a n).block=a.block:=by unfold Ek;cases Nat.beq n 0<;>rfl
theorem Zv(a:Addr)(n:Nat):(Ek a n).off=a.off+n:=by
 unfold Ek;by_cases h:n=0
 ·subst h;rfl
 ·rw [beq_false.2 h];rfl
theorem RL{m:Inj P}{A:AW}{w:World}(r:Rel m A w){t:TypeId}{x x':Value}(hx:AM m x x')(hlo:DE m lo lo')(hhi:DE m hi hi')(hmx:DE m mx mx'):
  HU P m w (AX P A t x lo hi mx) (Instr.sliceAt t x' lo' hi' mx'):=by
 intro v h;unfold AX at h;split at h
 ·
  rename_i s hu;cases hx;split at h
  ·rename_i l hh mm hb;simp only [Oi] at h;subst h;cases mx' with
   |some y=>simp [DE] at hmx
   |none=>
    obtain ⟨b1,b2,b3,b4,_⟩:=Fc hlo hhi (mx:=none) (mx':=none) trivial hb;rw [<- Lib.size_eq] at b1 b3;have hrun:=DG (P:=P) (isS:=false) b1 b2 b3 b4 w;refine ⟨_,?_,.string _⟩;simp only [Instr.sliceAt,Sem.run_bind,run_underlying hu,Result.andThen_ok,Instr.slice,Option.isSome_none,Bool.false_eq_true,if_false,hrun,Sem.run_pure,Lib.extract_eq];rw [List.drop_take]
  ·cases h
 ·
  rename_i e a len cap hu;split at h
  ·cases h
  rename_i size hs;cases hcap:Nat.ble Bo cap with
  |true=>
   rw [hcap] at h;simp only [Ct] at h;have hcap:=Bb.1 hcap;cases hx with
   |sliceNil=>have:=Zm;omega
   |slice hc hn ha=>
    rename_i a a' c';obtain ⟨_,hlb,hcl,hcr,xx,hxx⟩:=hc.resolve_left (λh=>by omega);cases mx with
    |none=>
     simp only at h;split at h
     ·rename_i l hh mm hb;cases hmb:(Nat.ble hh mm&&HA A (some a) e) with
      |false=>rw [hmb] at h;cases h
      |true=>
       rw [hmb] at h;simp only [Ct,Oi] at h;subst h;simp only [Bq] at hmb;obtain ⟨hmb,hrow⟩:=hmb;have hmb:=Bb.1 hmb;have hst:0<c'->m.st a.block=size:=by
        intro hp;unfold HA at hrow;split at hrow
        ·rename_i a0 ha0;cases ha0;split at hrow
         ·rename_i cs0 e0 f0 b0 ro0 hg;have hee:=beq_true.1 hrow;subst hee;have h1:=(r.room _ _ _ _ _ _ xx.1 xx.2 hg hxx).1 (hcr hp);have h2:=m.ok _ (hcr hp);rw [h1,hs] at h2
          simpa using h2.symm
         ·cases hrow
        ·cases hrow
       cases mx' with
       |some y=>simp [DE] at hmx
       |none=>
        obtain ⟨b1,b2,b3,b4,hl,_,hm2⟩:=Fc hlo hhi (mx:=none) (mx':=none) trivial hb;have hmm:mm=cap-Bo:=by rcases b1 with ⟨_,h⟩ | ⟨⟨_,h⟩,_⟩;exact h;cases h
        have b3':Bnd hi' len c' hh:=b3.mono (by omega);have hrun:=DG (P:=P) (isS:=true) (len:=len) (cap:=c') (mx:=none) (mm:=c') (.inl ⟨rfl,rfl⟩) (by simp) b3' b4 w;refine ⟨.slice (some (if c'=l then a' else a'.add (l*size))) (hh-l) (c'-l),?_,.slice (.inr ⟨by omega,by omega,?_,?_,?_⟩) (by omega) (λhp=>?_)⟩
        ·simp only [Instr.sliceAt,Sem.run_bind,run_underlying hu,Result.andThen_ok,Instr.slice,hrun,Bz hs,Sem.run_pure];split<;>rfl
        ·rw [KP,Zv];rcases Nat.eq_zero_or_pos c' with h0 | h0
         ·subst h0
          have:l=0:=by omega
          subst this
          simpa using hcl
         ·rw [hst h0] at hcl ⊢
          have:l*size+(c'-l)*size=c'*size:=by rw [<- Nat.add_mul];congr 1;omega
          omega
        ·intro hp;rw [KP];exact hcr (by omega)
        ·rw [KP];exact ⟨_,hxx⟩
        ·rw [Ff (by omega)];exact (ha (by omega)).add _
     ·cases h
    |some mv=>
     simp only at h;split at h
     ·rename_i l hh mm hb;cases hmb:Nat.blt mm Bo with
      |false=>rw [hmb] at h;cases h
      |true=>
       rw [hmb] at h;simp only [Ct,Oi] at h;subst h;have hmb:=AA.1 hmb;obtain ⟨b1,b2,b3,b4,hl,hm1,hm2⟩:=Fc hlo hhi hmx hb;have hsm:mx'.isSome=true:=by cases mx' with | none=>simp [DE] at hmx | some y=>rfl
       have hm1:=hm1 (b2 hsm);have b1':Bnd mx' c' c' mm:=by
        rcases b1 with ⟨rfl,_⟩ | ⟨h1,h2⟩
        ·cases hsm
        ·exact .inr ⟨h1,by omega⟩
       have hrun:=DG (P:=P) (isS:=true) (len:=len) (cap:=c') b1' b2 b3 b4 w;refine ⟨.slice (some (if mm=l then a' else a'.add (l*size))) (hh-l) (mm-l),?_,.slice (.inl ⟨by omega,rfl⟩) (by omega) (λhp=>?_)⟩
       ·simp only [Instr.sliceAt,Sem.run_bind,run_underlying hu,Result.andThen_ok,Instr.slice,hrun,Bz hs,Sem.run_pure];split<;>rfl
       ·rw [Ff (by omega)];exact (ha (by omega)).add _
     ·cases h
  |false=>
   rw [hcap] at h;simp only [Cf] at h;have hcap:=BL.1 hcap;split at h
   ·rename_i l hh mm hb;simp only [Oi] at h;subst h;obtain ⟨b1,b2,b3,b4,hl,hm1,hm2⟩:=Fc hlo hhi hmx hb;have hrun:=DG (P:=P) (isS:=true) (len:=len) (cap:=cap) b1 b2 b3 b4 w;cases hx with
    |sliceNil=>
     have hl0:l=0/\hh=0/\mm=0:=by
      rcases b3 with ⟨_,rfl⟩ | ⟨_,h⟩<;>omega
     obtain ⟨rfl,rfl,rfl⟩:=hl0;refine ⟨.slice none 0 0,?_,.sliceNil⟩;simp only [Instr.sliceAt,Sem.run_bind,run_underlying hu,Result.andThen_ok,Instr.slice,hrun,Bz hs,Sem.run_pure];rfl
    |slice hc hn ha=>
     rename_i a a' c';rcases hc with ⟨_,rfl⟩ | ⟨h1,_⟩
     rotate_left
     ·omega
     have hhm:hh<=mm:=by
      cases hs2:hi'.isSome with
      |true=>exact hm1 hs2
      |false=>
       have hmn:mx'=none:=by
        cases mx' with
        |none=>rfl
        |some y=>have:=b2 rfl;rw [hs2] at this;cases this
       subst hmn;rcases b1 with ⟨_,rfl⟩ | ⟨⟨_,h⟩,_⟩
       ·rcases b3 with ⟨_,rfl⟩ | ⟨_,h⟩<;>omega
       ·cases h
     refine ⟨.slice (if mm=l then some a' else some (a'.add (l*size))) (hh-l) (mm-l),?_,?_⟩
     ·simp only [Instr.sliceAt,Sem.run_bind,run_underlying hu,Result.andThen_ok,Instr.slice,hrun,Bz hs,Sem.run_pure];rfl
     ·by_cases hml:mm=l
      ·rw [beq_true.2 hml,Ct,if_pos hml];exact .slice (.inl ⟨by omega,rfl⟩) (by omega) (λhp=>by omega)
      ·rw [beq_false.2 hml,Cf,Ff hml];exact .slice (.inl ⟨by omega,rfl⟩) (by omega) (λhp=>(ha (by omega)).add _)
   ·cases h
 ·
  rename_i n e a hu;cases hx with
  |ptr ha=>
   rename_i a';split at h
   ·cases h
   rename_i size hs;split at h
   ·rename_i l hh mm hb;cases hmb:Nat.blt mm Bo with
    |false=>rw [hmb] at h;cases h
    |true=>
     rw [hmb] at h;simp only [Ct,Oi] at h;subst h;have hmb:=AA.1 hmb;obtain ⟨b1,b2,b3,b4,hl,hm1,hm2⟩:=Fc hlo hhi hmx hb;have hrun:=DG (P:=P) (isS:=false) (len:=n) (cap:=n) b1 b2 b3 b4 w;have hhm:hh<=mm:=by
      cases hs2:hi'.isSome with
      |true=>exact hm1 hs2
      |false=>
       have hmn:mx'=none:=by
        cases mx' with
        |none=>rfl
        |some y=>have:=b2 rfl;rw [hs2] at this;cases this
       subst hmn;rcases b1 with ⟨_,rfl⟩ | ⟨⟨_,h⟩,_⟩
       ·rcases b3 with ⟨_,rfl⟩ | ⟨_,h⟩<;>omega
       ·cases h
     refine ⟨.slice (some (if mm=l then a' else a'.add (l*size))) (hh-l) (mm-l),?_,?_⟩
     ·simp only [Instr.sliceAt,Sem.run_bind,run_underlying hu,Result.andThen_ok,Instr.sureAddr,hrun,Bz hs,Sem.run_pure]
     ·by_cases hml:mm=l
      ·rw [beq_true.2 hml,Ct,if_pos hml];exact .slice (.inl ⟨by omega,rfl⟩) (by omega) (λhp=>by omega)
      ·rw [beq_false.2 hml,Cf,Ff hml];exact .slice (.inl ⟨by omega,rfl⟩) (by omega) (λhp=>ha.add _)
   ·cases h
 ·cases h
end
variable {x y v x' y':Value} {t:TypeId} {xo yo:Operand}
section
variable {P:Program}
theorem toList_eq(s:ByteArray):s.toList=s.data.toList:=Lib.toList_data s
theorem Th(x y:ByteArray):x++y=⟨⟨x.data.toList++y.data.toList⟩⟩:=by
 apply ByteArray.ext;rw [ByteArray.data_append];apply Array.ext'
 simp
theorem RH{m:Inj P}{op:BinOp}{x y:ByteArray}(h:TO op x y=some v)(w:World):∃ v',(Op.stringOp op x y).run P w=.ok v' w/\AM m v v':=by
 unfold TO at h;simp only at h;cases op<;>simp only at h<;>try (cases h;done)
 case add=>
  cases hb:Nat.blt (x.data.toList++y.data.toList).length 1099511627776 with
  |false=>rw [hb] at h;cases h
  |true=>
   rw [hb] at h;simp only [Ct,Oi] at h;subst h;have hb:=AA.1 hb;refine ⟨_,?_,.string _⟩
   have:¬ (((x.size+y.size:Nat):Int)>IntKind.i64.max):=by
    rw [Lib.size_eq,Lib.size_eq];simp only [Lq] at hb
    have:IntKind.i64.max=9223372036854775807:=by decide
    rw [this];omega
   simp only [Op.stringOp,Ff this,Sem.run_pure,Th]
 all_goals
  simp only [Oi] at h;subst h;refine ⟨_,?_,.bool _⟩;simp only [Op.stringOp,toList_eq,Sem.run_pure]
theorem Kk{a b:Addr}(h:a.block=b.block)(w:World):(sameAddr a b).run P w=.ok (a==b) w:=by
 simp [sameAddr,h]
theorem HM{m:Inj P}{b:Bool}(hx:AM m x x')(hy:AM m y y')(h:eqA P t x y=some b)(w:World):(Op.equal t x' y').run P w=.ok b w:=by
 unfold eqA at h;cases hc:(Ax 4 x&&Ax 4 y) with
 |true=>
  rw [hc,Ct] at h;simp only [Bq] at hc;rw [DC 4 _ _ hc.1 hx,DC 4 _ _ hc.2 hy];exact Gv _ h w
 |false=>
 rw [hc,Cf] at h;clear hc;show (Op.equalIn 10000 t x' y').run P w=_;obtain ⟨d0,hd0⟩:∃ d:Nat,10000=d+1:=⟨9999,rfl⟩;rw [hd0];clear hd0;split at h
 ·rename_i e c hu;cases hx;cases hy with
  |ptrNil=>simp only [Oi] at h;subst h;simp [Op.equalIn,run_underlying hu]
  |ptr ha=>simp only [Oi] at h;subst h;simp [Op.equalIn,run_underlying hu]
 ·rename_i e c hu;cases hx with
  |ptr ha=>
   cases hy;simp only [Oi] at h;subst h;simp [Op.equalIn,run_underlying hu]
 ·rename_i e c d hu;cases hx with
  |ptr ha=>
   rename_i a';cases hy with
   |ptr hb=>
    rename_i b';split at h
    ·rename_i n hn hs1 hs2;cases hbl:Nat.beq c.block d.block with
     |false=>rw [hbl] at h;cases h
     |true=>
      rw [hbl] at h;simp only [Ct,Oi] at h;subst h;have hbl:=beq_true.1 hbl;obtain ⟨_,h1,d1,h2,h3⟩:=ha;obtain ⟨_,k1,d2,k2,k3⟩:=hb;rw [hbl,k2] at h2;simp only [Oi,Pj] at h2;obtain ⟨h4,h5⟩:=h2;have hab:(a'==b')=Nat.beq c.off d.off:=by
       obtain ⟨ab,ao,asp⟩:=a';obtain ⟨bb,bo,bsp⟩:=b';simp only at *;subst h1;subst k1;subst h4;subst h5;cases hq:Nat.beq c.off d.off with
       |true=>
        have:=beq_true.1 hq
        simp [h3,k3,this]
       |false=>
        have:=beq_false.1 hq
        simp [h3,k3,this]
      simp only [Op.equalIn,Sem.run_bind,run_underlying hu,Result.andThen_ok,Bz hn];simp [Kk h4.symm,hab]
    ·cases h
 ·rename_i e a b0 c d hu;cases hx;cases hy<;>simp only [Oi] at h<;>subst h<;>simp [Op.equalIn,run_underlying hu]
 ·rename_i e a b0 c d c0 d0 hu;cases hx;cases hy<;>simp only [Oi] at h<;>subst h<;>simp [Op.equalIn,run_underlying hu]
 ·rename_i k e c hu;cases hx;cases hy<;>simp only [Oi] at h<;>subst h<;>simp [Op.equalIn,run_underlying hu]
 ·rename_i k e c hu;cases hx;cases hy<;>simp only [Oi] at h<;>subst h<;>simp [Op.equalIn,run_underlying hu]
 ·rename_i k e c hu;cases hx;cases hy<;>simp only [Oi] at h<;>subst h<;>simp [Op.equalIn,run_underlying hu]
 ·rename_i k e c hu;cases hx;cases hy<;>simp only [Oi] at h<;>subst h<;>simp [Op.equalIn,run_underlying hu]
 ·rename_i k e c hu;cases hx;cases hy<;>simp only [Oi] at h<;>subst h<;>simp [Op.equalIn,run_underlying hu]
 ·rename_i k e c hu;cases hx;cases hy<;>simp only [Oi] at h<;>subst h<;>simp [Op.equalIn,run_underlying hu]
 ·cases h
theorem LI{m:Inj P}{o:Option Value}(h:C3 o=some v):o=some v/\AM m v v:=by
 unfold C3 at h;split at h
 ·rename_i x;cases hc:Ax 4 x with
  |false=>rw [hc] at h;cases h
  |true=>
   rw [hc] at h;simp only [Ct,Oi] at h;subst h;exact ⟨rfl,Cb 4 x hc⟩
 ·cases h
theorem Xz{m:Inj P}{op:UnOp}(hx:AM m x x')(w:World):HU P m w (unA P op x) (Op.unary op x'):=by
 intro v h;unfold unA at h;cases hc:Ax 1 x with
 |false=>rw [hc] at h;cases h
 |true=>
  rw [hc,Ct] at h;rw [DC 1 _ _ hc hx];obtain ⟨h1,h2⟩:=LI (m:=m) h;exact ⟨v,Gv _ h1 w,h2⟩
def mixed:Value->Value->Bool
 |.int _ _,.int _ _=>false
 |.string _,.string _=>false
 |.float _ _,.float _ _=>false
 |.complex _ _ _,.complex _ _ _=>false
 |_,_=>true
theorem binOp_eql(t:TypeId)(x y:Value)(h:mixed x y=true):binOp .eql t x y=(do pure (.bool (<- Op.equal t x y))):=by
 cases x<;>cases y<;>first | rfl | (simp [mixed] at h;done)
theorem binOp_neq(t:TypeId)(x y:Value)(h:mixed x y=true):binOp .neq t x y=(do pure (.bool (!(<- Op.equal t x y)))):=by
 cases x<;>cases y<;>first | rfl | (simp [mixed] at h;done)
theorem AM.mixed{m:Inj P}{x y x' y':Value}(hx:AM m x x')(hy:AM m y y'):mixed x' y'=mixed x y:=by
 cases hx<;>cases hy<;>rfl
theorem Kb{m:Inj P}{op:BinOp}(hx:AM m x x')(hy:AM m y y')(h:DI P t xo yo x y=true)(w:World):
  (eqGuard op t xo yo x' y').run P w=.ok () w:=by
 unfold DI at h;cases hx<;>cases hy<;>first | (cases op<;>rfl) | skip
 ·
  simp only at h;cases op<;>first | rfl | (simp only [eqGuard];cases xo<;>cases yo<;>first | rfl | (simp [isConst] at h;done))
 ·simp only [Bool.not_eq_true'] at h;cases op<;>first | rfl | simp [eqGuard,h]
theorem Kc(op:BinOp)(t:TypeId)(xo yo:Operand)(x y:Value)(h1:x≠ .nilIface)(h2:∀ c,x≠ .agg c)(w:World):(eqGuard op t xo yo x y).run P w=.ok () w:=by
 cases x<;>first | (exact absurd rfl h1) | (exact absurd rfl (h2 _)) | (cases op<;>rfl)
theorem W5{m:Inj P}{op:BinOp}(hx:AM m x x')(hy:AM m y y')(w:World):
  HU P m w (An P op t xo yo x y) (do eqGuard op t xo yo x' y';binOp op t x' y'):=by
 intro v h;unfold An at h;split at h
 ·cases hx;cases hy;obtain ⟨h1,h2⟩:=LI (m:=m) h;refine ⟨v,?_,h2⟩;rw [Sem.run_bind,Kc _ _ _ _ _ _ (by simp) (by simp),Result.andThen_ok];exact Gv _ h1 w
 ·rename_i a b;cases hx;cases hy;obtain ⟨v',h1,h2⟩:=RH (P:=P) (m:=m) h w;refine ⟨v',?_,h2⟩;have hbs:binOp op t (.string a) (.string b)=Op.stringOp op a b:=by cases op<;>rfl
  rw [Sem.run_bind,Kc _ _ _ _ _ _ (by simp) (by simp),Result.andThen_ok,hbs];exact h1
 ·cases h
 ·cases h
 ·rename_i n1 n2 n3 n4;have hmix:mixed x y=true:=by
   unfold mixed;split
   ·exact (n1 _ _ _ _ rfl rfl).elim
   ·exact (n2 _ _ rfl rfl).elim
   ·exact (n3 _ _ _ _ rfl rfl).elim
   ·exact (n4 _ _ _ _ _ _ rfl rfl).elim
   ·rfl
  have hmix':mixed x' y'=true:=by rw [hx.mixed hy];exact hmix
  split at h
  ·cases hg:DI P t xo yo x y with
   |false=>rw [hg] at h;cases h
   |true=>
    rw [hg,Ct] at h;split at h
    ·rename_i b hb;simp only [Oi] at h;subst h;refine ⟨_,?_,.bool b⟩;rw [Sem.run_bind,Kb hx hy hg,Result.andThen_ok,binOp_eql _ _ _ hmix'];simp [HM hx hy hb w]
    ·cases h
  ·cases hg:DI P t xo yo x y with
   |false=>rw [hg] at h;cases h
   |true=>
    rw [hg,Ct] at h;split at h
    ·rename_i b hb;simp only [Oi] at h;subst h;refine ⟨_,?_,.bool (!b)⟩;rw [Sem.run_bind,Kb hx hy hg,Result.andThen_ok,binOp_neq _ _ _ hmix'];simp [HM hx hy hb w]
    ·cases h
  ·cases h
end
variable {t kt:TypeId} {k x x' k':Value} {A:AW} {w:World} {es es':List MapEntry} {empty:Bool} {r:Option Nat}
section
variable {P:Program}
theorem CS{k e:TypeId}(h:D0 P t=some (k,e)):P.underlying t=some (.map k e):=by
 unfold D0 at h;split at h
 ·rename_i k' e' hu;simp only [Oi,Pj] at h;obtain ⟨rfl,rfl⟩:=h;exact hu
 ·cases h
theorem Lp{m:Inj P}(r:Rel m A w)(hx:AM m x x')(h:L8 A x=some es):
  (x=.map none/\x'=.map none/\es=[])\/∃ i c es' clock ro,x=.map (some i)/\x'=.map (some c)/\m i=some (c,0)/\A.get i=some (.map es clock ro)/\w.heap[c]? =some (.map ⟨es'⟩ clock)/\B5 (Gb m) es es':=by
 cases hx with
 |mapNil=>simp only [L8,Oi] at h;exact .inl ⟨rfl,rfl,h.symm⟩
 |map hm=>
  rename_i i c;simp only [L8] at h;split at h
  ·rename_i es0 clock ro hg;simp only [Oi] at h;subst h;obtain ⟨c0,d0,o',h1,h2,hd,es',rfl,h4⟩:=r.GK hg hm;rw [hm] at h1;simp only [Oi,Pj] at h1;obtain ⟨rfl,rfl⟩:=h1;exact .inr ⟨i,c,es',clock,ro,rfl,rfl,hm,hg,h2,h4⟩
  ·cases h
 |_=>simp [L8] at h
theorem Im{m:Inj P}(hk:AM m k k')(h:KB P empty kt k=true)(w:World):
  Ax 4 k=true/\k'=k/\(Instr.checkKey empty 10000 kt k').run P w=.ok () w:=by
 unfold KB at h;simp only [Bq] at h;obtain ⟨h1,h2⟩:=h;have e:=DC 4 _ _ h1 hk;refine ⟨h1,e,?_⟩;rw [e];split at h2
 ·rename_i u hu;exact Gv _ hu w
 ·cases h2
theorem HY{u:Unit}(h:quiet P (Instr.checkKey empty 10000 kt k)=some u):∃ d,P.underlying kt=some d:=by
 cases hu:P.underlying kt with
 |some d=>exact ⟨d,rfl⟩
 |none=>
  exfalso;obtain ⟨d0,hd0⟩:∃ d:Nat,10000=d+1:=⟨9999,rfl⟩;rw [hd0] at h;clear hd0
  have:∀ {β:Type} (f:TypeDesc->Sem β),quiet P ((underlying kt).bind f)=none:=by
   intro β f;simp only [underlying,program,Bind.bind,Sem.bind,quiet,hu,stuck]
  simp only [Instr.checkKey,Bind.bind] at h;rw [this] at h;cases h
theorem KA(h:KB P empty kt k=true):∃ d,P.underlying kt=some d:=by
 unfold KB at h;simp only [Bq] at h;obtain ⟨_,h2⟩:=h;split at h2
 ·rename_i u hu;exact HY hu
 ·cases h2
theorem ND{d:TypeDesc}{y:Value}{b c:Bool}(hu:P.underlying kt=some d)(h:(Op.equal kt x y).run P w=.ok b w)(hs:Instr.sameNow d x y=some c):c=b:=by
 have h':(Op.equalIn 10000 kt x y).run P w=.ok b w:=h;obtain ⟨d0,hd0⟩:∃ d:Nat,10000=d+1:=⟨9999,rfl⟩;rw [hd0] at h';clear hd0 h;unfold Instr.sameNow at hs;split at hs
 ·rename_i kk k1 a k2 b';split at hs
  ·rename_i hkk;subst hkk;simp only [Oi] at hs;simp [Op.equalIn,run_underlying hu] at h';rw [<- hs,<- h']
  ·cases hs
 ·simp only [Oi] at hs;simp [Op.equalIn,run_underlying hu] at h';rw [<- hs,<- h']
 ·simp only [Oi] at hs;simp [Op.equalIn,run_underlying hu] at h';rw [<- hs,<- h']
 ·cases hs
def Found(m:Inj P)(es es':List MapEntry)(i:Nat)(r:Option Nat)(q:Option (Nat × Value)):Prop:=
 match r with
 |none=>q=none
 |some j=>∃ e e',i<=j/\es[j-i]? =some e/\es'[j-i]? =some e'/\q=some (j,e'.val)/\Gb m e e'
theorem Found.skip{m:Inj P}{x x':MapEntry}{i:Nat}{q:Option (Nat × Value)}(h:Found m es es' (i+1) r q):Found m (x::es) (x'::es') i r q:=by
 cases r with
 |none=>exact h
 |some j=>
  obtain ⟨e,e',h1,h2,h3,h4,h5⟩:=h;refine ⟨e,e',by omega,?_,?_,h4,h5⟩
  ·rw [show j-i=(j-(i+1))+1 by omega];simpa using h2
  ·rw [show j-i=(j-(i+1))+1 by omega];simpa using h3
theorem HJ{m:Inj P}{kt:TypeId}{k k':Value}(hk:AM m k k')(w:World):∀ {es es':List MapEntry} {i:Nat} {r:Option Nat},B5 (Gb m) es es'->HK P kt k es i=some r->
  ∃ q,(Instr.findAsking kt k' es' i).run P w=.ok q w/\Found m es es' i r q
 |_,_,i,r,.nil,h=>by
  simp only [HK,Oi] at h;subst h;exact ⟨none,rfl,rfl⟩
 |_,_,i,r,.cons (a:=e) (b:=e') he ht,h=>by
  simp only [HK] at h;split at h
  ·rename_i hb;simp only [Oi] at h;subst h;refine ⟨some (i,e'.val),?_,e,e',Nl _,by simp,by simp,rfl,he⟩;simp [Instr.findAsking,HM hk he.key hb w]
  ·rename_i hb;obtain ⟨q,h1,h2⟩:=HJ hk w ht h;refine ⟨q,?_,h2.skip⟩;simp [Instr.findAsking,HM hk he.key hb w,h1]
  ·cases h
theorem J8{m:Inj P}{kt:TypeId}{d:TypeDesc}{k k':Value}(hk:AM m k k')(hu:P.underlying kt=some d)(w:World):∀ {es es':List MapEntry} {i:Nat} {r:Option Nat},B5 (Gb m) es es'->
  HK P kt k es i=some r->∀ {q},Instr.findNow d k' es' i=some q->Found m es es' i r q
 |_,_,i,r,.nil,h,q,hq=>by
  simp only [HK,Oi] at h;subst h;simp only [Instr.findNow,Oi] at hq;subst hq;rfl
 |_,_,i,r,.cons (a:=e) (b:=e') he ht,h,q,hq=>by
  simp only [HK] at h;simp only [Instr.findNow] at hq;split at h
  ·rename_i hb;have he1:=HM hk he.key hb w;simp only [Oi] at h;subst h;split at hq
   ·simp only [Oi] at hq;subst hq;exact ⟨e,e',Nl _,by simp,by simp,rfl,he⟩
   ·rename_i hs
    have:=ND hu he1 hs
    cases this
   ·cases hq
  ·rename_i hb;have he1:=HM hk he.key hb w;split at hq
   ·rename_i hs
    have:=ND hu he1 hs
    cases this
   ·exact (J8 hk hu w ht h hq).skip
   ·cases hq
  ·cases h
theorem EA {m:Inj P} {d:TypeDesc} (hk:AM m k k') (hu:P.underlying kt=some d) (w:World) (he:B5 (Gb m) es es')
  (h:HK P kt k es 0=some r):∃ q,(Instr.findKey kt k' es').run P w=.ok q w/\Found m es es' 0 r q:=by
 unfold Instr.findKey;rw [Sem.run_bind,run_underlying hu,Result.andThen_ok];cases hn:Instr.findNow d k' es' 0 with
 |some q=>exact ⟨q,rfl,J8 hk hu w he h hn⟩
 |none=>exact HJ hk w he h
theorem isEmpty_eq{m:Inj P}(h:B5 (Gb m) es es'):es'.isEmpty=es.isEmpty:=by cases h<;>rfl
theorem QM{m:Inj P}(r:Rel m A w){ok:Bool}(hx:AM m x x')(hk:AM m k k'):
  HU P m w (Cu P A t x k ok) (Instr.lookup t x' k' ok):=by
 intro v h;unfold Cu at h;split at h
 ·cases h
 rename_i kt et hmt;split at h
 ·cases h
 rename_i es hes;cases hq:KB P es.isEmpty kt k with
 |false=>rw [hq] at h;cases h
 |true=>
  rw [hq,Ct] at h;obtain ⟨_,_,hck⟩:=Im (P:=P) hk hq w;obtain ⟨kd,hkd⟩:=KA hq;split at h
  ·cases h
  ·rename_i i hf;split at h
   ·rename_i e hei;simp only [Oi] at h;subst h;rcases Lp r hx hes with ⟨_,_,rfl⟩ | ⟨ib,c,es',clock,ro,rfl,rfl,hm,hg,hc,he⟩
    ·simp at hei
    ·obtain ⟨q,h1,e1,e1',_,h3,h4,h5,h6⟩:=EA hk hkd w he hf;simp only [Nat.sub_zero] at h3 h4;rw [hei] at h3;simp only [Oi] at h3;subst h3;subst h5;rw [<- isEmpty_eq he] at hck;refine ⟨if ok then .tuple #[e1'.val,.bool true] else e1'.val,?_,?_⟩
     ·simp only [Instr.lookup,Sem.run_bind,run_underlying (CS hmt),Result.andThen_ok,BI P w c _ hc (by simp)]
      have:(⟨es'⟩:Array MapEntry).isEmpty=es'.isEmpty:=by simp
      simp only [Sem.run_pure,Result.andThen_ok,Sem.run_bind,this,hck,h1]
     ·cases ok
      ·exact h6.val
      ·exact .tuple (.cons h6.val (.cons (.bool true) .nil))
   ·cases h
  ·rename_i hf;split at h
   ·rename_i z hz;simp only [Oi] at h;subst h;have hzr:=Cb (m:=m) 4 z (Es hz).2;have hvr:AM m (bif ok then .tuple #[z,.bool false] else z) (if ok then .tuple #[z,.bool false] else z):=by
     cases ok
     ·exact hzr
     ·exact .tuple (.cons hzr (.cons (.bool false) .nil))
    rcases Lp r hx hes with ⟨_,rfl,rfl⟩ | ⟨ib,c,es',clock,ro,rfl,rfl,hm,hg,hc,he⟩
    ·obtain ⟨q,h1,h2⟩:=EA hk hkd w .nil hf;simp only [Found] at h2;subst h2;refine ⟨_,?_,hvr⟩;simp only [Instr.lookup,Sem.run_bind,run_underlying (CS hmt),Result.andThen_ok,Sem.run_pure]
     have:(#[]:Array MapEntry).isEmpty=true:=rfl
     simp only [List.isEmpty_nil] at hck;simp only [this,hck,Result.andThen_ok,h1,Sem.run_bind,B6 hz,Sem.run_pure]
    ·obtain ⟨q,h1,h2⟩:=EA hk hkd w he hf;simp only [Found] at h2;subst h2;rw [<- isEmpty_eq he] at hck;refine ⟨_,?_,hvr⟩;simp only [Instr.lookup,Sem.run_bind,run_underlying (CS hmt),Result.andThen_ok,BI P w c _ hc (by simp)]
     have:(⟨es'⟩:Array MapEntry).isEmpty=es'.isEmpty:=by simp
     simp only [Sem.run_pure,Result.andThen_ok,Sem.run_bind,this,hck,h1,B6 hz]
   ·cases h
theorem Rel.map{m:Inj P}{A:AW}{w:World}(r:Rel m A w){i:Nat}{es:List MapEntry}{clock:Nat}{ro:Bool}{x':Value}(hg:A.get i=some (.map es clock ro))(hx:AM m (.map (some i)) x'):
  ∃ c es',x'=.map (some c)/\m i=some (c,0)/\w.heap[c]? =some (.map ⟨es'⟩ clock)/\B5 (Gb m) es es':=by
 cases hx with
 |map hm=>
  rename_i c;obtain ⟨c0,d0,o',h1,h2,hd,es',rfl,h4⟩:=r.GK hg hm;rw [hm] at h1;simp only [Oi,Pj] at h1;obtain ⟨rfl,rfl⟩:=h1;exact ⟨c,es',rfl,hm,h2,h4⟩
theorem B5.GD{m:Inj P}:∀ {es es':List MapEntry} (i:Nat) {k v k' v':Value} (f:MapEntry->MapEntry),B5 (Gb m) es es'->AM m k k'->AM m v v'->
  (∀ e,es'[i]? =some e->f e={ e with key:=k',val:=v' })->B5 (Gb m) (GD es i k v) (es'.modify i f)
 |_,_,_,_,_,_,_,_,.nil,_,_,_=>by simp [Abs.GD];exact .nil
 |_,_,0,_,_,_,_,f,.cons r t,hk,hv,hf=>by
  simp only [Abs.GD,List.modify_zero_cons];rw [hf _ (by simp)];exact .cons ⟨hk,hv,r.born⟩ t
 |_,_,i+1,_,_,_,_,f,.cons r t,hk,hv,hf=>by
  simp only [Abs.GD,List.modify_succ_cons];exact .cons r (B5.GD i f t hk hv λe he=>hf e (by simpa using he))
theorem Ue(l:List MapEntry)(i:Nat)(f:MapEntry->MapEntry):(⟨l⟩:Array MapEntry).modify i f=⟨l.modify i f⟩:=by
 apply Array.ext'
 simp
theorem MW {m:Inj P} {A':AW} (r:Rel m A w) {v v':Value} (hx:AM m x x') (hk:AM m k k') (hv:AM m v v')
  (h:Cp P A t x k v=some A'):∃ w',(Instr.mapUpdate t x' k' v').run P w=.ok () w'/\Ev m A w m A' w':=by
 unfold Cp at h;split at h
 rotate_left
 ·cases h
 rename_i kt et i hmt;cases hq:KB P false kt k with
 |false=>rw [hq] at h;cases h
 |true=>
  rw [hq,Ct] at h;obtain ⟨hkc,rfl,hck⟩:=Im (P:=P) hk hq w;obtain ⟨kd,hkd⟩:=KA hq;split at h
  rotate_left
  ·cases h
  rename_i es clock hg;obtain ⟨c,es',rfl,hm,hc,he⟩:=r.map hg hx;split at h
  ·cases h
  ·rename_i j hf;split at h
   ·rename_i e hej;cases hsb:(Ax 4 e.key&&Instr.sameBits 10000 e.key k') with
    |false=>rw [hsb] at h;cases h
    |true=>
     rw [hsb,Ct] at h;simp only [Oi] at h;subst h;simp only [Bq] at hsb;obtain ⟨q,h1,e1,e1',_,h3,h4,h5,h6⟩:=EA hk hkd w he hf;simp only [Nat.sub_zero] at h3 h4;rw [hej] at h3;simp only [Oi] at h3;subst h3;subst h5;have hkey:e1'.key=e.key:=DC 4 _ _ hsb.1 h6.key;have hkeep:((((⟨es'⟩:Array MapEntry)[j]?).map (·.key)).getD k')=e.key:=by
      simp [h4,hkey]
     refine ⟨{ w with heap:=w.heap.setIfInBounds c (.map ⟨es'.modify j λe=>{ e with key:=k',val:=v' }⟩ clock) },?_,?_⟩
     ·simp only [Instr.mapUpdate,Sem.run_bind,run_underlying (CS hmt),Result.andThen_ok,BI P w c _ hc (by simp),hck,h1];simp only [hkeep,Instr.keyThatStays,hsb.2,if_true,Sem.run_pure,Result.andThen_ok,Ue];exact Cy P w c _ _ hc (by simp)
     ·exact Ev.Ie r hg rfl rfl hm hc ⟨rfl,_,rfl,B5.GD j _ he hk hv (λ_ _=>rfl)⟩ rfl rfl
   ·cases h
  ·rename_i hf;simp only [Oi] at h;subst h;obtain ⟨q,h1,h2⟩:=EA hk hkd w he hf;simp only [Found] at h2;subst h2;refine ⟨{ w with heap:=w.heap.setIfInBounds c (.map ⟨es'++[{ key:=k',val:=v',born:=clock }]⟩ (clock+1)) },?_,?_⟩
   ·simp only [Instr.mapUpdate,Sem.run_bind,run_underlying (CS hmt),Result.andThen_ok,BI P w c _ hc (by simp),hck,h1];rw [show (⟨es'⟩:Array MapEntry).push { key:=k',val:=v',born:=clock }=⟨es'++[{ key:=k',val:=v',born:=clock }]⟩ from by simp];exact Cy P w c _ _ hc (by simp)
   ·exact Ev.Ie r hg rfl rfl hm hc ⟨rfl,_,rfl,he.append (.cons ⟨hk,hv,rfl⟩ .nil)⟩ rfl rfl
theorem AM.Acl{m:Inj P}{a b a' b':Value}(ha:AM m a a')(hb:AM m b b'):AM m (.tuple #[a,b]) (.tuple #[a',b']):=.tuple (.cons ha (.cons hb .nil))
theorem Ja{m:Inj P}{n:Nat}:∀ {es es':List MapEntry} {i j:Nat},B5 (Gb m) es es'->Eh n es i=some j->i<=j/\es'.findIdx? (λe=>(e.born:Int)==(n:Int))=some (j-i)/\(∃ e,es[j-i]? =some e/\e.born=n)
 |_,_,i,j,.nil,h=>by simp [Eh] at h
 |_,_,i,j,.cons (a:=e) (b:=e') he ht,h=>by
  simp only [Eh] at h;cases hb:Nat.beq e.born n with
  |true=>
   rw [hb,Ct] at h;simp only [Oi] at h;subst h;have hb:=beq_true.1 hb;refine ⟨Nl _,?_,e,by simp,hb⟩;rw [List.findIdx?_cons];simp [he.born,hb]
  |false=>
   rw [hb,Cf] at h;have hb:=beq_false.1 hb;obtain ⟨h1,h2,e0,h3,h4⟩:=Ja ht h;refine ⟨by omega,?_,e0,?_,h4⟩
   ·rw [List.findIdx?_cons];have hne:((e'.born:Int)==(n:Int))=false:=by
     rw [he.born]
     simp;omega
    rw [Ff (by simp [hne]),h2]
    simp;omega
   ·rw [show j-i=(j-(i+1))+1 by omega];simpa using h3
end
section
variable {P:Program}
theorem B5.eraseIdx{m:Inj P}:∀ {es es':List MapEntry} (i:Nat),B5 (Gb m) es es'->B5 (Gb m) (es.eraseIdx i) (es'.eraseIdx i)
 |_,_,_,.nil=>by simp;exact .nil
 |_,_,0,.cons _ t=>by simpa using t
 |_,_,i+1,.cons r t=>by simpa using .cons r (B5.eraseIdx i t)
theorem Ra {m:Inj P} {A A':AW} {w:World} (r:Rel m A w) {t t2 ty:TypeId} {x x' k k':Value} (hx:AM m x x') (hk:AM m k k')
  (h:FJ P A t x k=some A'):∃ w',(Builtin.delete_ #[t,t2] ty #[x',k']).run P w=.ok (.tuple #[]) w'/\Ev m A w m A' w':=by
 unfold FJ at h;split at h
 rotate_left
 ·cases h
 rename_i kt et hmt;split at h
 ·cases hx;cases hq:KB P true kt k with
  |false=>rw [hq] at h;cases h
  |true=>
   rw [hq,Ct] at h;simp only [Oi] at h;subst h;obtain ⟨_,rfl,hck⟩:=Im (P:=P) hk hq w;refine ⟨w,?_,.refl r⟩;simp [Builtin.delete_,run_underlying (CS hmt),hck]
 ·rename_i i;split at h
  rotate_left
  ·cases h
  rename_i es clock hg;obtain ⟨c,es',rfl,hm,hc,he⟩:=r.map hg hx;cases hq:KB P es.isEmpty kt k with
  |false=>rw [hq] at h;cases h
  |true=>
   rw [hq,Ct] at h;obtain ⟨_,rfl,hck⟩:=Im (P:=P) hk hq w;obtain ⟨kd,hkd⟩:=KA hq;rw [<- isEmpty_eq he] at hck;split at h
   ·cases h
   ·rename_i j hf;simp only [Oi] at h;subst h;obtain ⟨q,h1,e1,e1',_,h3,h4,h5,h6⟩:=EA hk hkd w he hf;subst h5;refine ⟨{ w with heap:=w.heap.setIfInBounds c (.map ⟨es'.eraseIdx j⟩ clock) },?_,Ev.Ie r hg rfl rfl hm hc ⟨rfl,_,rfl,he.eraseIdx j⟩ rfl rfl⟩;have hsize:j<es'.length:=by
     have:=(Gs.1 h4).1
     simpa using this
    have herase:(⟨es'⟩:Array MapEntry).eraseIdxIfInBounds j=⟨es'.eraseIdx j⟩:=by
     apply Array.ext';simp [Array.eraseIdxIfInBounds,hsize]
    simp [Builtin.delete_,run_underlying (CS hmt),BI P w c _ hc,hck,h1,Cy P w c _ _ hc]
   ·rename_i hf;simp only [Oi] at h;subst h;obtain ⟨q,h1,h2⟩:=EA hk hkd w he hf;simp only [Found] at h2;subst h2;refine ⟨{ w with heap:=w.heap.setIfInBounds c (.map ⟨es'⟩ clock) },?_,Ev.Ie r hg rfl rfl hm hc ⟨rfl,_,rfl,he⟩ rfl rfl⟩;simp [Builtin.delete_,run_underlying (CS hmt),BI P w c _ hc,hck,h1,Cy P w c _ _ hc]
 ·cases h
theorem Wq{m:Inj P}{A:AW}{w:World}(r:Rel m A w){t ty:TypeId}{x x':Value}(hx:AM m x x'):HU P m w (Bi P A t x) (Builtin.len_ #[t] ty #[x']):=by
 intro v h;unfold Bi at h;split at h
 ·rename_i s hu;cases hx;simp only [Oi] at h;subst h;rw [<- Lib.size_eq];exact ⟨_,by simp [Builtin.len_,run_underlying hu,goInt],.int _ _⟩
 ·rename_i n e hu;simp only [Oi] at h;subst h;refine ⟨_,?_,.int _ _⟩;cases hx<;>simp [Builtin.len_,run_underlying hu,goInt]
 ·rename_i e a n c hu;simp only [Oi] at h;subst h;cases hx with
  |sliceNil=>exact ⟨_,by simp [Builtin.len_,run_underlying hu,goInt],.int _ _⟩
  |slice hc hn ha=>exact ⟨_,by simp [Builtin.len_,run_underlying hu,goInt],.int _ _⟩
 ·rename_i k e hu;cases hx;simp only [Oi] at h;subst h;exact ⟨_,by simp [Builtin.len_,run_underlying hu,goInt],.int _ _⟩
 ·rename_i k e i hu;split at h
  ·rename_i es clock ro hg;simp only [Oi] at h;subst h;obtain ⟨c,es',rfl,hm,hc,he⟩:=r.map hg hx;refine ⟨_,?_,.int _ _⟩;simp [Builtin.len_,run_underlying hu,goInt,BI P w c _ hc,he.length]
  ·cases h
 ·cases h
end
variable {m bytes need n c:Nat} {w:World} {t t2 ty e:TypeId} {x:Value} {new:List Value}
section
variable {P:Program}
structure Src (P:Program) (e:TypeId) (d2:TypeDesc) (i:TypeInfo) (x:Value) (m:Nat) (new:List Value) (w:World):Prop where
 Mq:∀ k,d2=.int k->∃ k',x=.int k' (m:Int)/\m<68719476736/\((m*i.size=0/\new=[])\/(m*i.size≠0/\∃ z:Value,(∀ w,(zeroValue e).run P w=.ok z w)/\Builtin.zeroCells z.cells m=⟨new⟩))
 cells:(∀ k,d2≠ .int k)->(Builtin.lenOf x).run P w=.ok m w/\(Builtin.firstCells i.size m x).run P w=.ok ⟨new⟩ w
theorem S8(h:need*bytes<68719476736)(hm:m<=need):¬ (281474976710656<(m:Int)*(bytes:Int)):=by
 have h1:m*bytes<=need*bytes:=Nat.mul_le_mul_right _ hm
 have:(m:Int)*(bytes:Int)=((m*bytes:Nat):Int):=by simp
 rw [this];omega
theorem Hg {w':World} {d2:TypeDesc} {i:TypeInfo} {a:Addr} (hu:P.underlying t=some (.slice e)) (h2:P.underlying t2=some d2)
  (hi:P.info? e=some i) (hsrc:Src P e d2 i x m new w) (h:n+m<=c) (hb:(n+m)*i.bytes<68719476736) (hst:(storeCells (a.add (n*i.size)) new).run P w=.ok () w'):
  (Builtin.append_ #[t,t2] ty #[.slice (some a) n c,x]).run P w=.ok (.slice (some a) (n+m) c) w':=by
 by_cases hk:∃ k,d2=.int k
 ·obtain ⟨k,rfl⟩:=hk;obtain ⟨k',rfl,hm,hz⟩:=hsrc.Mq k rfl;have hw:IntKind.i64.wrap (m:Int)=m:=IF (by omega);have h0:¬ ((m:Int)<0):=by omega
  have hbn:=S8 (m:=m) hb (by omega);rcases hz with ⟨h3,rfl⟩ | ⟨h3,z,hz,hzc⟩
  ·simp [Builtin.append_,run_underlying hu,run_underlying h2,sizeOf,BX hi,asInt,asIntOf,hw,h0,hbn,h,h3,hst]
  ·simp [Builtin.append_,run_underlying hu,run_underlying h2,sizeOf,BX hi,asInt,asIntOf,hw,h0,hbn,h,h3,hz,hzc,hst]
 ·have hk':∀ k,d2≠ .int k:=λk e=>hk ⟨k,e⟩;obtain ⟨hl,hc⟩:=hsrc.cells hk';cases d2<;>first
   |(exact absurd rfl (hk' _))
   |simp [Builtin.append_,run_underlying hu,run_underlying h2,sizeOf,BX hi,hl,hc,h,hst]
theorem PZ(newLen:Nat):∀ (r c:Nat),c<newLen->Builtin.growBy newLen r c<=newLen+(newLen+768)/4+768
 |0,c,h=>by simp only [Builtin.growBy];omega
 |r+1,c,h=>by
  simp only [Builtin.growBy];rw [Ff (by omega)];by_cases h':c+(c+768)/4<newLen
  ·exact PZ newLen r _ h'
  ·cases r with
   |zero=>simp only [Builtin.growBy];omega
   |succ r=>simp only [Builtin.growBy];rw [if_pos (by omega)];omega
theorem nextslicecap_le(h:c<need):Builtin.nextslicecap need c<=2*need+2000:=by
 unfold Builtin.nextslicecap;split
 ·omega
 ·split
  ·omega
  ·have:=PZ need 4 c h
   omega
theorem Ku(h:c<need)(hb:need*bytes<68719476736):¬ (281474976710656<Builtin.nextslicecap need c*bytes):=by
 have h1:=nextslicecap_le h;have h2:Builtin.nextslicecap need c*bytes<=(2*need+2000)*bytes:=Nat.mul_le_mul_right _ h1;have h3:(2*need+2000)*bytes=2*(need*bytes)+2000*bytes:=by rw [Nat.add_mul,Nat.mul_assoc]
 have h4:bytes<=need*bytes:=Nat.le_mul_of_pos_left _ (by omega)
 have:2000*bytes<=2000*(need*bytes):=Nat.mul_le_mul_left _ h4
 omega
theorem Hr(need old:Nat)(e:TypeId)(t:Nat):need<=(Question.appendCap need old e).cut t:=by
 simp [Question.cut]
theorem Ai7(old new:List Value)(X:Array Value):(⟨old⟩:Array Value)++((⟨new⟩:Array Value)++X)=(old++new).toArray++X:=by
 apply Array.ext'
 simp
theorem SB(w:World)(old new:List Value)(X:Array Value)(e:TypeId):w.drew.alloc (.cells ((⟨old⟩:Array Value)++((⟨new⟩:Array Value)++X)) e)=
  { heap:=w.heap.push (.cells ((old++new).toArray++X) e),tape:=w.tape,drawn:=w.drawn+1,os:=w.os,output:=w.output }:=by
 rw [Ai7];rfl
theorem run_append_grow {d2:TypeDesc} {i:TypeInfo} {base:Option Addr} {z:Value} {old:List Value} (hu:P.underlying t=some (.slice e)) (h2:P.underlying t2=some d2)
  (hi:P.info? e=some i) (hsrc:∀ w1:World,w1.heap=w.heap->Src P e d2 i x m new w1) (h:c<n+m) (hb:(n+m)*i.bytes<68719476736) (hnm:n+m<68719476736) (hz:Dt P e=some z)
  (hold:∀ w1:World,w1.heap=w.heap->(Builtin.firstCells i.size n (.slice base n c)).run P w1=.ok ⟨old⟩ w1):
  ∃ (newCap:Nat) (rest:Array Value),n+m<=newCap/\rest.size=(newCap-(n+m))*z.cells.size/\
   (Builtin.append_ #[t,t2] ty #[.slice base n c,x]).run P w=.ok (.slice (some ⟨w.heap.size,0,none⟩) (n+m) newCap) { w with drawn:=w.drawn+1,heap:=w.heap.push (.cells (⟨old⟩++⟨new⟩++rest) e) }:=by
 have hle:¬ (n+m<=c):=by omega
 have hcap:=Ku h hb;have hmax':¬ (9223372036854775807<(n:Int)+(m:Int)):=by omega
 refine ⟨(Question.appendCap (n+m) c e).cut (w.tape w.drawn (.appendCap (n+m) c e)),Builtin.zeroCells z.cells ((Question.appendCap (n+m) c e).cut (w.tape w.drawn (.appendCap (n+m) c e))-(n+m)),Hr _ _ _ _,by rw [Builtin.zeroCells,GH];simp [FF],?_⟩;have hf:(Question.appendCap (n+m) c e).forced=false:=rfl;have ho:=hold w.drew rfl;have hs1:=hsrc w.drew rfl;by_cases hk:∃ k,d2=.int k
 ·obtain ⟨k,rfl⟩:=hk;obtain ⟨k',rfl,hm,hz'⟩:=hs1.Mq k rfl;have hw:IntKind.i64.wrap (m:Int)=m:=IF (by omega);have h0:¬ ((m:Int)<0):=by omega
  have hbn:=S8 (m:=m) hb (by omega);rcases hz' with ⟨h3,rfl⟩ | ⟨h3,z',hz',hzc⟩
  ·simp [Builtin.append_,run_underlying hu,run_underlying h2,sizeOf,BX hi,asInt,asIntOf,hw,h0,hbn,hle,h3,hcap,hmax',hf,ho,B6 hz,Ce];rfl
  ·simp [Builtin.append_,run_underlying hu,run_underlying h2,sizeOf,BX hi,asInt,asIntOf,hw,h0,hbn,hle,h3,hz',hzc,hcap,hmax',hf,ho,Ce];have hzz:=hz' w;rw [B6 hz] at hzz;injection hzz with hzz
   subst hzz;exact SB _ _ _ _ _
 ·have hk':∀ k,d2≠ .int k:=λk e=>hk ⟨k,e⟩;obtain ⟨hl,hc⟩:=hs1.cells hk';obtain ⟨hl0,_⟩:=(hsrc w rfl).cells hk';cases d2<;>first
   |(exact absurd rfl (hk' _))
   |(simp [Builtin.append_,run_underlying hu,run_underlying h2,sizeOf,BX hi,hl0,hc,hle,hcap,hmax',hf,ho,B6 hz,Ce];exact SB _ _ _ _ _)
end
section
variable {P:Program}
theorem ER(c:Nat)(e:TypeId)(fr:Nat × Nat)(a:Addr)(hac:a.block=c)(has:a.spot=none):∀ (l:List Value) (i:Nat) (cs:Array Value) (w:World),w.heap[c]? =some (.cells cs e fr)->a.off+i+l.length<=cs.size->
  (∀ k,k<l.length->¬ (fr.1<=a.off+i+k/\a.off+i+k<fr.2))->(∀ v∈l,AK v=true)->
  ∃ w' cs2,(storeCells a l i).run P w=.ok () w'/\w'.heap[c]? =some (.cells cs2 e fr)/\cs2.size=cs.size/\(∀ j,(j<a.off+i\/a.off+i+l.length<=j)->cs2[j]? =cs[j]?)/\
   (∀ j,j<l.length->cs2[a.off+i+j]? =l[j]?)/\(∀ b,b≠c->w'.heap[b]? =w.heap[b]?)/\w'.heap.size=w.heap.size/\w'.os=w.os/\w'.tape=w.tape/\w'.output=w.output/\w'.drawn=w.drawn
 |[],i,cs,w,hw,_,_,_=>⟨w,cs,rfl,hw,rfl,λ_ _=>rfl,λj hj=>by simp at hj,λ_ _=>rfl,rfl,rfl,rfl,rfl,rfl⟩
 |v::l,i,cs,w,hw,hlen,hfr,h1=>by
  have hsp:(a.add i).spot=none:=Addr.LN a i has;have hbl:(a.add i).block=c:=by rw [Addr.HT,hac]
  have hof:(a.add i).off=a.off+i:=Addr.Iu a i;simp only [Lc] at hlen hfr;have hlt:a.off+i<cs.size:=by omega
  have hcell:(w.cell? (a.add i)).isSome=true:=by simp [World.cell?,hbl,hw,hsp,hof,hlt]
  have hfz:w.frozen? (a.add i)=false:=by
   simp only [World.frozen?,hbl,hw,hof]
   have:=hfr 0 (by omega)
   cases hx:(decide (fr.1<=a.off+i)&&decide (a.off+i<fr.2)) with
   |false=>rfl
   |true=>simp at hx;exact (this (by simpa using hx)).elim
  have hst:=K0 P w (a.add i) v (h1 v (by simp)) hcell hfz;have hself:(w.setCell (a.add i) v).heap[c]? =some (.cells (cs.setIfInBounds (a.off+i) v) e fr):=by
   have:=GR w (a.add i) v cs e fr (by rw [hbl];exact hw) hsp
   rw [hbl,hof] at this;exact this
  obtain ⟨w',cs2,g1,g2,g3,g4,g5,g6,g7,g8,g9,g10,g11⟩:=ER c e fr a hac has l (i+1) (cs.setIfInBounds (a.off+i) v) (w.setCell (a.add i) v) hself (by simp;omega)
   (λk hk=>by have:=hfr (k+1) (by omega);rw [show a.off+(i+1)+k=a.off+i+(k+1) by omega];exact this) (λu hu=>h1 u (by simp [hu]))
  refine ⟨w',cs2,?_,g2,by simpa using g3,?_,?_,?_,by rw [g7];simp [World.setCell],g8,g9,g10,g11⟩
  ·simp only [storeCells,Sem.run_bind,hst,Result.andThen_ok];exact g1
  ·intro j hj;simp only [Lc] at hj;rw [g4 j (by omega),Array.getElem?_setIfInBounds_ne (by omega)]
  ·intro j hj;simp only [Lc] at hj;cases j with
   |zero=>
    rw [g4 _ (by omega)];simp [hlt]
   |succ j=>
    have:=g5 j (by omega)
    rw [show a.off+i+(j+1)=a.off+(i+1)+j by omega,this]
    simp
  ·intro b hb;rw [g6 b hb,heap_setCell_other _ _ _ _ (by rw [hbl];exact hb)]
theorem Ub{A A':AW}{cs:List Value}{e fam base:Nat}{a:Addr}(h:A.I0 cs e fam base=some (a,A'))(hf:fam<Aj):
  a=⟨A.next,0,none⟩/\A.next<Aj/\A'.next=A.next+1/\(∀ j,A'.get j=if j=A.next then some (.row cs e fam base false) else A.get j)/\
   (∀ f,A'.fams.get? f=if f=fam then some (A.next::A.members fam) else A.fams.get? f):=by
 unfold AW.I0 AW.new at h;cases hlt:Nat.blt A.next Aj with
 |false=>simp [hlt] at h
 |true=>
  simp only [hlt,Ct,Oi,Pj] at h;obtain ⟨rfl,rfl⟩:=h;have hmax:=AA.1 hlt;refine ⟨rfl,hmax,rfl,λj=>A.CA A.next j _ hmax,λf=>?_⟩;exact Trie.get?_put depth _ fam f _ (by unfold depth;unfold Aj at hf;omega)
theorem Ev.I0 {m:Inj P} {A A1 A':AW} {w w':World} (r:Rel m A w) {cells:List Value} {e fam b0 coord:Nat} {a:Addr} {ib:Nat} {csb:List Value}
  (hb:A.get ib=some (.row csb e fam b0 false)) {c d:Nat} (hm:m ib=some (c,d))
  (hA1:A1=BO coord (A.members fam) A) {off:Nat} (h:A1.I0 cells e fam (b0+off)=some (a,A'))
  {cn dn R st:Nat} (hR:R≠0->szT P e=some st)
  (hos:w'.os=w.os) (htape:w'.tape=w.tape) (hout:w'.output=w.output) (hdr:w.drawn<=w'.drawn) (hsz:w.heap.size<=w'.heap.size)
  (hkeep:∀ b,b<w.heap.size->b≠c->w'.heap[b]? =w.heap[b]?)
  (hnew:∃ cs' fr,w'.heap[cn]? =some (.cells cs' e fr)/\GS m dn cells false cs' fr/\dn+R<=cs'.size/\(∀ k,k<R->¬ (fr.1<=dn+k/\dn+k<fr.2)))
  (hcase:(cn=c/\dn=d+off/\∃ cs1 cs2 e1 fr,w.heap[c]? =some (.cells cs1 e1 fr)/\w'.heap[c]? =some (.cells cs2 e1 fr)/\cs2.size=cs1.size/\∀ j,j+b0<coord+d->cs2[j]? =cs1[j]?)\/
   (cn=w.heap.size/\∀ b,b<w.heap.size->w'.heap[b]? =w.heap[b]?)):
  Ev m A w (m.ext A.next (cn,dn) R e st hR) A' w'/\a=⟨A.next,0,none⟩:=by
 obtain ⟨_,hfam⟩:=r.mem ib _ fam b0 hb rfl;have hfmax:fam<Aj:=Nat.lt_of_lt_of_le hfam r.lim;obtain ⟨hp1,hp2,hp3⟩:=Oa coord (A.members fam) A (λi o hi=>r.Vf hi);rw [<- hA1] at hp1 hp2 hp3;obtain ⟨rfl,hn1,hn2,hn3,hn4⟩:=Ub h hfmax;rw [hp1] at hn1 hn2 hn3 hn4;have hmn:=(r.fresh A.next (Nl _)).2.1;have hle:m.le (m.ext A.next (cn,dn) R e st hR):=Inj.QQ hmn;have hmem1:A1.members fam=A.members fam:=JY hp2 fam;have hlt:∀ {i:Nat} {o:AO},A.get i=some o->i≠A.next:=λ{i o} hi e=>by have:=r.lt hi;omega
 have hwas:∀ i o,i≠A.next->A'.get i=some o->∃ o0,A.get i=some o0/\o.ro=o0.ro/\o.fam=o0.fam/\(o=o0\/(i∈A.members fam/\o=PI coord o0))/\(∀ csx ex fx bx rox,o=.row csx ex fx bx rox->∃ csy,o0=.row csy ex fx bx rox):=by
  intro i o hne hi;rw [hn3,Ff hne,hp3] at hi;split at hi
  ·rename_i hmemi;cases h0:A.get i with
   |none=>rw [h0] at hi;cases hi
   |some o0=>
    rw [h0] at hi;simp only [Option.map_some,Oi] at hi;subst hi;refine ⟨o0,rfl,by cases o0<;>rfl,by cases o0<;>rfl,.inr ⟨hmemi,rfl⟩,?_⟩;intro csx ex fx bx rox he;cases o0<;>simp [PI] at he;obtain ⟨_,rfl,rfl,rfl,rfl⟩:=he;exact ⟨_,rfl⟩
  ·exact ⟨o,hi,rfl,rfl,.inl rfl,λcsx ex fx bx rox he=>⟨csx,he⟩⟩
 have hblk:=λ{i c0 d0:Nat} {o:AO} (hi:A.get i=some o) (hmi:m i=some (c0,d0))=>r.DD hi hmi;have hpoisRow:∀ {dd:Nat} {csx:List Value} {bx:Nat} {rox:Bool} {cs1:Array Value} {fr:Nat × Nat},GS m dd csx rox cs1 fr->GS m dd (BS csx (coord-bx)) rox cs1 fr:=by
  intro dd csx bx rox cs1 fr hr k x hk;obtain ⟨u,hu,hx⟩:=Ix hk;obtain ⟨v',g1,g2,g3⟩:=hr k u hu;refine ⟨v',g1,λt=>?_,g3⟩;rcases hx with ⟨_,rfl⟩ | ⟨_,rfl⟩
  ·exact g2 t
  ·simp [FZ,isTuple] at t
 refine ⟨⟨hle,⟨?_,?_,?_,?_,?_,?_,?_⟩,hsz,hos,htape,hout,λ_=>hdr,?_,?_,by rw [hn2];omega,λi hi=>Inj.Bf (by omega)⟩,by rw [hp1]⟩
 ·
  intro i o c0 d0 hi g1;by_cases hne:i=A.next
  ·subst hne;rw [hn3,if_pos rfl] at hi;cases hi;obtain ⟨cs',fr,g1',g2,_⟩:=hnew;rw [Inj.Bu] at g1;cases g1;exact ⟨_,g1',cs',fr,rfl,g2.mono hle⟩
  ·rw [Inj.Bf hne] at g1;obtain ⟨o0,h0,hro,hff,hcs,_⟩:=hwas i o hne hi;obtain ⟨o',g2,g3⟩:=r.obj i o0 c0 d0 h0 g1;have hlt0:=hblk h0 g1;by_cases hc0:c0=c
   ·subst hc0;rcases hcase with ⟨_,_,cs1,cs2,e1,fr,k1,k2,k3,k4⟩ | ⟨_,k1⟩
    ·
     rw [k1] at g2;cases g2;refine ⟨_,k2,?_⟩;have hal:i=ib\/∃ f bi bj,o0.fam=some (f,bi)/\(AO.row csb e fam b0 false).fam=some (f,bj)/\d0+bj=d+bi:=by
      by_cases hii:i=ib
      ·exact .inl hii
      ·rcases r.sep i ib o0 _ c0 d0 d hii h0 hb g1 hm with ⟨_,h2⟩ | h2
       ·simp [AO.ro] at h2
       ·exact .inr h2
     have hrow:∃ csx ex bx rox,o0=.row csx ex fam bx rox/\d0+b0=d+bx:=by
      rcases hal with rfl | ⟨f,bi,bj,q1,q2,q3⟩
      ·rw [hb] at h0;cases h0;rw [hm] at g1;cases g1;exact ⟨csb,e,b0,false,rfl,rfl⟩
      ·simp only [AO.fam,Oi,Pj] at q2;obtain ⟨rfl,rfl⟩:=q2;cases o0 with
       |row csx ex fx bx rox=>
        simp only [AO.fam,Oi,Pj] at q1;obtain ⟨rfl,rfl⟩:=q1;exact ⟨csx,ex,bx,rox,rfl,q3⟩
       |_=>simp [AO.fam] at q1
     obtain ⟨csx,ex,bx,rox,rfl,hbx⟩:=hrow;have himem:=(r.mem i _ fam bx h0 rfl).1;obtain ⟨cs1',fr',he1,hrr⟩:=g3;cases he1;have ho:o=PI coord (.row csx e1 fam bx rox):=by
      rw [hn3,Ff hne,hp3,if_pos himem,h0] at hi
      simpa using hi.symm
     subst ho;refine ⟨cs2,fr,rfl,λk x hk=>?_⟩;obtain ⟨u,hu,hx⟩:=Ix hk;obtain ⟨v',q1,q2,q3⟩:=hrr k u hu;rcases hx with ⟨hkl,rfl⟩ | ⟨_,rfl⟩
     ·exact ⟨v',by rw [k4 _ (by omega)];exact q1,λt=>(q2 t).mono hle,q3⟩
     ·have hks:d0+k<cs2.size:=by rw [k3];exact (Array.getElem?_eq_some_iff.1 q1).1
      exact ⟨cs2[d0+k],Array.getElem?_eq_getElem hks,(λt=>by simp [FZ,isTuple] at t),q3⟩
    ·refine ⟨o',by rw [k1 _ hlt0];exact g2,?_⟩;rcases hcs with rfl | ⟨_,rfl⟩
     ·exact g3.mono hle
     ·cases o0 with
      |row csx ex fx bx rox=>
       obtain ⟨cs1',fr',he1,hrr⟩:=g3;exact ⟨cs1',fr',he1,(hpoisRow hrr).mono hle⟩
      |_=>exact g3.mono hle
   ·refine ⟨o',by rw [hkeep _ hlt0 hc0];exact g2,?_⟩;rcases hcs with rfl | ⟨_,rfl⟩
    ·exact g3.mono hle
    ·cases o0 with
     |row csx ex fx bx rox=>
      obtain ⟨cs1',fr',he1,hrr⟩:=g3;exact ⟨cs1',fr',he1,(hpoisRow hrr).mono hle⟩
     |_=>exact g3.mono hle
 ·
  intro i csx ex bx rox hi c0 d0 hmi;by_cases hne:i=A.next
  ·subst hne;rw [hn3,if_pos rfl] at hi;simp only [Oi,AO.row.injEq] at hi;obtain ⟨_,_,h3,_⟩:=hi;omega
  ·rw [Inj.Bf hne] at hmi;obtain ⟨o0,h0,_,_,_,hx⟩:=hwas i _ hne hi;obtain ⟨csy,rfl⟩:=hx _ _ _ _ _ rfl;exact r.home i csy ex bx rox h0 c0 d0 hmi
 ·
  have hone:∀ j oj c0 dj,j≠A.next->A'.get j=some oj->m j=some (c0,dj)->c0=cn->∃ f bj,oj.fam=some (f,bj)/\f=fam/\dn+bj=dj+(b0+off):=by
   intro j oj c0 dj hne hj hmj hcc;obtain ⟨o0,h0,_,hff,_,_⟩:=hwas j oj hne hj;rw [hff];have hl:=hblk h0 hmj;rcases hcase with ⟨rfl,rfl,_⟩ | ⟨rfl,_⟩
   ·subst hcc;by_cases hji:j=ib
    ·subst hji;rw [hb] at h0;cases h0;rw [hm] at hmj;cases hmj;exact ⟨fam,b0,rfl,rfl,by omega⟩
    ·rcases r.sep j ib o0 _ c0 dj d hji h0 hb hmj hm with ⟨_,h2⟩ | ⟨f,bi,bj,q1,q2,q3⟩
     ·simp [AO.ro] at h2
     ·simp only [AO.fam,Oi,Pj] at q2;obtain ⟨rfl,rfl⟩:=q2;exact ⟨_,bi,q1,rfl,by omega⟩
   ·omega
  intro i j oi oj c0 di dj hij hi hj hmi hmj;by_cases hni:i=A.next
  ·subst hni;rw [hn3,if_pos rfl] at hi;cases hi;rw [Inj.Bu] at hmi;cases hmi;rw [Inj.Bf (Ne.symm hij)] at hmj;obtain ⟨f,bj,q1,rfl,q3⟩:=hone j oj _ dj (Ne.symm hij) hj hmj rfl;exact .inr ⟨_,_,bj,rfl,q1,q3⟩
  ·by_cases hnj:j=A.next
   ·subst hnj;rw [hn3,if_pos rfl] at hj;cases hj;rw [Inj.Bu] at hmj;cases hmj;rw [Inj.Bf hni] at hmi;obtain ⟨f,bi,q1,rfl,q3⟩:=hone i oi _ di hni hi hmi rfl;exact .inr ⟨_,bi,_,q1,rfl,by omega⟩
   ·rw [Inj.Bf hni] at hmi;rw [Inj.Bf hnj] at hmj;obtain ⟨oi0,hi0,hir,hif,_⟩:=hwas i oi hni hi;obtain ⟨oj0,hj0,hjr,hjf,_⟩:=hwas j oj hnj hj;rw [hir,hjr,hif,hjf];exact r.sep i j oi0 oj0 c0 di dj hij hi0 hj0 hmi hmj
 ·
  intro i o f b hi hfo;have hmems:∀ f,A'.members f=if f=fam then A.next::A.members fam else A.members f:=by
   intro f;unfold AW.members;rw [hn4];by_cases hff:f=fam
   ·simp only [hff,if_true];rw [hmem1];rfl
   ·simp only [hff,if_false,hp2]
  rw [hmems];by_cases hne:i=A.next
  ·subst hne;rw [hn3,if_pos rfl] at hi;cases hi;simp only [AO.fam,Oi,Pj] at hfo;obtain ⟨rfl,_⟩:=hfo;exact ⟨by simp,by omega⟩
  ·obtain ⟨o0,h0,_,hff,_,_⟩:=hwas i o hne hi;rw [hff] at hfo;obtain ⟨h1,h2⟩:=r.mem i o0 f b h0 hfo;refine ⟨?_,by omega⟩;split
   ·subst f;exact List.mem_cons_of_mem _ h1
   ·exact h1
 ·
  intro i hi;rw [hn2] at hi;obtain ⟨h1,h2,h3⟩:=r.fresh i (by omega);refine ⟨?_,by rw [Inj.Bf (by omega)];exact h2,by rw [hn4,Ff (by omega),hp2];exact h3⟩;rw [hn3,Ff (by omega),hp3,h1];split<;>rfl
 ·rw [hn2];have:=hn1;omega
 ·
  intro i csx ex fx bx rox c0 d0 hi hmi;by_cases hne:i=A.next
  ·subst hne;rw [hn3,if_pos rfl] at hi;simp only [Oi,AO.row.injEq] at hi;obtain ⟨rfl,rfl,rfl,rfl,rfl⟩:=hi;rw [Inj.Bu] at hmi;cases hmi;rw [Inj.Da,Inj.QZ];obtain ⟨cs',fr,g1,_,g3,g4⟩:=hnew;exact ⟨λ_=>rfl,cs',e,fr,g1,g3,λ_=>g4⟩
  ·rw [Inj.Bf hne] at hmi;rw [Inj.E5 hne,Inj.Gt hne];obtain ⟨o0,h0,hro,_,_,hx⟩:=hwas i _ hne hi;obtain ⟨csy,rfl⟩:=hx _ _ _ _ _ rfl;obtain ⟨g1,cs1,e1,fr1,g2,g3,g4⟩:=r.room i csy ex fx bx rox c0 d0 h0 hmi;refine ⟨g1,?_⟩;have hlt0:=hblk h0 hmi;by_cases hc0:c0=c
   ·subst hc0;rcases hcase with ⟨_,_,cs1',cs2,e1',fr,k1,k2,k3,_⟩ | ⟨_,k1⟩
    ·rw [k1] at g2;cases g2;exact ⟨cs2,_,_,k2,by omega,g4⟩
    ·exact ⟨cs1,e1,fr1,by rw [k1 _ hlt0];exact g2,g3,g4⟩
   ·exact ⟨cs1,e1,fr1,by rw [hkeep _ hlt0 hc0];exact g2,g3,g4⟩
 ·
  intro b hbl hno;by_cases hbc:b=c
  ·subst hbc;exact absurd ⟨ib,_,d,hb,rfl,hm⟩ hno
  ·exact hkeep b hbl hbc
 ·
  rintro b hbl ⟨i,o,d0,hi,hro,hmi⟩;by_cases hne:i=A.next
  ·subst hne;rw [Inj.Bu] at hmi;simp only [Oi,Pj] at hmi;obtain ⟨rfl,rfl⟩:=hmi;rcases hcase with ⟨rfl,_⟩ | ⟨rfl,_⟩
   ·exact ⟨ib,_,d,hb,rfl,hm⟩
   ·omega
  ·rw [Inj.Bf hne] at hmi;obtain ⟨o0,h0,hr0,_⟩:=hwas i o hne hi;exact ⟨i,o0,d0,h0,by rw [<- hr0];exact hro,hmi⟩
end
variable {w w1:World} {a:Addr} {l new old:List Value} {n k size:Nat} {A:AW} {e t2 t ty:TypeId} {x x':Value}
section
variable {P:Program}
theorem UI(h:w1.heap=w.heap)(a:Addr):w1.cell? a=w.cell? a:=by simp [World.cell?,h]
theorem DU(h:w1.heap=w.heap)(hl:∀ (i:Nat) (v:Value),l[i]? =some v->w.cell? (a.add i)=some v)(hn:l.length=n):
  (loadCells a n).run P w1=.ok ⟨l⟩ w1:=by
 subst hn;exact run_loadCells_list (P:=P) w1 a l (λj v hj=>by rw [UI h];exact hl j v hj)
theorem strCells(s:ByteArray):((s.extract 0 s.size).data.map λb=>Value.int .u8 b.toNat)=⟨s.data.toList.map λb=>Value.int .u8 b.toNat⟩:=by
 apply Array.ext';rw [Array.toList_map];have h:=Lib.extract_data s 0 s.size;rw [h,Lib.size_eq];simp only [Nat.sub_zero,List.drop_zero,List.take_length]
theorem Qs {m:Inj P} (r:Rel m A w) {d2:TypeDesc} {i:TypeInfo} (h2:P.underlying t2=some d2)
  (hx:AM m x x') (h:BM P A e t2 i.size x=some (k,new)):∃ new',AJ m new new'/\∀ w1:World,w1.heap=w.heap->Src P e d2 i x' k new' w1:=by
 unfold BM at h;rw [h2] at h;split at h
 ·rename_i hd;cases hd
 ·
  rename_i k1 k2 n hd;simp only [Oi] at hd;subst hd;cases hx;cases hb:Nat.blt n room with
  |false=>rw [hb] at h;cases h
  |true=>
   rw [hb,Ct] at h;have hb:=AA.1 hb;unfold room at hb;split at h
   ·rename_i l hl;simp only [Oi,Pj] at h;obtain ⟨rfl,rfl⟩:=h;unfold Hf at hl;by_cases h0:n*i.size=0
    ·rw [beq_true.2 h0,Ct] at hl;simp only [Oi] at hl;subst hl;exact ⟨[],.nil,λw1 _=>⟨λk _=>⟨_,rfl,by omega,.inl ⟨h0,rfl⟩⟩,λhne=>absurd rfl (hne _)⟩⟩
    ·rw [beq_false.2 h0,Cf] at hl;split at hl
     ·rename_i z hz;cases hbz:Nat.beq z.cells.toList.length i.size with
      |false=>rw [hbz] at hl;cases hl
      |true=>
       rw [hbz,Ct] at hl;simp only [Oi] at hl;subst hl;refine ⟨EO z.cells.toList n,AJ.Mq (AJ.closed (Es hz).2) n,λw1 _=>⟨λk _=>⟨_,rfl,by omega,.inr ⟨h0,z,λw=>B6 hz w,?_⟩⟩,λhne=>absurd rfl (hne _)⟩⟩;rw [Builtin.zeroCells,GH]
     ·cases hl
   ·cases h
 ·cases h
 ·
  rename_i d hne hd _;simp only [Oi] at hd;subst hd;have hne':∀ k,d2≠ .int k:=λk hk=>by subst hk;exact hne _ rfl
  unfold Df at h;split at h
  ·rename_i a n c _;cases hx with
   |slice hc hn ha=>
    rename_i a' c';split at h
    ·rename_i l hl;simp only [Oi,Pj] at h;obtain ⟨rfl,rfl⟩:=h;obtain ⟨h1,l',h3,h4⟩:=r.cells hl (λhp=>ha (by
      rcases Nat.eq_zero_or_pos n with h0 | h0
      ·subst h0;simp at hp
      ·omega))
     refine ⟨l',h3,λw1 hw1=>⟨λk hk=>absurd hk (hne' k),λ_=>⟨rfl,?_⟩⟩⟩;exact DU hw1 h4 (by rw [h3.length,h1])
    ·cases h
  ·cases hx;change some (0,([]:List Value))=some (k,new) at h;simp only [Oi,Pj] at h;obtain ⟨rfl,rfl⟩:=h;exact ⟨[],.nil,λw1 hw1=>⟨λk hk=>absurd hk (hne' k),λ_=>⟨rfl,rfl⟩⟩⟩
  ·cases hx;rename_i s _;cases hq:Nat.beq i.size 1 with
   |false=>rw [hq] at h;cases h
   |true=>
    rw [hq] at h;simp only [Ct,Oi,Pj] at h;obtain ⟨rfl,rfl⟩:=h;refine ⟨_,AJ.map _ _ (λb=>.int _ _) _,λw1 hw1=>⟨λk hk=>absurd hk (hne' k),λ_=>⟨?_,?_⟩⟩⟩
    ·show Result.ok s.size w1=_;rw [Lib.size_eq]
    ·have:s.data.toList.length=s.size:=(Lib.size_eq s).symm
     rw [this];simp only [Builtin.firstCells,strCells];rfl
  ·cases h
theorem AJ.Yr{m:Inj P}{l':List Value}(h:AJ m l l')(h1:l.all AK=true):∀ v∈l',AK v=true:=by
 intro v hv;obtain ⟨i,hi⟩:=List.getElem?_of_mem hv;have hlt:i<l.length:=by rw [<- h.length];exact (Gs.1 hi).1
 obtain ⟨v',h2,h3⟩:=h.get (Ge hlt);rw [hi] at h2;simp only [Oi] at h2;subst h2;rw [h3.AK];exact List.all_eq_true.1 h1 _ (List.getElem_mem hlt)
theorem FK(h:A.CE a n=some l):l.length=n/\(0<n->a.spot=none/\∃ cs e f b ro,A.get a.block=some (.row cs e f b ro)/\l=(cs.drop a.off).take n/\n<=(cs.drop a.off).length):=by
 unfold AW.CE at h;split at h
 ·cases h;exact ⟨rfl,λh=>by omega⟩
 ·split at h
  ·cases h
  ·rename_i hs;split at h
   ·rename_i cs e f b ro hg;obtain ⟨h1,h2⟩:=H0 h;refine ⟨by rw [h1,List.length_take];omega,λ_=>⟨hs,cs,e,f,b,ro,hg,h1,h2⟩⟩
   ·cases h
theorem PO{m:Inj P}(r:Rel m A w){a':Addr}(h:A.CE a n=some l)(ha:0<n->Hu m a a'):
  ∃ l':List Value,l'.length=n/\(∀ (i:Nat) (v:Value),l[i]? =some v->∃ v',l'[i]? =some v'/\(isTuple v=false->AM m v v'))/\∀ (i:Nat) (v:Value),l'[i]? =some v->w.cell? (a'.add i)=some v:=by
 obtain ⟨h1,h2⟩:=FK h;rcases Nat.eq_zero_or_pos n with h0 | h0
 ·subst h0
  have:l=[]:=List.eq_nil_of_length_eq_zero h1
  subst this;exact ⟨[],rfl,λi v hv=>by simp at hv,λi v hv=>by simp at hv⟩
 ·obtain ⟨hs,cs,e,f,b,ro,hg,rfl,hle⟩:=h2 h0;obtain ⟨_,hs',d,hm,ho⟩:=ha h0;obtain ⟨c0,d0,o',g1,g2,cs',fr,rfl,hr⟩:=r.GK hg hm;rw [hm] at g1;cases g1;have key:∀ i,i<n->∃ u u',cs[a.off+i]? =some u/\cs'[d+(a.off+i)]? =some u'/\(isTuple u=false->AM m u u'):=by
   intro i hi;have hlt:a.off+i<cs.length:=by rw [List.length_drop] at hle;omega
   obtain ⟨u',q1,q2,_⟩:=hr (a.off+i) _ (Ge hlt);exact ⟨_,u',Ge hlt,q1,q2⟩
  refine ⟨(List.range n).map λi=>(cs'[d+(a.off+i)]?).getD undef,by simp,λi v hv=>?_,λi v hv=>?_⟩
  ·have hi:i<n:=by rw [<- h1];exact (Gs.1 hv).1
   obtain ⟨u,u',q1,q2,q3⟩:=key i hi;rw [List.getElem?_take,if_pos hi,List.getElem?_drop,q1] at hv;simp only [Oi] at hv;subst hv;exact ⟨u',by simp [hi,q2],q3⟩
  ·have hi:i<n:=by
    have:=(Gs.1 hv).1
    simpa using this
   obtain ⟨u,u',q1,q2,q3⟩:=key i hi;simp [hi,q2] at hv;subst hv;simp only [World.cell?,Addr.HT,g2,Addr.LN _ _ hs',Option.isSome_none,Addr.Iu,ho];rw [show d+a.off+i=d+(a.off+i) by omega]
   simpa using q2
theorem Vn{m:Inj P}{old' new':List Value}(h1:old'.length=old.length)(h2:∀ (i:Nat) (v:Value),old[i]? =some v->∃ v',old'[i]? =some v'/\(isTuple v=false->AM m v v'))(h3:AJ m new new')(rest:Array Value):
  GS m 0 (old++new) false ((old'++new').toArray++rest) (0,0):=by
 intro i v hv;have hlen:i<(old'++new').length:=by
  have:=(Gs.1 hv).1
  simp only [Lq] at this ⊢;rw [h1,h3.length];exact this
 rw [List.getElem?_append] at hv;have hget:((old'++new').toArray++rest)[0+i]? =(old'++new')[i]? :=by
  rw [Nat.zero_add,Array.getElem?_append_left (by simpa using hlen)]
  simp
 rw [hget,List.getElem?_append];split at hv
 ·rename_i hi;rw [if_pos (by omega)];obtain ⟨v',g1,g2⟩:=h2 i v hv;exact ⟨v',g1,g2,λ_=>by omega⟩
 ·rename_i hi;rw [Ff (by omega),h1];obtain ⟨v',g1,g2⟩:=h3.get hv;exact ⟨v',g1,λ_=>g2,λ_=>by omega⟩
theorem U4 {i:TypeInfo} {base:Option Addr} {c:Nat} (hlen:old.length=n*i.size) (hb:base=none->n=0)
  (h:∀ a,base=some a->∀ (j:Nat) (v:Value),old[j]? =some v->w.cell? (a.add j)=some v):∀ w1:World,w1.heap=w.heap->(Builtin.firstCells i.size n (.slice base n c)).run P w1=.ok ⟨old⟩ w1:=by
 intro w1 hw1;cases base with
 |none=>
  have:=hb rfl
  subst this
  have:old=[]:=List.eq_nil_of_length_eq_zero (by simpa using hlen)
  subst this;rfl
 |some a=>exact DU hw1 (h a rfl) hlen
theorem OW(h:BM P A e t2 size x=some (k,new)):new.length=k*size:=by
 unfold BM at h;split at h
 ·cases h
 ·rename_i k1 k2 n hd;cases hb:Nat.blt n room with
  |false=>rw [hb] at h;cases h
  |true=>
   rw [hb,Ct] at h;split at h
   ·rename_i l hl;simp only [Oi,Pj] at h;obtain ⟨rfl,rfl⟩:=h;unfold Hf at hl;by_cases h0:n*size=0
    ·rw [beq_true.2 h0,Ct] at hl;simp only [Oi] at hl;subst hl;rw [h0];rfl
    ·rw [beq_false.2 h0,Cf] at hl;split at hl
     ·rename_i z hz;cases hbz:Nat.beq z.cells.toList.length size with
      |false=>rw [hbz] at hl;cases hl
      |true=>
       rw [hbz,Ct] at hl;simp only [Oi] at hl;subst hl;rw [FF,beq_true.1 hbz]
     ·cases hl
   ·cases h
 ·cases h
 ·unfold Df at h;split at h
  ·split at h
   ·rename_i l hl;simp only [Oi,Pj] at h;obtain ⟨rfl,rfl⟩:=h;unfold AW.cells? at hl;split at hl
    ·rename_i h0;cases hl;rw [h0];rfl
    ·rename_i h0;split at hl
     ·cases hl
     ·split at hl
      ·rw [(GB hl).1,h0]
      ·cases hl
   ·cases h
  ·rename_i n c _;cases hb:Nat.beq n 0 with
   |false=>rw [hb] at h;cases h
   |true=>
    rw [hb] at h;simp only [Ct,Oi,Pj] at h;obtain ⟨rfl,rfl⟩:=h
    simp
  ·cases hq:Nat.beq size 1 with
   |false=>rw [hq] at h;cases h
   |true=>
    rw [hq] at h;simp only [Ct,Oi,Pj] at h;obtain ⟨rfl,rfl⟩:=h;rw [beq_true.1 hq];simp
  ·cases h
theorem run_append_nil {d2:TypeDesc} {i:TypeInfo} (hu:P.underlying t=some (.slice e)) (h2:P.underlying t2=some d2)
  (hi:P.info? e=some i) (hsrc:Src P e d2 i x 0 [] w):(Builtin.append_ #[t,t2] ty #[.slice none 0 0,x]).run P w=.ok (.slice none 0 0) w:=by
 by_cases hk:∃ k,d2=.int k
 ·obtain ⟨k,rfl⟩:=hk;obtain ⟨k',rfl,hm,hz⟩:=hsrc.Mq k rfl;have hw:IntKind.i64.wrap ((0:Nat):Int)=0:=IF (by omega);simp [Builtin.append_,run_underlying hu,run_underlying h2,sizeOf,BX hi,asInt,asIntOf];simp at hw;simp [hw]
 ·have hk':∀ k,d2≠ .int k:=λk e=>hk ⟨k,e⟩;obtain ⟨hl,hc⟩:=hsrc.cells hk';cases d2<;>first
   |(exact absurd rfl (hk' _))
   |simp [Builtin.append_,run_underlying hu,run_underlying h2,sizeOf,BX hi,hl,hc]
theorem Rel.congr{m:Inj P}(r:Rel m A w)(h:w1.heap=w.heap):Rel m A w1:=by
 refine ⟨?_,r.home,r.sep,r.mem,r.fresh,r.lim,?_⟩
 ·rw [h];exact r.obj
 ·rw [h];exact r.room
theorem PY{rest:Array Value}{newCap z:Nat}(h1:old.length=n*size)(h2:new.length=k*size)(h3:rest.size=(newCap-(n+k))*z)(h4:z=size)(h5:n+k<=newCap):
  newCap*size<=((⟨old⟩:Array Value)++(⟨new⟩:Array Value)++rest).size:=by
 subst h4;simp only [Array.size_append,List.size_toArray];rw [h1,h2,h3]
 have:newCap*z=n*z+k*z+(newCap-(n+k))*z:=by rw [<- Nat.add_mul,<- Nat.add_mul];congr 1;omega
 omega
theorem Ro{m:Inj P}(r:Rel m A w){s s':Value}(hs:AM m s s')(hx:AM m x x'):
  Xd P m A w AM (AU P A t t2 s x) (Builtin.append_ #[t,t2] ty #[s',x']):=by
 unfold AU;split
 rotate_left
 ·trivial
 rename_i e base n cap he;have hu:=DF he;split
 ·trivial
 rotate_left
 ·trivial
 rename_i size bytes hsz0 hsz hby;obtain ⟨i,hi,rfl⟩:=Nu hsz;obtain ⟨i',hi',rfl⟩:=MQ hby;rw [hi] at hi';cases hi';have hsz1:0<i.size:=Nat.pos_of_ne_zero hsz0;split
 ·trivial
 rename_i k new hsrc;have hd2:∃ d2,P.underlying t2=some d2:=by
  cases hq:P.underlying t2 with
  |some d=>exact ⟨d,rfl⟩
  |none=>simp [BM,hq] at hsrc
 obtain ⟨d2,h2⟩:=hd2;obtain ⟨new',hnew,hS⟩:=Qs (i:=i) r h2 hx hsrc;have hlen:=OW hsrc;have hlen':new'.length=k*i.size:=by rw [hnew.length,hlen]
 simp only;cases hroom:(Nat.blt (n+k) room&&Nat.blt ((n+k)*i.bytes) room&&C9 P e i.size) with
 |false=>simp only [Bool.not_false,Ct];trivial
 |true=>
  simp only [Bool.not_true,Cf];simp only [Bq] at hroom;have hr1:=AA.1 hroom.1.1;have hr2:=AA.1 hroom.1.2;unfold room at hr1 hr2;obtain ⟨z,hz,hzs⟩:∃ z,Dt P e=some z/\z.cells.size=i.size:=by
   have:=hroom.2
   unfold C9 at this;split at this
   ·rename_i z hz;exact ⟨z,hz,by simpa using beq_true.1 this⟩
   ·cases this
  split
  ·
   have hn0:new=[]:=List.eq_nil_of_length_eq_zero (by simpa using hlen);have hn0':new'=[]:=List.eq_nil_of_length_eq_zero (by simpa using hlen');subst hn0;subst hn0';cases hs with
   |sliceNil=>exact ⟨_,w,m,run_append_nil hu h2 hi (hS w rfl),.refl r,.sliceNil⟩
   |slice hc hn ha=>
    exact ⟨_,w,m,Hg hu h2 hi (hS w rfl) (by omega) hr2 (w':=w) rfl,.refl r,.slice hc hn ha⟩
  ·rename_i k;have hlen:new.length=(k+1)*i.size:=hlen;have hlen':new'.length=(k+1)*i.size:=hlen';have hr1:n+(k+1)<68719476736:=hr1;have hr2:(n+(k+1))*i.bytes<68719476736:=hr2;have hlb:∀ c',(cap<Bo/\c'=cap\/Bo<=cap/\cap-Bo<=c')->(bif Nat.ble Bo cap then cap-Bo else cap)<=c':=by
    intro c' h;rcases h with ⟨h1,h2⟩ | ⟨h1,h2⟩
    ·rw [BL.2 h1,Cf];omega
    ·rw [Bb.2 h1,Ct];exact h2
   cases hin:Nat.ble (n+(k+1)) (bif Nat.ble Bo cap then cap-Bo else cap) with
   |true=>
    simp only [Ct];have hin:=Bb.1 hin;split
    ·trivial
    rename_i a;split
    rotate_left
    ·trivial
    rename_i A' hset;cases hs with
    |slice hc hn ha=>
     rename_i a' c';have hle:=hlb c' (hc.imp id λh=>⟨h.1,h.2.1⟩);have har:=ha (by omega);obtain ⟨w',g1,g2,_⟩:=Ev.setCells (i:=0) r hnew (λ_=>by simpa [Addr.add] using har.add (n*i.size)) hset;exact ⟨_,w',m,Hg hu h2 hi (hS w rfl) (by omega) hr2 g1,g2,.slice hc (by omega) (λ_=>har)⟩
   |false=>
    simp only [Cf];have hin:=BL.1 hin;cases hcu:Nat.ble Bo cap with
    |true=>
     simp only [Ct];have hcu':=Bb.1 hcu;split
     ·trivial
     rename_i a;split
     rotate_left
     ·trivial
     rename_i csb e' fam b0 hsp hg;cases hel:(Nat.beq e' e&&new.all AK) with
     |false=>simp only [Bool.not_false,Ct];trivial
     |true=>
      simp only [Bool.not_true,Cf];simp only [Bq] at hel;have hee:=beq_true.1 hel.1;subst hee;split
      ·trivial
      rename_i old hold;split
      rotate_left
      ·trivial
      rename_i aN A' hnw;cases hs with
      |slice hc hn ha=>
       rename_i a' c';obtain ⟨_,hlb',hcl,hcr,⟨cb,db⟩,hxx⟩:=hc.resolve_left (λh=>by omega);obtain ⟨_,hrl⟩:=r.mem _ _ fam b0 hg rfl;by_cases hfit:n+(k+1)<=c'
       ·
        have hc0:0<c':=by omega
        have hR:=hcr hc0;obtain ⟨_,hs',d,hm,ho⟩:=ha hc0;rw [hxx] at hm;simp only [Oi,Pj] at hm;obtain ⟨rfl,rfl⟩:=hm;obtain ⟨q1,cs0,e0,fr0,q2,q3,q4⟩:=r.room _ _ _ _ _ _ _ _ hg hxx;obtain ⟨c1,d1,o1,p1,p2,cs1,fr1,rfl,p3⟩:=r.GK hg hxx;rw [hxx] at p1;simp only [Oi,Pj] at p1;obtain ⟨rfl,rfl⟩:=p1;rw [p2] at q2;cases q2;have hst:m.st a.block=i.size:=by
         have h1:=m.ok _ hR;rw [q1 hR,hsz] at h1
         simpa using h1.symm
        rw [hst] at hcl;have hmul:n*i.size+(k+1)*i.size<=c'*i.size:=by rw [<- Nat.add_mul];exact Nat.mul_le_mul_right _ hfit
        obtain ⟨w',cs2,g1,g2,g3,g4,g5,g6,g7,g8,g9,g10,g11⟩:=ER (P:=P) a'.block e' fr0 (a'.add (n*i.size)) (Addr.HT _ _) (Addr.LN _ _ hs') new' 0 cs0 w p2
         (by rw [Addr.Iu,ho,hlen'];omega)
         (λj hj=>by
          rw [hlen'] at hj;rw [Addr.Iu,ho]
          have:=q4 rfl (a.off+n*i.size+j) (by omega)
          rw [show db+a.off+n*i.size+0+j=db+(a.off+n*i.size+j) by omega];exact this)
         (hnew.Yr hel.2)
        rw [Addr.Iu,ho] at g4 g5;obtain ⟨h1,h2'⟩:=FK hold;have hrow:GS m (db+a.off) (old++new) false cs2 fr0:=by
         intro j v hv;have hjl:j<n*i.size+(k+1)*i.size:=by
          have:=(Gs.1 hv).1
          simp only [Lq,h1,hlen] at this;omega
         rw [List.getElem?_append] at hv;have hun:¬ (fr0.1<=db+a.off+j/\db+a.off+j<fr0.2):=by
          have:=q4 rfl (a.off+j) (by omega)
          rw [show db+a.off+j=db+(a.off+j) by omega];exact this
         split at hv
         ·rename_i hj;rw [h1] at hj;obtain ⟨_,csq,eq,fq,bq,roq,hgq,hold',hle⟩:=h2' (by omega);rw [hg] at hgq;cases hgq;rw [hold',List.getElem?_take,if_pos hj,List.getElem?_drop] at hv;obtain ⟨v',p4,p5,_⟩:=p3 _ _ hv;refine ⟨v',?_,p5,λ_=>hun⟩;rw [g4 _ (.inl (by omega)),show db+a.off+j=db+(a.off+j) by omega];exact p4
         ·rename_i hj;rw [h1] at hj hv;obtain ⟨v',p4,p5⟩:=hnew.get hv;refine ⟨v',?_,λ_=>p5,λ_=>hun⟩
          have:=g5 (j-n*i.size) (by rw [hlen'];omega)
          rw [show db+a.off+n*i.size+0+(j-n*i.size)=db+a.off+j by omega] at this;rw [this];exact p4
        obtain ⟨hev,rfl⟩:=Ev.I0 (m:=m) (A:=A) (w:=w) (w':=w') r hg hxx rfl hnw (cn:=a'.block) (dn:=db+a.off) (R:=m.room a.block-a.off) (st:=i.size) (λ_=>hsz) g8 g9 g10 (by omega) (by omega)
         (λb _ hb=>g6 b hb) ⟨cs2,fr0,g2,hrow,by omega,λj hj=>by
          have:=q4 rfl (a.off+j) (by omega)
          rw [show db+a.off+j=db+(a.off+j) by omega];exact this⟩
         (.inl ⟨rfl,rfl,cs0,cs2,e',fr0,p2,g2,g3,λj hj=>g4 j (.inl (by omega))⟩)
        refine ⟨_,w',_,Hg hu h2 hi (hS w rfl) hfit hr2 g1,hev,.slice (.inr ⟨by omega,by omega,?_,?_,_,Inj.Bu⟩) (by omega) (λ_=>⟨rfl,hs',_,Inj.Bu,by simpa using ho⟩)⟩
        ·simp only [Inj.Da,Inj.On];omega
        ·intro _;simp only [Inj.Da]
         have:0<c'*i.size:=Nat.mul_pos hc0 hsz1
         omega
       ·
        obtain ⟨old',o1,o2,o3⟩:=PO r hold (λhp=>ha (by
         rcases Nat.eq_zero_or_pos n with h0 | h0
         ·subst h0;simp at hp
         ·omega))
        obtain ⟨h1,_⟩:=FK hold;obtain ⟨newCap,rest,hcap,hrs,hrun⟩:=run_append_grow (w:=w) (ty:=ty) hu h2 hi hS (by omega) hr2 hr1 hz (U4 (w:=w) (i:=i) (base:=some a') (n:=n) (c:=c') o1 (λh=>by cases h) (λb hb=>by cases hb;exact o3));have hgs:=PY (old:=old') (new:=new') (rest:=rest) o1 hlen' hrs hzs hcap;have happ:(⟨old'⟩:Array Value)++(⟨new'⟩:Array Value)++rest=(old'++new').toArray++rest:=by simp
        obtain ⟨hev,rfl⟩:=Ev.I0 (m:=m) (A:=A) (w:=w) (w':={ w with drawn:=w.drawn+1,heap:=w.heap.push (.cells ((⟨old'⟩:Array Value)++(⟨new'⟩:Array Value)++rest) e') }) r hg hxx rfl hnw (cn:=w.heap.size) (dn:=0) (R:=newCap*i.size) (st:=i.size) (λ_=>hsz) rfl rfl rfl (Nat.le_succ _) (by simp)
         (λb hb _=>Cc w _ b hb) ⟨_,(0,0),CJ w _,by rw [happ];exact Vn (by rw [o1,h1]) o2 hnew rest,by omega,λj hj=>by omega⟩
         (.inr ⟨rfl,λb hb=>Cc w _ b hb⟩)
        refine ⟨_,_,_,hrun,hev,.slice (.inr ⟨by omega,by omega,?_,?_,_,Inj.Bu⟩) hcap (λ_=>⟨rfl,rfl,_,Inj.Bu,rfl⟩)⟩
        ·simp only [Inj.Da,Inj.On];omega
        ·intro hp;simp only [Inj.Da]
         have:0<newCap*i.size:=Nat.mul_pos hp hsz1
         omega
    |false=>
     simp only [Cf];have hcu':=BL.1 hcu;rw [hcu,Cf] at hin;split
     ·trivial
     rename_i old hold;split
     rotate_left
     ·trivial
     rename_i b A' hnw;obtain ⟨base',old',hs',hbn,o1,o2,o3⟩:∃ (base':Option Addr) (old':List Value),s'=.slice base' n cap/\(base'=none->n=0)/\(old'.length=n*i.size/\old.length=n*i.size)/\
       (∀ (j:Nat) (v:Value),old[j]? =some v->∃ v',old'[j]? =some v'/\(isTuple v=false->AM m v v'))/\(∀ a,base'=some a->∀ (j:Nat) (v:Value),old'[j]? =some v->w.cell? (a.add j)=some v):=by
      cases hs with
      |sliceNil=>
       simp only [Oi] at hold;subst hold;exact ⟨none,[],rfl,λ_=>rfl,⟨by simp,by simp⟩,λj v hv=>by simp at hv,λa ha=>by cases ha⟩
      |slice hc hn ha=>
       rename_i a a' c';rcases hc with ⟨_,rfl⟩ | ⟨h,_⟩
       ·obtain ⟨old',o1,o2,o3⟩:=PO r hold (λhp=>ha (by
         rcases Nat.eq_zero_or_pos n with h0 | h0
         ·subst h0;simp at hp
         ·omega))
        exact ⟨some a',old',rfl,(λh=>by cases h),⟨o1,(FK hold).1⟩,o2,λb hb=>by cases hb;exact o3⟩
       ·omega
     subst hs';obtain ⟨newCap,rest,hcap,hrs,hrun⟩:=run_append_grow (w:=w) (ty:=ty) hu h2 hi hS (by omega) hr2 hr1 hz (U4 (w:=w) (i:=i) (base:=base') (n:=n) (c:=cap) o1.1 hbn o3);have hgs:=PY (old:=old') (new:=new') (rest:=rest) o1.1 hlen' hrs hzs hcap;have happ:(⟨old'⟩:Array Value)++(⟨new'⟩:Array Value)++rest=(old'++new').toArray++rest:=by simp
     have r1:Rel m A { w with drawn:=w.drawn+1 }:=r.congr rfl;have hor:Jv m 0 (.row (old++new) e A.next 0 false) (.cells ((⟨old'⟩:Array Value)++(⟨new'⟩:Array Value)++rest) e):=
      ⟨_,(0,0),rfl,by rw [happ];exact Vn (by rw [o1.1,o1.2]) o2 hnew rest⟩
     obtain ⟨rfl,_,hev⟩:=Ev.new r1 hnw hor (λf b hf=>by simp [AO.fam] at hf;exact hf.1.symm) (R:=newCap*i.size) (el:=e) (st:=i.size) (λ_=>hsz)
      (λcsx ex fx bx rox hx=>by
       cases hx;exact ⟨λ_=>rfl,_,_,_,rfl,hgs,λ_ j hj=>by omega⟩)
     refine ⟨_,_,_,hrun,(Ev.drawn r _ (Nat.le_succ _)).trans hev,.slice (.inr ⟨by omega,by omega,?_,?_,_,Inj.Bu⟩) hcap (λ_=>⟨rfl,rfl,_,Inj.Bu,rfl⟩)⟩
     ·simp only [Inj.Da,Inj.On];omega
     ·intro hp;simp only [Inj.Da]
      have:0<newCap*i.size:=Nat.mul_pos hp hsz1
      omega
end
variable {x x':Value} {n0:Nat} {A:AW} {w:World}
section
variable {P:Program}
theorem Sr{m:Inj P}(hx:AM m x x')(h:O8 x=some n0)(w:World):(Builtin.lenOf x').run P w=.ok n0 w:=by
 cases hx with
 |sliceNil=>simp only [O8,Oi] at h;subst h;rfl
 |slice hc hn ha=>simp only [O8,Oi] at h;subst h;rfl
 |string s=>
  simp only [O8,Oi] at h;subst h;show Result.ok s.size w=_;rw [Lib.size_eq]
 |_=>cases h
theorem Ss(a b:Nat):least a b=Nat.min a b:=by
 unfold least;cases hb:Nat.ble a b with
 |true=>have:=Bb.1 hb;rw [Ct];exact (Nat.min_eq_left this).symm
 |false=>have:=BL.1 hb;rw [Cf];exact (Nat.min_eq_right (by omega)).symm
theorem M4{m:Inj P}(r:Rel m A w)(hx:AM m x x'){size d:Nat}{cells:List Value}(hn:O8 x=some n0)(h:HQ A size (Nat.min n0 d) x=some cells):
  ∃ cells',AJ m cells cells'/\(Builtin.firstCells size (Nat.min n0 d) x').run P w=.ok ⟨cells'⟩ w/\(d=0->cells=[]):=by
 unfold HQ at h;split at h
 ·rename_i a sn sc;cases hx with
  |slice hc hn' ha=>
   rename_i a' c2;simp only [O8,Oi] at hn;subst hn;obtain ⟨h1,l',h3,h4⟩:=r.cells h (λhp=>ha (by
    have hm:=Nat.min_le_left sn d;rcases Nat.eq_zero_or_pos sn with h0 | h0
    ·subst h0
     have:Nat.min 0 d=0:=Nat.zero_min d
     rw [this] at hp;simp at hp
    ·omega))
   refine ⟨l',h3,DU rfl h4 (by rw [h3.length,h1]),λhd=>?_⟩;subst hd
   have:Nat.min sn 0=0:=Nat.min_zero sn
   rw [this] at h1;exact List.eq_nil_of_length_eq_zero (by simpa using h1)
 ·cases hx;simp only [Oi] at h;subst h;exact ⟨[],.nil,rfl,λ_=>rfl⟩
 ·rename_i s;cases hx;simp only [Oi] at h;subst h;refine ⟨_,AJ.map _ _ (λb=>.int _ _) _,?_,λhd=>?_⟩
  ·simp only [Builtin.firstCells];show Result.ok _ w=_
   congr 1
   apply Array.ext';rw [Array.toList_map,Lib.extract_data]
   simp
  ·subst hd
   have:Nat.min n0 0=0:=Nat.min_zero n0
   rw [this];rfl
 ·cases h
theorem UG{m:Inj P}(r:Rel m A w){t t2 ty:TypeId}{d d':Value}(hd:AM m d d')(hx:AM m x x'):
  Xd P m A w AM (LG P A t d x) (Builtin.copy_ #[t,t2] ty #[d',x']):=by
 unfold LG;split
 rotate_left
 ·trivial
 rename_i e base dLen cap he;have hu:=DF he;split
 rotate_left
 ·trivial
 rename_i size n0 hsz hn0;have hl:=Sr (P:=P) hx hn0 w;rw [Ss];split
 ·trivial
 rename_i cells hcells;obtain ⟨base',c',hd',hbase⟩:∃ (base':Option Addr) (c':Nat),d'=.slice base' dLen c'/\((base=none/\base'=none/\dLen=0)\/∃ a a',base=some a/\base'=some a'/\dLen<=c'/\(0<c'->Hu m a a')):=by
  cases hd with
  |sliceNil=>exact ⟨none,0,rfl,.inl ⟨rfl,rfl,rfl⟩⟩
  |slice hc hn ha=>exact ⟨_,_,rfl,.inr ⟨_,_,rfl,rfl,hn,ha⟩⟩
 subst hd';obtain ⟨cells',hcr,hcrun,hnil⟩:=M4 r hx hn0 hcells;rcases hbase with ⟨rfl,rfl,rfl⟩ | ⟨a,a',rfl,rfl,hn,ha⟩
 ·simp only;refine ⟨_,w,m,?_,.refl r,.int _ _⟩;have h0:Nat.min n0 0=0:=Nat.min_zero n0;rw [h0] at hcrun;simp [Builtin.copy_,run_underlying hu,hl,Bz hsz,hcrun,goInt]
 ·simp only;split
  rotate_left
  ·trivial
  rename_i A' hset;have hne:cells≠[]->Hu m a a':=by
   intro hce;apply ha;rcases Nat.eq_zero_or_pos dLen with h0 | h0
   ·exact absurd (hnil h0) hce
   ·omega
  obtain ⟨w',g1,g2,_⟩:=Ev.setCells (i:=0) r hcr (λhce=>by simpa [Addr.add] using hne hce) hset;refine ⟨_,w',m,?_,g2,.int _ _⟩;simp [Builtin.copy_,run_underlying hu,hl,Bz hsz,hcrun,goInt,g1]
theorem HR{m:Inj P}:∀ {cs cs':List Value} {l:List UInt8},B7 cs=some l->AJ m cs cs'->cs'=cs
 |[],_,_,_,.nil=>rfl
 |_::_,_,l,h,.cons r t=>by
  cases r with
  |int k n=>
   cases k<;>simp only [B7] at h<;>try (cases h;done)
   split at h
   ·rename_i l' hl;rw [HR hl t]
   ·cases h
  |_=>simp [B7] at h
theorem MJ(f:Value->ByteArray->Sem (ForInStep ByteArray))(hf:∀ n s,f (.int .u8 n) s=pure (.yield (s.push (UInt8.ofNat n.toNat)))):∀ (cs:List Value) (l:List UInt8) (acc:ByteArray) (w:World),B7 cs=some l->
  (forIn cs acc f:Sem ByteArray).run P w=.ok ⟨acc.data++l.toArray⟩ w
 |[],l,acc,w,h=>by
  simp only [B7,Oi] at h;subst h
  simp
 |c::cs,l,acc,w,h=>by
  cases c<;>try (simp [B7] at h;done)
  rename_i k n;cases k<;>try (simp [B7] at h;done)
  simp only [B7] at h;split at h
  ·rename_i l' hl;simp only [Oi] at h;subst h;simp only [List.forIn_cons,hf,Sem.run_bind,Sem.run_pure,Result.andThen_ok];rw [MJ f hf cs l' _ w hl]
   congr 2
   apply Array.ext';simp [ByteArray.push]
  ·cases h
end
section
variable {P:Program}
theorem Sa(a:Array Obj)(x:Obj)(f:Obj->Obj):(a.push x).modify a.size f=a.push (f x):=by
 apply Array.ext_getElem?;intro i;rw [Array.getElem?_modify];rcases Nat.lt_trichotomy i a.size with h | h | h
 ·rw [Ff (by omega),Array.getElem?_push,Array.getElem?_push,Ff (by omega),Ff (by omega)]
 ·subst h;simp
 ·rw [Ff (by omega),Array.getElem?_push,Array.getElem?_push,Ff (by omega),Ff (by omega)]
theorem MD(w:World)(cs:Array Value)(e:TypeId):
  (markStringish ⟨w.heap.size,0,none⟩).run P { w with heap:=w.heap.push (.cells cs e) }=.ok () { w with heap:=w.heap.push (.cells cs e (cs.size,cs.size+1)) }:=by
 have hsh:({ w with heap:=w.heap.push (.cells cs e) }:World).shape? w.heap.size=some (e,cs.size):=by simp [World.shape?]
 simp only [markStringish,Sem.run_bind,run_shape,hsh,Result.andThen_ok,run_freeze]
 congr 1
 simp only [World.freeze];rw [Ff (by omega)];simp only [Sa]
 simp
theorem ME{m:Inj P}{l l':List Value}(h:AJ m l l')(rest:Array Value)(fr:Nat × Nat)(hf:l.length<=fr.1):GS m 0 l false (l'.toArray++rest) fr:=by
 intro i v hv;have hi:i<l.length:=(Gs.1 hv).1;obtain ⟨v',h1,h2⟩:=h.get hv;refine ⟨v',?_,λ_=>h2,λ_=>by omega⟩;rw [Nat.zero_add,Array.getElem?_append_left (by simp [h.length];exact hi)]
 simpa using h1
theorem LS {m:Inj P} {A:AW} {w:World} (r:Rel m A w) {e:TypeId} {s:ByteArray} {b:Nat} {A':AW} (hs1:szT P e=some 1)
  (h:A.new (.row (s.data.toList.map λb=>.int .u8 b.toNat) e A.next 0 false)=some (b,A')):
  ∃ v' w' m',(Conv.stringToBytes e s).run P w=.ok v' w'/\Ev m A w m' A' w'/\AM m' (.slice (some ⟨b,0,none⟩) s.data.toList.length (Bo+s.data.toList.length)) v':=by
 have r1:Rel m A { w with drawn:=w.drawn+1 }:=r.congr rfl;have hf:(Question.appendCap s.size 0 e).forced=false:=rfl;have hcut:=Hr s.size 0 e (w.tape w.drawn (.appendCap s.size 0 e));have hsz:=Lib.size_eq s;generalize hcap:(Question.appendCap s.size 0 e).cut (w.tape w.drawn (.appendCap s.size 0 e))=cap at *;have harr:(s.data.map λb=>Value.int .u8 b.toNat)=(s.data.toList.map λb=>Value.int .u8 (b.toNat:Int)).toArray:=by
  apply Array.ext';simp
 have hsize:((s.data.toList.map λb=>Value.int .u8 (b.toNat:Int)).toArray++Array.replicate (cap-s.size) (Value.int .u8 0)).size=cap:=by
  simp only [Array.size_append,List.size_toArray,List.length_map,Array.size_replicate];omega
 have hrel:AJ m (s.data.toList.map λb=>Value.int .u8 (b.toNat:Int)) (s.data.toList.map λb=>Value.int .u8 (b.toNat:Int)):=AJ.map _ _ (λb=>.int _ _) _;have hor:Jv m 0 (.row (s.data.toList.map λb=>.int .u8 (b.toNat:Int)) e A.next 0 false) (.cells ((s.data.toList.map λb=>Value.int .u8 (b.toNat:Int)).toArray++Array.replicate (cap-s.size) (Value.int .u8 0)) e (cap,cap+1)):=
  ⟨_,_,rfl,ME hrel _ _ (by simp only [List.length_map];omega)⟩
 obtain ⟨rfl,_,hev⟩:=Ev.new r1 h hor (λf b hf=>by simp [AO.fam] at hf;exact hf.1.symm) (R:=cap) (el:=e) (st:=1) (λ_=>hs1)
  (λcsx ex fx bx rox hx=>by cases hx;exact ⟨λ_=>rfl,_,_,_,rfl,by omega,λ_ j hj=>by simp;omega⟩)
 refine ⟨.slice (some ⟨w.heap.size,0,none⟩) s.size cap,_,_,?_,(Ev.drawn r _ (Nat.le_succ _)).trans hev,?_⟩
 ·simp only [Conv.stringToBytes,Sem.run_bind,run_choose,hf,Bool.false_eq_true,if_false,hcap,Result.andThen_ok,Ce,harr]
  have:=MD (P:=P) { w with drawn:=w.drawn+1 } ((s.data.toList.map λb=>Value.int .u8 (b.toNat:Int)).toArray++Array.replicate (cap-s.size) (Value.int .u8 0)) e
  rw [hsize] at this;simp only at this;rw [this];rfl
 ·rw [<- hsz];exact .slice (.inr ⟨by omega,by omega,by simp only [Inj.Da,Inj.On];omega,λhp=>by simp only [Inj.Da];omega,_,Inj.Bu⟩) hcut (λ_=>⟨rfl,rfl,_,Inj.Bu,rfl⟩)
end
section
variable {P:Program}
theorem Pg{m:Inj P}{A:AW}{w:World}(r:Rel m A w){src dst:TypeId}{x x':Value}(hx:AM m x x'):Xd P m A w AM (AQ P A src dst x) (convert src dst x'):=by
 unfold AQ;split
 ·rename_i d k k0 n hs hd;cases hx;refine ⟨_,w,m,?_,.refl r,.int _ _⟩;cases d<;>simp [convert,run_underlying hs,run_underlying hd,Conv.intToInt]
 ·rename_i e s hs hd;cases hx;split
  ·rename_i he h1;split
   rotate_left
   ·trivial
   rename_i b A' hn;obtain ⟨v',w',m',g1,g2,g3⟩:=LS r h1 hn;exact ⟨v',w',m',by simp [convert,run_underlying hs,run_underlying hd,run_underlying he,g1],g2,g3⟩
  ·trivial
 ·rename_i e n c hs hd;cases hx;split
  ·rename_i he;exact ⟨_,w,m,by simp [convert,run_underlying hs,run_underlying hd,run_underlying he,Conv.bytesToString],.refl r,.string _⟩
  ·trivial
 ·rename_i e a n c hs hd;cases hx with
  |slice hc hn ha=>
   rename_i a' c';have hcells:∀ {cs:List Value},A.cells? a n=some cs->cs.length=n/\∃ cs',AJ m cs cs'/\(loadCells a' n).run P w=.ok ⟨cs'⟩ w:=by
    intro cs hcs;obtain ⟨h1,l',h3,h4⟩:=r.cells hcs (λhp=>ha (by omega));exact ⟨h1,l',h3,DU rfl h4 (by rw [h3.length,h1])⟩
   split
   ·rename_i cs he hcs;obtain ⟨h1,cs',h2,h3⟩:=hcells hcs;split
    rotate_left
    ·trivial
    rename_i l hl;rw [HR hl h2] at h3;refine ⟨_,w,m,?_,.refl r,.string _⟩;simp [convert,run_underlying hs,run_underlying hd,run_underlying he,Conv.bytesToString,h3];rw [MJ _ (λ_ _=>rfl) cs l .empty w hl]
    simp
   ·trivial
 ·trivial
end
variable {A A':AW} {w:World} {why:String} {x x':Value}
section
variable {P:Program}
def Aja(m:Inj P):AN->Next->Prop
 |.value v,n=>∃ v',n=.value v'/\AM m v v'
 |.skip,n=>n=.skip
 |.enter f args,n=>∃ args',n=.enter f ⟨args'⟩/\AJ m args args'
 |.round l fn tm assign body,n=>∃ l' tmps',n=.round l' fn tmps' assign body/\m l=some (l',0)/\Dp m tm tmps'/\codeOk P assign=true/\codeOk P body=true
 |.rangeNext _,_=>True
def BC(P:Program)(m:Inj P)(A:AW)(w:World)(r:R AN)(s:Sem Next):Prop:=
 match r with
 |.ok (.rangeNext _) _=>True
 |.ok n A'=>∃ n' w' m',s.run P w=.ok n' w'/\Ev m A w m' A' w'/\Aja m' n n'
 |.fail _=>True
theorem BC.NQ{m:Inj P}{r:R Value}{s:Sem Value}(h:Xd P m A w AM r s):
  BC P m A w (match (generalizing:=false) r with | .ok v w=>.ok (.value v) w | .fail y=>.fail y) (do pure (.value (<- s))):=by
 cases r with
 |ok v A'=>
  obtain ⟨v',w',m',h1,h2,h3⟩:=h;exact ⟨.value v',w',m',by simp [h1],h2,v',rfl,h3⟩
 |fail y=>trivial
theorem BC.Eo{m:Inj P}(r:Rel m A w){o:Option Value}{s:Sem Value}{why:String}(h:HU P m w o s):
  BC P m A w (match (generalizing:=false) o with | some v=>.ok (.value v) A | none=>.fail why) (do pure (.value (<- s))):=by
 cases o with
 |none=>trivial
 |some v=>
  obtain ⟨v',h1,h2⟩:=h v rfl;exact ⟨.value v',w,m,by simp [h1],.refl r,v',rfl,h2⟩
theorem BC.Va{m:Inj P}{o:Option AW}{s:Sem Unit}{why:String}(h:∀ A',o=some A'->∃ w',s.run P w=.ok () w'/\∃ m',Ev m A w m' A' w'):
  BC P m A w (match (generalizing:=false) o with | some A'=>.ok .skip A' | none=>.fail why) (do s;pure .skip):=by
 cases o with
 |none=>trivial
 |some A'=>
  obtain ⟨w',h1,m',h2⟩:=h A' rfl;exact ⟨.skip,w',m',by simp [h1],h2,rfl⟩
theorem BC.Yt{m:Inj P}{v:Value}{s:Sem Value}(h:∃ v' w' m',s.run P w=.ok v' w'/\Ev m A w m' A' w'/\AM m' v v'):
  BC P m A w (.ok (.value v) A') (do pure (.value (<- s))):=by
 obtain ⟨v',w',m',h1,h2,h3⟩:=h;exact ⟨.value v',w',m',by simp [h1],h2,v',rfl,h3⟩
theorem Ea{m:Inj P}(r:Rel m A w){o:AO}{o':Obj}{b:Nat}(h:A.new o=some (b,A'))(hr:Jv m 0 o o')(hf:o.fam=none):
  ∃ m',Ev m A w m' A' { w with heap:=w.heap.push o' }/\m' b=some (w.heap.size,0):=by
 obtain ⟨rfl,_,h3⟩:=Ev.new r h hr (λf b hfb=>by rw [hf] at hfb;cases hfb) (R:=0) (el:=0) (st:=0) (λh=>absurd rfl h) (λcs e f b ro he=>by subst he;simp [AO.fam] at hf);exact ⟨_,h3,Inj.Bu⟩
theorem PV:∀ l:List Nat,Kz l=l.getLast?
 |[]=>rfl
 |[x]=>rfl
 |x::y::r=>by
  rw [show Kz (x::y::r)=Kz (y::r) from rfl,PV (y::r)]
  simp
theorem Ka{m:Inj P}{n:Nat}:∀ {es es':List MapEntry} {i j:Nat} {e:MapEntry},B5 (Gb m) es es'->Eh n es i=some j->es[j-i]? =some e->∃ e',es'.find? (·.born==n)=some e'/\Gb m e e'
 |_,_,i,j,e,.nil,h,_=>by simp [Eh] at h
 |_,_,i,j,e,.cons (a:=x) (b:=x') he ht,h,hj=>by
  simp only [Eh] at h;cases hb:Nat.beq x.born n with
  |true=>
   rw [hb,Ct] at h;simp only [Oi] at h;subst h;have hb:=beq_true.1 hb;simp at hj;subst hj;exact ⟨x',by simp [he.born,hb],he⟩
  |false=>
   rw [hb,Cf] at h;have hb:=beq_false.1 hb;have hle:=(Ja ht h).1;rw [show j-i=(j-(i+1))+1 by omega] at hj;obtain ⟨e',h1,h2⟩:=Ka ht h (by simpa using hj);refine ⟨e',?_,h2⟩;rw [List.find?_cons_of_neg (by simp [he.born,hb])];exact h1
theorem SS{m:Inj P}(r:Rel m A w)(hx:AM m x x'):HU P m w (Mf A x) (Instr.entry x'):=by
 intro v h;unfold Mf at h;split at h
 ·rename_i rr sp;cases hx with
  |ptr ha=>
   rename_i a';obtain ⟨hs,hs',d,hm,ho⟩:=ha;simp only at hs hm ho;split at h
   ·rename_i i since seen stepped hg;obtain ⟨c0,d0,o',g1,g2,g3,r',rfl,g4⟩:=r.GK hg hm;rw [hm] at g1;simp only [Oi,Pj] at g1;obtain ⟨rfl,rfl⟩:=g1;subst g3;split at h
    ·rename_i stamp es clock ro hst hgm;obtain ⟨c1,d1,o1,k1,k2,k3,es',rfl,k4⟩:=r.GK hgm g4;rw [g4] at k1;simp only [Oi,Pj] at k1;obtain ⟨rfl,_⟩:=k1;cases hb:Nat.beq clock stepped with
     |false=>rw [hb] at h;cases h
     |true=>
      rw [hb,Ct] at h;have hb:=beq_true.1 hb;split at h
      ·rename_i j hj;split at h
       ·rename_i e hej;simp only [Oi] at h;subst h;obtain ⟨ab,ao,asp⟩:=a';simp only at hs' hm ho g2;subst hs';simp only [Nat.add_zero] at ho;subst ho;obtain ⟨e',q1,q2⟩:=Ka k4 hj (by simpa using hej);refine ⟨_,?_,.Acl q2.key q2.val⟩;have hback:(⟨seen⟩:Array Nat).back? =some stamp:=by
         rw [PV] at hst
         simpa using hst
        subst hb;simp [Instr.entry,BI P w ab _ g2,hback,BI P w _ _ k2,q1]
       ·cases h
      ·cases h
    ·cases h
   ·cases h
 ·cases h
theorem O3{m:Inj P}(r:Rel m A w){isS:Bool}{ty:TypeId}(hx:AM m x x'):BC P m A w (Lk A x isS) (do pure (.value (<- Instr.next x' isS ty))):=by
 unfold Lk;split
 rotate_left
 ·trivial
 rename_i rr sp;cases hx with
 |ptr ha=>
  rename_i a';obtain ⟨hs,hs',d,hm,ho⟩:=ha;simp only at hs hm ho;obtain ⟨ab,ao,asp⟩:=a';simp only at hs' hm ho;subst hs';split
  ·rename_i hg;rename_i since seen stepped;obtain ⟨c0,d0,o',g1,g2,g3⟩:=r.GK hg hm;rw [hm] at g1;simp only [Oi,Pj] at g1;obtain ⟨rfl,rfl⟩:=g1;obtain ⟨rfl,rfl⟩:=g3;simp only [Nat.add_zero] at ho;subst ho;refine ⟨_,w,m,?_,.refl r,_,rfl,.tuple (.cons (.bool false) .nil)⟩;simp only [Instr.next,Sem.run_bind,BI P w ab _ g2 (by simp),Result.andThen_ok];rfl
  ·trivial
  ·trivial
end
section
variable {P:Program}
theorem V3{f:FuncId}(h:JI P f=true)(args:Array Value)(w:World):(callFunc f args).run P w=.ok (.enter f args) w:=by
 unfold JI at h;split at h
 ·rename_i fn hf;simp only [Bq,Bool.not_eq_true'] at h;have hb:fn.body.isNone=false:=by cases hq:fn.body<;>simp_all
  simp only [callFunc,Sem.run_bind,run_program,Result.andThen_ok,hf,h.2,hb,Bool.false_eq_true,if_false,Sem.run_pure]
 ·cases h
theorem OF{m:Inj P}{A:AW}{w:World}(r:Rel m A w){f:FuncId}{args args':List Value}(ha:AJ m args args'):
  BC P m A w (Gy P A f args) (callFunc f ⟨args'⟩):=by
 unfold Gy;cases hb:JI P f with
 |true=>exact ⟨_,w,m,V3 hb _ w,.refl r,args',rfl,ha⟩
 |false=>trivial
end
section
variable {P:Program}
theorem AJ.two{m:Inj P}{ρ ρ':Operand->Value}:∀ {l:List Operand},(∀ x∈l,AM m (ρ x) (ρ' x))->AJ m (l.map ρ) (l.map ρ')
 |[],_=>.nil
 |x::l,h=>.cons (h x (by simp)) (AJ.two λy hy=>h y (by simp [hy]))
theorem Dp.set{m:Inj P}{t:Tm}{t':Array Value}(r:Dp m t t'){i:Nat}{v v':Value}(hv:AM m v v'):Dp m (t.set i v) (t'.setIfInBounds i v'):=by
 unfold Tm.set;cases hb:Nat.blt i t.sz with
 |false=>
  rw [Cf]
  have:=JQ.1 hb
  rw [Array.setIfInBounds_eq_of_size_le (by rw [r.size];exact this)];exact r
 |true=>
  rw [Ct];have hlt:=AA.1 hb;refine ⟨by simp [r.size],r.small,λj=>?_⟩;have hs:=r.small;have hp:=Trie.get?_put depth t.t i j (some v) (by unfold depth;unfold Aj at hs;omega);unfold Tm.get;rw [hp];by_cases h:j=i
  ·subst h;simp only [if_true];rw [Array.getD_eq_getD_getElem?,Array.getElem?_setIfInBounds_self_of_lt (by rw [r.size];exact hlt)];exact hv
  ·rw [Ff h,Array.getD_eq_getD_getElem?,Array.getElem?_setIfInBounds_ne (Ne.symm h),<- Array.getD_eq_getD_getElem?];exact r.val j
theorem Dp.Cn{m:Inj P}:∀ {ps:List Tmp} {args args':List Value} {t:Tm} {t':Array Value},Dp m t t'->AJ m args args'->
  Dp m (Cn t (ps.zip args)) ((ps.zip args').foldl (λtmps x=>tmps.setIfInBounds x.1 x.2) t')
 |[],_,_,_,_,r,_=>by simpa [Abs.Cn] using r
 |_::_,_,_,_,_,r,.nil=>by simpa [Abs.Cn] using r
 |p::ps,_,_,_,_,r,.cons hv ht=>by
  simp only [List.zip_cons_cons,Abs.Cn,List.foldl_cons];exact Dp.Cn (r.set hv) ht
theorem I7 {m:Inj P} {A:AW} {w:World} (r:Rel m A w) {f f':Fn} {c:Array Value} {c':List Value} {args args':List Value}
  (hf:Qj m f f') (hc:AJ m c.toList c') (ha:AJ m args args'):BC P m A w (Cz P A (.fn f c) args) (invoke (.fn f' ⟨c'⟩) ⟨args'⟩):=by
 unfold Cz;rcases hf with ⟨rfl,hny⟩ | ⟨l,l',rfl,rfl,hl⟩
 ·split
  ·rename_i f cp he;cases he
   have:=OF r (f:=f) (ha.append hc)
   unfold BC at this ⊢
   simpa [invoke] using this
  ·rename_i l cp he;cases he;exact absurd rfl (hny l)
  ·rename_i he;cases he
  ·trivial
 ·simp only;split
  rotate_left
  ·trivial
  rename_i lp hg;cases hb:Nat.beq args.length lp.params.length with
  |false=>trivial
  |true=>
   have hb:=beq_true.1 hb;rw [Ct];obtain ⟨c0,d0,o',h1,h2,rfl,l1,rfl,h4⟩:=r.GK hg hl;rw [hl] at h1;simp only [Oi,Pj] at h1;obtain ⟨rfl,_⟩:=h1;refine ⟨.round l' lp.fn ((lp.params.zip args').foldl (λtmps x=>tmps.setIfInBounds x.1 x.2) l1.tmps) lp.assign lp.body,w,m,?_,.refl r,l',_,rfl,hl,h4.tm.Cn ha,h4.ok.1,h4.ok.2.1⟩;have hlen:=ha.length;simp [invoke,Instr.yield,Instr.getLoop,BI P w l' _ h2,h4.params,h4.fn,h4.assign,h4.body,hlen,hb]
end
section
variable {P:Program}
theorem NV{k:IntKind}:∀ {l:List Value} {a n:Int} {m:Inj P} {l':List Value} (w:World),Sm a l=some n->AJ m l l'->(l'.foldlM Builtin.min2 (.int k a)).run P w=.ok (.int k n) w
 |[],a,n,m,l',w,h,hl=>by
  cases hl;simp only [Sm,Oi] at h;subst h;rfl
 |x::l,a,n,m,l',w,h,hl=>by
  cases hl with
  |cons hx ht=>
   cases hx with
   |int k2 b=>
    have:=NV (k:=k) w (by simpa only [Sm] using h) ht
    simpa [List.foldlM_cons,Builtin.min2] using this
   |_=>simp [Sm] at h
theorem NX{k:IntKind}:∀ {l:List Value} {a n:Int} {m:Inj P} {l':List Value} (w:World),Sn a l=some n->AJ m l l'->(l'.foldlM Builtin.max2 (.int k a)).run P w=.ok (.int k n) w
 |[],a,n,m,l',w,h,hl=>by
  cases hl;simp only [Sn,Oi] at h;subst h;rfl
 |x::l,a,n,m,l',w,h,hl=>by
  cases hl with
  |cons hx ht=>
   cases hx with
   |int k2 b=>
    have:=NX (k:=k) w (by simpa only [Sn] using h) ht
    simpa [List.foldlM_cons,Builtin.max2] using this
   |_=>simp [Sn] at h
theorem Pm{m:Inj P}{A:AW}{w:World}(r:Rel m A w){b:Builtin}{ts:List TypeId}{ty:TypeId}{cs:Array Bool}{args args':List Value}(ha:AJ m args args'):
  BC P m A w (Dm P A b ts ty args) (builtin b ⟨ts⟩ ty cs ⟨args'⟩):=by
 unfold Dm;simp only;split
 ·cases ha with
  |cons hs h1=>cases h1 with
   |cons hx h2=>cases h2;exact BC.NQ (Ro r hs hx)
 ·cases ha with
  |cons hs h1=>cases h1 with
   |cons hx h2=>cases h2;exact BC.NQ (UG r hs hx)
 ·cases ha with
  |cons hs h1=>cases h1;exact BC.Eo r (Wq r hs)
 ·cases ha with
  |cons hs h1=>cases h1 with
   |cons hx h2=>
    cases h2;split
    ·rename_i A' h;obtain ⟨w',g1,g2⟩:=Ra (ty:=ty) r hs hx h;exact ⟨_,w',m,by simp only [builtin,Sem.run_bind];exact (congrArg (λx=>Result.andThen x _) g1).trans rfl,g2,_,rfl,.tuple .nil⟩
    ·trivial
 ·cases ha with
  |cons hs h1=>
   cases hs;split
   ·rename_i n h;exact ⟨_,w,m,by simp [builtin,Builtin.min_,NV w h h1],.refl r,_,rfl,.int _ _⟩
   ·trivial
 ·cases ha with
  |cons hs h1=>
   cases hs;split
   ·rename_i n h;exact ⟨_,w,m,by simp [builtin,Builtin.max_,NX w h h1],.refl r,_,rfl,.int _ _⟩
   ·trivial
 ·trivial
end
variable {x c a ix k it:Operand} {e t s:TypeId} {parts:Array (Nat × Operand)}
section
variable {P:Program}
theorem OY{m:Inj P}{ρ ρ':Operand->Value}{c:Call}{type:TypeId}{d:Deferred}(hc:∀ x∈c.operands.toList,AM m (ρ x) (ρ' x))(h:DH ρ c type=some d)(hb:∀ b,c.callee≠ .builtin b)(w:World):
  ∃ f f' cs cs' args args',d=⟨.fn f ⟨cs⟩,⟨args⟩⟩/\(resolve ρ' c type).run P w=.ok ⟨.fn f' ⟨cs'⟩,⟨args'⟩⟩ w/\Qj m f f'/\AJ m cs cs'/\AJ m args args':=by
 obtain ⟨callee,args,ats⟩:=c;have hargs:AJ m (args.toList.map ρ) (args.toList.map ρ'):=AJ.two λx hx=>hc x (by simp [Call.operands,hx]);unfold DH at h;simp only at h;cases callee with
 |builtin b=>exact absurd rfl (hb b)
 |invoke recv name=>cases h
 |value f=>
  have hr:=hc f (by simp [Call.operands]);simp only at h;split at h
  ·rename_i fn first captured he
   rw [he] at hr;simp only [Oi] at h;subst h;generalize hf':ρ' f=y at hr;cases hr with
   |func h1 h2 h3=>
    refine ⟨_,_,_,_,_,_,rfl,?_,h1,h3,h2.append hargs⟩;simp [resolve,hf',Deferred.ofValue]
  ·cases h
theorem DE.map{m:Inj P}{ρ ρ':Operand->Value}:∀ {o:Option Operand},(∀ y,o=some y->AM m (ρ y) (ρ' y))->DE m (o.map ρ) (o.map ρ')
 |none,_=>trivial
 |some y,h=>h y rfl
variable {X:Bt} {m:Inj P} {A:AW} {w:World} {ρ ρ':Operand->Value} {dst:Option Tmp} {type:TypeId} {pos:String} {after:Array Edge} {guard:Option (Nat × Bool)}
theorem WO(r:Rel m A w)(hρ:∀ z∈(Op.move x).operands.toList,AM m (ρ z) (ρ' z)):
  BC P m A w (Ba P ρ ⟨dst,.move x,type,pos,after,guard⟩ A) (execOp ρ' ⟨dst,.move x,type,pos,after,guard⟩):=by
 unfold Ba;exact ⟨_,w,m,rfl,.refl r,_,rfl,hρ x (by simp [Op.operands])⟩
theorem SO(r:Rel m A w)(hρ:∀ z∈(Op.assign x).operands.toList,AM m (ρ z) (ρ' z)):
  BC P m A w (Ba P ρ ⟨dst,.assign x,type,pos,after,guard⟩ A) (execOp ρ' ⟨dst,.assign x,type,pos,after,guard⟩):=by
 unfold Ba;exact ⟨_,w,m,rfl,.refl r,_,rfl,hρ x (by simp [Op.operands])⟩
theorem WM(r:Rel m A w){b:Operand}(hρ:∀ z∈(Op.pick c a b).operands.toList,AM m (ρ z) (ρ' z)):
  BC P m A w (Ba P ρ ⟨dst,.pick c a b,type,pos,after,guard⟩ A) (execOp ρ' ⟨dst,.pick c a b,type,pos,after,guard⟩):=by
 unfold Ba;have hc:=hρ c (by simp [Op.operands]);have ha:=hρ a (by simp [Op.operands]);have hb:=hρ b (by simp [Op.operands]);simp only;split
 ·rename_i h;rw [h] at hc;generalize hq:ρ' c=y at hc;cases hc;exact ⟨.value (ρ' a),w,m,by simp [execOp,hq,asBool],.refl r,_,rfl,ha⟩
 ·rename_i h;rw [h] at hc;generalize hq:ρ' c=y at hc;cases hc;exact ⟨.value (ρ' b),w,m,by simp [execOp,hq,asBool],.refl r,_,rfl,hb⟩
 ·trivial
theorem UA(r:Rel m A w)(_hρ:∀ z∈(Op.alloc e).operands.toList,AM m (ρ z) (ρ' z)):
  BC P m A w (Ba P ρ ⟨dst,.alloc e,type,pos,after,guard⟩ A) (execOp ρ' ⟨dst,.alloc e,type,pos,after,guard⟩):=by
 unfold Ba;simp only;split
 rotate_left
 ·trivial
 rename_i z hz;split
 rotate_left
 ·trivial
 rename_i a A' h;exact BC.Yt (Tk r hz h)
theorem Y4(r:Rel m A w)(hρ:∀ z∈(Op.box e x).operands.toList,AM m (ρ z) (ρ' z)):
  BC P m A w (Ba P ρ ⟨dst,.box e x,type,pos,after,guard⟩ A) (execOp ρ' ⟨dst,.box e x,type,pos,after,guard⟩):=by
 unfold Ba;simp only;split
 rotate_left
 ·trivial
 rename_i a A' h;exact BC.Yt (W3 r (hρ x (by simp [Op.operands])) h)
theorem Uy(r:Rel m A w)(hρ:∀ z∈(Op.build t parts).operands.toList,AM m (ρ z) (ρ' z)):
  BC P m A w (Ba P ρ ⟨dst,.build t parts,type,pos,after,guard⟩ A) (execOp ρ' ⟨dst,.build t parts,type,pos,after,guard⟩):=by
 unfold Ba;have hp:GU m (Fq parts.toList ρ) (parts.map λx=>(x.1,ρ' x.2)).toList:=by
  rw [Array.toList_map];exact Ih parts.toList λx hx=>hρ x.2 (List.mem_map.2 ⟨x,hx,rfl⟩)
 have:=S9 (P:=P) (t:=t) hp w
 exact BC.Eo r this
theorem M1(r:Rel m A w){len:Nat}(hρ:∀ z∈(Op.buildSlice t len parts).operands.toList,AM m (ρ z) (ρ' z)):
  BC P m A w (Ba P ρ ⟨dst,.buildSlice t len parts,type,pos,after,guard⟩ A) (execOp ρ' ⟨dst,.buildSlice t len parts,type,pos,after,guard⟩):=by
 unfold Ba;have hp:GU m (Fq parts.toList ρ) (parts.map λx=>(x.1,ρ' x.2)).toList:=by
  rw [Array.toList_map];exact Ih parts.toList λx hx=>hρ x.2 (List.mem_map.2 ⟨x,hx,rfl⟩)
 have:=Mo (P:=P) (t:=t) (len:=len) r hp
 exact BC.NQ this
theorem WQ(r:Rel m A w)(hρ:∀ z∈(Op.load t a).operands.toList,AM m (ρ z) (ρ' z)):
  BC P m A w (Ba P ρ ⟨dst,.load t a,type,pos,after,guard⟩ A) (execOp ρ' ⟨dst,.load t a,type,pos,after,guard⟩):=by
 unfold Ba;have ha:=hρ a (by simp [Op.operands]);simp only;split
 ·rename_i b hb;refine BC.Eo r (s:=Instr.loadAt t (ρ' a)) λv hv=>?_;rw [hb] at ha;generalize ρ' a=y at ha;exact Uk (t:=t) r ha hv
 ·trivial
theorem Ut(r:Rel m A w)(hρ:∀ z∈(Op.store t a x).operands.toList,AM m (ρ z) (ρ' z)):
  BC P m A w (Ba P ρ ⟨dst,.store t a x,type,pos,after,guard⟩ A) (execOp ρ' ⟨dst,.store t a x,type,pos,after,guard⟩):=by
 unfold Ba;have ha:=hρ a (by simp [Op.operands]);have hx:=hρ x (by simp [Op.operands]);simp only;split
 ·rename_i b hb;refine BC.Va (s:=Instr.storeAt t (ρ' a) (ρ' x)) λA' h=>?_;rw [hb] at ha;generalize ρ' a=y at ha;cases ha with
  |ptr ha=>
   obtain ⟨w',g1,g2,_⟩:=Nw r h ha hx;exact ⟨w',by simp [Instr.storeAt,Instr.sureAddr,g1],m,g2⟩
 ·trivial
theorem Pd(r:Rel m A w)(hρ:∀ z∈(Op.nilCheck x).operands.toList,AM m (ρ z) (ρ' z)):
  BC P m A w (Ba P ρ ⟨dst,.nilCheck x,type,pos,after,guard⟩ A) (execOp ρ' ⟨dst,.nilCheck x,type,pos,after,guard⟩):=by
 unfold Ba;have hx:=hρ x (by simp [Op.operands]);simp only;generalize hy:ρ x=y at *;generalize hy':ρ' x=y' at *;split
 ·trivial
 ·trivial
 ·trivial
 ·trivial
 ·rename_i h1 h2 h3 h4;refine ⟨.value y',w,m,?_,.refl r,_,rfl,hx⟩;simp only [execOp,hy'];cases hx with
  |func hf ha hc=>
   rename_i f f' a a' c c';cases f'<;>first | rfl | skip
   rcases hf with ⟨hf,_⟩ | ⟨l,l',_,hf,_⟩
   ·exact absurd (by rw [<- hf]) (h4 _ _ _)
   ·cases hf
  |ptrNil=>exact absurd rfl h1
  |nilIface=>exact absurd rfl h2
  |nilFunc=>exact absurd rfl h3
  |_=>rfl
theorem Uz(r:Rel m A w){op:BinOp}{y:Operand}{b:_}(hρ:∀ z∈(Op.binOp op t x y b).operands.toList,AM m (ρ z) (ρ' z)):
  BC P m A w (Ba P ρ ⟨dst,.binOp op t x y b,type,pos,after,guard⟩ A) (execOp ρ' ⟨dst,.binOp op t x y b,type,pos,after,guard⟩):=by
 unfold Ba;exact BC.Eo r (W5 (hρ x (by simp [Op.operands])) (hρ y (by simp [Op.operands])) w)
theorem WL(r:Rel m A w){op:UnOp}(hρ:∀ z∈(Op.unOp op t x).operands.toList,AM m (ρ z) (ρ' z)):
  BC P m A w (Ba P ρ ⟨dst,.unOp op t x,type,pos,after,guard⟩ A) (execOp ρ' ⟨dst,.unOp op t x,type,pos,after,guard⟩):=by
 unfold Ba;exact BC.Eo r (Xz (hρ x (by simp [Op.operands])) w)
theorem Q3(r:Rel m A w){d:TypeId}(hρ:∀ z∈(Op.convert s d x).operands.toList,AM m (ρ z) (ρ' z)):
  BC P m A w (Ba P ρ ⟨dst,.convert s d x,type,pos,after,guard⟩ A) (execOp ρ' ⟨dst,.convert s d x,type,pos,after,guard⟩):=by
 unfold Ba;exact BC.NQ (Pg r (hρ x (by simp [Op.operands])))
theorem KG(r:Rel m A w)(hρ:∀ z∈(Op.makeInterface t x).operands.toList,AM m (ρ z) (ρ' z)):
  BC P m A w (Ba P ρ ⟨dst,.makeInterface t x,type,pos,after,guard⟩ A) (execOp ρ' ⟨dst,.makeInterface t x,type,pos,after,guard⟩):=by
 unfold Ba;have hx:=hρ x (by simp [Op.operands]);simp only;split
 ·trivial
 ·rename_i td hn hu;refine ⟨.value (.iface t (ρ' x)),w,m,?_,.refl r,_,rfl,.iface t hx⟩;simp only [execOp,Instr.makeInterface,Sem.run_bind,run_underlying hu,Result.andThen_ok];cases td<;>first | exact absurd rfl (hn _) | rfl
 ·trivial
theorem Pe(r:Rel m A w){fn:Fn}{first captured:Array Operand}(hρ:∀ z∈(Op.makeFunc fn first captured).operands.toList,AM m (ρ z) (ρ' z)):
  BC P m A w (Ba P ρ ⟨dst,.makeFunc fn first captured,type,pos,after,guard⟩ A) (execOp ρ' ⟨dst,.makeFunc fn first captured,type,pos,after,guard⟩):=by
 unfold Ba;simp only;have hv:(∀ l,fn≠ .yield l)->BC P m A w (.ok (.value (.func fn ⟨first.toList.map ρ⟩ ⟨captured.toList.map ρ⟩)) A) (execOp ρ' ⟨dst,.makeFunc fn first captured,type,pos,after,guard⟩):=by
  intro hn;refine ⟨.value (.func fn ⟨first.toList.map ρ'⟩ ⟨captured.toList.map ρ'⟩),w,m,?_,.refl r,_,rfl,.func (.inl ⟨rfl,hn⟩) (AJ.two λy hy=>hρ y (by simp [Op.operands];exact .inl (by simpa using hy))) (AJ.two λy hy=>hρ y (by simp [Op.operands];exact .inr (by simpa using hy)))⟩;have e:∀ l:Array Operand,l.map ρ'=⟨l.toList.map ρ'⟩:=λl=>by cases l;simp
  simp only [execOp,Instr.makeFunc,e];rfl
 split
 ·trivial
 ·rename_i hn;exact hv λl=>hn l
theorem Q1(r:Rel m A w){q:Option Operand}(hρ:∀ z∈(Op.makeMap t q).operands.toList,AM m (ρ z) (ρ' z)):
  BC P m A w (Ba P ρ ⟨dst,.makeMap t q,type,pos,after,guard⟩ A) (execOp ρ' ⟨dst,.makeMap t q,type,pos,after,guard⟩):=by
 unfold Ba;have hnew:∀ b A',A.new (.map [] 0 false)=some (b,A')->∃ m',Ev m A w m' A' (w.alloc (.map #[] 0))/\m' b=some (w.heap.size,0):=by
  intro b A' h;exact Ea (o':=.map #[] 0) r h ⟨rfl,[],rfl,.nil⟩ rfl
 cases q with
 |none=>
  simp only;split
  rotate_left
  ·trivial
  rename_i b A' h;obtain ⟨m',g2,g3⟩:=hnew b A' h;exact ⟨.value (.map (some w.heap.size)),_,m',by simp [execOp,Instr.makeMap],g2,_,rfl,.map g3⟩
 |some y=>
  have hy:=hρ y (by simp [Op.operands]);simp only;split
  rotate_left
  ·trivial
  rename_i mt k n hm hi;split
  rotate_left
  ·trivial
  rename_i b A' h;obtain ⟨m',g2,g3⟩:=hnew b A' h;rw [hi] at hy;generalize hq:ρ' y=z at hy;cases hy;unfold D0 at hm;split at hm
  ·rename_i hu;exact ⟨.value (.map (some w.heap.size)),_,m',by simp [execOp,Instr.makeMap,run_underlying hu,hq,asInt,asIntOf],g2,_,rfl,.map g3⟩
  ·cases hm
theorem Ot(r:Rel m A w){l:Operand}(hρ:∀ z∈(Op.makeSlice t l c).operands.toList,AM m (ρ z) (ρ' z)):
  BC P m A w (Ba P ρ ⟨dst,.makeSlice t l c,type,pos,after,guard⟩ A) (execOp ρ' ⟨dst,.makeSlice t l c,type,pos,after,guard⟩):=by
 unfold Ba;exact BC.NQ (MX r (hρ l (by simp [Op.operands])) (hρ c (by simp [Op.operands])))
theorem Uu(r:Rel m A w){lo hi mx:Option Operand}(hρ:∀ z∈(Op.slice t x lo hi mx).operands.toList,AM m (ρ z) (ρ' z)):
  BC P m A w (Ba P ρ ⟨dst,.slice t x lo hi mx,type,pos,after,guard⟩ A) (execOp ρ' ⟨dst,.slice t x lo hi mx,type,pos,after,guard⟩):=by
 unfold Ba;exact BC.Eo r (RL r (hρ x (by simp [Op.operands])) (DE.map λy hy=>hρ y (by simp [Op.operands,hy])) (DE.map λy hy=>hρ y (by simp [Op.operands,hy])) (DE.map λy hy=>hρ y (by simp [Op.operands,hy])))
theorem Ov(r:Rel m A w){f:Nat}(hρ:∀ z∈(Op.fieldAddr s x f).operands.toList,AM m (ρ z) (ρ' z)):
  BC P m A w (Ba P ρ ⟨dst,.fieldAddr s x f,type,pos,after,guard⟩ A) (execOp ρ' ⟨dst,.fieldAddr s x f,type,pos,after,guard⟩):=by
 unfold Ba;exact BC.Eo r (M0 (hρ x (by simp [Op.operands])) w)
theorem Ou(r:Rel m A w)(hρ:∀ z∈(Op.indexAddr t x ix).operands.toList,AM m (ρ z) (ρ' z)):
  BC P m A w (Ba P ρ ⟨dst,.indexAddr t x ix,type,pos,after,guard⟩ A) (execOp ρ' ⟨dst,.indexAddr t x ix,type,pos,after,guard⟩):=by
 unfold Ba;exact BC.Eo r (MY (hρ x (by simp [Op.operands])) (hρ ix (by simp [Op.operands])) w)
theorem Uw(r:Rel m A w)(hρ:∀ z∈(Op.index t x ix).operands.toList,AM m (ρ z) (ρ' z)):
  BC P m A w (Ba P ρ ⟨dst,.index t x ix,type,pos,after,guard⟩ A) (execOp ρ' ⟨dst,.index t x ix,type,pos,after,guard⟩):=by
 unfold Ba;exact BC.Eo r (SA (hρ x (by simp [Op.operands])) (hρ ix (by simp [Op.operands])) w)
theorem SN(r:Rel m A w){ok:Bool}(hρ:∀ z∈(Op.lookup t x k ok).operands.toList,AM m (ρ z) (ρ' z)):
  BC P m A w (Ba P ρ ⟨dst,.lookup t x k ok,type,pos,after,guard⟩ A) (execOp ρ' ⟨dst,.lookup t x k ok,type,pos,after,guard⟩):=by
 unfold Ba;exact BC.Eo r (QM r (hρ x (by simp [Op.operands])) (hρ k (by simp [Op.operands])))
theorem Oq(r:Rel m A w){mm:Operand}(hρ:∀ z∈(Op.mapUpdate t mm k x).operands.toList,AM m (ρ z) (ρ' z)):
  BC P m A w (Ba P ρ ⟨dst,.mapUpdate t mm k x,type,pos,after,guard⟩ A) (execOp ρ' ⟨dst,.mapUpdate t mm k x,type,pos,after,guard⟩):=by
 unfold Ba;exact BC.Va (s:=Instr.mapUpdate t (ρ' mm) (ρ' k) (ρ' x)) λA' h=>by
  obtain ⟨w',g1,g2⟩:=MW r (hρ mm (by simp [Op.operands])) (hρ k (by simp [Op.operands])) (hρ x (by simp [Op.operands])) h;exact ⟨w',g1,m,g2⟩
theorem Uv(r:Rel m A w)(hρ:∀ z∈(Op.range t x).operands.toList,AM m (ρ z) (ρ' z)):
  BC P m A w (Ba P ρ ⟨dst,.range t x,type,pos,after,guard⟩ A) (execOp ρ' ⟨dst,.range t x,type,pos,after,guard⟩):=by
 unfold Ba;have hx:=hρ x (by simp [Op.operands]);simp only;split
 ·rename_i kt vt hu hs;rw [hs] at hx;generalize hq:ρ' x=z at hx;cases hx;split
  rotate_left
  ·trivial
  rename_i b A' h;obtain ⟨m',g2,g3⟩:=Ea (o':=.mapIter none 0 #[] 0) r h ⟨rfl,rfl⟩ rfl;exact ⟨.value (.pointer (some ⟨w.heap.size,0,none⟩)),_,m',by simp [execOp,Instr.range,run_underlying hu,hq],g2,_,rfl,.ptr ⟨rfl,rfl,0,g3,rfl⟩⟩
 ·rename_i kt vt mm hu hs;rw [hs] at hx;split
  rotate_left
  ·trivial
  rename_i es clock ro hg;obtain ⟨c,es',hz,hm,hc,he⟩:=r.map hg hx;split
  rotate_left
  ·trivial
  rename_i b A' h;obtain ⟨m',g2,g3⟩:=Ea (o':=.mapIter (some c) clock #[] clock) r h ⟨rfl,c,rfl,hm⟩ rfl;exact ⟨.value (.pointer (some ⟨w.heap.size,0,none⟩)),_,m',by simp [execOp,Instr.range,run_underlying hu,hz,BI P w c _ hc],g2,_,rfl,.ptr ⟨rfl,rfl,0,g3,rfl⟩⟩
 ·trivial
theorem WN(r:Rel m A w){isString:Bool}(hρ:∀ z∈(Op.next it isString).operands.toList,AM m (ρ z) (ρ' z)):
  BC P m A w (Ba P ρ ⟨dst,.next it isString,type,pos,after,guard⟩ A) (execOp ρ' ⟨dst,.next it isString,type,pos,after,guard⟩):=by
 unfold Ba;exact O3 r (hρ it (by simp [Op.operands]))
theorem Ux(r:Rel m A w)(hρ:∀ z∈(Op.entry it).operands.toList,AM m (ρ z) (ρ' z)):
  BC P m A w (Ba P ρ ⟨dst,.entry it,type,pos,after,guard⟩ A) (execOp ρ' ⟨dst,.entry it,type,pos,after,guard⟩):=by
 unfold Ba;exact BC.Eo r (SS r (hρ it (by simp [Op.operands])))
theorem Q2(r:Rel m A w){t:Operand}{ix:Nat}(hρ:∀ z∈(Op.extract t ix).operands.toList,AM m (ρ z) (ρ' z)):
  BC P m A w (Ba P ρ ⟨dst,.extract t ix,type,pos,after,guard⟩ A) (execOp ρ' ⟨dst,.extract t ix,type,pos,after,guard⟩):=by
 unfold Ba;have hx:=hρ t (by simp [Op.operands]);simp only;split
 ·rename_i vs hv;refine BC.Eo r (s:=Instr.extract (ρ' t) ix) ?_;rw [hv] at hx;generalize ρ' t=y at hx;exact Pc (i:=ix) hx w
 ·trivial
theorem WR(r:Rel m A w){c:Call}(hρ:∀ z∈(Op.call c).operands.toList,AM m (ρ z) (ρ' z)):
  BC P m A w (Ba P ρ ⟨dst,.call c,type,pos,after,guard⟩ A) (execOp ρ' ⟨dst,.call c,type,pos,after,guard⟩):=by
 unfold Ba;simp only;cases hc:c.callee with
 |builtin b=>
  have hargs:AJ m (c.args.toList.map ρ) (c.args.toList.map ρ'):=AJ.two λy hy=>hρ y (by simp [Op.operands,Call.operands,hc];simpa using hy);have hra:DH ρ c type=some ⟨.builtin b c.argTypes type #[],⟨c.args.toList.map ρ⟩⟩:=by unfold DH;rw [hc]
  rw [hra];have e:c.args.map ρ'=⟨c.args.toList.map ρ'⟩:=by cases c.args;simp
  have h:=Pm r (b:=b) (ts:=c.argTypes.toList) (ty:=type) (cs:=c.args.map λ| .const _=>true | _=>false) hargs;have hrun:(execOp ρ' ⟨dst,.call c,type,pos,after,guard⟩).run P w=(builtin b c.argTypes type (c.args.map λ| .const _=>true | _=>false) ⟨c.args.toList.map ρ'⟩).run P w:=by
   simp only [execOp,resolve,hc,Sem.run_bind,Sem.run_pure,Result.andThen_ok,e];rfl
  unfold BC at h ⊢;rw [hrun];exact h
 |_=>
  all_goals
   cases hr:DH ρ c type with
   |none=>trivial
   |some d=>
    obtain ⟨f,f',cs,cs',args,args',rfl,h1,h2,h3,h4⟩:=OY hρ hr (λb=>by rw [hc];simp) w;have h:=I7 r (c:=⟨cs⟩) h2 h3 h4;have hrun:(execOp ρ' ⟨dst,.call c,type,pos,after,guard⟩).run P w=(invoke (.fn f' ⟨cs'⟩) ⟨args'⟩).run P w:=by
     simp only [execOp,Sem.run_bind,h1,Result.andThen_ok]
    unfold BC at h ⊢;rw [hrun];exact h
theorem KE(r:Rel m A w){o:Oper}(hρ:∀ x∈o.op.operands.toList,AM m (ρ x) (ρ' x)):
  BC P m A w (Ba P ρ o A) (execOp ρ' o):=by
 obtain ⟨dst,op,type,pos,after,guard⟩:=o;cases op with
 |move x=>exact WO r (x:=x) hρ
 |assign x=>exact SO r (x:=x) hρ
 |pick c a b=>exact WM r (c:=c) (a:=a) (b:=b) hρ
 |alloc e=>exact UA r (e:=e) hρ
 |box e x=>exact Y4 r (e:=e) (x:=x) hρ
 |build t parts=>exact Uy r (t:=t) (parts:=parts) hρ
 |buildSlice t len parts=>exact M1 r (t:=t) (len:=len) (parts:=parts) hρ
 |load t a=>exact WQ r (t:=t) (a:=a) hρ
 |store t a x=>exact Ut r (t:=t) (a:=a) (x:=x) hρ
 |nilCheck x=>exact Pd r (x:=x) hρ
 |binOp op t x y b=>exact Uz r (op:=op) (t:=t) (x:=x) (y:=y) (b:=b) hρ
 |unOp op t x=>exact WL r (op:=op) (t:=t) (x:=x) hρ
 |convert s d x=>exact Q3 r (s:=s) (d:=d) (x:=x) hρ
 |makeInterface t x=>exact KG r (t:=t) (x:=x) hρ
 |makeFunc fn first captured=>exact Pe r (fn:=fn) (first:=first) (captured:=captured) hρ
 |makeMap t q=>exact Q1 r (t:=t) (q:=q) hρ
 |makeSlice t l c=>exact Ot r (t:=t) (l:=l) (c:=c) hρ
 |slice t x lo hi mx=>exact Uu r (t:=t) (x:=x) (lo:=lo) (hi:=hi) (mx:=mx) hρ
 |fieldAddr s x f=>exact Ov r (s:=s) (x:=x) (f:=f) hρ
 |indexAddr t x ix=>exact Ou r (t:=t) (x:=x) (ix:=ix) hρ
 |index t x ix=>exact Uw r (t:=t) (x:=x) (ix:=ix) hρ
 |lookup t x k ok=>exact SN r (t:=t) (x:=x) (k:=k) (ok:=ok) hρ
 |mapUpdate t mm k x=>exact Oq r (t:=t) (mm:=mm) (k:=k) (x:=x) hρ
 |range t x=>exact Uv r (t:=t) (x:=x) hρ
 |next it isString=>exact WN r (it:=it) (isString:=isString) hρ
 |entry it=>exact Ux r (it:=it) hρ
 |extract t ix=>exact Q2 r (t:=t) (ix:=ix) hρ
 |call c=>exact WR r (c:=c) hρ
 |_=>trivial
end
def EG:List UInt8->List UInt8->Bool
 |[],[]=>true
 |a::r,b::s=>Nat.beq a.toNat b.toNat&&EG r s
 |_,_=>false
def sameAddr(a b:Addr):Bool:=Nat.beq a.block b.block&&(Nat.beq a.off b.off&&(a.spot.isNone&&b.spot.isNone))
def KY:Int->Int->Bool
 |.ofNat a,.ofNat b=>Nat.beq a b
 |.negSucc a,.negSucc b=>Nat.beq a b
 |_,_=>false
def EF(f:Value->Value->Bool):List Value->List Value->Bool
 |[],[]=>true
 |a::r,b::s=>f a b&&EF f r s
 |_,_=>false
def DT:Nat->Value->Value->Bool
 |0,_,_=>false
 |_+1,.bool a,.bool b=>a==b
 |_+1,.int k a,.int l b=>decide (k=l)&&KY a b
 |_+1,.string a,.string b=>EG a.data.toList b.data.toList
 |_+1,.nilFunc,.nilFunc=>true
 |_+1,.nilIface,.nilIface=>true
 |_+1,.pointer none,.pointer none=>true
 |_+1,.pointer (some a),.pointer (some b)=>sameAddr a b
 |_+1,.slice none n c,.slice none n' c'=>Nat.beq n n'&&Nat.beq c c'
 |_+1,.slice (some a) n c,.slice (some b) n' c'=>sameAddr a b&&(Nat.beq n n'&&Nat.beq c c')
 |_+1,.map none,.map none=>true
 |_+1,.map (some a),.map (some b)=>Nat.beq a b
 |f+1,.iface t v,.iface u w=>Nat.beq t u&&DT f v w
 |f+1,.agg a,.agg b=>EF (DT f) a.toList b.toList
 |f+1,.tuple a,.tuple b=>EF (DT f) a.toList b.toList
 |f+1,.func (.func g) a c,.func (.func g') a' c'=>Nat.beq g g'&&(EF (DT f) a.toList a'.toList&&EF (DT f) c.toList c'.toList)
 |_+1,_,_=>false
theorem KZ:∀ {a b:List UInt8},EG a b=true->a=b
 |[],[],_=>rfl
 |a::r,b::s,h=>by
  simp only [EG,Bq] at h;rw [UInt8.toNat_inj.1 (Nb h.1),KZ h.2]
 |[],_::_,h=>by simp [EG] at h
 |_::_,[],h=>by simp [EG] at h
theorem MC{a b:Addr}(h:sameAddr a b=true):a=b:=by
 unfold sameAddr at h;simp only [Bq,Option.isNone_iff_eq_none] at h;obtain ⟨h1,h2,h3,h4⟩:=h;have h1:=Nb h1;have h2:=Nb h2;cases a;cases b
 simp_all
theorem TU:∀ {a b:Int},KY a b=true->a=b
 |.ofNat _,.ofNat _,h=>by rw [Nb h]
 |.negSucc _,.negSucc _,h=>by rw [Nb h]
 |.ofNat _,.negSucc _,h=>by simp [KY] at h
 |.negSucc _,.ofNat _,h=>by simp [KY] at h
theorem Hz{f:Value->Value->Bool}(hf:∀ a b,f a b=true->a=b):∀ {a b:List Value},EF f a b=true->a=b
 |[],[],_=>rfl
 |a::r,b::s,h=>by
  simp only [EF,Bq] at h;rw [hf _ _ h.1,Hz hf h.2]
 |[],_::_,h=>by simp [EF] at h
 |_::_,[],h=>by simp [EF] at h
theorem XW:∀ (n:Nat) (a b:Value),DT n a b=true->a=b:=by
 intro n
 induction n with
 |zero=>intro a b h;simp [DT] at h
 |succ n ih=>
  intro a b h;unfold DT at h;split at h
  ·contradiction
  ·simp at h;rw [h]
  ·simp only [Bq,decide_eq_true_eq] at h;rw [h.1,TU h.2]
  ·have:=KZ h
   congr 1
   exact ByteArray.ext (Array.toList_inj.1 this)
  ·rfl
  ·rfl
  ·rfl
  ·rw [MC h]
  ·simp only [Bq] at h;rw [Nb h.1,Nb h.2]
  ·simp only [Bq] at h;rw [MC h.1,Nb h.2.1,Nb h.2.2]
  ·rfl
  ·rw [Nb h]
  ·have hn:=Nat.succ.inj ‹n+1=_+1›;subst hn;simp only [Bq] at h;rw [Nb h.1,ih _ _ h.2]
  ·have hn:=Nat.succ.inj ‹n+1=_+1›;subst hn
   have:=Hz ih h
   rw [Array.toList_inj.1 this]
  ·have hn:=Nat.succ.inj ‹n+1=_+1›;subst hn
   have:=Hz ih h
   rw [Array.toList_inj.1 this]
  ·have hn:=Nat.succ.inj ‹n+1=_+1›;subst hn;simp only [Bq] at h;rw [Nb h.1,Array.toList_inj.1 (Hz ih h.2.1),Array.toList_inj.1 (Hz ih h.2.2)]
  ·contradiction
def T0:Builtin->Bool
 |.len=>true
 |.cap=>true
 |.min=>true
 |.max=>true
 |.unsafeSliceData=>true
 |_=>false
def Cj(P:Program):Op->Bool
 |.move _ | .pick .. | .build .. | .load .. | .nilCheck _ | .binOp .. | .unOp .. | .makeInterface .. | .makeFunc .. | .slice .. | .fieldAddr .. | .field .. | .indexAddr .. | .index .. | .lookup .. | .entry _
 |.typeAssert .. | .extract .. =>true
 |.convert _ d _=>(match P.underlying d with | some (.slice _)=>false | some _=>true | none=>false)
 |.call c=>(match c.callee with
  |.builtin b=>T0 b
  |_=>false)
 |_=>false
def Dg(P:Program)(c:Bool):Op->Bool
 |.alloc _ | .box .. | .buildSlice .. | .makeMap .. =>true
 |.convert s d _=>c&&(match P.underlying s,P.underlying d with
  |some .string,some (.slice e)=>(match P.underlying e,szT P e with | some (.int .u8),some 1=>true | _,_=>false)
  |_,_=>false)
 |_=>false
def nth:List Nat->Nat->Nat
 |[],_=>0
 |x::_,0=>x
 |_::r,n+1=>nth r n
def FW(acc:List Nat):List Edge->Nat
 |[]=>0
 |e::r=>bif Region.binds .any e then (1 <<< e.on) ||| (nth acc e.on ||| FW acc r) else FW acc r
def Dv:List Oper->List Nat->List Nat
 |[],acc=>acc
 |o::r,acc=>Dv r (acc++[FW acc o.after.toList])
def within(a b:Nat):Bool:=Nat.beq (a&&& b) a
def Ez(cls:Nat->Bool)(done:Nat):List Nat->Nat->Option Nat
 |[],_=>none
 |mk::r,i=>bif !done.testBit i&&(cls i&&within mk done) then some i else Ez cls done r (i+1)
def again(n:Nat)(eff done mask:Nat):Nat->List Nat
 |0=>[]
 |k+1=>bif done.testBit k&&(!eff.testBit k&&!mask.testBit k) then (n+k)::again n eff done mask k else again n eff done mask k
def Jt(done e:Nat):List Nat->Nat->Bool
 |[],_=>true
 |mk::r,i=>(done.testBit i || (Nat.beq i e || mk.testBit e))&&Jt done e r (i+1)
def Me(eff alc done:Nat)(ms:List Nat):Option Nat:=
 match Ez (λi=>!eff.testBit i&&alc.testBit i) done ms 0 with
 |some i=>some i
 |none=>Ez (λi=>!eff.testBit i) done ms 0
def L1(n:Nat)(ms:List Nat)(eff alc:Nat):Nat->Nat->Option (List Nat)
 |0,done=>bif Nat.beq (done+1) (1 <<< n) then some [] else none
 |f+1,done=>match Me eff alc done ms with
  |some i=>(match L1 n ms eff alc f (done ||| (1 <<< i)) with
   |some p=>some (i::bif alc.testBit i then again n eff (done ||| (1 <<< i)) 0 n++p else p)
   |none=>none)
  |none=>match Ez (λi=>eff.testBit i) done ms 0 with
   |some i=>bif Jt done i ms 0 then
     (match L1 n ms eff alc f (done ||| (1 <<< i)) with
     |some p=>some (i::(again n eff done (nth ms i) n++p))
     |none=>none)
    else none
   |none=>none
def CV(c:Op->Bool):List Oper->Nat->Nat
 |[],_=>0
 |o::r,i=>bif c o.op then (1 <<< i) ||| CV c r (i+1) else CV c r (i+1)
def Lr(t:Tmp):Operand->Bool
 |.tmp u=>Nat.beq t u
 |_=>false
def C8(ops:List Oper)(o:Oper)(t:Tmp):Bool:=
 o.op.operands.toList.any (Lr t) ||
 (match o.guard with
 |none=>false
 |some (j,_)=>(match ops[j]? with | some g=>(match g.dst with | some d=>Nat.beq t d | none=>false) | none=>false))
def KV(ops:List Oper)(eff mi:Nat)(i:Nat)(d:Tmp):List Oper->List Nat->Nat->Bool
 |[],_,_=>true
 |o::r,mm,j=>(bif C8 ops o d then
    ((match mm with | x::_=>x.testBit i | []=>false) || (eff.testBit i&&(Nat.beq i j || mi.testBit j))) else true)&&
   ((Nat.beq i j || (match o.dst with | some e=>!Nat.beq d e | none=>true))&&KV ops eff mi i d r mm.tail (j+1))
def Hw(ops:List Oper)(ms:List Nat)(eff:Nat):List Oper->Nat->Bool
 |[],_=>true
 |o::r,i=>(match o.dst with
   |some d=>KV ops eff (nth ms i) i d ops ms 0
   |none=>eff.testBit i)&&
   ((o.after.toList.all λe=>!Region.binds .any e || Nat.blt e.on i)&&Hw ops ms eff r (i+1))
def PJ(P:Program)(c:Bool)(ops:List Oper):Option (List Nat):=
 let ms:=Dv ops [];let eff:=CV (λo=>!(Cj P o || Dg P c o)) ops 0
 bif Hw ops ms eff ops 0 then L1 ops.length ms eff (CV (Dg P c) ops 0) ops.length 0 else none
def NO(P:Program)(ops:List Oper):Option (List Nat):=
 match PJ P false ops with
 |some p=>some p
 |none=>PJ P true ops
def OB(P:Program)(ops:List Oper):Bool:=(PJ P false ops).isNone
inductive TD where
 |row (cs:List Value) (e:TypeId)
 |slice (cs:List Value) (e:TypeId) (len:Nat)
 |map
 |bytes (cs:List Value) (e:TypeId)
section
variable (P:Program) (X:Bt)
def Bn(ρ:Operand->Value):Op->Option TD
 |.alloc e=>(match Dt P e with
  |some z=>bif z.cells.toList.all AK then some (.row z.cells.toList e) else none
  |none=>none)
 |.box e x=>bif (ρ x).cells.toList.all AK then some (.row (ρ x).cells.toList e) else none
 |.makeMap t r=>(match r with
  |none=>some .map
  |some h=>(match D0 P t,ρ h with
   |some _,.int _ _=>some .map
   |_,_=>none))
 |.buildSlice t len parts=>(match BG P t with
  |some e=>(match szT P e with
   |some size=>
    bif Nat.ble (len*size) 16777216&&Nat.blt len room then
     (match Hf P e size len with
     |some zs=>(match ML (λi=>some (i*size,size)) zs (Fq parts.toList ρ) with
      |some cs=>bif cs.all AK then some (.slice cs e len) else none
      |none=>none)
     |none=>none)
    else none
   |none=>none)
  |none=>none)
 |.convert s d x=>(match P.underlying s,P.underlying d,ρ x with
  |some .string,some (.slice e),.string b=>(match P.underlying e,szT P e with
   |some (.int .u8),some 1=>some (.bytes (b.data.toList.map λc=>.int .u8 c.toNat) e)
   |_,_=>none)
  |_,_,_=>none)
 |_=>none
def Eu(w:AW)(b:Nat)(cs:List Value)(e:TypeId):Bool:=
 match w.get b with
 |some (.row ds e' _ _ _)=>Nat.beq e e'&&EF (DT 6) cs ds
 |_=>false
def X0(w:AW)(b:Nat):Bool:=
 match w.get b with
 |some (.row _ _ _ _ ro)=>!ro
 |_=>false
def B4(w:AW)(v:Value):TD->Bool
 |.row cs e=>(match v with
  |.pointer (some a)=>Nat.beq a.off 0&&(a.spot.isNone&&Eu w a.block cs e)
  |_=>false)
 |.slice cs e len=>(match v with
  |.slice (some a) n c=>Nat.beq a.off 0&&(a.spot.isNone&&(Nat.beq n len&&(Nat.beq c len&&Eu w a.block cs e)))
  |_=>false)
 |.map=>(match v with
  |.map (some b)=>(match w.get b with | some (.map [] 0 _)=>true | _=>false)
  |_=>false)
 |.bytes cs e=>(match v with
  |.slice (some a) n c=>Nat.beq a.off 0&&(a.spot.isNone&&(Nat.beq n cs.length&&(Nat.beq c (Bo+cs.length)&&(Eu w a.block cs e&&X0 w a.block))))
  |_=>false)
def Ey(s:ASt)(ops:Array Oper)(i:Nat):Option (FuncId × List Value × AW):=
 match X.known with
 |[]=>none
 |_::_=>(match ops.toList[i]? with
  |some o=>bif Bv ops s.fr.tm o then
    (match Ba P s.fr.eval o s.w with
    |.ok (.enter f args) w=>bif NW f X.known then some (f,args,w) else none
    |_=>none)
   else none
  |none=>none)
def Jj(n:Nat):List Oper->Bool
 |[]=>true
 |o::r=>(match o.dst with | some d=>Nat.blt d n | none=>true)&&Jj n r
def Bs(s:ASt):Em:=
 match s.fr.mode,s.fr.todo with
 |.run,.code (.region _ ops true)::k=>bif Jj s.fr.tm.sz ops.toList then (match NO P ops.toList with
  |some p=>.next { s with fr:={ s.fr with todo:=.inRegion ops p::k,dr:=true } }
  |none=>.fail "no plan") else .fail "no slot"
 |.run,.inRegion ops (i::rest)::k=>
  bif s.fr.dr&&!Nat.blt i ops.toList.length then
   .fail "recheck"
  else (match Ey P X s ops i with
   |some (f,args,w)=>.calls f args ⟨s.fr,s.cs,w⟩
   |none=>EE P s)
 |_,_=>EE P s
end
variable {l id i:Nat} {c a b:Code} {k':List Item} {jump:Option Code} {v:Value} {w':World} {f':Frame} {cs':List Frame} {rest:List Nat}
section
variable {P:Program} {f:Frame} {cs:List Frame} {w:World} {k:List Item}
theorem Ab9(hm:f.mode=.run)(ht:f.todo=.code .skip::k):step P (lone f cs w)=.next (lone { f with todo:=k } cs w):=by
 obtain ⟨fn,tmps,todo,defers,mode,kind,ro⟩:=f;subst hm ht;exact step_lone_go (by simp [stepG,stepG.exec])
theorem Z1(hm:f.mode=.run)(ht:f.todo=.code (.label l)::k):step P (lone f cs w)=.next (lone { f with todo:=k } cs w):=by
 obtain ⟨fn,tmps,todo,defers,mode,kind,ro⟩:=f;subst hm ht;exact step_lone_go (by simp [stepG,stepG.exec])
theorem VP(hm:f.mode=.run)(ht:f.todo=.inBlock l::k):step P (lone f cs w)=.next (lone { f with todo:=k } cs w):=by
 obtain ⟨fn,tmps,todo,defers,mode,kind,ro⟩:=f;subst hm ht;exact step_lone_go (by simp [stepG,stepG.exec])
theorem VO(hm:f.mode=.run)(ht:f.todo=.inScope c::k):step P (lone f cs w)=.next (lone { f with todo:=k } cs w):=by
 obtain ⟨fn,tmps,todo,defers,mode,kind,ro⟩:=f;subst hm ht;exact step_lone_go (by simp [stepG,stepG.exec])
theorem Aek(hm:f.mode=.run)(ht:f.todo=.code (.seq a b)::k):step P (lone f cs w)=.next (lone { f with todo:=.code a:: .code b::k } cs w):=by
 obtain ⟨fn,tmps,todo,defers,mode,kind,ro⟩:=f;subst hm ht;exact step_lone_go (by simp [stepG,stepG.exec])
theorem Acf{c:Operand}{t:Bool}(hm:f.mode=.run)(ht:f.todo=.code (.cond c a b)::k)(hc:f.eval c=.bool t):
  step P (lone f cs w)=.next (lone { f with todo:=.code (if t then a else b)::k } cs w):=by
 obtain ⟨fn,tmps,todo,defers,mode,kind,ro⟩:=f;subst hm ht;exact step_lone_go (by simp [stepG,stepG.exec,hc])
theorem Z2(hm:f.mode=.run)(ht:f.todo=.code (.block id c)::k):step P (lone f cs w)=.next (lone { f with todo:=.code c:: .inBlock id::k } cs w):=by
 obtain ⟨fn,tmps,todo,defers,mode,kind,ro⟩:=f;subst hm ht;exact step_lone_go (by simp [stepG,stepG.exec])
theorem Aca(hm:f.mode=.run)(ht:f.todo=.code (.loop c)::k):step P (lone f cs w)=.next (lone { f with todo:=.code c:: .inLoop c::k } cs w):=by
 obtain ⟨fn,tmps,todo,defers,mode,kind,ro⟩:=f;subst hm ht;exact step_lone_go (by simp [stepG,stepG.exec])
theorem Xy(hm:f.mode=.run)(ht:f.todo=.inLoop c::k):step P (lone f cs w)=.next (lone { f with todo:=.code c:: .inLoop c::k } cs w):=by
 obtain ⟨fn,tmps,todo,defers,mode,kind,ro⟩:=f;subst hm ht;exact step_lone_go (by simp [stepG,stepG.exec])
theorem ZY(hm:f.mode=.run)(ht:f.todo=.code (.scope c)::k):step P (lone f cs w)=.next (lone { f with todo:=.code c:: .inScope c::k } cs w):=by
 obtain ⟨fn,tmps,todo,defers,mode,kind,ro⟩:=f;subst hm ht;exact step_lone_go (by simp [stepG,stepG.exec])
theorem Acd(hm:f.mode=.run)(ht:f.todo=.code (.exit id)::k)(h:exitTo id k=some k'):step P (lone f cs w)=.next (lone { f with todo:=k' } cs w):=by
 obtain ⟨fn,tmps,todo,defers,mode,kind,ro⟩:=f;subst hm ht;exact step_lone_go (by simp [stepG,stepG.exec,h])
theorem Acb(hm:f.mode=.run)(ht:f.todo=.code (.goto l)::k)(h:gotoIn l k=some k'):step P (lone f cs w)=.next (lone { f with todo:=k' } cs w):=by
 obtain ⟨fn,tmps,todo,defers,mode,kind,ro⟩:=f;subst hm ht;exact step_lone_go (by simp [stepG,stepG.exec,h])
theorem Xw{ops:Array Oper}(hm:f.mode=.run)(ht:f.todo=.code (.region id ops false)::k):
  step P (lone f cs w)=.next (lone { f with todo:=.inRegion ops (List.range ops.size)::k } cs w):=by
 obtain ⟨fn,tmps,todo,defers,mode,kind,ro⟩:=f;subst hm ht;exact step_lone_go (by simp [stepG,stepG.exec])
theorem Ace{ops:Array Oper}(hm:f.mode=.run)(ht:f.todo=.code (.region id ops true)::k):
  ∃ t,step P (lone f cs w)=.next (lone { f with todo:=.inRegion ops (Region.schedule (P.follows .mixedOrders) ops t)::k } cs { w with drawn:=w.drawn+1 }):=by
 obtain ⟨fn,tmps,todo,defers,mode,kind,ro⟩:=f;subst hm ht;exact ⟨_,step_lone_go (by simp [stepG,stepG.exec,choose,Sem.run,Question.forced,Question.cut];rfl)⟩
theorem Abo{ops:Array Oper}(hm:f.mode=.run)(ht:f.todo=.inRegion ops []::k):step P (lone f cs w)=.next (lone { f with todo:=k } cs w):=by
 obtain ⟨fn,tmps,todo,defers,mode,kind,ro⟩:=f;subst hm ht;exact step_lone_go (by simp [stepG,stepG.exec])
theorem Z0(hm:f.mode=.run)(hr:f.roundOf=none)(ht:f.todo=[]\/∃ k,f.todo=.code .ret::k):step P (lone f cs w)=.next (lone { f with mode:=.returning } cs w):=by
 obtain ⟨fn,tmps,todo,defers,mode,kind,ro⟩:=f;subst hm hr;rcases ht with ht | ⟨k,ht⟩<;>subst ht<;>exact step_lone_go (by simp [stepG,stepG.exec])
inductive Jump:List Item->Option Code->Prop
 |done:Jump [] none
 |ret (k:List Item):Jump (.code .ret::k) (some .ret)
 |exit (id:Nat) (k:List Item) (h:exitTo id k=none):Jump (.code (.exit id)::k) (some (.exit id))
 |goto (l:Nat) (k:List Item) (h:gotoIn l k=none):Jump (.code (.goto l)::k) (some (.goto l))
theorem ZZ {c:Frame} (hm:f.mode=.run) (hr:f.roundOf=some l) (ht:Jump f.todo jump) (h:(Instr.endRound l jump).run P w=.ok v w')
  (hk:f.kind=.normal):step P (lone f (c::cs) w)=.next (lone (c.finish v) cs w'):=by
 obtain ⟨fn,tmps,todo,defers,mode,kind,ro⟩:=f;subst hm hr;simp only at hk ht;subst hk;cases ht with
 |done=>exact step_lone_go (by simp [stepG,stepG.exec,h,doReturn])
 |ret k=>exact step_lone_go (by simp [stepG,stepG.exec,h,doReturn])
 |exit id k hh=>exact step_lone_go (by simp [stepG,stepG.exec,h,hh,doReturn])
 |goto l' k hh=>exact step_lone_go (by simp [stepG,stepG.exec,h,hh,doReturn])
theorem TL(hm:f.mode=.run)(ht:f.todo=.endRangeFunc l::k)(h:(Instr.endLoop l).run P w=.ok jump w'):
  step P (lone f cs w)=.next (lone { f with todo:=(jump.map Item.code).toList++k } cs w'):=by
 obtain ⟨fn,tmps,todo,defers,mode,kind,ro⟩:=f;subst hm ht;exact step_lone_go (by simp [stepG,stepG.exec,h])
def answer(P:Program)(f:Frame)(cs:List Frame):Result Next->Option (Frame × List Frame × World)
 |.ok (.value v) w=>some (f.finish v,cs,w)
 |.ok .skip w=>some (f.finish undef,cs,w)
 |.ok (.enter g args) w=>some (Frame.enter P g args .normal,f::cs,w)
 |.ok (.round l g tmps assign body) w=>some (Frame.round l g tmps assign body .normal,f::cs,w)
 |_=>none
def IY:List Item->Prop
 |.call .. ::_=>False
 |.extern .. ::_=>False
 |_=>True
theorem KM{s:Sem Next}(hn:IY f.todo)(h:answer P f cs (s.run P w)=some (f',cs',w')):
  (stepG.apply P true f cs none s w).bare=.go { frame:=f',callers:=cs',status:=.running,dying:=none } w':=by
 have hk:(match f.todo with | .call _ true _ _::_=>CallKind.wrapped | _=>CallKind.normal)=.normal:=by
  cases hq:f.todo with
  |nil=>rfl
  |cons x r=>
   rw [hq] at hn;cases x<;>first | rfl | exact hn.elim
 cases hr:s.run P w with
 |ok n w1=>
  rw [hr] at h;cases n<;>simp only [answer] at h<;>try (cases h;done)
  case value v=>cases h;simp [stepG.apply,hr]
  case skip=>cases h;simp [stepG.apply,hr]
  case enter g args=>cases h;simp only [stepG.apply,hr,Sem.runT_eq,GStep.bare_after];simp;exact congrArg (Frame.enter P g args) hk
  case round l g tmps a b=>cases h;simp [stepG.apply,hr]
 |_=>rw [hr] at h;cases h
theorem Xx {ops:Array Oper} {o:Oper} (hm:f.mode=.run) (ht:f.todo=.inRegion ops (i::rest)::k) (ho:ops[i]? =some o)
  (hw:Region.wanted o (yielded ops f.tmps)=true) (hd:∀ c,o.op≠ .defer c)
  (h:answer P f cs ((execOp f.eval o).run P w)=some (f',cs',w')):step P (lone f cs w)=.next (lone f' cs' w'):=by
 refine step_lone_go ?_;rw [<- KM (by rw [ht];trivial) h];obtain ⟨fn,tmps,todo,defers,mode,kind,ro⟩:=f;simp only at hm ht hw hd;subst hm ht;simp only [stepG,stepG.exec,ho,Option.map_some,Option.getD_some,hw,if_true,stepG.oper,Frame.oper?];obtain ⟨dst,op,type,pos,after,guard⟩:=o;cases op<;>first | rfl | (cases ro<;>rfl) | exact absurd rfl (hd _)
theorem Np {ops:Array Oper} {o:Oper} (hm:f.mode=.run) (ht:f.todo=.inRegion ops (i::rest)::k) (ho:ops[i]? =some o)
  (hw:Region.wanted o (yielded ops f.tmps)=false):step P (lone f cs w)=.next (lone (f.finish undef) cs w):=by
 obtain ⟨fn,tmps,todo,defers,mode,kind,ro⟩:=f;simp only at hm ht hw;subst hm ht;exact step_lone_go (by simp [stepG,stepG.exec,ho,hw])
theorem Qm(hm:f.mode=.run)(hr:f.roundOf=some l)(ht:f.todo=.beginRound::k)(h:(Instr.beginRound l).run P w=.ok () w'):
  step P (lone f cs w)=.next (lone (f.finish undef) cs w'):=by
 obtain ⟨fn,tmps,todo,defers,mode,kind,ro⟩:=f;subst hm hr ht;have hrun:(do Instr.beginRound l;pure Next.skip:Sem Next).run P w=.ok .skip w':=by simp only [Sem.run_bind,h,Result.andThen_ok,Sem.run_pure]
 refine step_lone_go ?_;rw [<- KM (P:=P) (f:={ fn,tmps,todo:=.beginRound::k,defers,mode:=.run,kind,roundOf:=some l }) (cs:=cs) (w:=w) (s:=(do Instr.beginRound l;pure Next.skip:Sem Next)) trivial (by rw [hrun];rfl)];simp only [stepG,stepG.exec];rfl
theorem RC {g:Operand} {ps:Array Tmp} {assign body:Code} {mark:List Deferred} {w1:World} {f':Frame} {cs':List Frame} {w':World} {s:Sem Next} (hm:f.mode=.run)
  (ht:f.todo=.code (.rangeFunc g ps assign body)::k) (h:(Instr.enterLoop f.fn f.tmps ps assign body f.roundOf).run P w=.ok (l,mark) w1)
  (hs:(do let d <- resolve ({ f with todo:=.inRangeFunc l::k,defers:=mark++f.defers }:Frame).eval { callee:=.value g,args:=#[.const (.func (.yield l) #[] #[])],argTypes:=#[] } 0;invoke d.target d.args)=s)
  (ha:answer P { f with todo:=.inRangeFunc l::k,defers:=mark++f.defers } cs (s.run P w1)=some (f',cs',w')):step P (lone f cs w)=.next (lone f' cs' w'):=by
 refine step_lone_go ?_;rw [<- KM (f:={ f with todo:=.inRangeFunc l::k,defers:=mark++f.defers }) trivial ha];obtain ⟨fn,tmps,todo,defers,mode,kind,ro⟩:=f;simp only at hm ht h hs;subst hm ht;rw [<- hs];simp [stepG,stepG.exec,h]
theorem RD{b:Nat}{args:Array Value}{ds calls:List Deferred}{w':World}(hm:f.mode=.returning)(hd:f.defers={ target:=.collected b,args }::ds)(h:(Instr.takeDeferred b).run P w=.ok calls w'):
  step P (lone f cs w)=.next (lone { f with defers:=calls++ds } cs w'):=by
 obtain ⟨fn,tmps,todo,defers,mode,kind,ro⟩:=f;simp only at hm hd;subst hd hm;exact step_lone_go (by simp [stepG,unwind,h])
theorem Xv{fn:Func}{c:Frame}(hm:f.mode=.returning)(hd:f.defers=[])(hf:P.funcs[f.fn]? =some fn)(h:(results fn f.tmps).run P w=.ok v w')(hk:f.kind=.normal):
  step P (lone f (c::cs) w)=.next (lone (c.finish v) cs w'):=by
 obtain ⟨fn,tmps,todo,defers,mode,kind,ro⟩:=f;simp only at hm hd hf h hk;subst hm hd hk;exact step_lone_go (by simp [stepG,unwind,hf,h,doReturn])
end
variable {i eff alc:Nat} {p:List Nat} {listed:Array Bool}
theorem Qt(i k:Nat):(1 <<< i).testBit k=decide (k=i):=by
 rw [Nat.one_shiftLeft,Nat.testBit_two_pow];simp [eq_comm]
theorem NP(c i k:Nat):(c ||| (1 <<< i)).testBit k=(c.testBit k || decide (k=i)):=by
 rw [Nat.testBit_or,Qt]
theorem IH{a b:Nat}(h:within a b=true)(k:Nat)(hk:a.testBit k=true):b.testBit k=true:=by
 unfold within at h;have h:=Nb h
 have:(a&&& b).testBit k=true:=by rw [h];exact hk
 rw [Nat.testBit_and] at this;simp at this;exact this.2
theorem Hm(acc:List Nat)(k:Nat):∀ es:List Edge,(FW acc es).testBit k=true↔∃ e∈es,Region.binds .any e=true/\(k=e.on\/(nth acc e.on).testBit k=true)
 |[]=>by simp [FW]
 |e::r=>by
  unfold FW;cases hb:Region.binds .any e with
  |true=>
   simp only [Ct,Nat.testBit_or,Qt,Bool.or_eq_true,decide_eq_true_eq,Hm acc k r,Mk,exists_eq_or_imp,hb,true_and];constructor
   ·rintro (h | h | h)
    ·exact .inl (.inl h)
    ·exact .inl (.inr h)
    ·exact .inr h
   ·rintro ((h | h) | h)
    ·exact .inl h
    ·exact .inr (.inl h)
    ·exact .inr (.inr h)
  |false=>
   simp only [Cf,Hm acc k r,Mk,exists_eq_or_imp,hb,Bool.false_eq_true,false_and,false_or]
theorem T9(a b:List Nat):∀ i,i<a.length->nth (a++b) i=nth a i:=by
 induction a with
 |nil=>intro i h;simp at h
 |cons x r ih=>
  intro i h;cases i with
  |zero=>rfl
  |succ i=>simp at h;exact ih i h
theorem O2(a:List Nat)(x:Nat):nth (a++[x]) a.length=x:=by
 induction a with
 |nil=>rfl
 |cons y r ih=>exact ih
theorem L7:∀ (l:List Oper) (acc:List Nat) (i:Nat),i<acc.length->nth (Dv l acc) i=nth acc i
 |[],_,_,_=>rfl
 |o::r,acc,i,h=>by
  unfold Dv;rw [L7 r _ i (by simp;omega),T9 _ _ _ h]
theorem PS:∀ (l:List Oper) (acc:List Nat) (i:Nat) (o:Oper),l[i]? =some o->
  ∃ acc',acc'.length=acc.length+i/\nth (Dv l acc) (acc.length+i)=FW acc' o.after.toList/\∀ k,k<acc.length+i->nth acc' k=nth (Dv l acc) k
 |[],_,_,_,h=>by simp at h
 |o::r,acc,0,o',h=>by
  simp at h;subst h;refine ⟨acc,rfl,?_,λk hk=>(L7 _ _ _ (by omega)).symm⟩;unfold Dv;rw [Nat.add_zero,L7 r _ _ (by simp),O2]
 |o::r,acc,i+1,o',h=>by
  simp at h;obtain ⟨acc',h1,h2,h3⟩:=PS r (acc++[FW acc o.after.toList]) i o' h;simp only [Lq,Lc,Ln,Nat.zero_add] at h1 h2 h3;refine ⟨acc',by omega,?_,λk hk=>?_⟩
  ·rw [<- h2];unfold Dv;rw [show acc.length+(i+1)=acc.length+1+i by omega];cases r<;>rfl
  ·rw [h3 k (by omega)];cases r<;>rfl
def anc(ops:List Oper)(k i:Nat):Prop:=(nth (Dv ops []) i).testBit k=true
theorem Ti{ops:List Oper}{o:Oper}(ho:ops[i]? =some o)(he:∀ e∈o.after.toList,Region.binds .any e=true->e.on<i)(k:Nat):
  anc ops k i↔∃ e∈o.after.toList,Region.binds .any e=true/\(k=e.on\/anc ops k e.on):=by
 obtain ⟨acc',h1,h2,h3⟩:=PS ops [] i o ho;simp only [Ln,Nat.zero_add] at h1 h2 h3;unfold anc;rw [h2,Hm];constructor
 ·rintro ⟨e,hm,hb,h⟩;exact ⟨e,hm,hb,h.imp id λh=>by rw [<- h3 _ (he e hm hb)];exact h⟩
 ·rintro ⟨e,hm,hb,h⟩;exact ⟨e,hm,hb,h.imp id λh=>by rw [h3 _ (he e hm hb)];exact h⟩
def Aba(ops:List Oper):Prop:=∀ (i:Nat) (o:Oper),ops[i]? =some o->∀ e∈o.after.toList,Region.binds .any e=true->e.on<i
theorem Zt{ops:List Oper}(hb:Aba ops):∀ (i k:Nat),i<ops.length->anc ops k i->k<i:=by
 intro i
 induction i using Nat.strongRecOn with
 |ind i ih=>
  intro k hi h;obtain ⟨o,ho⟩:∃ o,ops[i]? =some o:=⟨_,Ge hi⟩;obtain ⟨e,hm,hbi,h⟩:=(Ti ho (hb i o ho) k).1 h
  have:=hb i o ho e hm hbi
  rcases h with h | h
  ·omega
  ·have:=ih e.on this k (by omega) h
   omega
theorem E8(c:Op->Bool)(k:Nat):∀ (l:List Oper) (i:Nat),(CV c l i).testBit k=true↔∃ o,i<=k/\l[k-i]? =some o/\c o.op=true
 |[],i=>by simp [CV]
 |o::r,i=>by
  have key:(∃ o',i<=k/\(o::r)[k-i]? =some o'/\c o'.op=true)↔((k=i/\c o.op=true)\/∃ o',i+1<=k/\r[k-(i+1)]? =some o'/\c o'.op=true):=by
   constructor
   ·rintro ⟨o',h1,h2,h3⟩;by_cases e:k=i
    ·subst e;simp at h2;subst h2;exact .inl ⟨rfl,h3⟩
    ·rw [show k-i=(k-(i+1))+1 by omega] at h2;exact .inr ⟨o',by omega,by simpa using h2,h3⟩
   ·rintro (⟨rfl,h⟩ | ⟨o',h1,h2,h3⟩)
    ·exact ⟨o,Nl _,by simp,h⟩
    ·refine ⟨o',by omega,?_,h3⟩;rw [show k-i=(k-(i+1))+1 by omega]
     simpa using h2
  rw [key];unfold CV;cases hc:c o.op with
  |true=>simp only [Ct,Nat.testBit_or,Qt,Bool.or_eq_true,decide_eq_true_eq,E8 c k r (i+1),and_true]
  |false=>simp only [Cf,E8 c k r (i+1),Bool.false_eq_true,and_false,false_or]
theorem Ep(cls:Nat->Bool)(done:Nat):∀ (ms:List Nat) (i j:Nat),Ez cls done ms i=some j->i<=j/\j-i<ms.length/\done.testBit j=false/\cls j=true/\within (nth ms (j-i)) done=true
 |[],i,j,h=>by simp [Ez] at h
 |mk::r,i,j,h=>by
  unfold Ez at h;cases hc:(!done.testBit i&&(cls i&&within mk done)) with
  |true=>
   rw [hc] at h;simp only [Ct,Oi] at h;subst h;simp only [Bq,Bool.not_eq_true'] at hc;exact ⟨Nl _,by simp,hc.1,hc.2.1,by simpa [nth] using hc.2.2⟩
  |false=>
   rw [hc] at h;simp only [Cf] at h;obtain ⟨h1,h2,h3,h4,h5⟩:=Ep cls done r (i+1) j h;refine ⟨by omega,by simp;omega,h3,h4,?_⟩;rw [show j-i=(j-(i+1))+1 by omega];exact h5
theorem Of{done:Nat}{ms:List Nat}{j:Nat}(h:Me eff alc done ms=some j):0<=j/\j-0<ms.length/\done.testBit j=false/\(!eff.testBit j)=true/\within (nth ms (j-0)) done=true:=by
 unfold Me at h;split at h
 ·rename_i i hi;cases h;obtain ⟨h1,h2,h3,h4,h5⟩:=Ep _ _ _ _ _ hi;simp only [Bq] at h4;exact ⟨h1,h2,h3,h4.1,h5⟩
 ·exact Ep _ _ _ _ _ h
theorem HS(n eff done mask:Nat):∀ (N x:Nat),x∈again n eff done mask N↔∃ k,k<N/\x=n+k/\done.testBit k=true/\eff.testBit k=false/\mask.testBit k=false
 |0,x=>by simp [again]
 |N+1,x=>by
  have key:(∃ k,k<N+1/\x=n+k/\done.testBit k=true/\eff.testBit k=false/\mask.testBit k=false)↔
    ((x=n+N/\done.testBit N=true/\eff.testBit N=false/\mask.testBit N=false)\/∃ k,k<N/\x=n+k/\done.testBit k=true/\eff.testBit k=false/\mask.testBit k=false):=by
   constructor
   ·rintro ⟨k,h1,h2⟩;by_cases e:k=N
    ·subst e;exact .inl h2
    ·exact .inr ⟨k,by omega,h2⟩
   ·rintro (h | ⟨k,h1,h2⟩)
    ·exact ⟨N,by omega,h⟩
    ·exact ⟨k,by omega,h2⟩
  rw [key];unfold again;cases h1:done.testBit N<;>cases h2:eff.testBit N<;>cases h3:mask.testBit N<;>simp [HS n eff done mask N x]
theorem Kf(done e:Nat):∀ (ms:List Nat) (i:Nat),Jt done e ms i=true->∀ k,k<ms.length->done.testBit (i+k)=true\/i+k=e\/(nth ms k).testBit e=true
 |[],_,_,k,hk=>by simp at hk
 |mk::r,i,h,k,hk=>by
  simp only [Jt,Bq,Bool.or_eq_true] at h;cases k with
  |zero=>
   rcases h.1 with h | h | h
   ·exact .inl h
   ·exact .inr (.inl (Nb h))
   ·exact .inr (.inr h)
  |succ k=>
   have:=Kf done e r (i+1) h.2 k (by simpa using hk)
   rw [show i+1+k=i+(k+1) by omega] at this;exact this
theorem Ik:∀ (l:List Oper) (acc:List Nat),(Dv l acc).length=acc.length+l.length
 |[],acc=>by simp [Dv]
 |o::r,acc=>by unfold Dv;rw [Ik];simp;omega
inductive FD (ops:List Oper) (eff alc:Nat):Nat->List Nat->Prop
 |stop (C:Nat) (h:∀ i,i<ops.length->C.testBit i=true):FD ops eff alc C []
 |pure (C x:Nat) (p:List Nat) (hx:x<ops.length) (he:eff.testBit x=false) (ha:alc.testBit x=false) (hc:C.testBit x=false) (hm:∀ k,anc ops k x->C.testBit k=true)
   (hp:FD ops eff alc (C ||| (1 <<< x)) p):FD ops eff alc C (x::p)
 |alloc (C x:Nat) (p:List Nat) (hx:x<ops.length) (he:eff.testBit x=false) (ha:alc.testBit x=true) (hc:C.testBit x=false) (hm:∀ k,anc ops k x->C.testBit k=true)
   (hp:FD ops eff alc (C ||| (1 <<< x)) p):FD ops eff alc C (x::(again ops.length eff (C ||| (1 <<< x)) 0 ops.length++p))
 |effect (C x:Nat) (p:List Nat) (hx:x<ops.length) (he:eff.testBit x=true) (hc:C.testBit x=false) (hm:∀ k,anc ops k x->C.testBit k=true)
   (hall:∀ i,i<ops.length->C.testBit i=true\/i=x\/anc ops x i) (hp:FD ops eff alc (C ||| (1 <<< x)) p):FD ops eff alc C (x::(again ops.length eff C (nth (Dv ops []) x) ops.length++p))
theorem Sc{ops:List Oper}:∀ (f C:Nat) (p:List Nat),L1 ops.length (Dv ops []) eff alc f C=some p->FD ops eff alc C p:=by
 intro f;have hlen:(Dv ops []).length=ops.length:=by simp [Ik]
 induction f with
 |zero=>
  intro C p h;unfold L1 at h;cases hb:Nat.beq (C+1) (1 <<< ops.length) with
  |false=>rw [hb] at h;cases h
  |true=>
   rw [hb] at h;simp only [Ct,Oi] at h;subst h;have hb:=Nb hb;rw [Nat.one_shiftLeft] at hb;have hC:C=2^ops.length-1:=by omega
   refine .stop _ λi hi=>?_;rw [hC,Nat.testBit_two_pow_sub_one]
   simpa using hi
 |succ f ih=>
  intro C p h;unfold L1 at h;split at h
  ·rename_i i hi;obtain ⟨_,h2,h3,h4,h5⟩:=Of hi;simp only [Nat.sub_zero] at h2 h5;rw [hlen] at h2;have he:eff.testBit i=false:=by simpa using h4
   split at h
   ·rename_i p' hp';simp only [Oi] at h;subst h;cases ha:alc.testBit i with
    |true=>
     simp only [Ct];exact .alloc _ i p' h2 he ha h3 (λk hk=>IH h5 k hk) (ih _ _ hp')
    |false=>
     simp only [Cf];exact .pure _ i p' h2 he ha h3 (λk hk=>IH h5 k hk) (ih _ _ hp')
   ·cases h
  ·split at h
   ·rename_i i hi;obtain ⟨_,h2,h3,h4,h5⟩:=Ep _ _ _ _ _ hi;simp only [Nat.sub_zero] at h2 h5;rw [hlen] at h2;cases hal:Jt C i (Dv ops []) 0 with
    |false=>rw [hal] at h;cases h
    |true=>
     rw [hal] at h;simp only [Ct] at h;split at h
     ·rename_i p' hp';simp only [Oi] at h;subst h;refine .effect _ i p' h2 h4 h3 (λk hk=>IH h5 k hk) (λk hk=>?_) (ih _ _ hp')
      have:=Kf C i _ 0 hal k (by rw [hlen];exact hk)
      rw [Nat.zero_add] at this;exact this
     ·cases h
   ·cases h
theorem Ia{ops:List Oper}{eff mi i d:Nat}:∀ (l:List Oper) (mm:List Nat) (j0:Nat),KV ops eff mi i d l mm j0=true->mm.length=l.length->∀ j o,l[j]? =some o->
  (C8 ops o d=true->(nth mm j).testBit i=true\/(eff.testBit i=true/\(i=j0+j\/mi.testBit (j0+j)=true)))/\(i=j0+j\/o.dst≠some d)
 |[],_,_,_,_,j,o,h=>by simp at h
 |x::r,mm,j0,hs,hl,j,o,h=>by
  cases mm with
  |nil=>simp at hl
  |cons m1 mr=>
   simp only [KV,Bq,List.tail_cons] at hs;cases j with
   |zero=>
    simp at h;subst h;refine ⟨λhl=>?_,?_⟩
    ·have h1:=hs.1;rw [hl] at h1;simp only [Ct,Bool.or_eq_true,Bq] at h1;rcases h1 with h1 | ⟨h1,h2 | h2⟩
     ·exact .inl h1
     ·exact .inr ⟨h1,.inl (Nb h2)⟩
     ·exact .inr ⟨h1,.inr h2⟩
    ·have h2:=hs.2.1;simp only [Bool.or_eq_true] at h2;rcases h2 with h2 | h2
     ·exact .inl (Nb h2)
     ·refine .inr λhd=>?_;rw [hd] at h2;simp at h2
   |succ j=>
    have:=Ia r mr (j0+1) hs.2.2 (by simpa using hl) j o (by simpa using h)
    rw [show j0+1+j=j0+(j+1) by omega] at this;exact this
structure Ng (ops:List Oper) (eff:Nat):Prop where
 dst:∀ (i:Nat) (o:Oper),ops[i]? =some o->o.dst=none->eff.testBit i=true
 looks:∀ (i:Nat) (o:Oper) (d:Tmp),ops[i]? =some o->o.dst=some d->∀ (j:Nat) (o':Oper),ops[j]? =some o'->C8 ops o' d=true->anc ops i j\/(eff.testBit i=true/\(i=j\/anc ops j i))
 once:∀ (i:Nat) (o:Oper) (d:Tmp),ops[i]? =some o->o.dst=some d->∀ (j:Nat) (o':Oper),ops[j]? =some o'->o'.dst=some d->i=j
 back:Aba ops
theorem Ed{ops:List Oper}{eff:Nat}:∀ (l:List Oper) (i0:Nat),Hw ops (Dv ops []) eff l i0=true->∀ i o,l[i]? =some o->
  (o.dst=none->eff.testBit (i0+i)=true)/\(∀ d,o.dst=some d->KV ops eff (nth (Dv ops []) (i0+i)) (i0+i) d ops (Dv ops []) 0=true)/\
  (∀ e∈o.after.toList,Region.binds .any e=true->e.on<i0+i)
 |[],_,_,i,o,h=>by simp at h
 |x::r,i0,hs,i,o,h=>by
  simp only [Hw,Bq] at hs;obtain ⟨h1,h2,h3⟩:=hs;cases i with
  |zero=>
   simp at h;subst h;refine ⟨λhd=>?_,λd hd=>?_,λe he hb=>?_⟩
   ·rw [hd] at h1;exact h1
   ·rw [hd] at h1;exact h1
   ·have:=List.all_eq_true.1 h2 e he
    rw [hb] at this;simp at this;omega
  |succ i=>
   have:=Ed r (i0+1) h3 i o (by simpa using h)
   rw [show i0+1+i=i0+(i+1) by omega] at this;exact this
theorem TQ{ops:List Oper}(h:Hw ops (Dv ops []) eff ops 0=true):Ng ops eff:=by
 have hlen:(Dv ops []).length=ops.length:=by simp [Ik]
 refine ⟨λi o ho hd=>?_,λi o d ho hd j o' ho' hl=>?_,λi o d ho hd j o' ho' hd'=>?_,λi o ho e he hb=>?_⟩
 ·simpa using (Ed ops 0 h i o ho).1 hd
 ·have:=(Ed ops 0 h i o ho).2.1 d hd
  rw [Nat.zero_add] at this
  have:=(Ia ops _ 0 this hlen j o' ho').1 hl
  rw [Nat.zero_add] at this;exact this
 ·have:=(Ed ops 0 h i o ho).2.1 d hd
  rw [Nat.zero_add] at this
  have:=(Ia ops _ 0 this hlen j o' ho').2
  rw [Nat.zero_add] at this;exact this.resolve_right λh=>h hd'
 ·simpa using (Ed ops 0 h i o ho).2.2 e he hb
def De(P:Program)(ops:List Oper):Nat:=CV (λo=>!(Cj P o || Dg P (OB P ops) o)) ops 0
def OP(P:Program)(ops:List Oper):Nat:=CV (Dg P (OB P ops)) ops 0
theorem NM{P:Program}{c:Bool}{ops:List Oper}(h:PJ P c ops=some p):Ng ops (CV (λo=>!(Cj P o || Dg P c o)) ops 0)/\FD ops (CV (λo=>!(Cj P o || Dg P c o)) ops 0) (CV (Dg P c) ops 0) 0 p:=by
 unfold PJ at h;simp only at h;cases hs:Hw ops (Dv ops []) (CV (λo=>!(Cj P o || Dg P c o)) ops 0) ops 0 with
 |false=>rw [hs] at h;cases h
 |true=>
  rw [hs] at h;simp only [Ct] at h;exact ⟨TQ hs,Sc _ _ _ h⟩
theorem NN{P:Program}{ops:List Oper}(h:NO P ops=some p):Ng ops (De P ops)/\FD ops (De P ops) (OP P ops) 0 p:=by
 unfold NO at h;unfold De OP OB;cases hp:PJ P false ops with
 |some q=>
  rw [hp] at h;simp only [Oi] at h;subst h;exact NM hp
 |none=>
  rw [hp] at h;exact NM h
def Lin(ops:List Oper):(Nat->Prop)->List Nat->Prop
 |S,[]=>∀ i,i<ops.length->S i
 |S,i::r=>i<ops.length/\¬ S i/\(∀ k,anc ops k i->S k)/\Lin ops (λk=>S k\/k=i) r
theorem Lin.congr{ops:List Oper}:∀ {l:List Nat} {S T:Nat->Prop},(∀ k,S k↔T k)->Lin ops S l->Lin ops T l
 |[],S,T,h,hl=>λi hi=>(h i).1 (hl i hi)
 |i::r,S,T,h,⟨h1,h2,h3,h4⟩=>⟨h1,λht=>h2 ((h i).2 ht),λk hk=>(h k).1 (h3 k hk),Lin.congr (λk=>by rw [h k]) h4⟩
def isDone(listed:Array Bool)(k:Nat):Prop:=listed.getD k false=true
theorem Un(hi:i<listed.size)(k:Nat):isDone (listed.setIfInBounds i true) k↔(isDone listed k\/k=i):=by
 unfold isDone;simp only [Array.getD_eq_getD_getElem?,Array.getElem?_setIfInBounds];by_cases e:i=k
 ·subst e;simp [hi]
 ·simp [e,Ne.symm e]
theorem mem_ready{ops:Array Oper}(hs:listed.size=ops.size)(h:i∈Region.ready .any ops listed):
  i<ops.size/\¬ isDone listed i/\∃ o,ops[i]? =some o/\∀ e∈o.after.toList,Region.binds .any e=true->isDone listed e.on:=by
 unfold Region.ready at h;simp only [List.mem_filter,List.mem_range,Bq,Bool.not_eq_true'] at h;obtain ⟨hi,h1,h2⟩:=h;refine ⟨hi,?_,ops[i],by simp [hi],λe he hb=>?_⟩
 ·unfold isDone;simp only [Array.getD_eq_getD_getElem?,Array.getElem?_eq_getElem (hs▸hi),Option.getD_some] at h1 ⊢;simp [h1]
 ·simp only [Array.getElem?_eq_getElem hi,Option.map_some,Option.getD_some] at h2;rw [Array.all_eq_true'] at h2
  have:=h2 e (by simpa using he)
  rw [hb] at this
  simpa [isDone] using this
theorem X4{ops:Array Oper}(hs:listed.size=ops.size){o:Oper}(ho:ops[i]? =some o)(hn:¬ isDone listed i)(he:∀ e∈o.after.toList,Region.binds .any e=true->isDone listed e.on):
  i∈Region.ready .any ops listed:=by
 have hi:i<ops.size:=by
  rcases Nat.lt_or_ge i ops.size with h | h
  ·exact h
  ·rw [Array.getElem?_eq_none h] at ho;cases ho
 unfold Region.ready;simp only [List.mem_filter,List.mem_range,Bq,Bool.not_eq_true'];refine ⟨hi,?_,?_⟩
 ·unfold isDone at hn;simp only [Array.getD_eq_getD_getElem?,Array.getElem?_eq_getElem (hs▸hi),Option.getD_some] at hn ⊢
  simpa using hn
 ·simp only [ho,Option.map_some,Option.getD_some];rw [Array.all_eq_true'];intro e hm;cases hb:Region.binds .any e with
  |false=>rfl
  |true=>simpa [isDone] using he e (by simpa using hm) hb
theorem AcS{ops:Array Oper}(hb:Aba ops.toList):∀ (fuel t:Nat) (listed:Array Bool),listed.size=ops.size->(∀ i,isDone listed i->∀ k,anc ops.toList k i->isDone listed k)->
  ops.size<=listed.toList.count true+fuel->Lin ops.toList (isDone listed) (Region.linearise.go .any ops fuel t listed []):=by
 intro fuel
 induction fuel with
 |zero=>
  intro t listed hs hcl hcount;simp only [Region.linearise.go,List.reverse_nil];intro i hi;have h1:listed.toList.count true<=listed.toList.length:=List.count_le_length;have h4:listed.toList.length=ops.size:=by simpa using hs
  have h2:listed.toList.count true=listed.toList.length:=by omega
  have h3:=List.count_eq_length.1 h2;unfold isDone;have hi':i<listed.size:=by rw [hs];simpa using hi
  simp only [Array.getD_eq_getD_getElem?,Array.getElem?_eq_getElem hi',Option.getD_some];exact (h3 _ (by simp)).symm
 |succ fuel ih=>
  intro t listed hs hcl hcount;have hgo:Region.linearise.go .any ops (fuel+1) t listed []=(match (Region.ready .any ops listed)[t%(Region.ready .any ops listed).length]? with
   |some i=>Region.linearise.go .any ops fuel (t/(Region.ready .any ops listed).length) (listed.setIfInBounds i true) [i]
   |none=>[].reverse):=by rfl
  rw [hgo];cases hi:(Region.ready .any ops listed)[t%(Region.ready .any ops listed).length]? with
  |none=>
   have hnil:Region.ready .any ops listed=[]:=by
    cases hr:Region.ready .any ops listed with
    |nil=>rfl
    |cons x xs=>
     rw [hr] at hi;have hlt:t%(x::xs).length<(x::xs).length:=Nat.mod_lt _ (by simp);simp at hi;simp at hlt;omega
   simp only [List.reverse_nil];intro i hi
   induction i using Nat.strongRecOn with
   |ind i ih2=>
    obtain ⟨o,ho⟩:∃ o,ops.toList[i]? =some o:=⟨_,Ge hi⟩;by_cases hd:isDone listed i
    ·exact hd
    ·have:=X4 hs (i:=i) (o:=o) (by simpa using ho) hd λe he hbe=>ih2 e.on (hb i o ho e he hbe) (by have:=hb i o ho e he hbe;omega)
     rw [hnil] at this;cases this
  |some i=>
   simp only;obtain ⟨h1,h2,o,h3,h4⟩:=mem_ready hs (List.mem_of_getElem? hi);rw [linearise_go_acc,List.reverse_singleton,List.singleton_append];have ho:ops.toList[i]? =some o:=by simpa using h3
   have hanc:∀ k,anc ops.toList k i->isDone listed k:=by
    intro k hk;obtain ⟨e,he,hbe,h⟩:=(Ti ho (hb i o ho) k).1 hk;rcases h with h | h
    ·rw [h];exact h4 e he hbe
    ·exact hcl _ (h4 e he hbe) k h
   refine ⟨by simpa using h1,h2,hanc,?_⟩;have hset:=Un (listed:=listed) (i:=i) (by omega);refine Lin.congr hset (ih _ _ (by simpa using hs) (λj hj k hk=>?_) ?_)
   ·rw [hset] at hj ⊢;rcases hj with hj | rfl
    ·exact .inl (hcl j hj k hk)
    ·exact .inl (hanc k hk)
   ·have hi':i<listed.toList.length:=by simp;omega
    have hf:listed.toList[i]=false:=by
     unfold isDone at h2;simp only [Array.getD_eq_getD_getElem?,Array.getElem?_eq_getElem (show i<listed.size by omega),Option.getD_some] at h2
     simpa using h2
    rw [Array.toList_setIfInBounds,List.count_set hi',hf];show ops.size<=listed.toList.count true-0+1+fuel;omega
theorem AcR{ops:Array Oper}(hb:Aba ops.toList)(t:Nat):Lin ops.toList (λ_=>False) (Region.linearise .any ops t):=by
 refine Lin.congr (λk=>?_) (AcS hb ops.size t (Array.replicate ops.size false) (by simp) (λi hi=>?_) (by omega))
 ·unfold isDone;simp [Array.getElem?_replicate];split<;>simp
 ·exfalso;unfold isDone at hi;simp [Array.getElem?_replicate] at hi;split at hi<;>simp at hi
variable {tmps:Array Value} {j:Nat} {A A':AW}
section
variable {P:Program}
def GOk(m:Inj P):Prop:=∀ g,g<P.globals.size->m g=some (g,0)
theorem GOk.mono{m m':Inj P}(h:m.le m')(g:GOk m):GOk m':=λi hi=>h.map _ _ (g i hi)
def BZ(tm:Tm):Operand->Value
 |.tmp t=>tm.get t
 |.const v=>v
 |.global g=>.pointer (some ⟨g,0,none⟩)
 |.func f=>.func (.func f) #[] #[]
def evalW(tmps:Array Value):Operand->Value
 |.tmp t=>tmps.getD t undef
 |.const v=>v
 |.global g=>.pointer (some ⟨g,0,none⟩)
 |.func f=>.func (.func f) #[] #[]
theorem CY(fr:AFr):fr.eval=BZ fr.tm:=by funext x;cases x<;>rfl
theorem D1(f:Frame):f.eval=evalW f.tmps:=by funext x;cases x<;>rfl
theorem Fm(m:Inj P):AM m undef undef:=.tuple .nil
theorem JM{m:Inj P}(hG:GOk m){tm:Tm}{x:Operand}(hok:JC P x=true)(h:∀ t,x=.tmp t->AM m (tm.get t) (tmps.getD t undef)):AM m (BZ tm x) (evalW tmps x):=by
 cases x with
 |tmp t=>exact h t rfl
 |const v=>exact Cb 4 v hok
 |global g=>exact .ptr ⟨rfl,rfl,0,hG g (AA.1 hok),rfl⟩
 |func f=>exact .func (.inl ⟨rfl,λl h=>by cases h⟩) .nil .nil
theorem Rw{m:Inj P}{ops:Array Oper}{tm:Tm}(h:∀ o d,ops.toList[j]? =some o->o.dst=some d->AM m (tm.get d) (tmps.getD d undef)):
  yielded ops tmps j=EP ops tm j:=by
 unfold yielded EP;cases ho:ops[j]? with
 |none=>
  have:ops.toList[j]? =none:=by simpa using ho
  rw [this];rfl
 |some o=>
  have ho':ops.toList[j]? =some o:=by simpa using ho
  rw [ho'];simp only [Option.bind_some];cases hd:o.dst with
  |none=>rfl
  |some d=>
   have hr:=h o d ho' hd;simp only [Option.bind_some];cases hs:tmps[d]? with
   |none=>
    rw [Array.getD_eq_getD_getElem?,hs,Option.getD_none] at hr;generalize hq:tm.get d=x at hr;cases hr;rfl
   |some y=>
    rw [Array.getD_eq_getD_getElem?,hs,Option.getD_some] at hr;generalize hq:tm.get d=x at hr;cases hr<;>rfl
theorem Nk{m:Inj P}{ops:Array Oper}{tm:Tm}{o:Oper}(h:∀ j b,o.guard=some (j,b)->∀ g d,ops.toList[j]? =some g->g.dst=some d->AM m (tm.get d) (tmps.getD d undef)):
  Region.wanted o (yielded ops tmps)=Bv ops tm o:=by
 unfold Region.wanted Bv;cases hg:o.guard with
 |none=>rfl
 |some x=>
  obtain ⟨j,want⟩:=x;simp only;rw [Rw (h j want hg)];cases EP ops tm j with
  |none=>rfl
  |some b=>cases b<;>cases want<;>rfl
theorem JZ{ops:List Oper}{o:Oper}{t:Tmp}(h:Operand.tmp t∈o.op.operands.toList):C8 ops o t=true:=by
 unfold C8;rw [Bool.or_eq_true];exact .inl (List.any_eq_true.2 ⟨_,h,by simp [Lr]⟩)
theorem MG{ops:List Oper}{o g:Oper}{b:Bool}{d:Tmp}(h:o.guard=some (j,b))(hg:ops[j]? =some g)(hd:g.dst=some d):C8 ops o d=true:=by
 unfold C8;rw [h];simp only [hg,hd]
 simp
theorem Tm.E3(tm:Tm)(hs:tm.sz<Aj)(d t:Nat)(v:Value):(tm.set d v).get t=if t=d/\d<tm.sz then v else tm.get t:=by
 unfold Tm.set;cases hb:Nat.blt d tm.sz with
 |false=>
  have:=JQ.1 hb
  rw [Cf,Ff (by omega)]
 |true=>
  have:=AA.1 hb
  rw [Ct];unfold Tm.get;rw [Trie.get?_put depth tm.t d t (some v) (by unfold depth Aj at *;omega)];by_cases e:t=d
  ·rw [if_pos e,if_pos ⟨e,this⟩]
  ·rw [Ff e,Ff (by omega)]
theorem Tm.IP(tm:Tm)(d:Nat)(v:Value):(tm.set d v).sz=tm.sz:=by
 unfold Tm.set;cases Nat.blt d tm.sz<;>rfl
theorem Ob(tmps:Array Value)(d t:Nat)(v:Value):(tmps.setIfInBounds d v).getD t undef=if t=d/\d<tmps.size then v else tmps.getD t undef:=by
 simp only [Array.getD_eq_getD_getElem?,Array.getElem?_setIfInBounds];by_cases e:d=t
 ·subst e;by_cases h:d<tmps.size
  ·simp [h]
  ·simp [h]
 ·rw [Ff e,Ff (by omega)]
theorem Dp.oob{m:Inj P}{tm:Tm}(h:Dp m tm tmps)(t:Nat)(ht:tm.sz<=t):tm.get t=undef:=by
 have:=h.val t
 rw [Array.getD_eq_getD_getElem?,Array.getElem?_eq_none (by have:=h.size;omega),Option.getD_none] at this;generalize tm.get t=x at this;unfold undef at this;cases this with
 |tuple h=>cases h;rfl
variable {X:Bt}
theorem Ph{s d:TypeId}{x v:Value}(hq:(match P.underlying d with | some (.slice _)=>false | some _=>true | none=>false)=true)(h:AQ P A s d x=.ok v A'):A'=A:=by
 unfold AQ at h
 try simp only [Bool.cond_eq_ite] at h
 split at h
 case h_2=>rename_i hd;rw [hd] at hq;cases hq
 all_goals
  repeat' split at h
 all_goals first
  |(cases h;rfl)
  |(cases h;done)
theorem Pn{b:Builtin}{ts:List TypeId}{ty:TypeId}{args:List Value}{n:AN}(hb:T0 b=true)(h:Dm P A b ts ty args=.ok n A'):A'=A/\∃ v,n=.value v:=by
 unfold Dm at h;simp only [Bool.cond_eq_ite] at h;cases b<;>simp only [T0] at hb<;>first | (cases hb;done) | skip
 all_goals
  repeat' split at h
 all_goals first | contradiction | (cases h;exact ⟨rfl,_,rfl⟩) | (cases h;done)
theorem Ex{ρ:Operand->Value}{o:Oper}{n:AN}(hq:Cj P o.op=true)(h:Ba P ρ o A=.ok n A'):A'=A/\∃ v,n=.value v:=by
 obtain ⟨dst,op,type,pos,after,guard⟩:=o;cases op<;>simp only [Cj] at hq<;>first | (cases hq;done) | skip
 case convert s d x=>
  unfold Ba at h;simp only at h;split at h
  ·rename_i v w hc;cases h;exact ⟨Ph hq hc,_,rfl⟩
  ·cases h
 case call c=>
  unfold Ba at h;simp only at h;split at h
  rotate_left
  ·cases h
  rename_i d hd;split at hq
  rotate_left
  ·cases hq
  rename_i b hc;unfold DH at hd;rw [hc] at hd;simp only [Oi] at hd;subst hd;exact Pn (ty:=type) hq h
 all_goals
  unfold Ba at h;simp only at h
  repeat' split at h
 all_goals first | (cases h;exact ⟨rfl,_,rfl⟩) | (cases h;done) | skip
end
variable {A A':AW} {b lo:Nat} {e:TypeId} {w w':World} {o':Obj} {cs:List Value}
section
variable {P:Program} {X:Bt}
theorem Gk{ρ ρ2:Operand->Value}:∀ {l:List (Nat × Operand)},(∀ x∈l.map (·.2),ρ x=ρ2 x)->Fq l ρ=Fq l ρ2
 |[],_=>rfl
 |(i,x)::r,h=>by
  simp only [Fq];rw [h x (by simp),Gk λy hy=>h y (by simp at hy ⊢;exact .inr hy)]
theorem NH{ρ ρ2:Operand->Value}{c:Call}{type:TypeId}(h:∀ x∈c.operands.toList,ρ x=ρ2 x):DH ρ c type=DH ρ2 c type:=by
 have hargs:c.args.toList.map ρ=c.args.toList.map ρ2:=List.map_congr_left λx hx=>h x (by simp [Call.operands] at hx ⊢;exact .inr hx);unfold DH;simp only [hargs];cases hc:c.callee with
 |value f=>have hf:ρ f=ρ2 f:=h f (by simp [Call.operands,hc]);simp only [hf]
 |invoke r m=>rfl
 |builtin b=>rfl
theorem MM{ρ ρ2:Operand->Value}{o:Oper}(h:∀ x∈o.op.operands.toList,ρ x=ρ2 x):Ba P ρ o A=Ba P ρ2 o A:=by
 obtain ⟨dst,op,type,pos,after,guard⟩:=o;cases op<;>simp only [Op.operands] at h<;>unfold Ba<;>simp only
 case build t ps=>rw [Gk h]
 case buildSlice t n ps=>rw [Gk h]
 case makeFunc fn first captured=>
  rw [List.map_congr_left (l:=first.toList) λx hx=>h x (by simp;exact .inl (by simpa using hx)),List.map_congr_left (l:=captured.toList) λx hx=>h x (by simp;exact .inr (by simpa using hx))]
 case call c=>rw [NH h]
 case makeMap t r=>cases r<;>simp_all
 case slice t x lo hi mx=>cases lo<;>cases hi<;>cases mx<;>simp_all
 all_goals (first | rfl | (simp_all;done))
theorem Pb{ρ ρ2:Operand->Value}{op:Op}(h:∀ x∈op.operands.toList,ρ x=ρ2 x):Bn P ρ op=Bn P ρ2 op:=by
 cases op<;>simp only [Op.operands] at h<;>unfold Bn<;>simp only
 case buildSlice t n ps=>rw [Gk h]
 case makeMap t r=>cases r<;>simp_all
 all_goals (first | rfl | (simp_all;done))
def MZ:Value->Option Nat
 |.pointer (some a)=>some a.block
 |.slice (some a) _ _=>some a.block
 |.map (some b)=>some b
 |_=>none
theorem Yy{o:AO}(h:A.new o=some (b,A')):b=A.next/\A.next<Aj/\A'={ (A.put A.next o) with next:=A.next+1 }:=by
 unfold AW.new at h;cases hb:Nat.blt A.next Aj with
 |false=>rw [hb] at h;cases h
 |true=>
  rw [hb] at h;simp only [Ct,Oi,Pj] at h;exact ⟨h.1.symm,AA.1 hb,h.2.symm⟩
theorem IZ{l:List Value}{a:Addr}(h:A.newRow l e=some (a,A')):∃ b,A.new (.row l e A.next 0 false)=some (b,A')/\a=⟨b,0,none⟩:=by
 unfold AW.newRow at h;cases hc:l.all AK with
 |false=>rw [hc] at h;cases h
 |true=>
  rw [hc,Ct] at h;split at h
  ·rename_i b A1 hn;simp only [Oi,Pj] at h;exact ⟨b,by rw [hn,h.2],h.1.symm⟩
  ·cases h
theorem OO{ρ:Operand->Value}{o:Oper}{n:AN}{cl:Bool}(hq:Dg P cl o.op=true)(h:Ba P ρ o A=.ok n A'):
  ∃ v ob b,n=.value v/\A.new ob=some (b,A')/\(∀ f k,ob.fam=some (f,k)->f=A.next)/\MZ v=some b:=by
 obtain ⟨dst,op,type,pos,after,guard⟩:=o;have row:∀ (l:List Value) (e:TypeId),(∀ f k,(AO.row l e A.next 0 false).fam=some (f,k)->f=A.next):=λl e f k h=>by simp [AO.fam] at h;exact h.1.symm
 cases op<;>simp only [Dg] at hq<;>first | (cases hq;done) | skip
 case alloc e=>
  unfold Ba at h;simp only at h;split at h
  rotate_left
  ·cases h
  split at h
  rotate_left
  ·cases h
  rename_i z hz a A1 hn;cases h;obtain ⟨b,h1,rfl⟩:=IZ hn;exact ⟨_,_,b,rfl,h1,row _ _,rfl⟩
 case box e x=>
  unfold Ba at h;simp only at h;split at h
  rotate_left
  ·cases h
  rename_i a A1 hn;cases h;obtain ⟨b,h1,rfl⟩:=IZ hn;exact ⟨_,_,b,rfl,h1,row _ _,rfl⟩
 case buildSlice t len parts=>
  unfold Ba Aq at h;simp only [Bool.cond_eq_ite] at h
  repeat' split at h
  all_goals first | (cases h;done) | skip
  all_goals
   rename_i hb
   repeat' split at hb
   all_goals first | (cases hb;done) | skip
  rename_i hn;cases hb;cases h;obtain ⟨b,h1,rfl⟩:=IZ hn;exact ⟨_,_,b,rfl,h1,row _ _,rfl⟩
 case makeMap t r=>
  unfold Ba at h;simp only at h
  repeat' split at h
  all_goals first | (cases h;done) | skip
  all_goals
   rename_i hn;cases h;exact ⟨_,_,_,rfl,hn,λf k h=>by simp [AO.fam] at h,rfl⟩
 case convert s d x=>
  simp only [Bq] at hq;obtain ⟨_,hq⟩:=hq;split at hq
  rotate_left
  ·cases hq
  rename_i e hs hd;split at hq
  rotate_left
  ·cases hq
  rename_i he h1;unfold Ba AQ at h;cases hx:ρ x with
  |string str=>
   simp only [hs,hd,hx,he,h1] at h;cases hn:A.new (.row (str.data.toList.map λb=>.int .u8 b.toNat) e A.next 0 false) with
   |none=>rw [hn] at h;cases h
   |some p=>
    obtain ⟨b,A1⟩:=p;rw [hn] at h;cases h;exact ⟨_,_,_,rfl,hn,row _ _,rfl⟩
  |_=>simp [hs,hd,hx] at h
theorem Rel.Gd{m:Inj P}(r:Rel m A w){o:AO}(h:A.new o=some (b,A'))(hf:∀ f k,o.fam=some (f,k)->f=A.next):
  Rel m A' w/\A'.next=A.next+1/\b=A.next/\m b=none/\(∀ j,j≠b->A'.get j=A.get j):=by
 obtain ⟨rfl,hmax,rfl⟩:=Yy h;have hg':∀ j,({ A.put A.next o with next:=A.next+1 }:AW).get j=if j=A.next then some o else A.get j:=λj=>AW.CA A _ j o hmax
 have hmn:=(r.fresh A.next (Nl _)).2.1;refine ⟨⟨?_,?_,?_,?_,?_,?_,?_⟩,rfl,rfl,hmn,λj hj=>by rw [hg',Ff hj]⟩
 ·intro i oi c d hi hm;rw [hg'] at hi;split at hi
  ·rename_i e;subst e;rw [hmn] at hm;cases hm
  ·exact r.obj i oi c d hi hm
 ·intro i cs e k ro hi c d hm;rw [hg'] at hi;split at hi
  ·rename_i e;subst e;rw [hmn] at hm;cases hm
  ·exact r.home i cs e k ro hi c d hm
 ·intro i j oi oj c di dj hij hi hj hmi hmj;rw [hg'] at hi hj;split at hi
  ·rename_i e;subst e;rw [hmn] at hmi;cases hmi
  ·split at hj
   ·rename_i e;subst e;rw [hmn] at hmj;cases hmj
   ·exact r.sep i j oi oj c di dj hij hi hj hmi hmj
 ·intro i oi f k hi hfam;rw [hg'] at hi;split at hi
  ·rename_i e;subst e;cases hi
   have:=hf f k hfam
   subst this;refine ⟨?_,by show _<A.next+1;omega⟩
   have:A.fams.get? A.next=none:=(r.fresh _ (Nl _)).2.2
   show A.next∈(match A.fams.get? A.next with | some l=>l | none=>[A.next]);rw [this];simp
  ·obtain ⟨h1,h2⟩:=r.mem i oi f k hi hfam;exact ⟨h1,by show _<A.next+1;omega⟩
 ·intro i hi;have hi':A.next+1<=i:=hi;obtain ⟨h1,h2,h3⟩:=r.fresh i (by omega);exact ⟨by rw [hg',Ff (by omega)];exact h1,h2,h3⟩
 ·show A.next+1<=Aj;omega
 ·intro i cs e f k ro c d hi hm;rw [hg'] at hi;split at hi
  ·rename_i e';subst e';rw [hmn] at hm;cases hm
  ·exact r.room i cs e f k ro c d hi hm
structure EvL (lo:Nat) (m:Inj P) (A:AW) (w:World) (m':Inj P) (A':AW) (w':World):Prop where
 ext:m.le m'
 rel:Rel m' A' w'
 size:w.heap.size<=w'.heap.size
 os:w'.os=w.os
 tape:w'.tape=w.tape
 output:w'.output=w.output
 draws:Fl m->w.drawn<=w'.drawn
 keep:∀ c,c<w.heap.size->¬ Own m A c->w'.heap[c]? =w.heap[c]?
 own:∀ c,c<w.heap.size->Own m' A' c->Own m A c
 next:A.next<=A'.next
 same:∀ i,i<lo->m' i=m i
theorem Ev.low{m m':Inj P}(h:Ev m A w m' A' w')(hl:lo<=A.next):EvL lo m A w m' A' w':=
 ⟨h.ext,h.rel,h.size,h.os,h.tape,h.output,h.draws,h.keep,h.own,h.next,λi hi=>h.same i (by omega)⟩
theorem EvL.refl{m:Inj P}(r:Rel m A w)(lo:Nat):EvL lo m A w m A w:=
 ⟨.refl m,r,Nl _,rfl,rfl,rfl,λ_=>Nl _,λ_ _ _=>rfl,λ_ _ h=>h,Nl _,λ_ _=>rfl⟩
theorem EvL.Xo{lo':Nat}{m m':Inj P}(h:EvL lo m A w m' A' w')(hl:lo'<=lo):EvL lo' m A w m' A' w':=
 { h with same:=λi hi=>h.same i (by omega) }
theorem EvL.trans{m m' m'':Inj P}{A'':AW}{w'':World}(h:EvL lo m A w m' A' w')(k:EvL lo m' A' w' m'' A'' w''):EvL lo m A w m'' A'' w'':=by
 refine ⟨h.ext.trans k.ext,k.rel,Nat.le_trans h.size k.size,k.os.trans h.os,k.tape.trans h.tape,k.output.trans h.output,λf=>Nat.le_trans (h.draws f) (k.draws (f.le h.ext)),λc hc hn=>?_,λc hc ho=>?_,Nat.le_trans h.next k.next,λi hi=>(k.same i hi).trans (h.same i hi)⟩
 ·rw [k.keep c (Nat.lt_of_lt_of_le hc h.size) (λho=>hn (h.own c hc ho)),h.keep c hc hn]
 ·exact h.own c hc (k.own c (Nat.lt_of_lt_of_le hc h.size) ho)
theorem EvL.Gd{m:Inj P}(r:Rel m A w){o:AO}(h:A.new o=some (b,A'))(hf:∀ f k,o.fam=some (f,k)->f=A.next)(lo:Nat):EvL lo m A w m A' w:=by
 obtain ⟨h1,h2,rfl,h4,h5⟩:=r.Gd h hf;refine ⟨.refl m,h1,Nl _,rfl,rfl,rfl,λ_=>Nl _,λ_ _ _=>rfl,λc hc ⟨i,oi,d,hi,hro,hm⟩=>?_,by omega,λ_ _=>rfl⟩;have hne:i≠A.next:=λe=>by rw [e,h4] at hm;cases hm
 exact ⟨i,oi,d,by rw [<- h5 i hne];exact hi,hro,hm⟩
theorem EvL.QA{m:Inj P}(r:Rel m A w){o:AO}(hb:A.get b=some o)(hm:m b=none)(hr:Jv m 0 o o')(hlo:lo<=b):
  ∃ m',EvL lo m A w m' A { w with heap:=w.heap.push o' }/\m' b=some (w.heap.size,0)/\(∀ j,j≠b->m' j=m j):=by
 have hle:m.le (m.ext b (w.heap.size,0) 0 0 0 (λh=>absurd rfl h)):=Inj.QQ hm;refine ⟨m.ext b (w.heap.size,0) 0 0 0 (λh=>absurd rfl h),⟨hle,⟨?_,?_,?_,r.mem,?_,r.lim,?_⟩,by simp,rfl,rfl,rfl,λ_=>Nl _,λc hc _=>Cc w o' c hc,?_,Nl _,λi hi=>Inj.Bf (by omega)⟩,Inj.Bu,λj hj=>Inj.Bf hj⟩
 ·intro i oi c d hi hmi;by_cases e:i=b
  ·subst e;rw [Inj.Bu] at hmi;cases hmi;rw [hb] at hi;cases hi;exact ⟨o',CJ w o',hr.mono hle⟩
  ·rw [Inj.Bf e] at hmi;obtain ⟨oi',h2,h3⟩:=r.obj i oi c d hi hmi;exact ⟨oi',by rw [Cc _ _ _ (r.DD hi hmi)];exact h2,h3.mono hle⟩
 ·intro i cs e k ro hi c d hmi;by_cases e':i=b
  ·subst e';rw [Inj.Bu] at hmi;cases hmi;rfl
  ·rw [Inj.Bf e'] at hmi;exact r.home i cs e k ro hi c d hmi
 ·intro i j oi oj c di dj hij hi hj hmi hmj;by_cases ei:i=b
  ·subst ei;rw [Inj.Bu] at hmi;cases hmi;rw [Inj.Bf (Ne.symm hij)] at hmj
   have:=r.DD hj hmj
   omega
  ·rw [Inj.Bf ei] at hmi;by_cases ej:j=b
   ·subst ej;rw [Inj.Bu] at hmj;cases hmj
    have:=r.DD hi hmi
    omega
   ·rw [Inj.Bf ej] at hmj;exact r.sep i j oi oj c di dj hij hi hj hmi hmj
 ·intro i hi;obtain ⟨h1,h2,h3⟩:=r.fresh i hi;have hbn:=r.lt hb;exact ⟨h1,by rw [Inj.Bf (by omega)];exact h2,h3⟩
 ·intro i cs e f k ro c d hi hmi;by_cases e':i=b
  ·subst e';rw [Inj.Bu] at hmi;cases hmi;rw [hb] at hi;cases hi;obtain ⟨cs',fr,rfl,_⟩:=hr;rw [Inj.Da,Inj.QZ];exact ⟨λh=>absurd rfl h,cs',e,fr,CJ w _,by omega,λ_ k hk=>by omega⟩
  ·rw [Inj.Bf e'] at hmi;rw [Inj.E5 e',Inj.Gt e'];obtain ⟨g1,cs',e2,fr,g2,g3,g4⟩:=r.room i cs e f k ro c d hi hmi;exact ⟨g1,cs',e2,fr,by rw [Cc _ _ _ (r.DD hi hmi)];exact g2,g3,g4⟩
 ·rintro c hc ⟨i,oi,d,hi,hro,hmi⟩;by_cases e:i=b
  ·subst e;rw [Inj.Bu] at hmi;cases hmi;omega
  ·rw [Inj.Bf e] at hmi;exact ⟨i,oi,d,hi,hro,hmi⟩
theorem EvL.X3 {m:Inj P} (r:Rel m A w) {o:AO} (hb:A.get b=some o) (hm:m b=none) (hr:Jv m 0 o o') (hlo:lo<=b) {R:Nat} {el:TypeId} {st:Nat} (hR:R≠0->szT P el=some st)
  (hroom:∀ cs e f b ro,o=.row cs e f b ro->(R≠0->el=e)/\∃ cs' e' fr,o'=.cells cs' e' fr/\R<=cs'.size/\(ro=false->∀ k,k<R->¬ (fr.1<=k/\k<fr.2))):
  EvL lo m A w (m.ext b (w.heap.size,0) R el st hR) A { w with heap:=w.heap.push o' }:=by
 have hle:m.le (m.ext b (w.heap.size,0) R el st hR):=Inj.QQ hm;refine ⟨hle,⟨?_,?_,?_,r.mem,?_,r.lim,?_⟩,by simp,rfl,rfl,rfl,λ_=>Nl _,λc hc _=>Cc w o' c hc,?_,Nl _,λi hi=>Inj.Bf (by omega)⟩
 ·intro i oi c d hi hmi;by_cases e:i=b
  ·subst e;rw [Inj.Bu] at hmi;cases hmi;rw [hb] at hi;cases hi;exact ⟨o',CJ w o',hr.mono hle⟩
  ·rw [Inj.Bf e] at hmi;obtain ⟨oi',h2,h3⟩:=r.obj i oi c d hi hmi;exact ⟨oi',by rw [Cc _ _ _ (r.DD hi hmi)];exact h2,h3.mono hle⟩
 ·intro i cs e k ro hi c d hmi;by_cases e':i=b
  ·subst e';rw [Inj.Bu] at hmi;cases hmi;rfl
  ·rw [Inj.Bf e'] at hmi;exact r.home i cs e k ro hi c d hmi
 ·intro i j oi oj c di dj hij hi hj hmi hmj;by_cases ei:i=b
  ·subst ei;rw [Inj.Bu] at hmi;cases hmi;rw [Inj.Bf (Ne.symm hij)] at hmj
   have:=r.DD hj hmj
   omega
  ·rw [Inj.Bf ei] at hmi;by_cases ej:j=b
   ·subst ej;rw [Inj.Bu] at hmj;cases hmj
    have:=r.DD hi hmi
    omega
   ·rw [Inj.Bf ej] at hmj;exact r.sep i j oi oj c di dj hij hi hj hmi hmj
 ·intro i hi;obtain ⟨h1,h2,h3⟩:=r.fresh i hi;have hbn:=r.lt hb;exact ⟨h1,by rw [Inj.Bf (by omega)];exact h2,h3⟩
 ·intro i cs e f k ro c d hi hmi;by_cases e':i=b
  ·subst e';rw [Inj.Bu] at hmi;cases hmi;rw [hb] at hi;cases hi;rw [Inj.Da,Inj.QZ];obtain ⟨g1,cs',e',fr,rfl,g2,g3⟩:=hroom _ _ _ _ _ rfl;exact ⟨g1,cs',e',fr,CJ w _,by omega,by simpa using g3⟩
  ·rw [Inj.Bf e'] at hmi;rw [Inj.E5 e',Inj.Gt e'];obtain ⟨g1,cs',e2,fr,g2,g3,g4⟩:=r.room i cs e f k ro c d hi hmi;exact ⟨g1,cs',e2,fr,by rw [Cc _ _ _ (r.DD hi hmi)];exact g2,g3,g4⟩
 ·rintro c hc ⟨i,oi,d,hi,hro,hmi⟩;by_cases e:i=b
  ·subst e;rw [Inj.Bu] at hmi;cases hmi;omega
  ·rw [Inj.Bf e] at hmi;exact ⟨i,oi,d,hi,hro,hmi⟩
theorem Wy{m:Inj P}{ρ ρ':Operand->Value}{o:Oper}{c:TD}(hρ:∀ x∈o.op.operands.toList,AM m (ρ x) (ρ' x))(h:Bn P ρ o.op=some c):
  match c with
  |.row cs e=>∃ cs',AJ m cs cs'/\(execOp ρ' o).run P w=.ok (.value (.pointer (some ⟨w.heap.size,0,none⟩))) { w with heap:=w.heap.push (.cells ⟨cs'⟩ e) }
  |.slice cs e len=>∃ cs',AJ m cs cs'/\(execOp ρ' o).run P w=.ok (.value (.slice (some ⟨w.heap.size,0,none⟩) len len)) { w with heap:=w.heap.push (.cells ⟨cs'⟩ e) }/\len<Bo
  |.map=>(execOp ρ' o).run P w=.ok (.value (.map (some w.heap.size))) { w with heap:=w.heap.push (.map #[] 0) }
  |.bytes cs e=>AJ m cs cs/\szT P e=some 1/\∃ cap,cs.length<=cap/\(execOp ρ' o).run P w=.ok (.value (.slice (some ⟨w.heap.size,0,none⟩) cs.length cap)) { w with drawn:=w.drawn+1,heap:=w.heap.push (.cells (cs.toArray++Array.replicate (cap-cs.length) (.int .u8 0)) e (cap,cap+1)) }:=by
 obtain ⟨dst,op,type,pos,after,guard⟩:=o;cases op<;>simp only [Bn] at h<;>first | (cases h;done) | skip
 case alloc e=>
  split at h
  rotate_left
  ·cases h
  rename_i z hz;cases hc:z.cells.toList.all AK with
  |false=>rw [hc] at h;cases h
  |true=>
   rw [hc,Ct,Oi] at h;subst h;obtain ⟨_,hcl⟩:=Es hz;exact ⟨_,(Cb (m:=m) 4 z hcl).cells,by simp [execOp,Instr.alloc,B6 hz,newVar,Ce]⟩
 case box e x=>
  cases hc:(ρ x).cells.toList.all AK with
  |false=>rw [hc] at h;cases h
  |true=>
   rw [hc,Ct,Oi] at h;subst h;exact ⟨_,(hρ x (by simp [Op.operands])).cells,by simp [execOp,Instr.box,newVar,Ce]⟩
 case buildSlice t len parts=>
  split at h
  rotate_left
  ·cases h
  rename_i e ht;split at h
  rotate_left
  ·cases h
  rename_i size hs;cases hc:(Nat.ble (len*size) 16777216&&Nat.blt len room) with
  |false=>rw [hc] at h;cases h
  |true=>
   rw [hc,Ct] at h;simp only [Bq] at hc;have h1:=Bb.1 hc.1;have h2:=AA.1 hc.2;unfold room at h2;split at h
   rotate_left
   ·cases h
   rename_i zs hz;split at h
   rotate_left
   ·cases h
   rename_i cs hcs;cases hall:cs.all AK with
   |false=>rw [hall] at h;cases h
   |true=>
    rw [hall,Ct,Oi] at h;subst h;have hp:GU m (Fq parts.toList ρ) (parts.map λx=>(x.1,ρ' x.2)).toList:=by
     rw [Array.toList_map];exact Ih parts.toList λx hx=>hρ x.2 (List.mem_map.2 ⟨x,hx,rfl⟩)
    obtain ⟨hzr,zero,hrun,hmap⟩:=ID (P:=P) (m:=m) hz;obtain ⟨out',g3,g4⟩:=GO (place':=λi=>some (i*size,size)) (λi x hx=>hx) hp hzr hcs;refine ⟨out',g4,?_,by unfold Bo;omega⟩;have hlim:¬ (len*size>2^24):=by omega
    simp only [execOp,Instr.buildSlice,Sem.run_bind,run_underlying (DF ht),Result.andThen_ok,Bz hs,Ff hlim];rcases hrun with ⟨h0,rfl⟩ | ⟨h0,z,rfl,hzv⟩
    ·simp only [if_pos h0,Sem.run_bind,Sem.run_pure,Result.andThen_ok,hmap,g3,Ce]
    ·simp only [Ff h0,Sem.run_bind,hzv,Sem.run_pure,Result.andThen_ok,hmap,g3,Ce]
 case makeMap t r=>
  cases r with
  |none=>
   simp only [Oi] at h;subst h;simp [execOp,Instr.makeMap]
  |some y=>
   simp only at h;split at h
   rotate_left
   ·cases h
   rename_i mt k n hm hi;simp only [Oi] at h;subst h;have hy:=hρ y (by simp [Op.operands]);rw [hi] at hy;generalize hq:ρ' y=z at hy;cases hy;unfold D0 at hm;split at hm
   ·rename_i hu;simp [execOp,Instr.makeMap,run_underlying hu,hq,asInt,asIntOf]
   ·cases hm
 case convert src d x=>
  split at h
  rotate_left
  ·cases h
  rename_i e str hs hd hx;split at h
  rotate_left
  ·cases h
  rename_i he h1;simp only [Oi] at h;subst h;have hy:=hρ x (by simp [Op.operands]);rw [hx] at hy;generalize hq:ρ' x=z at hy;cases hy;have hrel:AJ m (str.data.toList.map λb=>Value.int .u8 (b.toNat:Int)) (str.data.toList.map λb=>Value.int .u8 (b.toNat:Int)):=AJ.map _ _ (λb=>.int _ _) _;have hf:(Question.appendCap str.size 0 e).forced=false:=rfl;have hcut:=Hr str.size 0 e (w.tape w.drawn (.appendCap str.size 0 e));have hsz:=Lib.size_eq str;generalize hcap:(Question.appendCap str.size 0 e).cut (w.tape w.drawn (.appendCap str.size 0 e))=cap at *;have harr:(str.data.map λb=>Value.int .u8 b.toNat)=(str.data.toList.map λb=>Value.int .u8 (b.toNat:Int)).toArray:=by
   apply Array.ext';simp
  have hsize:((str.data.toList.map λb=>Value.int .u8 (b.toNat:Int)).toArray++Array.replicate (cap-str.size) (Value.int .u8 0)).size=cap:=by
   simp only [Array.size_append,List.size_toArray,List.length_map,Array.size_replicate];omega
  refine ⟨hrel,h1,cap,by simp only [List.length_map];omega,?_⟩;have hlen:(str.data.toList.map λb=>Value.int .u8 (b.toNat:Int)).length=str.size:=by rw [List.length_map];exact hsz
  rw [hlen];have hmk:=MD (P:=P) { w with drawn:=w.drawn+1 } ((str.data.toList.map λb=>Value.int .u8 (b.toNat:Int)).toArray++Array.replicate (cap-str.size) (Value.int .u8 0)) e;rw [hsize] at hmk;simp only at hmk;simp only [execOp,hq,convert,Sem.run_bind,run_underlying hs,run_underlying hd,run_underlying he,Result.andThen_ok,Conv.stringToBytes,run_choose,hf,Bool.false_eq_true,if_false,hcap,Ce,harr,hmk];rfl
theorem IT(h:Eu A b cs e=true):∃ f k ro,A.get b=some (.row cs e f k ro):=by
 unfold Eu at h;split at h
 ·rename_i ds e' f k ro hg;simp only [Bq] at h;have h1:=Nb h.1;have h2:=Hz (XW 6) h.2;subst h1 h2;exact ⟨f,k,ro,hg⟩
 ·cases h
theorem Ld{m:Inj P}{cs':List Value}(h:AJ m cs cs')(e:TypeId)(f k:Nat)(ro:Bool):Jv m 0 (.row cs e f k ro) (.cells ⟨cs'⟩ e):=by
 refine ⟨_,_,rfl,λi v hv=>?_⟩;obtain ⟨v',h1,h2⟩:=h.get hv;exact ⟨v',by simpa using h1,λ_=>h2,λ_=>by simp⟩
theorem Ug {m:Inj P} (r:Rel m A w) {ρ ρ':Operand->Value} {o:Oper} {c:TD} {v:Value} (hρ:∀ x∈o.op.operands.toList,AM m (ρ x) (ρ' x)) (h:Bn P ρ o.op=some c)
  (hs:B4 A v c=true) (hid:MZ v=some b) (hm:m b=none) (hlo:lo<=b):
  ∃ v' w' m',(execOp ρ' o).run P w=.ok (.value v') w'/\EvL lo m A w m' A w'/\AM m' v v'/\(∀ j,j≠b->m' j=m j):=by
 have hrun:=Wy (w:=w) hρ h;cases c with
 |row cs e=>
  obtain ⟨cs',h1,h2⟩:=hrun;simp only [B4] at hs;split at hs
  ·rename_i a;simp only [Bq,Option.isNone_iff_eq_none] at hs;obtain ⟨f,k,ro,hg⟩:=IT hs.2.2;simp only [MZ,Oi] at hid;subst hid;obtain ⟨m',g1,g2,g3⟩:=EvL.QA r hg hm (Ld h1 e f k ro) hlo;exact ⟨_,_,m',h2,g1,.ptr ⟨hs.2.1,rfl,0,g2,by rw [Nb hs.1]⟩,g3⟩
  ·cases hs
 |slice cs e len=>
  obtain ⟨cs',h1,h2,h3⟩:=hrun;simp only [B4] at hs;split at hs
  ·rename_i a n c;simp only [Bq,Option.isNone_iff_eq_none] at hs;obtain ⟨q1,q2,q3,q4,q5⟩:=hs;have q3:=Nb q3;have q4:=Nb q4;subst q3 q4;obtain ⟨f,k,ro,hg⟩:=IT q5;simp only [MZ,Oi] at hid;subst hid;obtain ⟨m',g1,g2,g3⟩:=EvL.QA r hg hm (Ld h1 e f k ro) hlo;exact ⟨_,_,m',h2,g1,.slice (.inl ⟨h3,rfl⟩) (Nl _) (λ_=>⟨q2,rfl,0,g2,by rw [Nb q1]⟩),g3⟩
  ·cases hs
 |map=>
  simp only [B4] at hs;split at hs
  ·rename_i b';split at hs
   ·rename_i hg;simp only [MZ,Oi] at hid;subst hid;obtain ⟨m',g1,g2,g3⟩:=EvL.QA (o':=.map #[] 0) r hg hm ⟨rfl,[],rfl,.nil⟩ hlo;exact ⟨_,_,m',hrun,g1,.map g2,g3⟩
   ·cases hs
  ·cases hs
 |bytes cs e=>
  obtain ⟨h1,hs1,cap,hcap,hrun⟩:=hrun;simp only [B4] at hs;split at hs
  ·rename_i a n c;simp only [Bq,Option.isNone_iff_eq_none] at hs;obtain ⟨q1,q2,q3,q4,q5⟩:=hs;have q3:=Nb q3;have q4:=Nb q4;subst q3 q4;obtain ⟨f,k,ro,hg⟩:=IT q5.1;obtain rfl:ro=false:=by
    have:=q5.2
    unfold X0 at this;rw [hg] at this
    simpa using this
   simp only [MZ,Oi] at hid;subst hid;have r1:Rel m A { w with drawn:=w.drawn+1 }:=r.congr rfl;have hsize:(cs.toArray++Array.replicate (cap-cs.length) (Value.int .u8 0)).size=cap:=by
    simp only [Array.size_append,List.size_toArray,Array.size_replicate];omega
   have g:=EvL.X3 (o':=.cells (cs.toArray++Array.replicate (cap-cs.length) (.int .u8 0)) e (cap,cap+1)) r1 hg hm ⟨_,_,rfl,ME h1 _ _ hcap⟩ hlo (R:=cap) (el:=e) (st:=1) (λ_=>hs1)
    (λcsx ex fx bx rox hx=>by cases hx;exact ⟨λ_=>rfl,_,_,_,rfl,by omega,λ_ j hj=>by simp;omega⟩)
   refine ⟨_,_,_,hrun,⟨g.ext,g.rel,g.size,g.os,g.tape,g.output,λf=>by have:=g.draws f;exact Nat.le_of_succ_le this,g.keep,g.own,g.next,g.same⟩,?_,λj hj=>Inj.Bf hj⟩;exact .slice (.inr ⟨by omega,by omega,by have h0:=Nb q1;simp only [Inj.Da,Inj.On];omega,λhp=>by simp only [Inj.Da];omega,_,Inj.Bu⟩) hcap (λ_=>⟨q2,rfl,_,Inj.Bu,by rw [Nb q1]⟩)
  ·cases hs
end
end Go.Abs
