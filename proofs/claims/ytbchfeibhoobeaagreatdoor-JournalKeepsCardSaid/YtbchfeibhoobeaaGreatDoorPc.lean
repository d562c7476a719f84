/-
  This text prints what the functions reached ask of their memory, and shows what they answer. Conditions: none for the last theorem, those that each theorem states for the others.
-/
import Derived.Test.YtbchfeibhoobeaaGreatDoorPb
import Derived.Below
import Derived.Carry
import Derived.ChangeSame
import Derived.Deep.Strs
import Derived.HandedShaped
import Derived.KernelRfl
import Derived.Laws.StructEq
import Derived.ProofKit
import Derived.Stop.Joined
import Derived.Test.YtbchfeibhoobeaaGreatDoorProg
set_option maxRecDepth 100000
set_option maxHeartbeats 1000000
namespace Go.Abs
open Go.ChangeShapes Go.WideShapes Go.ChangeAt Go.RowKit
def progOk (P:Program):Bool:=P.funcs.toList.all fun fn=>match fn.body with | some c=>codeOk P c | none=>true
theorem pok_of {P:Program} (h:progOk P=true) (hm:P.follows .mixedOrders=true):POk P:=by
 refine ⟨fun f fn c hf hb=>?_,hm⟩
 unfold progOk at h
 have:=List.all_eq_true.1 h fn (by simpa using Array.mem_of_getElem? hf)
 rw [hb] at this
 exact this
theorem memN_mem {n:Nat}:∀ {l:List Nat},memN n l=true→n∈l
 | [],h=>by cases h
 | x::r,h=>by
  simp only [memN] at h
  cases hb:Nat.beq x n with
  | true=>rw [beq_true.1 hb];simp
  | false=>rw [hb] at h;exact List.mem_cons_of_mem _ (memN_mem h)
def isT:Value→Bool
 | .bool b=>b
 | _=>false
def frOf (P:Program) (f:FuncId) (args:List Value):AFr:=(enterA P f args .normal).getD ⟨0,⟨0,.nil⟩,[],[],.run,.normal,none,false⟩
def rowsT:List (Nat × List Value × TypeId)→Trie AO
 | []=>.nil
 | x::r=>(rowsT r).put depth x.1 (some (.row x.2.1 x.2.2 x.1 0 true))
def wG (n:Nat) (l:List (Nat × List Value × TypeId)):AW:=⟨rowsT l,n,.nil⟩
theorem rowsT_get:∀ (l:List (Nat × List Value × TypeId)),(∀ x∈l,x.1 < maxId)→∀ i o,(rowsT l).get? i=some o→∃ x∈l,x.1=i∧o=.row x.2.1 x.2.2 i 0 true
 | [],_,i,o,h=>by simp [rowsT,Trie.get?] at h
 | x::r,hl,i,o,h=>by
  simp only [rowsT] at h
  rw [Trie.get?_put depth _ x.1 i _ (by have:=hl x (by simp);unfold depth maxId at *;omega)] at h
  split at h
  ·rename_i e
   subst e
   cases h
   exact ⟨x,by simp,rfl,rfl⟩
  ·obtain ⟨y,hy,h1,h2⟩:=rowsT_get r (fun y hy=>hl y (by simp [hy])) i o h
   exact ⟨y,by simp [hy],h1,h2⟩
def mG (P:Program):Inj P:=⟨fun i=>if i < P.globals.size then some (i,0) else none,fun _=>0,fun _=>0,fun _=>0,fun _ h=>absurd rfl h⟩
theorem mG_lt {P:Program} {i c d:Nat} (h:mG P i=some (c,d)):i < P.globals.size∧c=i∧d=0:=by
 have h:(if i < P.globals.size then some (i,0) else none)=some (c,d):=h
 split at h
 ·cases h;exact ⟨‹_›,rfl,rfl⟩
 ·cases h
theorem gG {P:Program}:GOk (mG P):=fun i hi=>by
 show (if i < P.globals.size then some (i,0) else none)=some (i,0)
 rw [if_pos hi]
def Holds (W:World) (l:List (Nat × List Value × TypeId)):Prop:=∀ x∈l,∃ fr,W.heap[x.1]? =some (.cells ⟨x.2.1⟩ x.2.2 fr)
def okG (n:Nat) (l:List (Nat × List Value × TypeId)):Bool:=Nat.ble n maxId&&l.all fun x=>Nat.blt x.1 n&&x.2.1.all (closedV 4)
theorem relG {P:Program} {W:World} {l:List (Nat × List Value × TypeId)} (hok:okG P.globals.size l=true) (hW:Holds W l):Rel (mG P) (wG P.globals.size l) W:=by
 unfold okG at hok
 simp only [Bool.and_eq_true,List.all_eq_true] at hok
 obtain ⟨hn,hl⟩:=hok
 have hn:=ble_true.1 hn
 have hget:∀ i o,(wG P.globals.size l).get i=some o→∃ x∈l,x.1=i∧o=.row x.2.1 x.2.2 i 0 true:=rowsT_get l fun x hx=>Nat.lt_of_lt_of_le (blt_true.1 (hl x hx).1) hn
 refine ⟨?_,?_,?_,?_,?_,hn,?_⟩
 ·intro i o c d hi hm
  obtain ⟨x,hx,rfl,rfl⟩:=hget i o hi
  obtain ⟨_,rfl,rfl⟩:=mG_lt hm
  obtain ⟨fr,hc⟩:=hW x hx
  refine ⟨_,hc,_,fr,rfl,fun i v hv=>⟨v,by simpa using hv,fun _=>closedV_rel 4 v ((hl x hx).2 v (List.mem_of_getElem? hv)),fun h=>by cases h⟩⟩
 ·intro i cs e b ro hi c d hm
  exact (mG_lt hm).2.2
 ·intro i j oi oj c di dj hij hi hj hmi hmj
  obtain ⟨x,hx,rfl,rfl⟩:=hget i oi hi
  obtain ⟨y,hy,rfl,rfl⟩:=hget j oj hj
  exact .inl ⟨rfl,rfl⟩
 ·intro i o f b hi hf
  obtain ⟨x,hx,rfl,rfl⟩:=hget i o hi
  simp only [AO.fam,Option.some.injEq,Prod.mk.injEq] at hf
  obtain ⟨rfl,rfl⟩:=hf
  refine ⟨?_,blt_true.1 (hl x hx).1⟩
  show x.1∈(match (Trie.nil:Trie (List Nat)).get? x.1 with | some l=>l | none=>[x.1])
  simp [Trie.get?]
 ·intro i hi
  have hi:P.globals.size≤i:=hi
  refine ⟨?_,?_,rfl⟩
  ·cases hq:(wG P.globals.size l).get i with
   | none=>rfl
   | some o=>
    obtain ⟨x,hx,rfl,_⟩:=hget i o hq
    have:=blt_true.1 (hl x hx).1
    omega
  ·show (if i < P.globals.size then some (i,0) else none)=none
   rw [if_neg (by omega)]
 ·intro i cs e f b ro c d hi hm
  obtain ⟨x,hx,rfl,he⟩:=hget i _ hi
  cases he
  obtain ⟨_,rfl,rfl⟩:=mG_lt hm
  obtain ⟨fr,hc⟩:=hW x hx
  exact ⟨fun h=>absurd rfl h,_,_,fr,hc,by show 0+0≤_;omega,fun h=>by cases h⟩
theorem ownG {P:Program} {l:List (Nat × List Value × TypeId)} (hok:okG P.globals.size l=true) (c:Nat):¬ Own (mG P) (wG P.globals.size l) c:=by
 rintro ⟨i,o,d,hi,hro,_⟩
 unfold okG at hok
 simp only [Bool.and_eq_true,List.all_eq_true] at hok
 obtain ⟨x,hx,rfl,rfl⟩:=rowsT_get l (fun x hx=>Nat.lt_of_lt_of_le (blt_true.1 (hok.2 x hx).1) (ble_true.1 hok.1)) i o hi
 cases hro
theorem low_of {P:Program} {m m':Inj P} {A A':AW} {w w':World} {lo:Nat} (h:EvL lo m A w m' A' w') (hno:∀ c,¬ Own m A c):Low w w':=
 ⟨⟨h.os,h.tape,h.output,h.size,fun k hk=>h.keep k hk (hno k)⟩,h.draws⟩
theorem below_of {P:Program} {m m':Inj P} {A A':AW} {w w':World} {lo:Nat} (h:EvL lo m A w m' A' w') (hno:∀ c,¬ Own m A c):Below w.heap.size w w':=
 ⟨h.os,h.tape,h.output,h.size,fun k hk=>h.keep k hk (hno k)⟩
theorem calls_true {P:Program} {X:XNames} (hP:POk P) {l:List (Nat × List Value × TypeId)} (hok:okG P.globals.size l=true) {g:FuncId} {args:List Value} (hcl:args.all (closedV 4)=true) (he:(enterA P g args .normal).isSome=true)
  (W:World) (hW:Holds W l)
  (h:Answers P X W (mG P) isT ⟨frOf P g args,[],wG P.globals.size l⟩):Calls P g ⟨args⟩ W fun e W'=>e=.returned (.bool true)∧Low W W':=by
 obtain ⟨fr,hfr⟩:=Option.isSome_iff_exists.1 he
 have hfo:frOf P g args=fr:=by unfold frOf;rw [hfr];rfl
 rw [hfo] at h
 refine (calls_of_answers (w:=W) hP hfr h (relG hok hW) gG (ownG hok) (VRels.self fun v hv=>closedV_rel 4 v (List.all_eq_true.1 hcl v hv))).mono ?_
 rintro e w' ⟨v,v',m',A',h1,rfl,h2,h3⟩
 refine ⟨?_,low_of h3 (ownG hok)⟩
 cases v with
 | bool b=>
  have h1:b=true:=h1
  subst h1
  cases h2;rfl
 | _=>cases h1
def mA (P:Program) (l:List (Nat × Nat)):Inj P:=⟨fun i=>if i < P.globals.size then some (i,0) else l[i - P.globals.size]?,fun _=>0,fun _=>0,fun _=>0,fun _ h=>absurd rfl h⟩
theorem mA_var {P:Program} {l:List (Nat × Nat)} {i:Nat} (h:i < P.globals.size):mA P l i=some (i,0):=by
 show (if i < P.globals.size then some (i,0) else l[i - P.globals.size]?)=some (i,0)
 rw [if_pos h]
theorem mA_arg {P:Program} {l:List (Nat × Nat)} (i:Nat):mA P l (P.globals.size+i)=l[i]? :=by
 show (if P.globals.size+i < P.globals.size then some (P.globals.size+i,0) else l[P.globals.size+i - P.globals.size]?)=l[i]?
 rw [if_neg (by omega),Nat.add_sub_cancel_left]
theorem kc_true {P:Program} {rows:List (Nat × List Value × TypeId)} {g:FuncId} (hg:g≠sameFn) (h:∀ W,Holds W rows→Calls P g #[] W fun e W'=>e=.returned (.bool true)∧Low W W') {W0:World} (hW:Holds W0 rows) (m0:Inj P):
  KC.Holds P W0 m0 ⟨g,[],[.bool true]⟩:=by
 refine ⟨fun e=>absurd e hg,fun _=>?_⟩
 intro m args' W _ hb ha
 cases ha
 refine (h W fun x hx=>?_).mono ?_
 ·obtain ⟨fr,hc⟩:=hW x hx
  exact ⟨fr,by rw [hb.block x.1 (Array.getElem?_eq_some_iff.1 hc).1];exact hc⟩
 ·rintro e W' ⟨rfl,hb'⟩
  exact ⟨_,by simp,rfl,hb'⟩
theorem slice_rel {P:Program} {l:List (Nat × Nat)} {i n c:Nat} {a:Addr} (hl:l[i]? =some (a.block,a.off)) (hn:n≤c) (hc:c < capU) (hs:0 < c→a.spot=none):
  VRel (mA P l) (.slice (some ⟨P.globals.size+i,0,none⟩) n c) (.slice (some a) n c):=
 .slice (.inl ⟨hc,rfl⟩) hn fun hp=>⟨rfl,hs hp,a.off,by rw [mA_arg];exact hl,rfl⟩
def IsSlice (s:Value):Prop:=s=.slice none 0 0∨∃ (a:Addr) (n c:Nat),s=.slice (some a) n c∧n≤c∧c < capU∧(0 < c→a.spot=none)
def placeOf:Value→Nat × Nat
 | .slice (some a) _ _=>(a.block,a.off)
 | _=>(0,0)
theorem IsSlice.rel {P:Program} {l:List (Nat × Nat)} {s:Value} (h:IsSlice s) (i:Nat) (hl:l[i]? =some (placeOf s)):∃ o n c,VRel (mA P l) (.slice o n c) s:=by
 rcases h with rfl | ⟨a,n,c,rfl,hn,hc,hs⟩
 ·exact ⟨none,0,0,closedV_rel 4 _ (by rfl)⟩
 ·exact ⟨_,_,_,slice_rel (i:=i) hl hn hc hs⟩
section
variable {H:Type} {enc:TypeId × Value→H}
theorem returnsInHanded_and_shaped {a:Assume} {C:Checked} {os:Os} {f:FuncId} {fn:Func} {s:ChangeSpec} {conds:List PathCond} {apart fresh handsOn again:Bool} {X:World→Array Value→Prop}
  (hX:∀ (w w':World) (args:Array Value),w.heap=w'.heap→X w args→X w' args)
  (own:ownKnob C.prog.godebug=none) (started:os.Started) (noInit:C.prog.inits.idxOf? f=none) (hfn:C.prog.funcs[f]? =some fn)
  (witness:∃ (w:World) (tape:Tape) (i:Input),w.os=os∧(w.forCall tape i).Shaped C.prog∧i.vars=[]∧Input.okWide C.prog (w.forCall tape i) .any w.heap.size f i∧
   ((s.pre enc C.prog fn conds apart (w.forCall tape i).memory i.args∧X (w.forCall tape i).memory i.args)∧sizedMet enc C.prog fn (OpenSpec.ofChange s) apart (w.forCall tape i).memory i.args)∧a.holds C.prog (lone (Frame.enter C.prog f i.args .normal) [] (w.forCall tape i)))
  (contract:∀ (W:World) (base:Nat) (args:Array Value) (ds gs:List (DataW H)) (before:List MemPlace),
   (∀ (j:Nat) t v,fn.params[j]? =some t→args[j]? =some v→Value.okWide C.prog W .any base t v)→
   DataW.Whole enc C.prog fn.params.toList s.vars apart W args.toList ds gs before→
   conds.all (PathCond.test C.prog ⟨fn.params.toList,ds,s.plain.varTypes C.prog,gs⟩)=true→
   (DataW.weightsEach C.prog (fn.params.toList++s.plain.varTypes C.prog) (ds++gs)).all (·≤reachBytes)=true→X W args→W.ShapedOpen C.prog→
   Calls C.prog f args W fun e W'=>∃ v,e=.returned v∧s.post enc C.prog fn apart fresh handsOn again W args v W'):
  ReturnsInHanded a C os f .any (fun w args=>(s.pre enc C.prog fn conds apart w args∧X w args)∧sizedMet enc C.prog fn (OpenSpec.ofChange s) apart w args) (s.post enc C.prog fn apart fresh handsOn again):=by
 refine returnsInHanded_of_calls own started noInit witness ?_
 intro w tape i _ hsh _ hok hpre hholds
 obtain ⟨_,_,_,fn',hfn',_,_,_,_,hval⟩:=hok
 have e:fn'=fn:=Option.some.inj (hfn'.symm.trans hfn)
 subst e
 obtain ⟨⟨⟨ds,gs,before,hw,hc⟩,hx⟩,hz⟩:=hpre
 have hw':=DataW.Whole.of_heap (w':=w.forCall tape i) (by rfl) hw
 refine (contract (w.forCall tape i) w.heap.size i.args ds gs before hval hw' hc (hz.weights hw) (hX _ _ _ (by rfl) hx) hsh).mono fun e W' ⟨v,he,hp⟩=>?_
 subst he
 exact ChangeSpec.post_blind hp
theorem read_slice {P:Program} {w:World} {t e:TypeId} {fuel:Nat} {cs:List Value} {x:DataW H × List MemPlace} (hu:P.underlying t=some (.slice e)) (hz:0 < P.cellsOf e) (h:DataW.trod enc P w 0 (fun _=>true) true fuel t cs=some x):∃ s,cs=[s]∧IsSlice s:=by
 rcases Go.Deep.open_slice hu h with ⟨h1,_⟩ | ⟨a,n,c,m,_,D,Pl,h1,_,hn,hm,rfl,_,hx⟩
 ·exact ⟨_,h1,.inl rfl⟩
 ·refine ⟨_,h1,.inr ⟨a,n,m,rfl,hn,Nat.lt_of_le_of_lt hm (by decide),fun hp=>?_⟩⟩
  obtain ⟨cs',h2,_⟩:=hx 0 hp
  obtain ⟨_,hl,h3⟩:=World.cells?_some h2
  have h4:=h3 0 hz
  have h5:cs'[0]? =some (cs'[0]'(by rw [hl];exact hz)):=List.getElem?_eq_getElem _
  rw [h5] at h4
  unfold World.cell? at h4
  split at h4
  ·split at h4
   ·cases h4
   ·rename_i hsp
    cases hq:a.spot with
    | none=>rfl
    | some z=>exact absurd (by simp [Addr.add,hq]) hsp
  ·cases h4
variable {P:Program}
theorem post_of_below {f:Func} {s:ChangeSpec} {apart fresh handsOn again:Bool} {W W':World} {args:Array Value} {v:Value} {ds gs:List (DataW H)} {before pa pv:List MemPlace}
  (hW:DataW.Whole enc P f.params.toList s.vars apart W args.toList ds gs before)
  (hres:∀ (b:Nat) (sp:Nat→Bool) (hd:Bool),DataW.TrodAll enc P W' b sp hd f.resultTypes.toList (v.resultList f.resultTypes.size) (s.fn H (ds++gs)).results [])
  (hargs:∀ sp:Nat→Bool,(∀ p∈before,sp p.block=true)→DataW.TrodAll enc P W' 0 sp true f.params.toList args.toList (s.fn H (ds++gs)).args pa)
  (hvars:∀ sp:Nat→Bool,(∀ p∈before,sp p.block=true)→DataW.TrodVars enc P W' sp s.vars (s.fn H (ds++gs)).vars pv)
  (hps:before=pa++pv) (hb:Below W.heap.size W W')
  (hok:∀ (j:Nat) (t:TypeId) (r:Value),f.resultTypes[j]? =some t→(v.resultList f.resultTypes.size)[j]? =some r→Value.okWide P W' .any 0 t r):
  s.post enc P f apart fresh handsOn again W args v W':=by
 have hlt:∀ p∈before,p.block < W.heap.size:=fun p hp=>hW.lt p hp
 have hold:∀ p∈before,(fun b=>decide (b < W.heap.size)) p.block=true:=fun p hp=>by simpa using hlt p hp
 refine ⟨ds,gs,before,[],pa,pv,hW,hres _ _ _,hargs _ hold,hvars _ hold,World.keptBut_mono (fun p hp=>⟨hp,?_⟩) (hb.frame (·∈before)),fun _=>?_⟩
 ·rw [hps,List.mem_append] at hp
  exact Or.inr hp
 ·obtain ⟨_,_,_,_,_,hz,hn⟩:=hW
  refine ⟨hok,_,_,([]++pa)++pv,⟨[]++pa,pv,trodAll_append (hargs _ (fun _ _=>rfl)) (hres _ _ _),hvars _ (fun _ _=>rfl),rfl,?_,?_⟩,?_⟩
  ·intro b off hp
   have hin:MemPlace.cell b off∈before:=by rw [hps];simpa using hp
   rw [hb.frozen (hlt _ hin)]
   exact hz b off hin
  ·intro ha
   have:=hn ha
   rw [hps] at this
   simpa using this
  ·intro p hp _
   rw [hps]
   simpa using hp
end
theorem holds_var {P:Program} {W:World} (hsh:W.ShapedOpen P) {name:String} {g t:Nat} {cs:List Value} (hg:P.globalNamed name=some g) (hlt:g < P.globals.size) (hz:((((begin P (fun _ _=>0) default).world.heap[g]?).bind Obj.row?).map (·.2))=some t)
  (hv:W.var? P name=some ⟨cs⟩):∃ fr,W.heap[g]? =some (.cells ⟨cs⟩ t fr):=by
 cases hq:((begin P (fun _ _=>0) default).world.heap[g]?).bind Obj.row? with
 | none=>rw [hq] at hz;cases hz
 | some x=>
  obtain ⟨zero,t'⟩:=x
  rw [hq] at hz
  simp only [Option.map_some,Option.some.injEq] at hz
  subst hz
  obtain ⟨cs',h1,_⟩:=hsh.1 g zero t' hlt hq
  unfold World.var? at hv
  rw [hg] at hv
  simp only [Option.bind_some,h1,Option.some.injEq] at hv
  subst hv
  exact ⟨_,h1⟩
end Go.Abs
namespace Go.Abs
section
variable {P:Program} {X:XNames} {W0:World} {m0:Inj P}
def WP (P:Program) (X:XNames) (W0:World) (m0:Inj P) (s:ASt) (Q:Value→AW→Prop):Prop:=
 ∀ (f0:FuncId) (base lo:Nat) (cs0:List Frame) (m:Inj P) (f:Frame) (csW:List Frame) (w:World),SRel P X f0 base lo m s f csW w→Old W0 m0 m s.w w→
  ∃ v A',Q v A'∧∃ v' m' w' f',Steps P (lone f (csW++cs0) w) (lone f' cs0 w')∧VRel m' v v'∧EvL base m s.w w m' A' w'∧f'.leaving P w' (.returned v')∧f'.fn=f0
theorem Reach.wp {s:ASt} {L:List ASt} {Q:Value→AW→Prop} (h:Reach P X W0 m0 s L) (h':∀ x∈L,WP P X W0 m0 x Q):WP P X W0 m0 s Q:=by
 intro f0 base lo cs0 m f csW w hr ho
 obtain ⟨s',hs',lo1,m1,f1,cs1,w1,t1,t2,t3⟩:=h f0 base lo cs0 m f csW w hr ho
 obtain ⟨v,A',hq,v',m',w',f',u1,u2,u3,u4,u5⟩:=h' s' hs' f0 base lo1 cs0 m1 f1 cs1 w1 t3 (ho.next t2)
 exact ⟨v,A',hq,v',m',w',f',t1.trans u1,u2,t2.trans u3,u4,u5⟩
theorem Reach.wp1 {s s':ASt} {Q:Value→AW→Prop} (h:Reach P X W0 m0 s [s']) (h':WP P X W0 m0 s' Q):WP P X W0 m0 s Q:=h.wp fun x hx=>by simp at hx;subst hx;exact h'
theorem Res.wp {s:ASt} {l:List (Value × AW)} {Q:Value→AW→Prop} (h:Res P X W0 m0 s l) (hq:∀ x∈l,Q x.1 x.2):WP P X W0 m0 s Q:=by
 intro f0 base lo cs0 m f csW w hr ho
 obtain ⟨x,hx,r⟩:=h f0 base lo cs0 m f csW w hr ho
 exact ⟨x.1,x.2,hq x hx,r⟩
theorem wp_sub {fr c:AFr} {rest:List AFr} {A:AW} {K Q:Value→AW→Prop} (hk:fr.kind=.normal) (hro:fr.roundOf=none) (h:WP P X W0 m0 ⟨fr,[],A⟩ K) (h':∀ v A',K v A'→WP P X W0 m0 ⟨c.finish v,rest,A'⟩ Q):
  WP P X W0 m0 ⟨fr,c::rest,A⟩ Q:=by
 intro f0 base lo cs0 m f csW w hr ho
 obtain ⟨lo1,g,l',rfl,h1,h2,h3⟩:=hr.stk.inv
 have hbase:=hr.stk.base
 have hlo:=hr.below
 have hs:SRel P X fr.fn lo lo m ⟨fr,[],A⟩ f [] w:=⟨hr.rel,hr.glob,hr.below,hr.top,.nil lo (Nat.le_refl _),⟨hk,rfl,hro⟩⟩
 obtain ⟨v,A',hK,v',m',w',f',u1,u2,u3,u4,u5⟩:=h fr.fn lo lo (g::l'++cs0) m f [] w hs ho
 have hnext:A.next≤A'.next:=u3.next
 have hsim:Sim P X f0 base cs0 m A w (lone f (g::l'++cs0) w) ⟨c.finish v,rest,A'⟩:=by
  refine ⟨lo1,m',g.finish v',l',w',?_,u3.weak hbase,u3.rel,hr.glob.mono u3.ext,?_,?_,?_,?_⟩
  ·exact u1.trans (.one (step_leave_returned u4))
  ·show lo1≤A'.next
   have:lo≤A.next:=hlo
   omega
  ·refine (h2.mono (A':=A') u3.ext (fun i hi=>u3.same i hi) (Nat.le_refl lo)).finish u2 ?_
   have:lo≤A.next:=hlo
   show lo≤A'.next
   omega
  ·exact h3.mono u3.ext fun i hi=>u3.same i (by omega)
  ·have hb:Bot f0 (c::rest):=hr.bot
   exact hb.finish v
 obtain ⟨lo2,m2,f2,cs2,w2,t1,t2,t3⟩:=hsim
 obtain ⟨v2,A2,hq,v3,m3,w3,f3,s1,s2,s3,s4,s5⟩:=h' v A' hK f0 base lo2 cs0 m2 f2 cs2 w2 t3 (ho.next t2)
 exact ⟨v2,A2,hq,v3,m3,w3,f3,t1.trans s1,s2,t2.trans s3,s4,s5⟩
def Wc (P:Program) (X:XNames) (W0:World) (m0:Inj P) (g:FuncId) (args:List Value) (A:AW) (K:Value→AW→Prop):Prop:=
 (enterA P g args .normal).isSome=true∧WP P X W0 m0 ⟨frOf P g args,[],A⟩ K
theorem calls_of_wc (hP:POk P) {m:Inj P} {A:AW} {w:World} {g:FuncId} {args args':List Value} {Q:Value→AW→Prop} (h:Wc P X w m g args A Q) (r:Rel m A w) (hG:GOk m)
  (hno:∀ c,¬ Own m A c) (ha:VRels m args args'):Calls P g ⟨args'⟩ w fun e w'=>∃ v v' m' A',Q v A'∧e=.returned v'∧VRel m' v v'∧EvL A.next m A w m' A' w':=by
 intro cs0
 obtain ⟨fr,he⟩:=Option.isSome_iff_exists.1 h.1
 have h2:=h.2
 unfold frOf at h2
 rw [he] at h2
 obtain ⟨g1,g2,g3,g4⟩:=enter_rel (X:=X) (A:=A) hP he ha (.inl rfl) A.next A.next
 have hs:SRel P X g A.next A.next m ⟨fr,[],A⟩ (Frame.enter P g ⟨args'⟩ .normal) [] w:=⟨r,hG,Nat.le_refl _,g1,.nil _ (Nat.le_refl _),⟨g2,g3,g4⟩⟩
 obtain ⟨v,A',hq,v',m',w',f',k1,k2,k3,k4,k5⟩:=h2 g A.next A.next cs0 m _ [] w hs ⟨.refl m,.refl _ _,fun c _=>hno c⟩
 exact ⟨.returned v',w',f',⟨v,v',m',A',hq,rfl,k2,k3⟩,k1,k5,k4⟩
theorem wp_lib (hX:XOk P X) (hP:POk P) {s s':ASt} {g:FuncId} {args:List Value} {K Q:Value→AW→Prop} (h:stepD P X s=.calls g args s')
  (hk:∀ (m:Inj P) (w:World) (args':List Value),Rel m s'.w w→m0.le m→Go.RowKit.Below W0.heap.size W0 w→VRels m args args'→
   Calls P g ⟨args'⟩ w fun e w'=>∃ v v' m' A',K v A'∧e=.returned v'∧VRel m' v v'∧EvL s'.w.next m s'.w w m' A' w')
  (h':∀ v A',K v A'→WP P X W0 m0 ⟨s'.fr.finish v,s'.cs,A'⟩ Q):WP P X W0 m0 s Q:=by
 intro f0 base lo cs0 m f csW w hr ho
 have hs:=step_says (cs0:=cs0) hX hP hr
 rw [h] at hs
 obtain ⟨lo',m',f',cs',w',args',t1,t2,t3,t4,t5,t6,t7,t8⟩:=hs
 have ho':=ho.next t2
 obtain ⟨e,w'',fr,⟨v,v',m2,A2,hK,rfl,hv,hev⟩,hst,_,hlv⟩:=hk m' w' args' t2.rel ho'.le ho'.below t3 (f'::(cs'++cs0))
 have hst:Steps P (lone (Frame.enter P g ⟨args'⟩ .normal) (f'::(cs'++cs0)) w') (lone fr (f'::(cs'++cs0)) w''):=hst
 have hbase:=t7.base
 have hnext:s'.w.next≤A2.next:=hev.next
 have hev0:EvL base m' s'.w w' m2 A2 w'':=hev.weak (by omega)
 have hsim:Sim P X f0 base cs0 m s.w w (lone f (csW++cs0) w) ⟨s'.fr.finish v,s'.cs,A2⟩:=
  ⟨lo',m2,f'.finish v',cs',w'',t1.trans (hst.trans (.one (step_leave_returned hlv))),t2.trans hev0,hev.rel,t4.mono hev.ext,(by show lo'≤A2.next;omega),
   (t6.mono hev.ext hev.same hnext).finish hv (Nat.le_refl _),t7.mono hev.ext fun i hi=>hev.same i (by omega),t8.finish v⟩
 obtain ⟨lo2,m3,f3,cs3,w3,u1,u2,u3⟩:=hsim
 obtain ⟨v2,A3,hq,v3,m4,w4,f4,s1,s2,s3,s4,s5⟩:=h' v A2 hK f0 base lo2 cs0 m3 f3 cs3 w3 u3 (ho.next u2)
 exact ⟨v2,A3,hq,v3,m4,w4,f4,u1.trans s1,s2,u2.trans s3,s4,s5⟩
def pureW (r:Option Value) (K:Value→Prop):Prop:=∃ v,r=some v∧K v
def effW (r:Option AW) (K:AW→Prop):Prop:=∃ A,r=some A∧K A
def bothW (r:R Value) (K:Value→AW→Prop):Prop:=∃ v A,r=.ok v A∧K v A
def LibW (P:Program) (W0:World) (m0:Inj P) (g:FuncId) (args:List Value) (A:AW) (K:Value→AW→Prop):Prop:=
 ∀ (m:Inj P) (w:World) (args':List Value),Rel m A w→m0.le m→Go.RowKit.Below W0.heap.size W0 w→VRels m args args'→
  Calls P g ⟨args'⟩ w fun e w'=>∃ v v' m' A',K v A'∧e=.returned v'∧VRel m' v v'∧EvL A.next m A w m' A' w'
def knW (P:Program) (W0:World) (m0:Inj P) (g:FuncId) (args:List Value) (A:AW) (K:Value→AW→Prop):Prop:=
 (∃ vals,g≠sameFn∧KC.Holds P W0 m0 ⟨g,args,vals⟩∧vals.all (closedV 4)=true∧∀ v∈vals,K v A)∨LibW P W0 m0 g args A K
def toW (P:Program) (X:XNames) (W0:World) (m0:Inj P) (g:FuncId) (args:List Value) (A:AW) (K:Value→AW→Prop):Prop:=
 bif memN g X.known then knW P W0 m0 g args A K else Wc P X W0 m0 g args A K
abbrev roundFr (fn:FuncId) (tm:Tm) (assign body:Code) (l:Nat):AFr:=⟨fn,tm,[.code assign,.beginRound,.code body],[],.run,.normal,some l,false⟩
def RoundW (P:Program) (X:XNames) (W0:World) (m0:Inj P) (l:Nat) (fn:FuncId) (tm:Tm) (assign body:Code) (A:AW) (K:Value→AW→Prop):Prop:=
 ∀ (c:AFr) (rest:List AFr) (Q:Value→AW→Prop),(∀ v A',K v A'→WP P X W0 m0 ⟨c.finish v,rest,A'⟩ Q)→WP P X W0 m0 ⟨roundFr fn tm assign body l,c::rest,A⟩ Q
def candsOf (es:List MapEntry) (since:Nat) (seen:List Nat):List (Option MapEntry):=
 (if ((es.filter fun e=>!seen.contains e.born).filter fun e=>Nat.blt e.born since).isEmpty then [none] else [])++
  (((es.filter fun e=>!seen.contains e.born).filter fun e=>Nat.blt e.born since)++((es.filter fun e=>!seen.contains e.born).filter fun e=>Nat.ble since e.born)).map some
def nextW (A:AW) (r:Nat) (K:Value→AW→Prop):Prop:=
 ∃ m since seen last es clock ro,A.get r=some (.mit (some m) since seen last)∧A.get m=some (.map es clock ro)∧(!seen.isEmpty&&!es.isEmpty&&es.all (fun e=>Nat.ble last e.born))=false∧
  ∀ c∈candsOf es since seen,(match c with
   | some e=>K (.tuple #[.bool true,e.key,e.val]) (A.put r (.mit (some m) since (seen++[e.born]) clock))
   | none=>K (.tuple #[.bool false]) A)
def anW (P:Program) (X:XNames) (W0:World) (m0:Inj P) (r:R AN) (K:Value→AW→Prop):Prop:=
 (∃ v A,r=.ok (.value v) A∧K v A)∨(∃ g args A,r=.ok (.enter g args) A∧toW P X W0 m0 g args A K)∨
  (∃ l fn tm assign body A,r=.ok (.round l fn tm assign body) A∧RoundW P X W0 m0 l fn tm assign body A K)∨(∃ it A,r=.ok (.rangeNext it) A∧nextW A it K)
def pickW (c a b:Value) (K:Value→Prop):Prop:=∃ t,c=.bool t∧K (bif t then a else b)
def loadP (P:Program) (A:AW) (t:TypeId) (a:Value):Option Value:=match a with | .pointer (some a)=>loadVarA P A t a | _=>none
def storeP (P:Program) (A:AW) (t:TypeId) (a x:Value):Option AW:=match a with | .pointer (some a)=>storeVarA P A t a x | _=>none
def newP (A:AW) (cs:List Value) (e:TypeId):R Value:=match A.newRow cs e with | some (a,A')=>.ok (.pointer (some a)) A' | none=>.fail ""
def allocP (P:Program) (A:AW) (e:TypeId):R Value:=match zeroT P e with | some z=>newP A z.cells.toList e | none=>.fail ""
def newMapP (A:AW):R Value:=match A.new (.map [] 0 false) with | some (b,A')=>.ok (.map (some b)) A' | none=>.fail ""
def ifaceP (P:Program) (t:TypeId) (x:Value):Option Value:=match P.underlying t with | some (.interface _)=>none | some _=>some (.iface t x) | none=>none
def extractP (t:Value) (i:Nat):Option Value:=match t with | .tuple vs=>vs.toList[i]? | _=>none
def mapEntryP (P:Program) (A:AW) (t:TypeId) (m k:Value):R Value:=match mapEntryA P A t m k with | some (v,A')=>.ok v A' | none=>.fail ""
def nilP (x:Value):Option Value:=match x with | .pointer none=>none | .nilIface=>none | .nilFunc=>none | .func (.method _) _ _=>none | x=>some x
def dynA (P:Program) (X:XNames) (A:AW) (f:Value) (args:List Value):R AN:=match f with | .func fn first captured=>invokeA P X A (.fn fn captured) (first.toList++args) | _=>.fail ""
def minP (x:Value) (r:List Value):Option Value:=match x with | .int k a=>(match minL a r with | some n=>some (.int k n) | none=>none) | _=>none
def maxP (x:Value) (r:List Value):Option Value:=match x with | .int k a=>(match maxL a r with | some n=>some (.int k n) | none=>none) | _=>none
def callW (P:Program) (X:XNames) (W0:World) (m0:Inj P) (ρ:Operand→Value) (c:Call) (type:TypeId) (A:AW) (K:Value→AW→Prop):Prop:=
 match c.callee,c.argTypes.toList,c.args.toList with
 | .builtin .len,[t],[x]=>pureW (lenA P A t (ρ x)) fun v=>K v A
 | .builtin .append,[t,t2],[s,x]=>bothW (appendA P A t t2 (ρ s) (ρ x)) K
 | .builtin .copy,[t,_],[d,x]=>bothW (copyA P A t (ρ d) (ρ x)) K
 | .builtin .delete,[t,_],[m,k]=>effW (deleteA P A t (ρ m) (ρ k)) fun A=>K (.tuple #[]) A
 | .builtin .clear,[t],[x]=>effW (clearA P A t (ρ x)) fun A=>K (.tuple #[]) A
 | .builtin .min,_,x::r=>pureW (minP (ρ x) (r.map ρ)) fun v=>K v A
 | .builtin .max,_,x::r=>pureW (maxP (ρ x) (r.map ρ)) fun v=>K v A
 | .value (.func f),_,args=>bif hasBody P f then toW P X W0 m0 f (args.map ρ) A K else anW P X W0 m0 (callFuncA P X A f (args.map ρ)) K
 | .value f,_,args=>anW P X W0 m0 (dynA P X A (ρ f) (args.map ρ)) K
 | .invoke recv name,_,args=>anW P X W0 m0 (callMethodA P X A (ρ recv) name (args.map ρ)) K
 | .builtin b,ts,args=>anW P X W0 m0 (builtinA P A b ts type (args.map ρ)) K
def opW (P:Program) (X:XNames) (W0:World) (m0:Inj P) (ρ:Operand→Value) (o:Oper) (A:AW) (K:Value→AW→Prop):Prop:=
 match o.op with
 | .move x=>K (ρ x) A
 | .assign x=>K (ρ x) A
 | .pick c a b=>pickW (ρ c) (ρ a) (ρ b) fun v=>K v A
 | .alloc e=>bothW (allocP P A e) K
 | .box e x=>bothW (newP A (ρ x).cells.toList e) K
 | .build t parts=>pureW (buildA P t (pickAt parts.toList ρ)) fun v=>K v A
 | .buildSlice t len parts=>bothW (buildSliceA P A t len (pickAt parts.toList ρ)) K
 | .load t a=>pureW (loadP P A t (ρ a)) fun v=>K v A
 | .store t a x=>effW (storeP P A t (ρ a) (ρ x)) fun A=>K undef A
 | .nilCheck x=>pureW (nilP (ρ x)) fun v=>K v A
 | .binOp op t x y _=>pureW (binA P op t x y (ρ x) (ρ y)) fun v=>K v A
 | .unOp op _ x=>pureW (unA P op (ρ x)) fun v=>K v A
 | .convert s d x=>bothW (convertA P A s d (ρ x)) K
 | .makeInterface t x=>pureW (ifaceP P t (ρ x)) fun v=>K v A
 | .makeFunc fn first captured=>(match fn with | .yield _=>False | _=>K (.func fn ⟨first.toList.map ρ⟩ ⟨captured.toList.map ρ⟩) A)
 | .makeMap _ none=>bothW (newMapP A) K
 | .makeSlice t l c=>bothW (makeSliceA P A t (ρ l) (ρ c)) K
 | .slice t x lo hi mx=>pureW (sliceA P A t (ρ x) (lo.map ρ) (hi.map ρ) (mx.map ρ)) fun v=>K v A
 | .fieldAddr s x f=>pureW (fieldAddrA P s (ρ x) f) fun v=>K v A
 | .field s x f=>pureW (fieldA P s (ρ x) f) fun v=>K v A
 | .indexAddr t x ix=>pureW (indexAddrA P t (ρ x) (ρ ix)) fun v=>K v A
 | .index t x ix=>pureW (indexA P t (ρ x) (ρ ix)) fun v=>K v A
 | .lookup t x k ok=>pureW (lookupA P A t (ρ x) (ρ k) ok) fun v=>K v A
 | .mapUpdate t m k x=>effW (mapUpdateA P A t (ρ m) (ρ k) (ρ x)) fun A=>K undef A
 | .insert t m k x=>effW (mapUpdateA P A t (ρ m) (ρ k) (ρ x)) fun A=>K undef A
 | .mapEntry t m k=>bothW (mapEntryP P A t (ρ m) (ρ k)) K
 | .entryStore _ m s x=>effW (entryStoreA A (ρ m) (ρ s) (ρ x)) fun A=>K undef A
 | .typeAssert x xt at_ ok=>pureW (typeAssertA P (ρ x) xt at_ ok) fun v=>K v A
 | .extract t ix=>pureW (extractP (ρ t) ix) fun v=>K v A
 | .call c=>callW P X W0 m0 ρ c o.type A K
 | _=>anW P X W0 m0 (execA P X ρ o A) K
def Does (P:Program) (X:XNames) (W0:World) (m0:Inj P) (r:R AN) (K:Value→AW→Prop):Prop:=
 (∃ v A,r=.ok (.value v) A∧K v A)∨(∃ A,r=.ok .skip A∧K undef A)∨(∃ g args A,r=.ok (.enter g args) A∧toW P X W0 m0 g args A K)∨
  (∃ l fn tm assign body A,r=.ok (.round l fn tm assign body) A∧RoundW P X W0 m0 l fn tm assign body A K)∨(∃ it A,r=.ok (.rangeNext it) A∧nextW A it K)
theorem anW.does {r:R AN} {K:Value→AW→Prop} (h:anW P X W0 m0 r K):Does P X W0 m0 r K:=by
 rcases h with h | h | h
 ·exact .inl h
 ·exact .inr (.inr (.inl h))
 ·exact .inr (.inr (.inr h))
end
section
variable {P:Program} {X:XNames} {W0:World} {m0:Inj P}
theorem does_pure {r:Option Value} {A:AW} {K:Value→AW→Prop} (h:pureW r fun v=>K v A) {why:String}:Does P X W0 m0 (match (generalizing:=false) r with | some v=>.ok (.value v) A | none=>.fail why) K:=by
 obtain ⟨v,rfl,hk⟩:=h
 exact .inl ⟨v,A,rfl,hk⟩
theorem does_eff {r:Option AW} {K:Value→AW→Prop} (h:effW r fun A=>K undef A) {why:String}:Does P X W0 m0 (match (generalizing:=false) r with | some A=>.ok .skip A | none=>.fail why) K:=by
 obtain ⟨v,rfl,hk⟩:=h
 exact .inr (.inl ⟨v,rfl,hk⟩)
theorem does_effT {r:Option AW} {K:Value→AW→Prop} (h:effW r fun A=>K (.tuple #[]) A) {why:String}:Does P X W0 m0 (match (generalizing:=false) r with | some A=>.ok (.value (.tuple #[])) A | none=>.fail why) K:=by
 obtain ⟨v,rfl,hk⟩:=h
 exact .inl ⟨_,v,rfl,hk⟩
theorem does_both {r:R Value} {K:Value→AW→Prop} (h:bothW r K):Does P X W0 m0 (match (generalizing:=false) r with | .ok v A=>.ok (.value v) A | .panic v A=>.panic v A | .fail y=>.fail y) K:=by
 obtain ⟨v,A,rfl,hk⟩:=h
 exact .inl ⟨v,A,rfl,hk⟩
theorem does_value {v:Value} {A:AW} {K:Value→AW→Prop} (h:K v A):Does P X W0 m0 (.ok (.value v) A) K:=.inl ⟨v,A,rfl,h⟩
theorem callW_does {ρ:Operand→Value} (hρ:∀ f,ρ (.func f)=.func (.func f) #[] #[]) {c:Call} {type:TypeId} {A:AW} {K:Value→AW→Prop} (h:callW P X W0 m0 ρ c type A K):
  Does P X W0 m0 (match (generalizing:=false) resolveA ρ c type with | some d=>invokeA P X A d.target d.args.toList | none=>.fail "call no function") K:=by
 obtain ⟨callee,args,ts⟩:=c
 unfold callW at h
 simp only at h
 unfold resolveA
 split at h
 ·rename_i h1 h2
  simp only [h1,h2,invokeA,builtinA,List.map_cons,List.map_nil]
  exact does_pure h
 ·rename_i h1 h2
  simp only [h1,h2,invokeA,builtinA,List.map_cons,List.map_nil]
  exact does_both h
 ·rename_i h1 h2
  simp only [h1,h2,invokeA,builtinA,List.map_cons,List.map_nil]
  exact does_both h
 ·rename_i h1 h2
  simp only [h1,h2,invokeA,builtinA,List.map_cons,List.map_nil]
  exact does_effT h
 ·rename_i h1 h2
  simp only [h1,h2,invokeA,builtinA,List.map_cons,List.map_nil]
  exact does_effT h
 ·rename_i x r h2
  simp only [h2,invokeA,List.map_cons]
  obtain ⟨v,hv,hk⟩:=h
  unfold minP at hv
  split at hv
  ·rename_i k a he
   split at hv
   ·rename_i n hn
    cases hv
    simp only [he,builtinA,hn]
    exact does_value hk
   ·cases hv
  ·cases hv
 ·rename_i x r h2
  simp only [h2,invokeA,List.map_cons]
  obtain ⟨v,hv,hk⟩:=h
  unfold maxP at hv
  split at hv
  ·rename_i k a he
   split at hv
   ·rename_i n hn
    cases hv
    simp only [he,builtinA,hn]
    exact does_value hk
   ·cases hv
  ·cases hv
 ·rename_i f
  simp only [hρ,invokeA,List.nil_append,List.append_nil]
  cases hb:hasBody P f with
  | true=>
   rw [hb,cond_true] at h
   unfold callFuncA
   rw [hb,cond_true]
   exact .inr (.inr (.inl ⟨f,_,A,rfl,h⟩))
  | false=>
   rw [hb,cond_false] at h
   exact h.does
 ·simp only
  have h:=h.does
  unfold dynA at h
  split at h
  ·rename_i he
   simp only [he]
   exact h
  ·rcases h with ⟨v,A',h,_⟩ | ⟨A',h,_⟩ | ⟨g,aS,A',h,_⟩ | ⟨l,fn,tm,a,b,A',h,_⟩ | ⟨it,A',h,_⟩ <;> cases h
 ·simp only [invokeA]
  exact h.does
 ·simp only [invokeA]
  exact h.does
theorem opW_does {ρ:Operand→Value} (hρ:∀ f,ρ (.func f)=.func (.func f) #[] #[]) {o:Oper} {A:AW} {K:Value→AW→Prop} (h:opW P X W0 m0 ρ o A K):Does P X W0 m0 (execA P X ρ o A) K:=by
 obtain ⟨dst,op,type,pos,after,guard⟩:=o
 unfold opW at h
 unfold execA
 cases op with
 | move x=>exact does_value h
 | assign x=>exact does_value h
 | pick c a b=>
  obtain ⟨t,h1,h2⟩:=h
  simp only [h1]
  cases t <;> exact does_value h2
 | alloc e=>
  obtain ⟨v,A',h1,h2⟩:=h
  unfold allocP newP at h1
  split at h1
  ·rename_i z hz
   simp only [hz]
   split at h1
   ·rename_i a A2 ha
    cases h1
    simp only [ha]
    exact does_value h2
   ·cases h1
  ·cases h1
 | box e x=>
  obtain ⟨v,A',h1,h2⟩:=h
  unfold newP at h1
  split at h1
  ·rename_i a A2 ha
   cases h1
   simp only [ha]
   exact does_value h2
  ·cases h1
 | build t parts=>exact does_pure h
 | buildSlice t len parts=>exact does_both h
 | load t a=>
  obtain ⟨v,h1,h2⟩:=h
  unfold loadP at h1
  split at h1
  ·rename_i ad he
   simp only [he]
   rw [h1]
   exact does_value h2
  ·cases h1
 | store t a x=>
  obtain ⟨v,h1,h2⟩:=h
  unfold storeP at h1
  split at h1
  ·rename_i ad he
   simp only [he]
   rw [h1]
   exact .inr (.inl ⟨_,rfl,h2⟩)
  ·cases h1
 | nilCheck x=>
  obtain ⟨v,h1,h2⟩:=h
  unfold nilP at h1
  split at h1
  ·cases h1
  ·cases h1
  ·cases h1
  ·cases h1
  ·cases h1
   simp only
   exact does_value h2
 | binOp op t x y yt=>exact does_pure h
 | unOp op t x=>exact does_pure h
 | convert s d x=>exact does_both h
 | makeInterface t x=>
  obtain ⟨v,h1,h2⟩:=h
  unfold ifaceP at h1
  simp only
  cases hu:P.underlying t with
  | none=>rw [hu] at h1;cases h1
  | some d=>
   rw [hu] at h1
   cases d <;> first | (cases h1;done) | (cases h1;exact does_value h2)
 | makeFunc fn first captured=>
  simp only at h ⊢
  split at h
  ·exact h.elim
  ·split
   ·simp_all
   ·exact does_value h
 | makeMap t r=>
  cases r with
  | none=>
   obtain ⟨v,A',h1,h2⟩:=h
   unfold newMapP at h1
   simp only
   split at h1
   ·rename_i b A2 hb
    cases h1
    simp only [hb]
    exact does_value h2
   ·cases h1
  | some r=>exact h.does
 | makeSlice t l c=>exact does_both h
 | slice t x lo hi mx=>exact does_pure h
 | fieldAddr s x f=>exact does_pure h
 | field s x f=>exact does_pure h
 | indexAddr t x ix=>exact does_pure h
 | index t x ix=>exact does_pure h
 | lookup t x k ok=>exact does_pure h
 | mapUpdate t m k x=>exact does_eff h
 | insert t m k x=>exact does_eff h
 | mapEntry t m k=>
  obtain ⟨v,A',h1,h2⟩:=h
  unfold mapEntryP at h1
  simp only
  split at h1
  ·rename_i b A2 hb
   cases h1
   simp only [hb]
   exact does_value h2
  ·cases h1
 | entryStore t m s x=>exact does_eff h
 | typeAssert x xt at_ ok=>exact does_pure h
 | extract t ix=>
  obtain ⟨v,h1,h2⟩:=h
  unfold extractP at h1
  simp only
  split at h1
  ·rename_i vs he
   simp only [he]
   rw [h1]
   exact does_value h2
  ·cases h1
 | call c=>exact callW_does hρ h
 | _=>exact h.does
end
def forkW (v:Value) (p q:Prop):Prop:=(∃ b,v=.bool b)∧(v=.bool true→p)∧(v=.bool false→q)
def cutW (a b:List Item) (p:Prop):Prop:=a=b∧p
def eqW (a b:Value) (p:Prop):Prop:=a=b∧p
def freshW (c:Option Fresh) (A:AW) (v:Value) (p:Prop):Prop:=(∃ f,c=some f∧stillFresh A v f=true)∧p
def knOf (kt kf:Nat):Operand→Option Bool
 | .const (.bool b)=>some b
 | .tmp t=>bif kt.testBit t then some true else bif kf.testBit t then some false else none
 | _=>none
def knOp (kt kf:Nat):Op→Option Bool
 | .move x=>knOf kt kf x
 | .assign x=>knOf kt kf x
 | .pick c a b=>(match knOf kt kf c with | some true=>knOf kt kf a | some false=>knOf kt kf b | none=>none)
 | _=>none
def pickKn (kt kf:Nat):Op→Option Operand
 | .pick c a b=>(match knOf kt kf c with | some true=>some a | some false=>some b | none=>none)
 | _=>none
def clr (k d:Nat):Nat:=bif k.testBit d then k ^^^ (1 <<< d) else k
def setB (k d:Nat):Nat:=bif k.testBit d then k else k ^^^ (1 <<< d)
def knT (kt d:Nat):Option Bool→Nat
 | some true=>setB kt d
 | _=>clr kt d
def knF (kf d:Nat):Option Bool→Nat
 | some false=>setB kf d
 | _=>clr kf d
def opdT (kt:Nat):Operand→Nat
 | .tmp t=>setB kt t
 | _=>kt
def cutId:List Item→Nat
 | .inBlock id::_=>id
 | _=>0
def oneOf:List Value→Value
 | [v]=>v
 | l=>.tuple ⟨l⟩
def slotOf (ops:Array Oper) (j:Nat):Option Tmp:=match ops.toList[j]? with | some o=>o.dst | none=>none
def knU (ku d:Nat) (skipped:Bool):Nat:=bif skipped then setB ku d else clr ku d
def wants (kt kf ku:Nat) (ops:Array Oper) (o:Oper):Option Bool:=
 match o.guard with
 | none=>some true
 | some (j,want)=>(match slotOf ops j with
  | none=>none
  | some d=>bif ku.testBit d then some false else (match knOf kt kf (.tmp d) with | some b=>some (b==want) | none=>none))
section
variable (P:Program) (X:XNames) (W0:World) (m0:Inj P)
def resGo (A:AW) (tm:Tm) (Q:Value→AW→Prop):List ResultVar→List Value→Prop
 | [],acc=>Q (oneOf acc.reverse) A
 | .tmp t::r,acc=>resGo A tm Q r (tm.get t::acc)
 | .cell a t::r,acc=>pureW (loadP P A t (tm.get a)) fun v=>resGo A tm Q r (v::acc)
def retW (fn:FuncId) (A:AW) (tm:Tm) (Q:Value→AW→Prop):Prop:=
 match P.funcs[fn]? with
 | some f=>resGo P A tm Q f.results.toList []
 | none=>False
def takeDs:List Nat→AW→(AW→Prop)→Prop
 | [],A,K=>K A
 | D::r,A,K=>A.get D=some (.deferred (some []))∧takeDs r (A.put D (.deferred none)) K
def leaveW (A:AW) (l:Nat) (j:Option Code) (K:Value→AW→Prop):Prop:=
 ∃ r,A.get l=some (.loop r)∧K (.bool j.isNone) (A.put l (.loop { r with state:=if j.isNone then .ready else .done,pending:=j }))
def leaveR (fn:FuncId) (ro:Option Nat) (ds:List Nat) (A:AW) (tm:Tm) (Q:Value→AW→Prop) (j:Option Code):Prop:=
 match ro with
 | none=>(match j with | none=>takeDs ds A fun A=>retW P fn A tm Q | some .ret=>takeDs ds A fun A=>retW P fn A tm Q | _=>False)
 | some l=>(match ds with | []=>leaveW A l j Q | _=>False)
def beginW (A:AW) (l:Nat) (K:AW→Prop):Prop:=∃ r,A.get l=some (.loop r)∧r.state=.ready∧K (A.put l (.loop { r with state:=.busy }))
def loopW (A:AW) (fn:FuncId) (tm:Tm) (ps:List Tmp) (assign body:Code) (K:Nat→Nat→AW→Prop):Prop:=
 ∃ D A1 l A2,A.new (.deferred (some []))=some (D,A1)∧A1.new (.loop { state:=.ready,pending:=none,fn:=fn,tm:=tm,params:=ps,assign:=assign,body:=body,defers:=D })=some (l,A2)∧K D l A2
def setsT (tm:Tm) (l:List (Nat × Value)):Tm:=l.foldl (fun tm p=>tm.set p.1 p.2) tm
def endLoopW (A:AW) (l:Nat) (p q:AW→Prop):Prop:=
 ∃ r,A.get l=some (.loop r)∧r.state≠ .busy∧((r.pending=none∧p (A.put l (.loop { r with state:=.exhausted })))∨(r.pending=some .ret∧q (A.put l (.loop { r with state:=.exhausted }))))
def dynW (A:AW) (f:Value) (args:List Value) (K:Value→AW→Prop):Prop:=∃ g aS A',dynA P X A f args=.ok (.enter g aS) A'∧Wc P X W0 m0 g aS A' K
def noDs (ds:List Nat) (p:Prop):Prop:=match ds with | []=>p | _=>False
def wpgo (fn:FuncId) (T:Nat→List Item) (L:Nat→List Tmp) (S:Nat→List Value→AW→Prop) (Q:Value→AW→Prop) (ro:Option Nat):Nat→Tm→List Item→Bool→Nat→Nat→Nat→List Nat→AW→Prop
 | 0,_,_,_,_,_,_,_,_=>False
 | n+1,tm,todo,dr,kt,kf,ku,ds,A=>
  match todo with
  | []=>bif dr then False else leaveR P fn ro ds A tm Q none
  | .code .ret::_=>bif dr then False else leaveR P fn ro ds A tm Q (some .ret)
  | .beginRound::k=>bif dr then False else (match ro with | some l=>beginW A l fun A'=>wpgo fn T L S Q ro n tm k dr kt kf ku ds A' | none=>False)
  | .code (.rangeFunc f ps assign body)::k=>bif dr then False else (match ro with
   | some _=>False
   | none=>loopW A fn tm ps.toList assign body fun D l A1=>dynW P X W0 m0 A1 (evalT tm f) [.func (.yield l) #[] #[]] fun _ A'=>
     endLoopW A' l (fun A''=>wpgo fn T L S Q ro n tm k dr kt kf ku (D::ds) A'') (fun A''=>takeDs (D::ds) A'' fun A3=>retW P fn A3 tm Q))
  | .code .skip::k=>wpgo fn T L S Q ro n tm k dr kt kf ku ds A
  | .code (.label _)::k=>wpgo fn T L S Q ro n tm k dr kt kf ku ds A
  | .inBlock _::k=>wpgo fn T L S Q ro n tm k dr kt kf ku ds A
  | .inScope _::k=>wpgo fn T L S Q ro n tm k dr kt kf ku ds A
  | .code (.seq a b)::k=>wpgo fn T L S Q ro n tm (.code a:: .code b::k) dr kt kf ku ds A
  | .code (.cond c a b)::k=>(match knOf kt kf c with
   | some true=>wpgo fn T L S Q ro n tm (.code a::k) dr kt kf ku ds A
   | some false=>wpgo fn T L S Q ro n tm (.code b::k) dr kt kf ku ds A
   | none=>forkW (evalT tm c) (wpgo fn T L S Q ro n tm (.code a::k) dr (opdT kt c) kf ku ds A) (wpgo fn T L S Q ro n tm (.code b::k) dr kt (opdT kf c) ku ds A))
  | .code (.block id b)::k=>wpgo fn T L S Q ro n tm (.code b:: .inBlock id::k) dr kt kf ku ds A
  | .code (.scope b)::k=>wpgo fn T L S Q ro n tm (.code b:: .inScope b::k) dr kt kf ku ds A
  | .code (.loop b)::k=>bif dr then False else noDs ds (cutW (.code b:: .inLoop b::k) (T (cutId k)) (S (cutId k) ((L (cutId k)).map tm.get) A))
  | .inLoop b::k=>bif dr then False else noDs ds (cutW (.code b:: .inLoop b::k) (T (cutId k)) (S (cutId k) ((L (cutId k)).map tm.get) A))
  | .code (.exit id)::k=>(match exitToA id k with | some k'=>wpgo fn T L S Q ro n tm k' dr kt kf ku ds A | none=>bif dr then False else leaveR P fn ro ds A tm Q (some (.exit id)))
  | .code (.region _ ops false)::k=>wpgo fn T L S Q ro n tm (.inRegion ops (List.range ops.toList.length)::k) dr kt kf ku ds A
  | .code (.region _ ops true)::k=>bif dstsIn tm.sz ops.toList then (match planA P ops.toList with
   | some p=>wpgo fn T L S Q ro n tm (.inRegion ops p::k) true kt kf ku ds A
   | none=>False) else False
  | .inRegion _ []::k=>wpgo fn T L S Q ro n tm k false kt kf ku ds A
  | .inRegion ops (i::rest)::k=>
   bif dr&&!Nat.blt i ops.toList.length then
    (match ops.toList[i - ops.toList.length]? with
    | none=>False
    | some o=>(match o.dst,wants kt kf ku ops o with
     | some d,some false=>eqW undef (tm.get d) (wpgo fn T L S Q ro n tm (.inRegion ops rest::k) dr kt kf ku ds A)
     | some d,some true=>bif quietOp P o.op then
       (match pickKn kt kf o.op with
       | some x=>eqW (evalT tm x) (tm.get d) (wpgo fn T L S Q ro n tm (.inRegion ops rest::k) dr kt kf ku ds A)
       | none=>opW P X W0 m0 (evalT tm) o A fun v _=>eqW v (tm.get d) (wpgo fn T L S Q ro n tm (.inRegion ops rest::k) dr kt kf ku ds A))
      else freshW (freshOf P (evalT tm) o.op) A (tm.get d) (wpgo fn T L S Q ro n tm (.inRegion ops rest::k) dr kt kf ku ds A)
     | _,_=>False))
   else (match ops.toList[i]? with
    | none=>False
    | some o=>
     let fin (kt kf:Nat) (r:Option Bool) (sk:Bool) (v:Value) (A':AW):Prop:=(match o.dst with
      | some d=>bif Nat.blt d tm.sz then wpgo fn T L S Q ro n (tm.set d v) (.inRegion ops rest::k) dr (knT kt d r) (knF kf d r) (knU ku d sk) ds A' else False
      | none=>wpgo fn T L S Q ro n tm (.inRegion ops rest::k) dr kt kf ku ds A')
     let go (kt kf:Nat):Prop:=(match pickKn kt kf o.op with
      | some x=>fin kt kf (knOf kt kf x) false (evalT tm x) A
      | none=>opW P X W0 m0 (evalT tm) o A (fin kt kf (knOp kt kf o.op) false))
     match o.guard with
     | none=>go kt kf
     | some (j,want)=>(match slotOf ops j with
      | none=>False
      | some d=>bif ku.testBit d then fin kt kf none true undef A else (match knOf kt kf (.tmp d) with
       | some b=>bif b==want then go kt kf else fin kt kf none true undef A
       | none=>forkW (tm.get d) (bif want then go (setB kt d) kf else fin (setB kt d) kf none true undef A) (bif want then fin kt (setB kf d) none true undef A else go kt (setB kf d)))))
  | _=>False
end
section
variable {P:Program} {X:XNames} {W0:World} {m0:Inj P}
structure Plain (X:XNames):Prop where
 forks:X.forks=[]
 asks:X.asks=[]
 says:X.says=[]
abbrev frC (fn:FuncId) (tm:Tm) (todo:List Item) (dr:Bool) (ro:Option Nat) (ds:List Nat):AFr:=⟨fn,tm,todo,ds.map fun D=>{ target:=.collected D,args:=#[] },.run,.normal,ro,dr⟩
abbrev frM (fn:FuncId) (tm:Tm) (todo:List Item) (dr:Bool):AFr:=⟨fn,tm,todo,[],.run,.normal,none,dr⟩
def Kn (kt kf ku:Nat) (tm:Tm):Prop:=∀ t,(kt.testBit t=true→tm.get t=.bool true)∧(kf.testBit t=true→tm.get t=.bool false)∧(ku.testBit t=true→tm.get t=undef)
theorem knOf_spec {kt kf ku:Nat} {tm:Tm} (h:Kn kt kf ku tm) {x:Operand} {b:Bool} (hx:knOf kt kf x=some b):evalT tm x=.bool b:=by
 cases x with
 | const v=>
  cases v <;> simp only [knOf] at hx <;> first | (cases hx;done) | (cases hx;rfl)
 | tmp t=>
  simp only [knOf] at hx
  cases h1:kt.testBit t with
  | true=>
   rw [h1,cond_true,Option.some.injEq] at hx
   subst hx
   exact (h t).1 h1
  | false=>
   rw [h1,cond_false] at hx
   cases h2:kf.testBit t with
   | true=>
    rw [h2,cond_true,Option.some.injEq] at hx
    subst hx
    exact (h t).2.1 h2
   | false=>rw [h2] at hx;cases hx
 | _=>cases hx
theorem testBit_setB (k d t:Nat):(setB k d).testBit t=(k.testBit t || d==t):=by
 unfold setB
 cases h:k.testBit d with
 | true=>
  simp only [cond_true]
  by_cases e:d=t
  ·subst e;simp [h]
  ·simp [e]
 | false=>
  simp only [cond_false,Nat.testBit_xor,Nat.one_shiftLeft,Nat.testBit_two_pow]
  by_cases e:d=t
  ·subst e;simp [h]
  ·simp [e]
theorem testBit_clr (k d t:Nat):(clr k d).testBit t=(k.testBit t&&!(d==t)):=by
 unfold clr
 cases h:k.testBit d with
 | false=>
  simp only [cond_false]
  by_cases e:d=t
  ·subst e;simp [h]
  ·simp [e]
 | true=>
  simp only [cond_true,Nat.testBit_xor,Nat.one_shiftLeft,Nat.testBit_two_pow]
  by_cases e:d=t
  ·subst e;simp [h]
  ·simp [e]
theorem Kn.set {kt kf ku:Nat} {tm:Tm} (h:Kn kt kf ku tm) (hs:tm.sz < maxId) {d:Nat} (hd:d < tm.sz) {v:Value} {r:Option Bool} {sk:Bool} (hr:∀ b,r=some b→v=.bool b) (hu:sk=true→v=undef):Kn (knT kt d r) (knF kf d r) (knU ku d sk) (tm.set d v):=by
 intro t
 rw [Tm.get_set tm hs d t v]
 by_cases e:t=d
 ·subst e
  rw [if_pos ⟨rfl,hd⟩]
  refine ⟨?_,?_,?_⟩
  ·cases r with
   | none=>simp [knT,testBit_clr]
   | some b=>cases b <;> simp [knT,testBit_clr,testBit_setB,hr]
  ·cases r with
   | none=>simp [knF,testBit_clr]
   | some b=>cases b <;> simp [knF,testBit_clr,testBit_setB,hr]
  ·cases sk with
   | false=>simp [knU,testBit_clr]
   | true=>simp [knU,testBit_setB,hu]
 ·rw [if_neg (by simp [e])]
  have hne:(d==t)=false:=by simp [Ne.symm e]
  refine ⟨?_,?_,?_⟩
  ·cases r with
   | none=>simpa [knT,testBit_clr,hne] using (h t).1
   | some b=>cases b <;> simpa [knT,testBit_clr,testBit_setB,hne] using (h t).1
  ·cases r with
   | none=>simpa [knF,testBit_clr,hne] using (h t).2.1
   | some b=>cases b <;> simpa [knF,testBit_clr,testBit_setB,hne] using (h t).2.1
  ·cases sk <;> simpa [knU,testBit_clr,testBit_setB,hne] using (h t).2.2
theorem Kn.true {kt kf ku:Nat} {tm:Tm} (h:Kn kt kf ku tm) {d:Nat} (hv:tm.get d=.bool true):Kn (setB kt d) kf ku tm:=by
 intro t
 rw [testBit_setB]
 refine ⟨fun ht=>?_,(h t).2⟩
 simp only [Bool.or_eq_true,beq_iff_eq] at ht
 rcases ht with ht | rfl
 ·exact (h t).1 ht
 ·exact hv
theorem Kn.false {kt kf ku:Nat} {tm:Tm} (h:Kn kt kf ku tm) {d:Nat} (hv:tm.get d=.bool false):Kn kt (setB kf d) ku tm:=by
 intro t
 rw [testBit_setB]
 refine ⟨(h t).1,fun ht=>?_,(h t).2.2⟩
 simp only [Bool.or_eq_true,beq_iff_eq] at ht
 rcases ht with ht | rfl
 ·exact (h t).2.1 ht
 ·exact hv
theorem wp_next (hX:XOk P X) (hP:POk P) {s s':ASt} {Q:Value→AW→Prop} (h:stepD P X s=.next s') (h':WP P X W0 m0 s' Q):WP P X W0 m0 s Q:=(reach_next hX hP h).wp1 h'
theorem finish_at {fn:FuncId} {tm:Tm} {ops:Array Oper} {i:Nat} {rest:List Nat} {k:List Item} {dr:Bool} {ro:Option Nat} {ds:List Nat} {o:Oper} (ho:ops.toList[i]? =some o) (v:Value):
  (frC fn tm (.inRegion ops (i::rest)::k) dr ro ds).finish v=frC fn (match o.dst with | some d=>tm.set d v | none=>tm) (.inRegion ops rest::k) dr ro ds:=by
 unfold AFr.finish
 simp only [ho]
 rfl
theorem step_oper (hp:Plain X) {fn:FuncId} {tm:Tm} {ops:Array Oper} {i:Nat} {rest:List Nat} {k:List Item} {dr:Bool} {ro:Option Nat} {ds:List Nat} {cs:List AFr} {A:AW} {o:Oper} (ho:ops.toList[i]? =some o) (hi:(dr&&!Nat.blt i ops.toList.length)=false) (h1:knownA P X ⟨frC fn tm (.inRegion ops (i::rest)::k) dr ro ds,cs,A⟩ ops i=none):
  stepD P X ⟨frC fn tm (.inRegion ops (i::rest)::k) dr ro ds,cs,A⟩=
   (bif wantedA ops tm o then applyA P (frC fn tm (.inRegion ops (i::rest)::k) dr ro ds) cs false (execA P X (evalT tm) o A) else .next ⟨(frC fn tm (.inRegion ops (i::rest)::k) dr ro ds).finish undef,cs,A⟩):=by
 have e:stepD P X ⟨frC fn tm (.inRegion ops (i::rest)::k) dr ro ds,cs,A⟩=(bif dr&&!Nat.blt i ops.toList.length then
   (match asksA P X ⟨frC fn tm (.inRegion ops (i::rest)::k) dr ro ds,cs,A⟩ ops (i - ops.toList.length) with
   | some (v,v')=>.asks v v' ⟨frC fn tm (.inRegion ops rest::k) dr ro ds,cs,A⟩
   | none=>bif recheckA P X (frC fn tm (.inRegion ops (i::rest)::k) dr ro ds) A ops (i - ops.toList.length) then .next ⟨frC fn tm (.inRegion ops rest::k) dr ro ds,cs,A⟩ else .fail "recheck")
  else (match knownA P X ⟨frC fn tm (.inRegion ops (i::rest)::k) dr ro ds,cs,A⟩ ops i with
   | some (f,args,w)=>.calls f args ⟨frC fn tm (.inRegion ops (i::rest)::k) dr ro ds,cs,w⟩
   | none=>(match forkA P X ⟨frC fn tm (.inRegion ops (i::rest)::k) dr ro ds,cs,A⟩ ops i with
    | some w=>.branch [⟨(frC fn tm (.inRegion ops (i::rest)::k) dr ro ds).finish (.bool true),cs,w⟩,⟨(frC fn tm (.inRegion ops (i::rest)::k) dr ro ds).finish (.bool false),cs,w⟩]
    | none=>(match saysA P X ⟨frC fn tm (.inRegion ops (i::rest)::k) dr ro ds,cs,A⟩ ops i with
     | some (v,v',w)=>.asks v v' ⟨(frC fn tm (.inRegion ops (i::rest)::k) dr ro ds).finish v',cs,w⟩
     | none=>(match ops.toList[i]? with
      | some o=>bif wantedA ops tm o then applyA P (frC fn tm (.inRegion ops (i::rest)::k) dr ro ds) cs false (execA P X (frC fn tm (.inRegion ops (i::rest)::k) dr ro ds).eval o A) else .next ⟨(frC fn tm (.inRegion ops (i::rest)::k) dr ro ds).finish undef,cs,A⟩
      | none=>.fail "no operation"))))):=rfl
 rw [e,hi,cond_false]
 have h2:forkA P X ⟨frC fn tm (.inRegion ops (i::rest)::k) dr ro ds,cs,A⟩ ops i=none:=by unfold forkA;rw [hp.forks]
 have h3:saysA P X ⟨frC fn tm (.inRegion ops (i::rest)::k) dr ro ds,cs,A⟩ ops i=none:=by unfold saysA;rw [hp.says]
 rw [h1,h2,h3]
 simp only [ho]
 rw [eval_evalT]
theorem enter_kind {g:FuncId} {args:List Value} {kd:CallKind} {fr:AFr} (h:enterA P g args kd=some fr):fr.kind=kd∧fr.roundOf=none:=by
 unfold enterA at h
 split at h
 ·split at h
  ·simp only at h
   generalize (bif Nat.ble _ _ then _ else _)=n at h
   cases hn:Nat.blt n maxId with
   | false=>rw [hn] at h;cases h
   | true=>
    rw [hn,cond_true,Option.some.injEq] at h
    subst h
    exact ⟨rfl,rfl⟩
  ·cases h
 ·cases h
theorem wp_oper (hX:XOk P X) (hP:POk P) (hp:Plain X) {fn:FuncId} {tm:Tm} {ops:Array Oper} {i:Nat} {rest:List Nat} {k:List Item} {dr:Bool} {ro:Option Nat} {ds:List Nat} {cs:List AFr} {A:AW} {o:Oper} {K Q:Value→AW→Prop} (ho:ops.toList[i]? =some o)
  (hi:(dr&&!Nat.blt i ops.toList.length)=false) (hw:wantedA ops tm o=true) (h:Does P X W0 m0 (execA P X (evalT tm) o A) K)
  (h':∀ v A',K v A'→WP P X W0 m0 ⟨frC fn (match o.dst with | some d=>tm.set d v | none=>tm) (.inRegion ops rest::k) dr ro ds,cs,A'⟩ Q):WP P X W0 m0 ⟨frC fn tm (.inRegion ops (i::rest)::k) dr ro ds,cs,A⟩ Q:=by
 have e:=fun h=>step_oper (P:=P) (fn:=fn) (tm:=tm) (rest:=rest) (k:=k) (ro:=ro) (ds:=ds) (cs:=cs) (A:=A) hp ho hi h
 rw [hw,cond_true] at e
 have notk:∀ {r:R AN},execA P X (evalT tm) o A=r→(∀ g args A',r=.ok (.enter g args) A'→memN g X.known=false)→knownA P X ⟨frC fn tm (.inRegion ops (i::rest)::k) dr ro ds,cs,A⟩ ops i=none:=by
  intro r hr hn
  unfold knownA
  split
  ·rfl
  ·simp only [ho,hw,cond_true]
   rw [eval_evalT]
   show (match execA P X (evalT tm) o A with | .ok (.enter f args) w=>bif memN f X.known then some (f,args,w) else none | _=>none)=none
   rw [hr]
   split
   ·rename_i g args A' he
    rw [hn _ _ _ rfl,cond_false]
   ·rfl
 rcases h with ⟨v,A',hx,hk⟩ | ⟨A',hx,hk⟩ | ⟨g,args,A',hx,hk⟩ | ⟨l,fn',tm',assign,body,A',hx,hk⟩ | ⟨it,A',hx,m,since,seen,last,es,clock,ro',hg1,hg2,hg3,hk⟩
 ·rw [hx] at e
  refine wp_next hX hP (e (notk hx (fun _ _ _ h=>by cases h))) ?_
  rw [finish_at ho]
  exact h' v A' hk
 ·rw [hx] at e
  refine wp_next hX hP (e (notk hx (fun _ _ _ h=>by cases h))) ?_
  rw [finish_at ho]
  exact h' undef A' hk
 ·unfold toW at hk
  cases hkn:memN g X.known with
  | true=>
   rw [hkn,cond_true] at hk
   have e3:stepD P X ⟨frC fn tm (.inRegion ops (i::rest)::k) dr ro ds,cs,A⟩=.calls g args ⟨frC fn tm (.inRegion ops (i::rest)::k) dr ro ds,cs,A'⟩:=by
    have h1:knownA P X ⟨frC fn tm (.inRegion ops (i::rest)::k) dr ro ds,cs,A⟩ ops i=some (g,args,A'):=by
     unfold knownA
     split
     ·rename_i hnil;rw [hnil] at hkn;cases hkn
     ·simp only [ho,hw,cond_true]
      rw [eval_evalT]
      show (match execA P X (evalT tm) o A with | .ok (.enter f args) w=>bif memN f X.known then some (f,args,w) else none | _=>none)=_
      rw [hx]
      simp only [hkn,cond_true]
    have e4:stepD P X ⟨frC fn tm (.inRegion ops (i::rest)::k) dr ro ds,cs,A⟩=(bif dr&&!Nat.blt i ops.toList.length then
      (match asksA P X ⟨frC fn tm (.inRegion ops (i::rest)::k) dr ro ds,cs,A⟩ ops (i - ops.toList.length) with
      | some (v,v')=>.asks v v' ⟨frC fn tm (.inRegion ops rest::k) dr ro ds,cs,A⟩
      | none=>bif recheckA P X (frC fn tm (.inRegion ops (i::rest)::k) dr ro ds) A ops (i - ops.toList.length) then .next ⟨frC fn tm (.inRegion ops rest::k) dr ro ds,cs,A⟩ else .fail "recheck")
     else (match knownA P X ⟨frC fn tm (.inRegion ops (i::rest)::k) dr ro ds,cs,A⟩ ops i with
      | some (f,args,w)=>.calls f args ⟨frC fn tm (.inRegion ops (i::rest)::k) dr ro ds,cs,w⟩
      | none=>(match forkA P X ⟨frC fn tm (.inRegion ops (i::rest)::k) dr ro ds,cs,A⟩ ops i with
       | some w=>.branch [⟨(frC fn tm (.inRegion ops (i::rest)::k) dr ro ds).finish (.bool true),cs,w⟩,⟨(frC fn tm (.inRegion ops (i::rest)::k) dr ro ds).finish (.bool false),cs,w⟩]
       | none=>(match saysA P X ⟨frC fn tm (.inRegion ops (i::rest)::k) dr ro ds,cs,A⟩ ops i with
        | some (v,v',w)=>.asks v v' ⟨(frC fn tm (.inRegion ops (i::rest)::k) dr ro ds).finish v',cs,w⟩
        | none=>stepA P X ⟨frC fn tm (.inRegion ops (i::rest)::k) dr ro ds,cs,A⟩)))):=rfl
    rw [e4,hi,cond_false,h1]
   rcases hk with ⟨vals,hg,hK,hc,hq⟩ | hl
   ·refine (reach_calls hX hP e3 hg hK hc).wp fun x hx=>?_
    obtain ⟨v,hv,rfl⟩:=List.mem_map.1 hx
    show WP P X W0 m0 ⟨(frC fn tm (.inRegion ops (i::rest)::k) dr ro ds).finish v,cs,A'⟩ Q
    rw [finish_at ho]
    exact h' v A' (hq v hv)
   ·refine wp_lib hX hP e3 hl fun v A2 hq=>?_
    show WP P X W0 m0 ⟨(frC fn tm (.inRegion ops (i::rest)::k) dr ro ds).finish v,cs,A2⟩ Q
    rw [finish_at ho]
    exact h' v A2 hq
  | false=>
  rw [hkn,cond_false] at hk
  rw [hx] at e
  have e:=e (notk hx (fun _ _ _ h=>by cases h;exact hkn))
  obtain ⟨fr',he⟩:=Option.isSome_iff_exists.1 hk.1
  have h2:=hk.2
  unfold frOf at h2
  rw [he] at h2
  simp only [applyA,cond_false,he] at e
  refine wp_next hX hP e (wp_sub ?_ ?_ h2 fun v A2 hk2=>?_)
  ·exact (enter_kind he).1
  ·exact (enter_kind he).2
  ·rw [finish_at ho]
   exact h' v A2 hk2
 ·rw [hx] at e
  refine wp_next hX hP (e (notk hx (fun _ _ _ h=>by cases h))) (hk _ _ _ fun v A2 hk2=>?_)
  rw [finish_at ho]
  exact h' v A2 hk2
 ·rw [hx] at e
  have e:=e (notk hx (fun _ _ _ h=>by cases h))
  have e2:applyA P (frC fn tm (.inRegion ops (i::rest)::k) dr ro ds) cs false (.ok (.rangeNext it) A')=.branch ((candsOf es since seen).map fun c=>match c with
     | some e=>⟨(frC fn tm (.inRegion ops (i::rest)::k) dr ro ds).finish (.tuple #[.bool true,e.key,e.val]),cs,A'.put it (.mit (some m) since (seen++[e.born]) clock)⟩
     | none=>⟨(frC fn tm (.inRegion ops (i::rest)::k) dr ro ds).finish (.tuple #[.bool false]),cs,A'⟩):=by
   unfold applyA
   simp only [hg1,hg2,hg3,cond_false]
   rfl
  rw [e2] at e
  refine (reach_branch hX hP e).wp fun x hx=>?_
  obtain ⟨c,hc,rfl⟩:=List.mem_map.1 hx
  have hk:=hk c hc
  cases c with
  | none=>
   simp only at hk ⊢
   rw [finish_at ho]
   exact h' _ _ hk
  | some e=>
   simp only at hk ⊢
   rw [finish_at ho]
   exact h' _ _ hk
theorem wp_skip (hX:XOk P X) (hP:POk P) (hp:Plain X) {fn:FuncId} {tm:Tm} {ops:Array Oper} {i:Nat} {rest:List Nat} {k:List Item} {dr:Bool} {ro:Option Nat} {ds:List Nat} {cs:List AFr} {A:AW} {o:Oper} {Q:Value→AW→Prop} (ho:ops.toList[i]? =some o)
  (hi:(dr&&!Nat.blt i ops.toList.length)=false) (hw:wantedA ops tm o=false)
  (h':WP P X W0 m0 ⟨frC fn (match o.dst with | some d=>tm.set d undef | none=>tm) (.inRegion ops rest::k) dr ro ds,cs,A⟩ Q):WP P X W0 m0 ⟨frC fn tm (.inRegion ops (i::rest)::k) dr ro ds,cs,A⟩ Q:=by
 have hkn:knownA P X ⟨frC fn tm (.inRegion ops (i::rest)::k) dr ro ds,cs,A⟩ ops i=none:=by
  unfold knownA
  split
  ·rfl
  ·simp only [ho,hw,cond_false]
 have e:=step_oper (P:=P) (fn:=fn) (tm:=tm) (rest:=rest) (k:=k) (ro:=ro) (ds:=ds) (cs:=cs) (A:=A) hp ho hi hkn
 rw [hw,cond_false] at e
 refine wp_next hX hP e ?_
 rw [finish_at ho]
 exact h'
theorem wp_recheck {fn:FuncId} {tm:Tm} {ops:Array Oper} {i:Nat} {rest:List Nat} {k:List Item} {ro:Option Nat} {ds:List Nat} {cs:List AFr} {A:AW} {Q:Value→AW→Prop} (hi:ops.toList.length≤i) (hv:Valid P X A ops tm (i - ops.toList.length))
  (h':WP P X W0 m0 ⟨frC fn tm (.inRegion ops rest::k) true ro ds,cs,A⟩ Q):WP P X W0 m0 ⟨frC fn tm (.inRegion ops (i::rest)::k) true ro ds,cs,A⟩ Q:=by
 have hr:Reach P X W0 m0 ⟨frC fn tm (.inRegion ops (i::rest)::k) true ro ds,cs,A⟩ [⟨frC fn tm (.inRegion ops rest::k) true ro ds,cs,A⟩]:=by
  intro f0 base lo cs0 m f csW w h _
  exact ⟨_,by simp,recheck_sim h rfl rfl rfl hi hv⟩
 exact hr.wp1 h'
def oneR (P:Program) (A:AW) (tm:Tm) (r:ResultVar):Option Value:=match r with | .tmp t=>some (tm.get t) | .cell a t=>loadP P A t (tm.get a)
theorem resultsA_eqR {A:AW} {f:Func} {tm:Tm}:resultsA P A f tm=(match resultsA.go (oneR P A tm) f.results.toList with | some [v]=>some v | some l=>some (.tuple ⟨l⟩) | none=>none):=rfl
theorem resGo_spec {A:AW} {tm:Tm} {Q:Value→AW→Prop}:∀ (l:List ResultVar) (acc:List Value),resGo P A tm Q l acc→∃ vs,resultsA.go (oneR P A tm) l=some vs∧Q (oneOf (acc.reverse++vs)) A
 | [],acc,h=>⟨[],rfl,by simpa [resGo] using h⟩
 | .tmp t::l,acc,h=>by
  obtain ⟨vs,h1,h2⟩:=resGo_spec l _ h
  refine ⟨tm.get t::vs,?_,by simpa using h2⟩
  simp only [resultsA.go,h1,oneR]
 | .cell a t::l,acc,h=>by
  obtain ⟨v,h0,hv⟩:=h
  obtain ⟨vs,h1,h2⟩:=resGo_spec l _ hv
  refine ⟨v::vs,?_,by simpa using h2⟩
  simp only [resultsA.go,h1,oneR,h0]
theorem retW_spec {fn:FuncId} {f:Func} (hf:P.funcs[fn]? =some f) {A:AW} {tm:Tm} {Q:Value→AW→Prop} (h:retW P fn A tm Q):∃ v,resultsA P A f tm=some v∧Q v A:=by
 unfold retW at h
 rw [hf] at h
 obtain ⟨vs,h1,h2⟩:=resGo_spec _ _ h
 rw [resultsA_eqR,h1]
 match vs,h2 with
 | [],h2=>exact ⟨_,rfl,h2⟩
 | [v],h2=>exact ⟨_,rfl,h2⟩
 | a::b::r,h2=>exact ⟨_,rfl,h2⟩
theorem wp_returning (hX:XOk P X) (hP:POk P) {fn:FuncId} {tm:Tm} {todo:List Item} {Q:Value→AW→Prop}:∀ (ds:List Nat) (A:AW),takeDs ds A (fun A=>retW P fn A tm Q)→WP P X W0 m0 ⟨{ (frC fn tm todo false none ds) with mode:=.returning },[],A⟩ Q
 | [],A,h=>by
  have h:retW P fn A tm Q:=h
  cases hf:P.funcs[fn]? with
  | none=>unfold retW at h;rw [hf] at h;exact h.elim
  | some f=>
   obtain ⟨v,h1,h2⟩:=retW_spec hf h
   have e2:stepD P X ⟨{ (frC fn tm todo false none []) with mode:=.returning },[],A⟩=.done v A:=by
    have:stepD P X ⟨{ (frC fn tm todo false none []) with mode:=.returning },[],A⟩=(match P.funcs[fn]? with
     | none=>.fail "unwind fn"
     | some fn=>(match resultsA P A fn tm with
      | some v=>.done v A
      | none=>.fail "results")):=by
     rfl
    rw [this,hf]
    simp only
    rw [h1]
   exact (res_done hX hP e2).wp fun x hx=>by simp at hx;subst hx;exact h2
 | D::ds,A,h=>by
  obtain ⟨h1,h2⟩:=h
  have e:stepD P X ⟨{ (frC fn tm todo false none (D::ds)) with mode:=.returning },[],A⟩=.next ⟨{ (frC fn tm todo false none ds) with mode:=.returning },[],A.put D (.deferred none)⟩:=by
   have:stepD P X ⟨{ (frC fn tm todo false none (D::ds)) with mode:=.returning },[],A⟩=(match A.get D with
    | some (.deferred (some calls))=>.next ⟨{ (frC fn tm todo false none ds) with mode:=.returning,defers:=calls++ds.map fun D=>{ target:=.collected D,args:=#[] } },[],A.put D (.deferred none)⟩
    | _=>.fail "takeDeferred"):=by
    rfl
   rw [this,h1]
   rfl
  exact wp_next hX hP e (wp_returning hX hP ds _ h2)
theorem wp_leave (hX:XOk P X) (hP:POk P) {fn:FuncId} {tm:Tm} {todo:List Item} {ds:List Nat} {A:AW} {Q:Value→AW→Prop} (ht:todo=[]∨∃ k,todo=.code .ret::k) (h:takeDs ds A fun A=>retW P fn A tm Q):WP P X W0 m0 ⟨frC fn tm todo false none ds,[],A⟩ Q:=by
 have e:stepD P X ⟨frC fn tm todo false none ds,[],A⟩=.next ⟨{ (frC fn tm todo false none ds) with mode:=.returning },[],A⟩:=by
  rcases ht with rfl | ⟨k,rfl⟩ <;> rfl
 exact wp_next hX hP e (wp_returning hX hP ds A h)
inductive Leaves:List Item→Option Code→Prop
 | off:Leaves [] none
 | ret (k:List Item):Leaves (.code .ret::k) (some .ret)
 | exit (id:Nat) (k:List Item) (h:exitToA id k=none):Leaves (.code (.exit id)::k) (some (.exit id))
theorem wp_leaves (hX:XOk P X) (hP:POk P) {fn:FuncId} {tm:Tm} {todo:List Item} {ds:List Nat} {A:AW} {Q:Value→AW→Prop} {j:Option Code} (hj:Leaves todo j) (h:leaveR P fn none ds A tm Q j):WP P X W0 m0 ⟨frC fn tm todo false none ds,[],A⟩ Q:=by
 cases hj with
 | off=>exact wp_leave hX hP (.inl rfl) h
 | ret k=>exact wp_leave hX hP (.inr ⟨k,rfl⟩) h
 | exit id k hx=>exact h.elim
theorem round_leaves (hX:XOk P X) (hP:POk P) {fn:FuncId} {tm:Tm} {todo:List Item} {l:Nat} {ds:List Nat} {A:AW} {K:Value→AW→Prop} {j:Option Code} (hj:Leaves todo j) (h:leaveR P fn (some l) ds A tm K j) {c:AFr} {rest:List AFr} {Q:Value→AW→Prop}
  (hK:∀ v A',K v A'→WP P X W0 m0 ⟨c.finish v,rest,A'⟩ Q):WP P X W0 m0 ⟨frC fn tm todo false (some l) ds,c::rest,A⟩ Q:=by
 unfold leaveR at h
 cases ds with
 | cons D ds=>exact h.elim
 | nil=>
  obtain ⟨r,h1,h2⟩:=h
  have e:stepD P X ⟨frC fn tm todo false (some l) [],c::rest,A⟩=.next ⟨c.finish (.bool j.isNone),rest,A.put l (.loop { r with state:=if j.isNone then .ready else .done,pending:=j })⟩:=by
   have key:∀ jump:Option Code,(match A.get l with
     | some (.loop r)=>doReturnA (frC fn tm todo false (some l) []) (c::rest) (.bool jump.isNone) (A.put l (.loop { r with state:=if jump.isNone then .ready else .done,pending:=jump }))
     | _=>.fail "endRound")=.next ⟨c.finish (.bool jump.isNone),rest,A.put l (.loop { r with state:=if jump.isNone then .ready else .done,pending:=jump })⟩:=by
    intro jump
    rw [h1]
    rfl
   rw [← key j]
   cases hj with
   | off=>rfl
   | ret k=>rfl
   | exit id k hx=>
    unfold stepD stepA
    simp only [hx]
    rfl
  exact wp_next hX hP e (hK _ _ h2)
end
section
variable {P:Program} {X:XNames} {W0:World} {m0:Inj P}
theorem Tm.sz_set (tm:Tm) (d:Nat) (v:Value):(tm.set d v).sz=tm.sz:=by
 unfold Tm.set
 cases Nat.blt d tm.sz <;> rfl
theorem wants_spec {kt kf ku:Nat} {tm:Tm} (h:Kn kt kf ku tm) {ops:Array Oper} {o:Oper} {b:Bool} (hw:wants kt kf ku ops o=some b):wantedA ops tm o=b:=by
 unfold wants at hw
 unfold wantedA
 split at hw
 ·rename_i hg
  rw [hg]
  cases hw
  rfl
 ·rename_i j want hg
  rw [hg]
  simp only
  unfold slotOf at hw
  split at hw
  ·cases hw
  ·rename_i d hd
   split at hd
   ·rename_i o' ho'
    cases hu:ku.testBit d with
    | true=>
     rw [hu,cond_true] at hw
     cases hw
     have hv:tm.get d=undef:=(h d).2.2 hu
     unfold yieldedA
     simp only [ho',hd,hv]
     rfl
    | false=>
     rw [hu,cond_false] at hw
     split at hw
     ·rename_i c hc
      cases hw
      have hv:tm.get d=.bool c:=knOf_spec h hc
      unfold yieldedA
      simp only [ho',hd,hv]
     ·cases hw
   ·cases hd
theorem wanted_of {tm:Tm} {ops:Array Oper} {o:Oper} {j:Nat} {want b:Bool} {d:Tmp} (hg:o.guard=some (j,want)) (hs:slotOf ops j=some d) (hv:tm.get d=.bool b):wantedA ops tm o=(b==want):=by
 unfold wantedA yieldedA
 unfold slotOf at hs
 split at hs
 ·rename_i o' ho'
  simp only [hg,ho',hs,hv]
 ·cases hs
theorem unwanted_of {tm:Tm} {ops:Array Oper} {o:Oper} {j:Nat} {want:Bool} {d:Tmp} (hg:o.guard=some (j,want)) (hs:slotOf ops j=some d) (hv:tm.get d=undef):wantedA ops tm o=false:=by
 unfold wantedA yieldedA
 unfold slotOf at hs
 split at hs
 ·rename_i o' ho'
  simp only [hg,ho',hs,hv]
  rfl
 ·cases hs
theorem knOp_pick {kt kf ku:Nat} {op:Op} {x:Operand} (h:pickKn kt kf op=some x) {tm:Tm} (hk:Kn kt kf ku tm) (P:Program) (X:XNames) {o:Oper} (ho:o.op=op) (A:AW):execA P X (evalT tm) o A=.ok (.value (evalT tm x)) A:=by
 cases op <;> simp only [pickKn] at h <;> try (cases h;done)
 rename_i c a b
 split at h
 ·rename_i hc
  cases h
  have:=knOf_spec hk hc
  unfold execA
  simp only [ho,this]
 ·rename_i hc
  cases h
  have:=knOf_spec hk hc
  unfold execA
  simp only [ho,this]
 ·cases h
theorem knOp_move {kt kf:Nat} {op:Op} {b:Bool} (hp:pickKn kt kf op=none) (h:knOp kt kf op=some b):∃ x,(op=.move x∨op=.assign x)∧knOf kt kf x=some b:=by
 cases op <;> simp only [knOp] at h <;> try (cases h;done)
 ·exact ⟨_,.inl rfl,h⟩
 ·exact ⟨_,.inr rfl,h⟩
 ·simp only [pickKn] at hp
  split at h <;> first | (cases h;done) | skip
  ·rename_i hc;rw [hc] at hp;cases hp
  ·rename_i hc;rw [hc] at hp;cases hp
theorem move_does {ρ:Operand→Value} {o:Oper} {x:Operand} (hx:o.op=.move x∨o.op=.assign x) {A:AW} {K:Value→AW→Prop} (h:opW P X W0 m0 ρ o A K):execA P X ρ o A=.ok (.value (ρ x)) A∧K (ρ x) A:=by
 unfold opW at h
 unfold execA
 rcases hx with hx | hx
 ·rw [hx] at h ⊢
  exact ⟨rfl,h⟩
 ·rw [hx] at h ⊢
  exact ⟨rfl,h⟩
variable {fn:FuncId} {T:Nat→List Item} {L:Nat→List Tmp} {S:Nat→List Value→AW→Prop} {Q:Value→AW→Prop} {sz:Nat}
def Cuts (P:Program) (X:XNames) (W0:World) (m0:Inj P) (fn:FuncId) (T:Nat→List Item) (L:Nat→List Tmp) (S:Nat→List Value→AW→Prop) (Q:Value→AW→Prop) (sz:Nat):Prop:=
 ∀ id vals A tm,S id vals A→tm.sz=sz→(L id).map tm.get=vals→WP P X W0 m0 ⟨frM fn tm (T id) false,[],A⟩ Q
theorem wpgo_soundC (hX:XOk P X) (hP:POk P) (hp:Plain X) (hsz:sz < maxId) {ro:Option Nat} {cs:List AFr} {Q0:Value→AW→Prop}
  (hl:∀ todo tm ds A j,Leaves todo j→leaveR P fn ro ds A tm Q j→WP P X W0 m0 ⟨frC fn tm todo false ro ds,cs,A⟩ Q0)
  (hcut:∀ id vals A tm,S id vals A→tm.sz=sz→(L id).map tm.get=vals→WP P X W0 m0 ⟨frC fn tm (T id) false ro [],cs,A⟩ Q0):
  ∀ (n:Nat) (tm:Tm) (todo:List Item) (dr:Bool) (kt kf ku:Nat) (ds:List Nat) (A:AW),tm.sz=sz→Kn kt kf ku tm→wpgo P X W0 m0 fn T L S Q ro n tm todo dr kt kf ku ds A→WP P X W0 m0 ⟨frC fn tm todo dr ro ds,cs,A⟩ Q0:=by
 intro n
 induction n with
 | zero=>intro tm todo dr kt kf ku ds A _ _ h;exact h.elim
 | succ n ih=>
  intro tm todo dr kt kf ku ds A hs hk h
  unfold wpgo at h
  split at h
  ·cases dr with
   | true=>exact h.elim
   | false=>exact hl _ _ _ _ _ .off h
  ·cases dr with
   | true=>exact h.elim
   | false=>exact hl _ _ _ _ _ (.ret _) h
  ·
   rename_i k
   cases dr with
   | true=>exact h.elim
   | false=>
    cases ro with
    | none=>exact h.elim
    | some l=>
     obtain ⟨r,h1,h2,h3⟩:=h
     have e:stepD P X ⟨frC fn tm (.beginRound::k) false (some l) ds,cs,A⟩=.next ⟨frC fn tm k false (some l) ds,cs,A.put l (.loop { r with state:=.busy })⟩:=by
      have:stepD P X ⟨frC fn tm (.beginRound::k) false (some l) ds,cs,A⟩=(match A.get l with
       | some (.loop r)=>(match r.state with
        | .ready=>.next ⟨frC fn tm k false (some l) ds,cs,A.put l (.loop { r with state:=.busy })⟩
        | _=>.fail "beginRound")
       | _=>.fail "beginRound"):=by rfl
      rw [this,h1]
      simp only [h2]
     exact wp_next hX hP e (ih _ _ _ _ _ _ _ _ hs hk h3)
  ·
   rename_i f ps assign body k
   cases dr with
   | true=>exact h.elim
   | false=>
    cases ro with
    | some l=>exact h.elim
    | none=>
     obtain ⟨D,A1,l,A2,hn1,hn2,g,aS,A3,hdy,hwc⟩:=h
     have e:stepD P X ⟨frC fn tm (.code (.rangeFunc f ps assign body)::k) false none ds,cs,A⟩=(match evalT tm f with
       | .func fn' first captured=>applyA P (frC fn tm (.inRangeFunc l::k) false none (D::ds)) cs false (invokeA P X A2 (.fn fn' captured) (first.toList++[.func (.yield l) #[] #[]]))
       | _=>.fail "rangeFunc"):=by
      have:stepD P X ⟨frC fn tm (.code (.rangeFunc f ps assign body)::k) false none ds,cs,A⟩=(match (match A.new (.deferred (some [])) with | some (r,w')=>some (r,([{ target:=.collected r,args:=#[] }]:List Deferred),w') | none=>none) with
       | none=>.fail "enterLoop"
       | some (d,mark,w)=>(match w.new (.loop { state:=.ready,pending:=none,fn:=fn,tm:=tm,params:=ps.toList,assign,body,defers:=d }) with
        | none=>.fail "enterLoop"
        | some (l,w)=>(match (frC fn tm (.code (.rangeFunc f ps assign body)::k) false none ds).eval f with
         | .func fn' first captured=>applyA P ({ fn:=fn,tm:=tm,todo:=.inRangeFunc l::k,defers:=mark++(ds.map fun D=>{ target:=.collected D,args:=#[] }),mode:=.run,kind:=.normal,roundOf:=none,dr:=false }:AFr) cs false (invokeA P X w (.fn fn' captured) (first.toList++[.func (.yield l) #[] #[]]))
         | _=>.fail "rangeFunc"))):=by rfl
      rw [this,hn1]
      simp only [hn2]
      rw [eval_evalT]
      rfl
     unfold dynA at hdy
     cases hf:evalT tm f with
     | func fn' first captured=>
      rw [hf] at e hdy
      simp only at e hdy
      rw [hdy] at e
      obtain ⟨fr',he⟩:=Option.isSome_iff_exists.1 hwc.1
      have h2:=hwc.2
      unfold frOf at h2
      rw [he] at h2
      simp only [applyA,cond_false,he] at e
      refine wp_next hX hP e (wp_sub (enter_kind he).1 (enter_kind he).2 h2 fun v A4 hk2=>?_)
      obtain ⟨r,g1,g2,g3⟩:=hk2
      have e5:stepD P X ⟨(frC fn tm (.inRangeFunc l::k) false none (D::ds)).finish v,cs,A4⟩=.next ⟨frC fn tm (match r.pending with | some c=>.code c::k | none=>k) false none (D::ds),cs,A4.put l (.loop { r with state:=.exhausted })⟩:=by
       have:stepD P X ⟨(frC fn tm (.inRangeFunc l::k) false none (D::ds)).finish v,cs,A4⟩=(match A4.get l with
        | some (.loop r)=>(match r.state with
         | .busy=>.fail "endLoop"
         | _=>.next ⟨frC fn tm (match r.pending with | some c=>.code c::k | none=>k) false none (D::ds),cs,A4.put l (.loop { r with state:=.exhausted })⟩)
        | _=>.fail "endLoop"):=by rfl
       rw [this,g1]
       simp only
      refine wp_next hX hP e5 ?_
      rcases g3 with ⟨gp,g3⟩ | ⟨gp,g3⟩
      ·rw [show (match r.pending with | some c=>.code c::k | none=>k)=k by rw [gp]]
       exact ih _ _ _ _ _ _ _ _ hs hk g3
      ·rw [show (match r.pending with | some c=>.code c::k | none=>k)=.code .ret::k by rw [gp]]
       exact hl _ _ _ _ _ (.ret _) g3
     | _=>rw [hf] at hdy;cases hdy
  ·exact wp_next hX hP rfl (ih _ _ _ _ _ _ _ _ hs hk h)
  ·exact wp_next hX hP rfl (ih _ _ _ _ _ _ _ _ hs hk h)
  ·exact wp_next hX hP rfl (ih _ _ _ _ _ _ _ _ hs hk h)
  ·exact wp_next hX hP rfl (ih _ _ _ _ _ _ _ _ hs hk h)
  ·exact wp_next hX hP rfl (ih _ _ _ _ _ _ _ _ hs hk h)
  ·
   rename_i c a b k
   have e:∀ t,evalT tm c=.bool t→stepD P X ⟨frC fn tm (.code (.cond c a b)::k) dr ro ds,cs,A⟩=.next ⟨frC fn tm (.code (bif t then a else b)::k) dr ro ds,cs,A⟩:=by
    intro t ht
    have:stepD P X ⟨frC fn tm (.code (.cond c a b)::k) dr ro ds,cs,A⟩=(bif memN fn X.forks then (match (frC fn tm (.code (.cond c a b)::k) dr ro ds).eval c with
     | .bool _=>.branch [⟨frC fn tm (.code a::k) dr ro ds,cs,A⟩,⟨frC fn tm (.code b::k) dr ro ds,cs,A⟩]
     | _=>.fail "cond") else (match (frC fn tm (.code (.cond c a b)::k) dr ro ds).eval c with | .bool t=>.next ⟨frC fn tm (.code (bif t then a else b)::k) dr ro ds,cs,A⟩ | _=>.fail "cond")):=rfl
    rw [this,hp.forks,eval_evalT]
    simp only [memN,cond_false,ht]
   split at h
   ·rename_i hc
    exact wp_next hX hP (e true (knOf_spec hk hc)) (ih _ _ _ _ _ _ _ _ hs hk h)
   ·rename_i hc
    exact wp_next hX hP (e false (knOf_spec hk hc)) (ih _ _ _ _ _ _ _ _ hs hk h)
   ·obtain ⟨⟨t,ht⟩,h1,h2⟩:=h
    cases t with
    | true=>
     refine wp_next hX hP (e true ht) (ih _ _ _ _ _ _ _ _ hs ?_ (h1 ht))
     cases c with
     | tmp t=>exact hk.true ht
     | _=>exact hk
    | false=>
     refine wp_next hX hP (e false ht) (ih _ _ _ _ _ _ _ _ hs ?_ (h2 ht))
     cases c with
     | tmp t=>exact hk.false ht
     | _=>exact hk
  ·exact wp_next hX hP rfl (ih _ _ _ _ _ _ _ _ hs hk h)
  ·exact wp_next hX hP rfl (ih _ _ _ _ _ _ _ _ hs hk h)
  ·
   cases dr with
   | true=>exact h.elim
   | false=>
    cases ds with
    | cons D ds=>exact h.elim
    | nil=>
    obtain ⟨h1,h2⟩:=h
    refine wp_next hX hP rfl ?_
    have:=hcut _ _ A tm h2 hs rfl
    rw [← h1] at this
    exact this
  ·cases dr with
   | true=>exact h.elim
   | false=>
    cases ds with
    | cons D ds=>exact h.elim
    | nil=>
    obtain ⟨h1,h2⟩:=h
    refine wp_next hX hP rfl ?_
    have:=hcut _ _ A tm h2 hs rfl
    rw [← h1] at this
    exact this
  ·
   rename_i id k
   split at h
   ·rename_i k' hk'
    have e:stepD P X ⟨frC fn tm (.code (.exit id)::k) dr ro ds,cs,A⟩=.next ⟨frC fn tm k' dr ro ds,cs,A⟩:=by
     unfold stepD stepA
     simp only [hk']
    exact wp_next hX hP e (ih _ _ _ _ _ _ _ _ hs hk h)
   ·rename_i hx
    cases dr with
    | true=>exact h.elim
    | false=>exact hl _ _ _ _ _ (.exit _ _ hx) h
  ·exact wp_next hX hP rfl (ih _ _ _ _ _ _ _ _ hs hk h)
  ·
   rename_i id ops k
   cases hin:dstsIn tm.sz ops.toList with
   | false=>rw [hin] at h;exact h.elim
   | true=>
    rw [hin,cond_true] at h
    split at h
    ·rename_i p hpl
     have e:stepD P X ⟨frC fn tm (.code (.region id ops true)::k) dr ro ds,cs,A⟩=.next ⟨frC fn tm (.inRegion ops p::k) true ro ds,cs,A⟩:=by
      unfold stepD
      simp only [hin,cond_true,hpl]
     exact wp_next hX hP e (ih _ _ _ _ _ _ _ _ hs hk h)
    ·exact h.elim
  ·exact wp_next hX hP rfl (ih _ _ _ _ _ _ _ _ hs hk h)
  ·
   rename_i ops i rest k
   cases hb:(dr&&!Nat.blt i ops.toList.length) with
   | true=>
    rw [hb,cond_true] at h
    simp only [Bool.and_eq_true,Bool.not_eq_true'] at hb
    obtain ⟨rfl,hb⟩:=hb
    have hge:=blt_false.1 hb
    split at h
    ·exact h.elim
    ·rename_i o ho
     split at h
     ·rename_i d hd hw
      obtain ⟨h1,h2⟩:=h
      refine wp_recheck hge ?_ (ih _ _ _ _ _ _ _ _ hs hk h2)
      intro o' d' ho' hd'
      rw [ho] at ho'
      cases ho'
      rw [hd] at hd'
      cases hd'
      exact ⟨fun _=>h1.symm,fun hw'=>absurd hw' (by rw [wants_spec hk hw];exact Bool.noConfusion)⟩
     ·rename_i d hd hw
      cases hq:quietOp P o.op with
      | false=>
       rw [hq,cond_false] at h
       obtain ⟨⟨c,h1,h3⟩,h2⟩:=h
       refine wp_recheck hge ?_ (ih _ _ _ _ _ _ _ _ hs hk h2)
       intro o' d' ho' hd'
       rw [ho] at ho'
       cases ho'
       rw [hd] at hd'
       cases hd'
       exact ⟨fun hw'=>absurd hw' (by rw [wants_spec hk hw];exact Bool.noConfusion),fun _=>⟨fun hq'=>absurd hq' (by rw [hq];exact Bool.noConfusion),fun _=>⟨c,h1,h3⟩⟩⟩
      | true=>
       rw [hq,cond_true] at h
       have fin:∀ A',execA P X (evalT tm) o A=.ok (.value (tm.get d)) A'→Valid P X A ops tm (i - ops.toList.length):=by
        intro A' he o' d' ho' hd'
        rw [ho] at ho'
        cases ho'
        rw [hd] at hd'
        cases hd'
        exact ⟨fun hw'=>absurd hw' (by rw [wants_spec hk hw];exact Bool.noConfusion),fun _=>⟨fun _=>⟨A',he⟩,fun hq'=>absurd hq' (by rw [hq];exact Bool.noConfusion)⟩⟩
       split at h
       ·rename_i x hpk
        obtain ⟨h1,h2⟩:=h
        refine wp_recheck hge (fin A ?_) (ih _ _ _ _ _ _ _ _ hs hk h2)
        rw [← h1]
        exact knOp_pick hpk hk P X rfl A
       ·rcases opW_does (P:=P) (X:=X) (fun f=>rfl) h with ⟨v,A',he,h1,h2⟩ | ⟨A',he,_⟩ | ⟨g,args,A',he,_⟩ | ⟨l,fn',tm',a,b,A',he,_⟩ | ⟨it,A',he,_⟩
        ·refine wp_recheck hge (fin A' ?_) (ih _ _ _ _ _ _ _ _ hs hk h2)
         rw [← h1]
         exact he
        ·obtain ⟨_,v,hv⟩:=quiet_exec hq he
         cases hv
        ·obtain ⟨_,v,hv⟩:=quiet_exec hq he
         cases hv
        ·obtain ⟨_,v,hv⟩:=quiet_exec hq he
         cases hv
        ·obtain ⟨_,v,hv⟩:=quiet_exec hq he
         cases hv
     ·exact h.elim
   | false=>
    rw [hb,cond_false] at h
    split at h
    ·exact h.elim
    ·rename_i o ho
     simp only at h
     have fin:∀ {kt' kf':Nat} {r:Option Bool} {sk:Bool} {v:Value} {A':AW},Kn kt' kf' ku tm→(∀ b,r=some b→v=.bool b)→(sk=true→v=undef)→(match o.dst with
       | some d=>bif Nat.blt d tm.sz then wpgo P X W0 m0 fn T L S Q ro n (tm.set d v) (.inRegion ops rest::k) dr (knT kt' d r) (knF kf' d r) (knU ku d sk) ds A' else False
       | none=>wpgo P X W0 m0 fn T L S Q ro n tm (.inRegion ops rest::k) dr kt' kf' ku ds A')→
       WP P X W0 m0 ⟨frC fn (match o.dst with | some d=>tm.set d v | none=>tm) (.inRegion ops rest::k) dr ro ds,cs,A'⟩ Q0:=by
      intro kt' kf' r sk v A' hk' hr hu hh
      cases hd:o.dst with
      | none=>
       rw [hd] at hh
       exact ih _ _ _ _ _ _ _ _ hs hk' hh
      | some d=>
       rw [hd] at hh
       simp only at hh ⊢
       cases hlt:Nat.blt d tm.sz with
       | false=>rw [hlt] at hh;exact hh.elim
       | true=>
        rw [hlt,cond_true] at hh
        exact ih _ _ _ _ _ _ _ _ (by rw [Tm.sz_set];exact hs) (hk'.set (by omega) (blt_true.1 hlt) hr hu) hh
     have nf:∀ {v:Value},false=true→v=undef:=fun h=>Bool.noConfusion h
     have nn:∀ {v:Value} (b:Bool),(none:Option Bool)=some b→v=.bool b:=fun b h=>by cases h
     have go:∀ {kt' kf':Nat},Kn kt' kf' ku tm→wantedA ops tm o=true→(match pickKn kt' kf' o.op with
       | some x=>(match o.dst with
        | some d=>bif Nat.blt d tm.sz then wpgo P X W0 m0 fn T L S Q ro n (tm.set d (evalT tm x)) (.inRegion ops rest::k) dr (knT kt' d (knOf kt' kf' x)) (knF kf' d (knOf kt' kf' x)) (knU ku d false) ds A else False
        | none=>wpgo P X W0 m0 fn T L S Q ro n tm (.inRegion ops rest::k) dr kt' kf' ku ds A)
       | none=>opW P X W0 m0 (evalT tm) o A fun v A'=>(match o.dst with
        | some d=>bif Nat.blt d tm.sz then wpgo P X W0 m0 fn T L S Q ro n (tm.set d v) (.inRegion ops rest::k) dr (knT kt' d (knOp kt' kf' o.op)) (knF kf' d (knOp kt' kf' o.op)) (knU ku d false) ds A' else False
        | none=>wpgo P X W0 m0 fn T L S Q ro n tm (.inRegion ops rest::k) dr kt' kf' ku ds A'))→
       WP P X W0 m0 ⟨frC fn tm (.inRegion ops (i::rest)::k) dr ro ds,cs,A⟩ Q0:=by
      intro kt' kf' hk' hw hh
      split at hh
      ·rename_i x hpk
       exact wp_oper hX hP hp ho hb hw (K:=fun v A'=>v=evalT tm x∧A'=A) (.inl ⟨_,A,knOp_pick hpk hk' P X rfl A,(⟨rfl,rfl⟩:_∧_)⟩) fun v A' hvA=>by
        obtain ⟨rfl,rfl⟩:=hvA
        exact fin (sk:=false) hk' (fun b hb=>knOf_spec hk' hb) nf hh
      ·rename_i hpk
       cases hkn:knOp kt' kf' o.op with
       | none=>
        rw [hkn] at hh
        exact wp_oper hX hP hp ho hb hw (opW_does (fun f=>rfl) hh) fun v A' hv=>fin (r:=none) (sk:=false) hk' nn nf hv
       | some b=>
        obtain ⟨x,hx,hxb⟩:=knOp_move hpk hkn
        rw [hkn] at hh
        have hb2:=knOf_spec hk' hxb
        obtain ⟨h3,h4⟩:=move_does (W0:=W0) (m0:=m0) (X:=X) hx hh
        rw [hb2] at h3 h4
        exact wp_oper hX hP hp ho hb hw (K:=fun v A'=>v=.bool b∧A'=A) (.inl ⟨_,A,h3,(⟨rfl,rfl⟩:_∧_)⟩) fun v A' hvA=>by
         obtain ⟨rfl,rfl⟩:=hvA
         exact fin (r:=some b) (sk:=false) hk' (fun b' hb'=>by cases hb';rfl) nf h4
     split at h
     ·rename_i hg
      exact go hk (by unfold wantedA;rw [hg]) h
     ·rename_i j want hg
      split at h
      ·exact h.elim
      ·rename_i d hsl
       have ff:∀ {kt' kf':Nat},Kn kt' kf' ku tm→wantedA ops tm o=false→(match o.dst with
         | some d=>bif Nat.blt d tm.sz then wpgo P X W0 m0 fn T L S Q ro n (tm.set d undef) (.inRegion ops rest::k) dr (knT kt' d none) (knF kf' d none) (knU ku d true) ds A else False
         | none=>wpgo P X W0 m0 fn T L S Q ro n tm (.inRegion ops rest::k) dr kt' kf' ku ds A)→WP P X W0 m0 ⟨frC fn tm (.inRegion ops (i::rest)::k) dr ro ds,cs,A⟩ Q0:=
        fun hk' hw hh=>wp_skip hX hP hp ho hb hw (fin (r:=none) (sk:=true) hk' nn (fun _=>rfl) hh)
       cases hu:ku.testBit d with
       | true=>
        rw [hu,cond_true] at h
        exact ff hk (unwanted_of hg hsl ((hk d).2.2 hu)) h
       | false=>
        rw [hu,cond_false] at h
        split at h
        ·rename_i b hkb
         have hv:tm.get d=.bool b:=knOf_spec hk hkb
         have hw:=wanted_of hg hsl hv
         cases hbw:(b==want) with
         | true=>
          rw [hbw,cond_true] at h
          exact go hk (hw.trans hbw) h
         | false=>
          rw [hbw,cond_false] at h
          exact ff hk (hw.trans hbw) h
        ·obtain ⟨⟨b,hv⟩,h1,h2⟩:=h
         have hw:=wanted_of hg hsl hv
         cases b with
         | true=>
          have h1:=h1 hv
          cases want with
          | true=>exact go (hk.true hv) hw h1
          | false=>exact ff (hk.true hv) hw h1
         | false=>
          have h2:=h2 hv
          cases want with
          | true=>exact ff (hk.false hv) hw h2
          | false=>exact go (hk.false hv) hw h2
  ·exact h.elim
theorem wpgo_sound (hX:XOk P X) (hP:POk P) (hp:Plain X) (hsz:sz < maxId) (hcut:Cuts P X W0 m0 fn T L S Q sz) (n:Nat) (tm:Tm) (todo:List Item) (dr:Bool) (kt kf ku:Nat) (A:AW) (hs:tm.sz=sz) (hk:Kn kt kf ku tm)
  (h:wpgo P X W0 m0 fn T L S Q none n tm todo dr kt kf ku [] A):WP P X W0 m0 ⟨frM fn tm todo dr,[],A⟩ Q:=
 wpgo_soundC hX hP hp hsz (ro:=none) (cs:=[]) (Q0:=Q) (fun _ _ _ _ _ hj h=>wp_leaves hX hP hj h) hcut n tm todo dr kt kf ku [] A hs hk h
end
def fillD (d:Nat→Value):Nat→Trie Value→Trie Value
 | 0,t=>t
 | n+1,t=>fillD d n (t.put depth n (some (d n)))
def tmOf (sz:Nat) (d:Nat→Value):Tm:=⟨sz,fillD d sz .nil⟩
theorem fillD_get (d:Nat→Value):∀ (n:Nat) (t:Trie Value) (i:Nat),n≤maxId→i < maxId→(fillD d n t).get? i=if i < n then some (d i) else t.get? i
 | 0,t,i,_,_=>by simp [fillD]
 | n+1,t,i,hn,hi=>by
  unfold fillD
  rw [fillD_get d n _ i (by omega) hi,Trie.get?_put depth t n i (some (d n)) (by unfold depth maxId at *;omega)]
  by_cases h1:i < n
  ·rw [if_pos h1,if_pos (by omega)]
  ·rw [if_neg h1]
   by_cases h2:n=i
   ·subst h2;rw [if_pos rfl,if_pos (by omega)]
   ·rw [if_neg (fun e=>h2 e.symm),if_neg (by omega)]
section
variable {P:Program} {X:XNames} {W0:World} {m0:Inj P}
theorem tmOf_get {sz:Nat} (hs:sz < maxId) (d:Nat→Value) (i:Nat):(tmOf sz d).get i=if i < sz then d i else undef:=by
 unfold tmOf Tm.get
 simp only
 by_cases hm:i < maxId
 ·rw [fillD_get d sz .nil i (by omega) hm]
  by_cases hi:i < sz
  ·rw [if_pos hi,if_pos hi]
  ·rw [if_neg hi,if_neg hi];rfl
 ·have key:∀ (n:Nat) (t:Trie Value),n≤maxId→t.get? i=none→(fillD d n t).get? i=none:=by
   intro n
   induction n with
   | zero=>intro t _ ht;exact ht
   | succ n ih=>
    intro t hn ht
    unfold fillD
    refine ih _ (by omega) ?_
    rw [Trie.get?_put depth t n i _ (by unfold depth maxId at *;omega),if_neg (by omega)]
    exact ht
  rw [key sz .nil (by omega) rfl,if_neg (by omega)]
theorem tmOf_rel {m:Inj P} {tm:Tm} {t':Array Value} (h:TmRel m tm t'):TmRel m (tmOf tm.sz tm.get) t':=by
 refine ⟨h.size,h.small,fun i=>?_⟩
 rw [tmOf_get h.small]
 by_cases hi:i < tm.sz
 ·rw [if_pos hi]
  exact h.val i
 ·have hv:t'.getD i undef=undef:=by
   have:t'.size≤i:=by rw [h.size];omega
   simp [Array.getD,Nat.not_lt.2 this]
  rw [if_neg hi,hv]
  exact undef_rel m
theorem wp_tmC {fn:FuncId} {tm:Tm} {todo:List Item} {ro:Option Nat} {ds:List Nat} {cs:List AFr} {A:AW} {Q:Value→AW→Prop} (h:WP P X W0 m0 ⟨frC fn (tmOf tm.sz tm.get) todo false ro ds,cs,A⟩ Q):WP P X W0 m0 ⟨frC fn tm todo false ro ds,cs,A⟩ Q:=by
 intro f0 base lo cs0 m f csW w hr ho
 refine h f0 base lo cs0 m f csW w ⟨hr.rel,hr.glob,hr.below,⟨⟨hr.top.core.fn,hr.top.core.kind,hr.top.core.kindOk,hr.top.core.mode,hr.top.core.round,hr.top.core.defers⟩,?_⟩,hr.stk,hr.bot.top rfl rfl rfl⟩ ho
 cases hr.top.body with
 | plain hd tm' todo'=>exact .plain rfl (tmOf_rel tm') todo'
 | draw ops S C rl pl rest k k' hd=>cases hd
variable {fn:FuncId} {T:Nat→List Item} {L:Nat→List Tmp} {Q:Value→AW→Prop} {sz N:Nat}
theorem cuts_ofC (hX:XOk P X) (hP:POk P) (hp:Plain X) (hsz:sz < maxId) {ro:Option Nat} {cs:List AFr} {Q0:Value→AW→Prop}
  (hl:∀ todo tm ds A j,Leaves todo j→leaveR P fn ro ds A tm Q j→WP P X W0 m0 ⟨frC fn tm todo false ro ds,cs,A⟩ Q0) {I:Nat→Nat→List Value→AW→Prop}
  (hbody:∀ g id vals A d,I g id vals A→(L id).map d=vals→wpgo P X W0 m0 fn T L (fun id' v' A'=>∃ g',g' < g∧I g' id' v' A') Q ro N (tmOf sz d) (T id) false 0 0 0 [] A):
  ∀ id vals A tm,(∃ g,I g id vals A)→tm.sz=sz→(L id).map tm.get=vals→WP P X W0 m0 ⟨frC fn tm (T id) false ro [],cs,A⟩ Q0:=by
 have key:∀ g,∀ id vals A tm,I g id vals A→tm.sz=sz→(L id).map tm.get=vals→WP P X W0 m0 ⟨frC fn tm (T id) false ro [],cs,A⟩ Q0:=by
  intro g
  induction g using Nat.strongRecOn with
  | _ g ih=>
   intro id vals A tm hI hs hv
   have hb:=hbody g id vals A tm.get hI hv
   rw [← hs] at hb
   refine wp_tmC (wpgo_soundC hX hP hp hsz (S:=fun id' v' A'=>∃ g',g' < g∧I g' id' v' A') hl ?_ N _ _ _ _ _ _ _ _ hs (fun t=>by simp) hb)
   rintro id' v' A' tm' ⟨g',hg,hI'⟩ hs' hv'
   exact ih g' hg id' v' A' tm' hI' hs' hv'
 rintro id vals A tm ⟨g,hI⟩ hs hv
 exact key g id vals A tm hI hs hv
theorem cuts_of (hX:XOk P X) (hP:POk P) (hp:Plain X) (hsz:sz < maxId) {I:Nat→Nat→List Value→AW→Prop}
  (hbody:∀ g id vals A d,I g id vals A→(L id).map d=vals→wpgo P X W0 m0 fn T L (fun id' v' A'=>∃ g',g' < g∧I g' id' v' A') Q none N (tmOf sz d) (T id) false 0 0 0 [] A):
  Cuts P X W0 m0 fn T L (fun id v A=>∃ g,I g id v A) Q sz:=
 cuts_ofC hX hP hp hsz (ro:=none) (cs:=[]) (Q0:=Q) (fun _ _ _ _ _ hj h=>wp_leaves hX hP hj h) hbody
theorem wc_of (hX:XOk P X) (hP:POk P) (hp:Plain X) (hsz:sz < maxId) {S:Nat→List Value→AW→Prop} (hcut:Cuts P X W0 m0 fn T L S Q sz) {args:List Value} {tm:Tm} {todo:List Item} {A:AW}
  (he:enterA P fn args .normal=some (frM fn tm todo false)) (hs:tm.sz=sz) (h:wpgo P X W0 m0 fn T L S Q none N tm todo false 0 0 0 [] A):Wc P X W0 m0 fn args A Q:=by
 refine ⟨by rw [he];rfl,?_⟩
 unfold frOf
 rw [he]
 exact wpgo_sound hX hP hp hsz hcut N _ _ _ _ _ _ _ hs (fun t=>by simp) h
theorem cuts_none {S:Nat→List Value→AW→Prop} (h:∀ id v A,¬ S id v A):Cuts P X W0 m0 fn T L S Q sz:=fun id v A _ hs=>absurd hs (h id v A)
theorem round_of (hX:XOk P X) (hP:POk P) (hp:Plain X) (hsz:sz < maxId) {l:Nat} {tm:Tm} {assign body:Code} {A:AW} {K:Value→AW→Prop} (hs:tm.sz=sz)
  (h:wpgo P X W0 m0 fn T L (fun _ _ _=>False) K (some l) N (tmOf sz tm.get) [.code assign,.beginRound,.code body] false 0 0 0 [] A):RoundW P X W0 m0 l fn tm assign body A K:=by
 intro c rest Q0 hK
 have h':=h
 rw [← hs] at h'
 exact wp_tmC (fn:=fn) (ds:=[]) (wpgo_soundC (T:=T) (L:=L) (S:=fun _ _ _=>False) hX hP hp (by rw [hs];exact hsz) (sz:=tm.sz) (fun _ _ _ _ _ hj h=>round_leaves hX hP hj h hK) (fun _ _ _ _ h=>h.elim) N _ _ _ _ _ _ _ _ rfl (fun t=>by simp) h')
end
section
variable {P:Program}
theorem pureW_some {v:Value} {K:Value→Prop}:pureW (some v) K↔K v:=⟨fun ⟨_,h,hk⟩=>by cases h;exact hk,fun h=>⟨v,rfl,h⟩⟩
theorem effW_some {A:AW} {K:AW→Prop}:effW (some A) K↔K A:=⟨fun ⟨_,h,hk⟩=>by cases h;exact hk,fun h=>⟨A,rfl,h⟩⟩
theorem bothW_ok {v:Value} {A:AW} {K:Value→AW→Prop}:bothW (.ok v A) K↔K v A:=⟨fun ⟨_,_,h,hk⟩=>by cases h;exact hk,fun h=>⟨v,A,rfl,h⟩⟩
theorem forkW_bool {b:Bool} {p q:Prop}:forkW (.bool b) p q↔(b=true→p)∧(b=false→q):=
 ⟨fun h=>⟨fun e=>h.2.1 (by rw [e]),fun e=>h.2.2 (by rw [e])⟩,fun h=>⟨⟨b,rfl⟩,fun e=>h.1 (by cases e;rfl),fun e=>h.2 (by cases e;rfl)⟩⟩
theorem forkW_dec {c:Prop} [Decidable c] {p q:Prop}:forkW (.bool (decide c)) p q↔(c→p)∧(¬ c→q):=by
 rw [forkW_bool];simp
theorem forkW_beq {a b:Int} {p q:Prop}:forkW (.bool (a==b)) p q↔(a=b→p)∧(a≠b→q):=by
 rw [forkW_bool];simp
theorem forkW_bne {a b:Int} {p q:Prop}:forkW (.bool (a != b)) p q↔(a≠b→p)∧(a=b→q):=by
 rw [forkW_bool];simp
theorem cutW_self {a:List Item} {p:Prop}:cutW a a p↔p:=⟨fun h=>h.2,fun h=>⟨rfl,h⟩⟩
theorem eqW_self {a:Value} {p:Prop}:eqW a a p↔p:=⟨fun h=>h.2,fun h=>⟨rfl,h⟩⟩
section
variable {t:TypeId} {xo yo:Operand} {k:IntKind} {a b:Int}
theorem bin_lss:binA P .lss t xo yo (.int k a) (.int k b)=some (.bool (decide (a < b))):=by simp [binA,binOp,Op.intCmp,quiet,closedO,closedV,pure]
theorem bin_gtr:binA P .gtr t xo yo (.int k a) (.int k b)=some (.bool (decide (b < a))):=by simp [binA,binOp,Op.intCmp,quiet,closedO,closedV,pure]
theorem bin_geq:binA P .geq t xo yo (.int k a) (.int k b)=some (.bool (decide (b≤a))):=by simp [binA,binOp,Op.intCmp,quiet,closedO,closedV,pure]
theorem bin_eql:binA P .eql t xo yo (.int k a) (.int k b)=some (.bool (a==b)):=by simp [binA,binOp,Op.intCmp,quiet,closedO,closedV,pure]
theorem bin_neq:binA P .neq t xo yo (.int k a) (.int k b)=some (.bool (a != b)):=by simp [binA,binOp,Op.intCmp,quiet,closedO,closedV,pure]
theorem bin_add:binA P .add t xo yo (.int k a) (.int k b)=some (.int k (k.wrap (a+b))):=by simp [binA,binOp,Op.intArith,quiet,closedO,closedV,pure]
theorem bin_sub:binA P .sub t xo yo (.int k a) (.int k b)=some (.int k (k.wrap (a - b))):=by simp [binA,binOp,Op.intArith,quiet,closedO,closedV,pure]
theorem un_not {x:Bool}:unA P .not (.bool x)=some (.bool (!x)):=by simp [unA,closedV,Op.unary,quiet,closedO,pure]
theorem bin_streq {x y:ByteArray}:binA P .eql t xo yo (.string x) (.string y)=some (.bool (x.data.toList==y.data.toList)):=rfl
theorem bin_strneq {x y:ByteArray}:binA P .neq t xo yo (.string x) (.string y)=some (.bool !(x.data.toList==y.data.toList)):=rfl
end
theorem wrap_i64 {n:Int} (h1: -9223372036854775808≤n) (h2:n < 9223372036854775808):IntKind.i64.wrap n=n:=by
 unfold IntKind.wrap
 have e:(2 ^ IntKind.i64.bits:Int)=18446744073709551616:=by decide
 have e2:(2 ^ (IntKind.i64.bits - 1):Int)=9223372036854775808:=by decide
 have e3:IntKind.i64.signed=true:=rfl
 simp only [e,e2,e3,Bool.true_and,decide_eq_true_eq]
 split <;> omega
theorem sameBytes_refl:∀ l:List UInt8,sameBytes l l=true
 | []=>rfl
 | a::r=>by simp [sameBytes,sameBytes_refl r]
theorem sameInt_refl:∀ a:Int,sameInt a a=true
 | .ofNat a=>Nat.beq_refl a
 | .negSucc a=>Nat.beq_refl a
theorem same_bool {n:Nat} {b:Bool}:sameV (n+1) (.bool b) (.bool b)=true:=by simp [sameV]
theorem same_int {n:Nat} {k:IntKind} {a:Int}:sameV (n+1) (.int k a) (.int k a)=true:=by simp [sameV,sameInt_refl]
theorem same_string {n:Nat} {s:ByteArray}:sameV (n+1) (.string s) (.string s)=true:=by simp only [sameV,sameBytes_refl]
structure Ext (A A':AW):Prop where
 next:A.next≤A'.next
 get:∀ i,i < A.next→A'.get i=A.get i
 mem:∀ i,i < A.next→A'.members i=A.members i
def AW.push (A:AW) (o:AO):AW:={ (A.put A.next o) with next:=A.next+1 }
theorem AW.push_get {A:AW} (o:AO) {j:Nat} (h:A.next < maxId):(A.push o).get j=if j=A.next then some o else A.get j:=AW.get_put A A.next j o h
theorem AW.push_next (A:AW) (o:AO):(A.push o).next=A.next+1:=rfl
theorem AW.push_ext {A:AW} (o:AO) (h:A.next < maxId):Ext A (A.push o):=
 ⟨Nat.le_succ _,fun i hi=>by rw [AW.push_get o h,if_neg (by omega)],fun i _=>rfl⟩
theorem newP_eq {A:AW} {cs:List Value} {e:TypeId} (h:A.next < maxId) (hc:cs.all oneCell=true):newP A cs e=.ok (.pointer (some ⟨A.next,0,none⟩)) (A.push (.row cs e A.next 0 false)):=by
 unfold newP AW.newRow AW.new
 simp only [hc,cond_true,blt_true.2 h]
 rfl
theorem isT_int {k:IntKind} {n:Int}:isTuple (.int k n)=false:=rfl
theorem isT_bool {b:Bool}:isTuple (.bool b)=false:=rfl
theorem isT_string {b:ByteArray}:isTuple (.string b)=false:=rfl
theorem isT_slice {a:Option Addr} {n c:Nat}:isTuple (.slice a n c)=false:=rfl
theorem isT_ptr {a:Option Addr}:isTuple (.pointer a)=false:=rfl
theorem isT_map {a:Option Nat}:isTuple (.map a)=false:=rfl
theorem one_int {k:IntKind} {n:Int}:oneCell (.int k n)=true:=rfl
theorem one_bool {b:Bool}:oneCell (.bool b)=true:=rfl
theorem one_string {b:ByteArray}:oneCell (.string b)=true:=rfl
theorem one_slice {a:Option Addr} {n c:Nat}:oneCell (.slice a n c)=true:=rfl
theorem one_ptr {a:Option Addr}:oneCell (.pointer a)=true:=rfl
theorem one_map {a:Option Nat}:oneCell (.map a)=true:=rfl
theorem cell_row {A:AW} {b off:Nat} {cs:List Value} {e f b0:Nat} {ro:Bool} (h:A.get b=some (.row cs e f b0 ro)):A.cell? ⟨b,off,none⟩=cellOf cs off:=by
 unfold AW.cell?
 simp only [h]
theorem cells_row {A:AW} {b off n:Nat} {cs:List Value} {e f b0:Nat} {ro:Bool} (h:A.get b=some (.row cs e f b0 ro)):A.cells? ⟨b,off,none⟩ n=takeCells (cs.drop off) n:=by
 unfold AW.cells?
 cases n with
 | zero=>simp [takeCells]
 | succ n=>simp only [h]
theorem cellOf_get:∀ {cs:List Value} {i:Nat} {v:Value},cs[i]? =some v→isTuple v=false→cellOf cs i=some v
 | [],i,v,h,_=>by simp at h
 | x::r,0,v,h,ht=>by
  simp only [List.getElem?_cons_zero,Option.some.injEq] at h
  subst h
  simp [cellOf,ht]
 | x::r,i+1,v,h,ht=>by
  simp only [List.getElem?_cons_succ] at h
  simp only [cellOf]
  exact cellOf_get h ht
end
section
variable {P:Program}
structure Fine (A:AW):Prop where
 fams:∀ i,A.next≤i→A.fams.get? i=none
 get:∀ i,A.next≤i→A.get i=none
theorem Fine.lt {A:AW} (h:Fine A) {i:Nat} {o:AO} (hi:A.get i=some o):i < A.next:=by
 rcases Nat.lt_or_ge i A.next with h1 | h1
 ·exact h1
 ·rw [h.get i h1] at hi;cases hi
theorem Fine.alone {A:AW} (h:Fine A) {i:Nat} (hi:A.next≤i):A.members i=[i]:=by
 unfold AW.members
 rw [h.fams i hi]
theorem Fine.push {A:AW} (h:Fine A) (o:AO) (hn:A.next < maxId):Fine (A.push o):=
 ⟨fun i hi=>h.fams i (by rw [AW.push_next] at hi;omega),fun i hi=>by rw [AW.push_next] at hi;rw [AW.push_get o hn,if_neg (by omega)];exact h.get i (by omega)⟩
structure Made (A A':AW) (cs:List Value) (e:TypeId):Prop where
 ext:Ext A A'
 next:A'.next=A.next+1
 row:A'.get A.next=some (.row cs e A.next 0 false)
 mem:A'.members A.next=[A.next]
 fine:Fine A'
theorem newP_made {A:AW} {cs:List Value} {e:TypeId} {K:Value→AW→Prop} (hf:Fine A) (h:A.next < maxId) (hc:cs.all oneCell=true) (hk:∀ A',Made A A' cs e→K (.pointer (some ⟨A.next,0,none⟩)) A'):bothW (newP A cs e) K:=by
 rw [newP_eq h hc]
 exact bothW_ok.2 (hk _ ⟨AW.push_ext _ h,rfl,by rw [AW.push_get _ h,if_pos rfl],hf.alone (Nat.le_refl _),hf.push _ h⟩)
theorem allocP_made {A:AW} {z:Value} {e:TypeId} {K:Value→AW→Prop} (hz:zeroT P e=some z) (hf:Fine A) (h:A.next < maxId) (hc:z.cells.toList.all oneCell=true)
  (hk:∀ A',Made A A' z.cells.toList e→K (.pointer (some ⟨A.next,0,none⟩)) A'):bothW (allocP P A e) K:=by
 unfold allocP
 rw [hz]
 exact newP_made hf h hc hk
theorem drop_of_get {l:List Value} {o:Nat} {v:Value} (h:l[o]? =some v):l.drop o=v::l.drop (o+1):=by
 obtain ⟨h1,rfl⟩:=List.getElem?_eq_some_iff.1 h
 exact List.drop_eq_getElem_cons h1
theorem takeCells_cons {v:Value} {l:List Value} {n:Nat} (h:isTuple v=false):takeCells (v::l) (n+1)=(match takeCells l n with | some r=>some (v::r) | none=>none):=by
 simp only [takeCells,h,cond_false]
 rfl
def setL:List Value→Nat→List Value→List Value
 | cs,_,[]=>cs
 | cs,o,v::r=>setL (cs.set o v) (o+1) r
structure Wrote (A A':AW) (b:Nat) (o:AO):Prop where
 row:A'.get b=some o
 get:∀ i,i≠b→A'.get i=A.get i
 next:A'.next=A.next
 fams:A'.fams=A.fams
theorem Wrote.fine {A A':AW} {b:Nat} {o o':AO} (h:Wrote A A' b o) (hf:Fine A) (hb:A.get b=some o'):Fine A':=
 ⟨fun i hi=>by rw [h.fams];exact hf.fams i (by rw [h.next] at hi;exact hi),fun i hi=>by
  rw [h.next] at hi
  have hb:=hf.lt hb
  rw [h.get i (by omega)]
  exact hf.get i hi⟩
theorem Wrote.mem {A A':AW} {b:Nat} {o:AO} (h:Wrote A A' b o) (f:Nat):A'.members f=A.members f:=by unfold AW.members;rw [h.fams]
theorem setCells_own:∀ {new:List Value} {A:AW} {b off:Nat} {cs:List Value} {e f b0:Nat},A.get b=some (.row cs e f b0 false)→A.members f=[b]→off+new.length≤cs.length→new.all oneCell=true→b < maxId→
  ∃ A',A.setCells ⟨b,off,none⟩ new=some A'∧Wrote A A' b (.row (setL cs off new) e f b0 false)
 | [],A,b,off,cs,e,f,b0,hg,hm,hl,ho,hb=>⟨A,rfl,hg,fun _ _=>rfl,rfl,rfl⟩
 | v::r,A,b,off,cs,e,f,b0,hg,hm,hl,ho,hb=>by
  simp only [List.all_cons,Bool.and_eq_true] at ho
  simp only [List.length_cons] at hl
  have hble:Nat.ble cs.length off=false:=ble_false.2 (by omega)
  have h1:A.setCell ⟨b,off,none⟩ v=some (A.put b (.row (cs.set off v) e f b0 false)):=by
   unfold AW.setCell
   simp only [hg,ho.1,Bool.not_true,Bool.false_or,hble,cond_false,hm,poisonAt,Nat.beq_refl,cond_true]
  have hg':(A.put b (.row (cs.set off v) e f b0 false)).get b=some (.row (cs.set off v) e f b0 false):=by rw [AW.get_put A b b _ hb,if_pos rfl]
  obtain ⟨A',h2,h3⟩:=setCells_own (new:=r) (A:=A.put b (.row (cs.set off v) e f b0 false)) (off:=off+1) hg' hm (by simp;omega) ho.2 hb
  refine ⟨A',?_,h3.row,fun i hi=>?_,h3.next,h3.fams⟩
  ·simp only [AW.setCells,h1]
   exact h2
  ·rw [h3.get i hi,AW.get_put A b i _ hb,if_neg hi]
theorem effW_store {A:AW} {b off n:Nat} {v:Value} {cs:List Value} {e f b0:Nat} {r:Option AW} {K:AW→Prop} (hr:r=(bif Nat.beq v.cells.toList.length n then A.setCells ⟨b,off,none⟩ v.cells.toList else none))
  (hv:v.cells.toList.length=n) (hg:A.get b=some (.row cs e f b0 false)) (hm:A.members f=[b]) (hl:off+n≤cs.length) (ho:v.cells.toList.all oneCell=true) (hb:b < maxId)
  (hk:∀ A',Wrote A A' b (.row (setL cs off v.cells.toList) e f b0 false)→K A'):effW r K:=by
 obtain ⟨A',h1,h2⟩:=setCells_own (new:=v.cells.toList) (off:=off) hg hm (by omega) ho hb
 rw [hr,hv,Nat.beq_refl,cond_true,h1]
 exact effW_some.2 (hk A' h2)
end
section
variable {P:Program}
structure OwnAt (lo:Nat) (A:AW) (e:TypeId) (size:Nat) (n:Nat) (cs:List Value) (b f:Nat):Prop where
 pos:0 < n
 row:A.get b=some (.row cs e f 0 false)
 len:cs.length=n * size
 lob:lo≤b
 lof:lo≤f
 ltf:f < A.next
 mem:∀ i∈A.members f,lo≤i∧i < A.next∧∃ cs' e' b' ro',A.get i=some (.row cs' e' f b' ro')
def OwnS (lo:Nat) (A:AW) (e:TypeId) (size:Nat) (v:Value) (n:Nat) (cs:List Value):Prop:=
 (v=.slice none 0 0∧n=0∧cs=[])∨∃ b f,v=.slice (some ⟨b,0,none⟩) n (capU+n)∧OwnAt lo A e size n cs b f
theorem OwnS.one {lo:Nat} {A:AW} {e:TypeId} {size:Nat} {v:Value} {n:Nat} {cs:List Value} (h:OwnS lo A e size v n cs):oneCell v=true∧isTuple v=false:=by
 rcases h with ⟨rfl,_⟩ | ⟨b,f,rfl,_⟩ <;> exact ⟨rfl,rfl⟩
theorem poisonFrom_get (coord:Nat):∀ (l:List Nat) (A:AW),(∀ i∈l,i < maxId)→(∀ i,i∉l→(poisonFrom coord l A).get i=A.get i)∧(poisonFrom coord l A).next=A.next∧(poisonFrom coord l A).fams=A.fams
 | [],A,_=>⟨fun _ _=>rfl,rfl,rfl⟩
 | x::r,A,hl=>by
  unfold poisonFrom
  split
  ·rename_i cs e fam base ro hx
   obtain ⟨h1,h2,h3⟩:=poisonFrom_get coord r (A.put x (.row (poisonFromL cs (coord - base)) e fam base ro)) fun i hi=>hl i (by simp [hi])
   refine ⟨fun i hi=>?_,h2,h3⟩
   simp only [List.mem_cons,not_or] at hi
   rw [h1 i hi.2,AW.get_put A x i _ (hl x (by simp)),if_neg hi.1]
  ·obtain ⟨h1,h2,h3⟩:=poisonFrom_get coord r A fun i hi=>hl i (by simp [hi])
   exact ⟨fun i hi=>h1 i (fun h=>hi (by simp [h])),h2,h3⟩
theorem takeAny_all:∀ (l:List Value),takeAny l l.length=some l
 | []=>rfl
 | v::r=>by simp [takeAny,takeAny_all r]
structure Appended (lo:Nat) (A A':AW) (e:TypeId) (size:Nat) (v v':Value) (n m:Nat) (cs new:List Value):Prop where
 own:OwnS lo A' e size v' (n+m) (cs++new)
 next:A'.next=A.next+1
 fine:Fine A'
 get:∀ i,i < A.next→(∀ b f,v=.slice (some ⟨b,0,none⟩) n (capU+n)→OwnAt lo A e size n cs b f→i∉A.members f)→A'.get i=A.get i
 mem:∀ g,g < A.next→(∀ b f,v=.slice (some ⟨b,0,none⟩) n (capU+n)→OwnAt lo A e size n cs b f→g≠f)→A'.members g=A.members g
 fam:∀ b' f',v'=.slice (some ⟨b',0,none⟩) (n+m) (capU+(n+m))→OwnAt lo A' e size (n+m) (cs++new) b' f'→f'=A.next∨∃ b,v=.slice (some ⟨b,0,none⟩) n (capU+n)∧OwnAt lo A e size n cs b f'
theorem appendA_nil {A:AW} {t t2 e:TypeId} {size bytes:Nat} {x:Value} {m:Nat} {new:List Value} (ht:sliceElemT P t=some e) (hs:szT P e=some (size+1)) (hb:bytesT P e=some bytes)
  (hx:sourceZ P A e t2 (size+1) x=some (m+1,new)) (hroom:(Nat.blt (0+(m+1)) room&&Nat.blt ((0+(m+1)) * bytes) room&&hasZero P e (size+1))=true) (hmax:A.next < maxId):
  appendA P A t t2 (.slice none 0 0) x=.ok (.slice (some ⟨A.next,0,none⟩) (0+(m+1)) (capU+(0+(m+1)))) (A.push (.row new e A.next 0 false)):=by
 unfold appendA
 simp only [ht,hs,hb,hx]
 rw [hroom]
 simp only [Bool.not_true,cond_false]
 have h1:Nat.ble capU 0=false:=rfl
 have h2:Nat.ble (0+(m+1)) 0=false:=ble_false.2 (by omega)
 simp only [h1,cond_false,h2,List.nil_append]
 unfold AW.new
 simp only [blt_true.2 hmax,cond_true]
 rfl
theorem appendA_grow {A B:AW} {t t2 e:TypeId} {size bytes:Nat} {x:Value} {n m c b f:Nat} {cs new:List Value} {a':Addr} (ht:sliceElemT P t=some e) (hs:szT P e=some (size+1)) (hb:bytesT P e=some bytes)
  (hx:sourceZ P A e t2 (size+1) x=some (m+1,new)) (hroom:(Nat.blt (n+(m+1)) room&&Nat.blt ((n+(m+1)) * bytes) room&&hasZero P e (size+1))=true) (h1:Nat.ble capU c=true) (h2:Nat.ble (n+(m+1)) (c - capU)=false)
  (hrow:A.get b=some (.row cs e f 0 false)) (hone:new.all oneCell=true) (hold:A.cellsAny ⟨b,0,none⟩ (n * (size+1))=some cs)
  (hni:(poisonFrom (n * (size+1)) (A.members f) A).newIn (cs++new) e f 0=some (a',B)):
  appendA P A t t2 (.slice (some ⟨b,0,none⟩) n c) x=.ok (.slice (some a') (n+(m+1)) (capU+(n+(m+1)))) B:=by
 unfold appendA
 simp only [ht,hs,hb,hx]
 rw [hroom]
 simp only [Bool.not_true,cond_false]
 generalize hlb:(bif Nat.ble capU c then c - capU else c)=lb
 have hz:Nat.ble (n+(m+1)) lb=false:=by
  rw [h1,cond_true] at hlb
  rw [← hlb]
  exact h2
 clear hlb h2
 have hbe:Nat.beq e e=true:=Nat.beq_refl e
 simp only [hz,h1,cond_false,cond_true,hrow,hbe,hone,Bool.and_self,Bool.not_true]
 rw [hold]
 have hc:(0+0+n * (size+1))=n * (size+1):=by omega
 simp only [hc,Nat.add_zero,hni]
theorem append_own {lo:Nat} {A:AW} {t t2 e:TypeId} {size bytes:Nat} {v x:Value} {n m:Nat} {cs new:List Value} (ht:sliceElemT P t=some e) (hs:szT P e=some (size+1)) (hb:bytesT P e=some bytes)
  (hz:hasZero P e (size+1)=true) (hx:sourceZ P A e t2 (size+1) x=some (m+1,new)) (hnew:new.length=(m+1) * (size+1)) (hone:new.all oneCell=true) (h:OwnS lo A e (size+1) v n cs) (hf:Fine A) (hlo:lo≤A.next)
  (hmax:A.next < maxId) (hr1:n+(m+1) < room) (hr2:(n+(m+1)) * bytes < room):∃ v' A',appendA P A t t2 v x=.ok v' A'∧Appended lo A A' e (size+1) v v' n (m+1) cs new:=by
 have hroom:(Nat.blt (n+(m+1)) room&&Nat.blt ((n+(m+1)) * bytes) room&&hasZero P e (size+1))=true:=by rw [blt_true.2 hr1,blt_true.2 hr2,hz];rfl
 rcases h with ⟨rfl,rfl,rfl⟩ | ⟨b,f,rfl,h⟩
 ·refine ⟨.slice (some ⟨A.next,0,none⟩) (0+(m+1)) (capU+(0+(m+1))),A.push (.row new e A.next 0 false),?_,?_⟩
  ·exact appendA_nil ht hs hb hx hroom hmax
  ·have hfp:=hf.push (.row new e A.next 0 false) hmax
   have hrow:(A.push (.row new e A.next 0 false)).get A.next=some (.row new e A.next 0 false):=by rw [AW.push_get _ hmax,if_pos rfl]
   refine ⟨.inr ⟨A.next,A.next,rfl,by omega,by rw [hrow];rfl,by simp only [List.nil_append,hnew,Nat.zero_add],hlo,hlo,by rw [AW.push_next];omega,fun i hi=>?_⟩,rfl,hfp,fun i hi _=>by rw [AW.push_get _ hmax,if_neg (by omega)],fun g hg _=>rfl,fun b' f' hv ho=>?_⟩
   ·have:(A.push (.row new e A.next 0 false)).members A.next=[A.next]:=hf.alone (Nat.le_refl _)
    rw [this] at hi
    obtain rfl:i=A.next:=by simpa using hi
    exact ⟨hlo,by rw [AW.push_next];omega,_,_,_,_,hrow⟩
   ·simp only [Value.slice.injEq,Option.some.injEq,Addr.mk.injEq] at hv
    obtain ⟨⟨rfl,_⟩,_⟩:=hv
    have:=ho.row
    rw [hrow] at this
    simp only [Option.some.injEq,AO.row.injEq] at this
    exact .inl this.2.2.1.symm
 ·have hmemlt:∀ i∈A.members f,i < maxId:=fun i hi=>by have:=(h.mem i hi).2.1;omega
  obtain ⟨p1,p2,p3⟩:=poisonFrom_get (n * (size+1)) (A.members f) A hmemlt
  let A1:=poisonFrom (n * (size+1)) (A.members f) A
  have hA1:A1.next=A.next:=p2
  let A2:AW:={ (A1.push (.row (cs++new) e f 0 false)) with fams:=(A1.push (.row (cs++new) e f 0 false)).fams.put depth f (some (A1.next::A1.members f)) }
  have hm1:∀ g,A1.members g=A.members g:=fun g=>by unfold AW.members;rw [show A1.fams=A.fams from p3]
  have hget2:∀ i,A2.get i=if i=A.next then some (.row (cs++new) e f 0 false) else A1.get i:=by
   intro i
   show (A1.push _).get i=_
   rw [AW.push_get _ (by rw [hA1];exact hmax),hA1]
  have hltf:=h.ltf
  have hmem2:∀ g,g < maxId→A2.members g=if g=f then A.next::A.members f else A.members g:=by
   intro g hg
   show (match ((A1.push (.row (cs++new) e f 0 false)).fams.put depth f (some (A1.next::A1.members f))).get? g with | some l=>l | none=>[g])=_
   rw [Trie.get?_put depth _ f g _ (by unfold depth maxId at *;omega)]
   by_cases hgf:g=f
   ·rw [if_pos hgf,if_pos hgf,hm1,hA1]
   ·rw [if_neg hgf,if_neg hgf,← hm1 g];rfl
  have hnext2:A2.next=A.next+1:=by show A1.next+1=_;rw [hA1]
  refine ⟨.slice (some ⟨A.next,0,none⟩) (n+(m+1)) (capU+(n+(m+1))),A2,?_,?_⟩
  ·have hold:A.cellsAny ⟨b,0,none⟩ (n * (size+1))=some cs:=by
    unfold AW.cellsAny
    obtain ⟨k,hk⟩:∃ k,n * (size+1)=k+1:=⟨n * (size+1) - 1,by have:0 < n * (size+1):=Nat.mul_pos h.pos (by omega);omega⟩
    rw [hk]
    simp only [h.row,List.drop_zero]
    rw [← hk,← h.len]
    exact takeAny_all cs
   have hni:(poisonFrom (n * (size+1)) (A.members f) A).newIn (cs++new) e f 0=some (⟨A1.next,0,none⟩,A2):=by
    unfold AW.newIn AW.new
    have:Nat.blt (poisonFrom (n * (size+1)) (A.members f) A).next maxId=true:=blt_true.2 (by rw [p2];exact hmax)
    simp only [this,cond_true]
    rfl
   rw [hA1] at hni
   exact appendA_grow ht hs hb hx hroom (ble_true.2 (Nat.le_add_right _ _)) (ble_false.2 (by rw [Nat.add_sub_cancel_left];omega)) h.row hone hold hni
  ·have hnot:A.next∉A.members f:=fun hi=>by have:=(h.mem _ hi).2.1;omega
   have hrow:A2.get A.next=some (.row (cs++new) e f 0 false):=by rw [hget2,if_pos rfl]
   have hfam:∀ i∈A.members f,∃ cs' e' b' ro',A1.get i=some (.row cs' e' f b' ro'):=by
    have key:∀ (l:List Nat) (B:AW),(∀ i∈l,i < maxId)→∀ i,(∃ cs' e' b' ro',B.get i=some (.row cs' e' f b' ro'))→∃ cs' e' b' ro',(poisonFrom (n * (size+1)) l B).get i=some (.row cs' e' f b' ro'):=by
     intro l
     induction l with
     | nil=>intro B _ i hi;exact hi
     | cons x r ih=>
      intro B hl i hi
      unfold poisonFrom
      refine ih _ (fun j hj=>hl j (by simp [hj])) i ?_
      split
      ·rename_i cs2 e2 f2 b2 ro2 hx2
       rw [AW.get_put B x i _ (hl x (by simp))]
       by_cases hix:i=x
       ·subst hix
        obtain ⟨cs',e',b',ro',hi⟩:=hi
        rw [hx2] at hi
        simp only [Option.some.injEq,AO.row.injEq] at hi
        rw [if_pos rfl]
        exact ⟨_,_,_,_,by rw [hi.2.2.1]⟩
       ·rw [if_neg hix];exact hi
      ·exact hi
    intro i hi
    obtain ⟨_,_,h3⟩:=h.mem i hi
    exact key _ _ hmemlt i h3
   refine ⟨.inr ⟨A.next,f,rfl,by omega,hrow,by rw [List.length_append,h.len,hnew,← Nat.add_mul],hlo,h.lof,by rw [hnext2];omega,fun i hi=>?_⟩,hnext2,⟨fun i hi=>?_,fun i hi=>?_⟩,fun i hi hnf=>?_,fun g hg hgf=>?_,fun b' f' hv ho=>?_⟩
   ·rw [hmem2 f (by omega),if_pos rfl,List.mem_cons] at hi
    rcases hi with rfl | hi
    ·exact ⟨hlo,by rw [hnext2];omega,_,_,_,_,hrow⟩
    ·obtain ⟨g1,g2,_⟩:=h.mem i hi
     obtain ⟨cs',e',b',ro',g3⟩:=hfam i hi
     exact ⟨g1,by rw [hnext2];omega,cs',e',b',ro',by rw [hget2,if_neg (by omega)];exact g3⟩
   ·rw [hnext2] at hi
    show ((A1.push (.row (cs++new) e f 0 false)).fams.put depth f (some (A1.next::A1.members f))).get? i=none
    rw [Trie.get?_put depth _ f i _ (by unfold depth maxId at *;omega),if_neg (by omega)]
    show A1.fams.get? i=none
    rw [show A1.fams=A.fams from p3]
    exact hf.fams i (by omega)
   ·rw [hnext2] at hi
    rw [hget2,if_neg (by omega)]
    show (poisonFrom _ _ A).get i=none
    rw [p1 i (fun hm=>by have:=(h.mem i hm).2.1;omega)]
    exact hf.get i (by omega)
   ·rw [hget2,if_neg (by omega)]
    exact p1 i (hnf b f rfl h)
   ·rw [hmem2 g (by omega),if_neg (hgf b f rfl h)]
   ·simp only [Value.slice.injEq,Option.some.injEq,Addr.mk.injEq] at hv
    obtain ⟨⟨rfl,_⟩,_⟩:=hv
    have:=ho.row
    rw [hrow] at this
    simp only [Option.some.injEq,AO.row.injEq] at this
    obtain ⟨_,_,rfl,_⟩:=this
    exact .inr ⟨b,rfl,h⟩
end
section
variable {P:Program}
theorem quiet_bind {α β:Type} (k:α→Sem β):∀ s:Sem α,quiet P (s.bind k)=(quiet P s).bind fun a=>quiet P (k a)
 | .pure a=>rfl
 | .program f=>quiet_bind k (f P)
 | .mark _ f=>by
  show quiet P (f.bind k)=_
  exact quiet_bind k f
 | .load .. =>rfl
 | .store .. =>rfl
 | .new .. =>rfl
 | .shape .. =>rfl
 | .freeze .. =>rfl
 | .frozen .. =>rfl
 | .getObj .. =>rfl
 | .setObj .. =>rfl
 | .choose .. =>rfl
 | .sys .. =>rfl
 | .halt _=>rfl
theorem quiet_bindM {α β:Type} (s:Sem α) (k:α→Sem β):quiet P (s >>=k)=(quiet P s).bind fun a=>quiet P (k a):=quiet_bind k s
theorem quiet_struct (d:Nat) (t:TypeId) (xs ys:Array Value) (ht:quiet P (underlying t)=some (.struct (P.fieldsOf t))) (hp:P.stoodInHeld t=false):
  quiet P (Op.equalIn (d+1) t (.agg xs) (.agg ys))=quiet P (Op.eqFields d xs ys (P.fieldsOf t).toList):=by
 simp only [Op.equalIn]
 show quiet P (Sem.bind _ _)=_
 rw [quiet_bind,ht]
 simp only [Option.bind_some]
 show quiet P (Sem.bind _ _)=_
 rw [quiet_bind]
 show (some P).bind _=_
 simp only [Option.bind_some,hp,Bool.false_eq_true,if_false]
 rw [← Array.forIn_toList]
 generalize (P.fieldsOf t).toList=fs
 clear ht
 induction fs with
 | nil=>simp [Op.eqFields]
 | cons f fs ih=>
  simp only [List.forIn_cons,Op.eqFields]
  split
  ·simp only [quiet_bindM,Option.bind_assoc] at ih ⊢
   congr 1
   funext a
   congr 1
   funext b
   congr 1
   funext r
   cases r
   ·rfl
   ·exact ih
  ·exact ih
theorem quiet_eq_int (d:Nat) (t:TypeId) (k k':IntKind) (a b:Int) (h:quiet P (underlying t)=some (.int k')):quiet P (Op.equalIn (d+1) t (.int k a) (.int k b))=some (a==b):=by
 simp only [Op.equalIn]
 show quiet P (Sem.bind _ _)=_
 rw [quiet_bind,h]
 simp only [Option.bind_some,if_true]
 rfl
theorem quiet_eq_string (d:Nat) (t:TypeId) (a b:ByteArray) (h:quiet P (underlying t)=some .string):quiet P (Op.equalIn (d+1) t (.string a) (.string b))=some (a==b):=by
 simp only [Op.equalIn]
 show quiet P (Sem.bind _ _)=_
 rw [quiet_bind,h]
 rfl
end
section
variable {P:Program}
def famOf (i:Nat):AO→Nat
 | .row _ _ f _ _=>f
 | _=>i
structure Keeps (A A':AW) (S:List Nat):Prop where
 next:A.next≤A'.next
 get:∀ i o,A.get i=some o→famOf i o < A.next→famOf i o∉S→A'.get i=some o
 mem:∀ f,f < A.next→f∉S→A'.members f=A.members f
theorem Keeps.refl (A:AW) (S:List Nat):Keeps A A S:=⟨Nat.le_refl _,fun _ _ h _ _=>h,fun _ _ _=>rfl⟩
theorem Keeps.trans {A B C:AW} {S T:List Nat} (h:Keeps A B S) (k:Keeps B C T) (hT:∀ x∈T,x∈S∨A.next≤x):Keeps A C S:=
 ⟨Nat.le_trans h.next k.next,fun i o hi hlt hn=>k.get i o (h.get i o hi hlt hn) (Nat.lt_of_lt_of_le hlt h.next) (fun hm=>by
  rcases hT _ hm with h1 | h1
  ·exact hn h1
  ·omega),fun f hf hn=>by
  rw [k.mem f (Nat.lt_of_lt_of_le hf h.next) (fun hm=>by
   rcases hT _ hm with h1 | h1
   ·exact hn h1
   ·omega),h.mem f hf hn]⟩
theorem Keeps.more {A B:AW} {S T:List Nat} (h:Keeps A B S) (hs:∀ x∈S,x∈T∨A.next≤x):Keeps A B T:=
 ⟨h.next,fun i o hi hlt hn=>h.get i o hi hlt (fun hm=>by
  rcases hs _ hm with h1 | h1
  ·exact hn h1
  ·omega),fun f hf hn=>h.mem f hf (fun hm=>by
  rcases hs _ hm with h1 | h1
  ·exact hn h1
  ·omega)⟩
theorem Ext.keeps {A A':AW} (h:Ext A A') (hf:Fine A):Keeps A A' []:=
 ⟨h.next,fun i o hi _ _=>by rw [h.get i (hf.lt hi)];exact hi,fun f hf _=>h.mem f hf⟩
theorem Made.keeps {A A':AW} {cs:List Value} {e:TypeId} (m:Made A A' cs e) (hf:Fine A):Keeps A A' []:=m.ext.keeps hf
structure Row1 (A:AW) (b:Nat) (cs:List Value) (e:TypeId):Prop where
 row:A.get b=some (.row cs e b 0 false)
 mem:A.members b=[b]
 lt:b < A.next
theorem Made.row1 {A A':AW} {cs:List Value} {e:TypeId} (m:Made A A' cs e):Row1 A' A.next cs e:=⟨m.row,m.mem,by rw [m.next];omega⟩
theorem Row1.keeps {A A':AW} {b:Nat} {cs:List Value} {e:TypeId} {S:List Nat} (h:Row1 A b cs e) (k:Keeps A A' S) (hn:b∉S):Row1 A' b cs e:=
 ⟨k.get b _ h.row h.lt hn,by rw [k.mem b h.lt hn];exact h.mem,Nat.lt_of_lt_of_le h.lt k.next⟩
theorem Wrote.keeps {A A':AW} {b f:Nat} {o:AO} {cs:List Value} {e b0:Nat} {ro:Bool} (w:Wrote A A' b o) (h:A.get b=some (.row cs e f b0 ro)):Keeps A A' [f]:=
 ⟨by rw [w.next];exact Nat.le_refl _,fun i o hi _ hn=>by
  by_cases hib:i=b
  ·subst hib
   rw [h] at hi
   cases hi
   exact absurd (List.mem_singleton.2 rfl) hn
  ·rw [w.get i hib];exact hi,fun f _ _=>w.mem f⟩
theorem Row1.store {A:AW} {b off n:Nat} {v:Value} {cs:List Value} {e:TypeId} {r:Option AW} {K:AW→Prop} (h:Row1 A b cs e) (hf:Fine A) (hb:A.next≤maxId)
  (hr:r=(bif Nat.beq v.cells.toList.length n then A.setCells ⟨b,off,none⟩ v.cells.toList else none)) (hv:v.cells.toList.length=n) (hl:off+n≤cs.length) (ho:v.cells.toList.all oneCell=true)
  (hk:∀ A',Row1 A' b (setL cs off v.cells.toList) e→Keeps A A' [b]→A'.next=A.next→Fine A'→K A'):effW r K:=by
 have hlt:=h.lt
 refine effW_store hr hv h.row h.mem hl ho (by omega) fun A' w=>?_
 exact hk A' ⟨w.row,by rw [w.mem];exact h.mem,by rw [w.next];exact h.lt⟩ (w.keeps h.row) w.next (w.fine hf h.row)
def OwnG (A:AW) (e:TypeId) (size:Nat) (v:Value) (n:Nat) (cs:List Value) (F:List Nat):Prop:=
 (v=.slice none 0 0∧n=0∧cs=[]∧F=[])∨∃ b f,v=.slice (some ⟨b,0,none⟩) n (capU+n)∧OwnAt 0 A e size n cs b f∧F=[f]
theorem OwnG.nil (A:AW) (e:TypeId) (size:Nat):OwnG A e size (.slice none 0 0) 0 [] []:=.inl ⟨rfl,rfl,rfl,rfl⟩
theorem OwnG.ownS {A:AW} {e:TypeId} {size:Nat} {v:Value} {n:Nat} {cs:List Value} {F:List Nat} (h:OwnG A e size v n cs F):OwnS 0 A e size v n cs:=by
 rcases h with ⟨h1,h2,h3,_⟩ | ⟨b,f,h1,h2,_⟩
 ·exact .inl ⟨h1,h2,h3⟩
 ·exact .inr ⟨b,f,h1,h2⟩
theorem OwnG.one {A:AW} {e:TypeId} {size:Nat} {v:Value} {n:Nat} {cs:List Value} {F:List Nat} (h:OwnG A e size v n cs F):oneCell v=true∧isTuple v=false:=h.ownS.one
theorem OwnG.lt {A:AW} {e:TypeId} {size:Nat} {v:Value} {n:Nat} {cs:List Value} {F:List Nat} (h:OwnG A e size v n cs F):∀ x∈F,x < A.next:=by
 rcases h with ⟨_,_,_,rfl⟩ | ⟨b,f,_,h2,rfl⟩
 ·intro x hx;simp at hx
 ·intro x hx
  obtain rfl:x=f:=by simpa using hx
  exact h2.ltf
theorem OwnG.keeps {A A':AW} {e:TypeId} {size:Nat} {v:Value} {n:Nat} {cs:List Value} {F S:List Nat} (h:OwnG A e size v n cs F) (k:Keeps A A' S) (hd:∀ x∈F,x∉S):OwnG A' e size v n cs F:=by
 rcases h with h | ⟨b,f,rfl,h,rfl⟩
 ·exact .inl h
 ·have hfs:f∉S:=hd f (by simp)
  refine .inr ⟨b,f,rfl,⟨h.pos,k.get b _ h.row h.ltf hfs,h.len,Nat.zero_le _,Nat.zero_le _,Nat.lt_of_lt_of_le h.ltf k.next,fun i hi=>?_⟩,rfl⟩
  rw [k.mem f h.ltf hfs] at hi
  obtain ⟨_,h2,cs',e',b',ro',h3⟩:=h.mem i hi
  exact ⟨Nat.zero_le _,Nat.lt_of_lt_of_le h2 k.next,cs',e',b',ro',k.get i _ h3 h.ltf hfs⟩
theorem appendG {A:AW} {t t2 e:TypeId} {size bytes:Nat} {v x:Value} {n m:Nat} {cs new:List Value} {F:List Nat} (ht:sliceElemT P t=some e) (hs:szT P e=some (size+1)) (hb:bytesT P e=some bytes)
  (hz:hasZero P e (size+1)=true) (hx:sourceZ P A e t2 (size+1) x=some (m+1,new)) (hnew:new.length=(m+1) * (size+1)) (hone:new.all oneCell=true) (h:OwnG A e (size+1) v n cs F) (hf:Fine A)
  (hmax:A.next < maxId) (hr1:n+(m+1) < room) (hr2:(n+(m+1)) * bytes < room) {K:Value→AW→Prop}
  (hk:∀ v' A' F',OwnG A' e (size+1) v' (n+(m+1)) (cs++new) F'→Keeps A A' F→(∀ x∈F',x∈F∨x=A.next)→A'.next=A.next+1→Fine A'→K v' A'):bothW (appendA P A t t2 v x) K:=by
 obtain ⟨v',A',h1,a⟩:=append_own (P:=P) ht hs hb hz hx hnew hone h.ownS hf (Nat.zero_le _) hmax hr1 hr2
 rw [h1]
 refine bothW_ok.2 ?_
 have hfam:∀ b f,v=.slice (some ⟨b,0,none⟩) n (capU+n)→OwnAt 0 A e (size+1) n cs b f→f∈F:=by
  intro b f hv ho
  rcases h with ⟨h1,_⟩ | ⟨b',f',h1,h2,rfl⟩
  ·rw [h1] at hv;cases hv
  ·rw [h1] at hv
   simp only [Value.slice.injEq,Option.some.injEq,Addr.mk.injEq] at hv
   obtain ⟨⟨rfl,_⟩,_⟩:=hv
   have:=ho.row
   rw [h2.row] at this
   simp only [Option.some.injEq,AO.row.injEq] at this
   simp [this.2.2.1]
 have hkeep:Keeps A A' F:=⟨by rw [a.next];omega,fun i o hi hlt hn=>by
   rw [a.get i (hf.lt hi) (fun b f hv ho him=>?_)]
   ·exact hi
   ·obtain ⟨_,_,cs',e',b',ro',h3⟩:=ho.mem i him
    rw [hi] at h3
    cases h3
    exact hn (hfam b f hv ho),fun g hg hn=>a.mem g hg fun b f hv ho hgf=>hn (hgf▸hfam b f hv ho)⟩
 rcases a.own with ⟨_,h2,_⟩ | ⟨b,f,h2,h3⟩
 ·omega
 ·refine hk v' A' [f] (.inr ⟨b,f,h2,h3,rfl⟩) hkeep (fun x hx=>?_) a.next a.fine
  obtain rfl:x=f:=by simpa using hx
  rcases a.fam b x h2 h3 with h4 | ⟨b',h4,h5⟩
  ·exact .inr h4
  ·exact .inl (hfam b' x h4 h5)
theorem mem_of_fams {A A':AW} (h:A'.fams=A.fams) (g:Nat):A'.members g=A.members g:=by unfold AW.members;rw [h]
theorem poisonAt_get (self coord:Nat):∀ (l:List Nat) (A:AW),(∀ i∈l,i < maxId)→(∀ i,i∉l∨i=self→(poisonAt self coord l A).get i=A.get i)∧
  (∀ i cs e f b ro,A.get i=some (.row cs e f b ro)→∃ cs',(poisonAt self coord l A).get i=some (.row cs' e f b ro))∧(poisonAt self coord l A).next=A.next∧(poisonAt self coord l A).fams=A.fams
 | [],A,_=>⟨fun _ _=>rfl,fun i cs e f b ro h=>⟨cs,h⟩,rfl,rfl⟩
 | x::r,A,hl=>by
  unfold poisonAt
  cases hxs:Nat.beq x self with
  | true=>
   have hx:x=self:=Nat.eq_of_beq_eq_true hxs
   obtain ⟨h1,h2,h3,h4⟩:=poisonAt_get self coord r A (fun i hi=>hl i (by simp [hi]))
   refine ⟨fun i hi=>h1 i ?_,h2,h3,h4⟩
   rcases hi with hi | hi
   ·exact .inl (fun hm=>hi (by simp [hm]))
   ·exact .inr hi
  | false=>
   have hx:x≠self:=fun e=>by rw [e,Nat.beq_refl] at hxs;cases hxs
   simp only [cond_false]
   have same:∀ B:AW,(∀ i,i≠x→B.get i=A.get i)→(∀ i cs e f b ro,A.get i=some (.row cs e f b ro)→∃ cs',B.get i=some (.row cs' e f b ro))→B.next=A.next→B.fams=A.fams→
     (∀ i,i∉x::r∨i=self→(poisonAt self coord r B).get i=A.get i)∧(∀ i cs e f b ro,A.get i=some (.row cs e f b ro)→∃ cs',(poisonAt self coord r B).get i=some (.row cs' e f b ro))∧(poisonAt self coord r B).next=A.next∧(poisonAt self coord r B).fams=A.fams:=by
    intro B g1 g2 g3 g4
    obtain ⟨h1,h2,h3,h4⟩:=poisonAt_get self coord r B (fun i hi=>hl i (by simp [hi]))
    refine ⟨fun i hi=>?_,fun i cs e f b ro hi=>?_,by rw [h3,g3],by rw [h4,g4]⟩
    ·rw [h1 i (by
      rcases hi with hi | hi
      ·exact .inl (fun hm=>hi (by simp [hm]))
      ·exact .inr hi),g1 i (by
      rcases hi with hi | hi
      ·exact fun e=>hi (by simp [e])
      ·subst hi;exact fun e=>hx e.symm)]
    ·obtain ⟨cs',hb⟩:=g2 i cs e f b ro hi
     exact h2 i cs' e f b ro hb
   split
   ·rename_i cs2 e2 f2 b2 ro2 hx2
    cases hble:Nat.ble b2 coord with
    | false=>exact same A (fun _ _=>rfl) (fun i cs e f b ro h=>⟨cs,h⟩) rfl rfl
    | true=>
     simp only [cond_true]
     refine same _ (fun i hi=>by rw [AW.get_put A x i _ (hl x (by simp)),if_neg hi]) (fun i cs e f b ro hi=>?_) rfl rfl
     rw [AW.get_put A x i _ (hl x (by simp))]
     by_cases hix:i=x
     ·subst hix
      rw [hx2] at hi
      cases hi
      exact ⟨_,by rw [if_pos rfl]⟩
     ·exact ⟨cs,by rw [if_neg hix];exact hi⟩
   ·exact same A (fun _ _=>rfl) (fun i cs e f b ro h=>⟨cs,h⟩) rfl rfl
theorem setCells_fam:∀ {new:List Value} {A:AW} {b off:Nat} {cs:List Value} {e f:Nat},A.get b=some (.row cs e f 0 false)→(∀ i∈A.members f,i < maxId)→off+new.length≤cs.length→new.all oneCell=true→b < maxId→
  ∃ A',A.setCells ⟨b,off,none⟩ new=some A'∧A'.get b=some (.row (setL cs off new) e f 0 false)∧(∀ i,i≠b→i∉A.members f→A'.get i=A.get i)∧
   (∀ i cs e f b ro,A.get i=some (.row cs e f b ro)→∃ cs',A'.get i=some (.row cs' e f b ro))∧A'.next=A.next∧A'.fams=A.fams
 | [],A,b,off,cs,e,f,hg,hm,hl,ho,hb=>⟨A,rfl,hg,fun _ _ _=>rfl,fun i cs e f b ro h=>⟨cs,h⟩,rfl,rfl⟩
 | v::r,A,b,off,cs,e,f,hg,hm,hl,ho,hb=>by
  simp only [List.all_cons,Bool.and_eq_true] at ho
  simp only [List.length_cons] at hl
  have hble:Nat.ble cs.length off=false:=ble_false.2 (by omega)
  obtain ⟨p1,p2,p3,p4⟩:=poisonAt_get b (0+off) (A.members f) (A.put b (.row (cs.set off v) e f 0 false)) hm
  have h1:A.setCell ⟨b,off,none⟩ v=some (poisonAt b (0+off) (A.members f) (A.put b (.row (cs.set off v) e f 0 false))):=by
   unfold AW.setCell
   simp only [hg,ho.1,Bool.not_true,Bool.false_or,hble,cond_false]
  have hmem:∀ g,(poisonAt b (0+off) (A.members f) (A.put b (.row (cs.set off v) e f 0 false))).members g=A.members g:=mem_of_fams p4
  have hg':(poisonAt b (0+off) (A.members f) (A.put b (.row (cs.set off v) e f 0 false))).get b=some (.row (cs.set off v) e f 0 false):=by
   rw [p1 b (.inr rfl),AW.get_put A b b _ hb,if_pos rfl]
  obtain ⟨A',h2,h3,h4,h5,h6,h7⟩:=setCells_fam (new:=r) (off:=off+1) hg' (by rw [hmem];exact hm) (by simp;omega) ho.2 hb
  refine ⟨A',?_,h3,fun i hi hn=>?_,fun i cs2 e2 f2 b2 ro2 hi=>?_,by rw [h6,p3];rfl,by rw [h7,p4];rfl⟩
  ·simp only [AW.setCells,h1]
   exact h2
  ·rw [h4 i hi (by rw [hmem];exact hn),p1 i (.inl hn),AW.get_put A b i _ hb,if_neg hi]
  ·have:∃ cs',(A.put b (.row (cs.set off v) e f 0 false)).get i=some (.row cs' e2 f2 b2 ro2):=by
    rw [AW.get_put A b i _ hb]
    by_cases hib:i=b
    ·subst hib
     rw [hg] at hi
     cases hi
     exact ⟨_,by rw [if_pos rfl]⟩
    ·exact ⟨cs2,by rw [if_neg hib];exact hi⟩
   obtain ⟨cs3,h8⟩:=this
   obtain ⟨cs4,h9⟩:=p2 i cs3 e2 f2 b2 ro2 h8
   exact h5 i cs4 e2 f2 b2 ro2 h9
structure Map1 (A:AW) (r:Nat) (es:List MapEntry) (c:Nat):Prop where
 row:A.get r=some (.map es c false)
 lt:r < A.next
theorem Map1.keeps {A A':AW} {r:Nat} {es:List MapEntry} {c:Nat} {S:List Nat} (h:Map1 A r es c) (k:Keeps A A' S) (hn:r∉S):Map1 A' r es c:=
 ⟨k.get r _ h.row h.lt hn,Nat.lt_of_lt_of_le h.lt k.next⟩
theorem Map1.put {A:AW} {r:Nat} {es es':List MapEntry} {c c':Nat} (h:Map1 A r es c) (hf:Fine A) (hb:A.next≤maxId):Map1 (A.put r (.map es' c' false)) r es' c'∧Keeps A (A.put r (.map es' c' false)) [r]∧(A.put r (.map es' c' false)).next=A.next∧Fine (A.put r (.map es' c' false)):=by
 have hlt:=h.lt
 have hg:∀ i,(A.put r (.map es' c' false)).get i=if i=r then some (.map es' c' false) else A.get i:=fun i=>AW.get_put A r i _ (by omega)
 refine ⟨⟨by rw [hg,if_pos rfl],hlt⟩,⟨Nat.le_refl _,fun i o hi _ hn=>?_,fun f _ _=>rfl⟩,rfl,⟨hf.fams,fun i hi=>?_⟩⟩
 ·rw [hg,if_neg (fun e=>?_)]
  ·exact hi
  ·subst e
   rw [h.row] at hi
   cases hi
   exact hn (List.mem_singleton.2 rfl)
 ·have hi:A.next≤i:=hi
  rw [hg,if_neg (by omega)]
  exact hf.get i hi
theorem newMap {A:AW} {K:Value→AW→Prop} (hf:Fine A) (h:A.next < maxId) (hk:∀ A',Map1 A' A.next [] 0→Keeps A A' []→A'.next=A.next+1→Fine A'→K (.map (some A.next)) A'):bothW (newMapP A) K:=by
 have e:newMapP A=.ok (.map (some A.next)) (A.push (.map [] 0 false)):=by
  unfold newMapP AW.new
  simp only [blt_true.2 h,cond_true]
  rfl
 rw [e]
 exact bothW_ok.2 (hk _ ⟨by rw [AW.push_get _ h,if_pos rfl],by rw [AW.push_next];omega⟩ ((AW.push_ext _ h).keeps hf) rfl (hf.push _ h))
end
def entryP (w:AW) (it:Value):R AN:=match entryA w it with | some v=>.ok (.value v) w | none=>.fail "entry"
def rangeP (P:Program) (w:AW) (t:TypeId) (x:Value):R AN:=match P.underlying t,x with
  | some .string,.string s=>(match w.new (.sit s 0) with | some (b,w)=>.ok (.value (.pointer (some ⟨b,0,none⟩))) w | none=>.fail "range")
  | some (.map _ _),.map none=>(match w.new (.mit none 0 [] 0) with | some (b,w)=>.ok (.value (.pointer (some ⟨b,0,none⟩))) w | none=>.fail "range")
  | some (.map _ _),.map (some m)=>(match w.get m with
   | some (.map _ clock _)=>(match w.new (.mit (some m) clock [] clock) with | some (b,w)=>.ok (.value (.pointer (some ⟨b,0,none⟩))) w | none=>.fail "range")
   | _=>.fail "range")
  | _,_=>.fail "range"
end Go.Abs
namespace Go.Proofs.YtbchfeibhoobeaaGreatDoor
open Go.Abs
noncomputable abbrev Tp:Program:=Tryz.prog
def Tz:Nat→List Item:=fun _=>[]
def Lz:Nat→List Tmp:=fun _=>[]
def theX:XNames:={ clone:=[104],noEscape:=[],noZero:=[],known:=[9,47,88,102] }
def sub:Code→List Nat→Code
 | c,[]=>c
 | .seq a _,0::p=>sub a p
 | .seq _ b,_::p=>sub b p
 | .cond _ a _,0::p=>sub a p
 | .cond _ _ b,_::p=>sub b p
 | .block _ b,_::p=>sub b p
 | .loop b,_::p=>sub b p
 | .rangeFunc _ _ a _,0::p=>sub a p
 | .rangeFunc _ _ _ b,_::p=>sub b p
 | .scope b,_::p=>sub b p
 | c,_=>c
noncomputable def cd (f:FuncId) (p:List Nat):Code:=match Tp.funcs[f]? with
 | some fn=>(match fn.body with | some c=>sub c p | none=>.skip)
 | none=>.skip
theorem memX {f n:Nat} (h:memN f [n]=true):f=n:=by
 unfold memN at h
 cases hb:Nat.beq n f with
 | true=>exact (Nat.eq_of_beq_eq_true hb).symm
 | false=>rw [hb] at h;cases h
theorem gX:XOk Tp theX:=⟨fun f h=>by obtain rfl:=memX h;exact ⟨Tryz.f104,Tryz.func104,by kernel_rfl,by kernel_rfl,by kernel_rfl,by kernel_rfl⟩,fun f h=>by simp [theX,memN] at h,fun f h=>by simp [theX,memN] at h⟩
theorem gP:POk Tp:=pok_of (by kernel_rfl) (by kernel_rfl)
theorem gPlain:Plain theX:=⟨rfl,rfl,rfl⟩
def gE (W0:World) (m0:Inj Tp) (S:Nat→List Value→AW→Prop) (Q:Value→AW→Prop) (f sz:Nat) (T:Nat→List Item) (L:Nat→List Tmp) (aS:List Value) (A:AW):Prop:=wpgo Tp theX W0 m0 f T L S Q none 4000 (Tm.fill ⟨sz,.nil⟩ 0 aS) [.code (cd f [])] false 0 0 0 [] A
def gL (W0:World) (m0:Inj Tp) (S:Nat→List Value→AW→Prop) (Q:Value→AW→Prop) (f sz:Nat) (T:Nat→List Item) (L:Nat→List Tmp) (d:Nat→Value) (id:Nat) (A:AW):Prop:=wpgo Tp theX W0 m0 f T L S Q none 4000 (tmOf sz d) (T id) false 0 0 0 [] A
def Wf1 (f sz:Nat) (T:Nat→List Item) (L:Nat→List Tmp):Prop:=∀ {W0:World} {m0:Inj Tp} {S:Nat→List Value→AW→Prop} {Q:Value→AW→Prop} (a0:Value) (A:AW),Cuts Tp theX W0 m0 f T L S Q sz→gE W0 m0 S Q f sz T L [a0] A→Wc Tp theX W0 m0 f [a0] A Q
theorem wf1 {f sz:Nat} {T:Nat→List Item} {L:Nat→List Tmp} (n:∀ (a0:Value),enterA Tp f [a0] .normal=some (frM f (Tm.fill ⟨sz,.nil⟩ 0 [a0]) [.code (cd f [])] false)) (hs:sz < maxId) (hz:∀ (a0:Value),(Tm.fill ⟨sz,.nil⟩ 0 [a0]).sz=sz):Wf1 f sz T L:=fun a0 _ hc h=>wc_of gX gP gPlain hs hc (n a0) (hz a0) h
def Wf2 (f sz:Nat) (T:Nat→List Item) (L:Nat→List Tmp):Prop:=∀ {W0:World} {m0:Inj Tp} {S:Nat→List Value→AW→Prop} {Q:Value→AW→Prop} (a0 a1:Value) (A:AW),Cuts Tp theX W0 m0 f T L S Q sz→gE W0 m0 S Q f sz T L [a0,a1] A→Wc Tp theX W0 m0 f [a0,a1] A Q
theorem wf2 {f sz:Nat} {T:Nat→List Item} {L:Nat→List Tmp} (n:∀ (a0 a1:Value),enterA Tp f [a0,a1] .normal=some (frM f (Tm.fill ⟨sz,.nil⟩ 0 [a0,a1]) [.code (cd f [])] false)) (hs:sz < maxId) (hz:∀ (a0 a1:Value),(Tm.fill ⟨sz,.nil⟩ 0 [a0,a1]).sz=sz):Wf2 f sz T L:=fun a0 a1 _ hc h=>wc_of gX gP gPlain hs hc (n a0 a1) (hz a0 a1) h
def Wf3 (f sz:Nat) (T:Nat→List Item) (L:Nat→List Tmp):Prop:=∀ {W0:World} {m0:Inj Tp} {S:Nat→List Value→AW→Prop} {Q:Value→AW→Prop} (a0 a1 a2:Value) (A:AW),Cuts Tp theX W0 m0 f T L S Q sz→gE W0 m0 S Q f sz T L [a0,a1,a2] A→Wc Tp theX W0 m0 f [a0,a1,a2] A Q
theorem wf3 {f sz:Nat} {T:Nat→List Item} {L:Nat→List Tmp} (n:∀ (a0 a1 a2:Value),enterA Tp f [a0,a1,a2] .normal=some (frM f (Tm.fill ⟨sz,.nil⟩ 0 [a0,a1,a2]) [.code (cd f [])] false)) (hs:sz < maxId) (hz:∀ (a0 a1 a2:Value),(Tm.fill ⟨sz,.nil⟩ 0 [a0,a1,a2]).sz=sz):Wf3 f sz T L:=fun a0 a1 a2 _ hc h=>wc_of gX gP gPlain hs hc (n a0 a1 a2) (hz a0 a1 a2) h
def Wf4 (f sz:Nat) (T:Nat→List Item) (L:Nat→List Tmp):Prop:=∀ {W0:World} {m0:Inj Tp} {S:Nat→List Value→AW→Prop} {Q:Value→AW→Prop} (a0 a1 a2 a3:Value) (A:AW),Cuts Tp theX W0 m0 f T L S Q sz→gE W0 m0 S Q f sz T L [a0,a1,a2,a3] A→Wc Tp theX W0 m0 f [a0,a1,a2,a3] A Q
theorem wf4 {f sz:Nat} {T:Nat→List Item} {L:Nat→List Tmp} (n:∀ (a0 a1 a2 a3:Value),enterA Tp f [a0,a1,a2,a3] .normal=some (frM f (Tm.fill ⟨sz,.nil⟩ 0 [a0,a1,a2,a3]) [.code (cd f [])] false)) (hs:sz < maxId) (hz:∀ (a0 a1 a2 a3:Value),(Tm.fill ⟨sz,.nil⟩ 0 [a0,a1,a2,a3]).sz=sz):Wf4 f sz T L:=fun a0 a1 a2 a3 _ hc h=>wc_of gX gP gPlain hs hc (n a0 a1 a2 a3) (hz a0 a1 a2 a3) h
def Cutf (f sz:Nat) (T:Nat→List Item) (L:Nat→List Tmp):Prop:=∀ {W0:World} {m0:Inj Tp} {Q:Value→AW→Prop} {I:Nat→Nat→List Value→AW→Prop},(∀ g id vals A d,I g id vals A→(L id).map d=vals→gL W0 m0 (fun id v A=>∃ g2,g2 < g∧I g2 id v A) Q f sz T L d id A)→Cuts Tp theX W0 m0 f T L (fun id v A=>∃ g,I g id v A) Q sz
theorem cutf {f sz:Nat} {T:Nat→List Item} {L:Nat→List Tmp} (hs:sz < maxId):Cutf f sz T L:=fun h=>cuts_of gX gP gPlain hs h
section
variable (W0:World) (m0:Inj Tp) (S:Nat→List Value→AW→Prop) (Q:Value→AW→Prop)
theorem e7 (a0:Value) (A:AW):gE W0 m0 S Q 7 8 Tz Lz [a0] A=(bothW (newMapP A) fun t0 At0=>pureW (maxP a0 [(.int .i64 0)]) fun t1=>pureW (buildA Tp 76 [(0,t0),(1,t1)]) fun t2=>bothW (newP At0 (Value.cells t2).toList 76) fun t3 At3=>Q t3 At3):=by kernel_rfl
theorem w7:Wf1 7 8 Tz Lz:=wf1 (fun _=>by kernel_rfl) (by decide) fun _=>rfl
noncomputable def T8:Nat→List Item:=fun i=>match i with
 | 0=>[(.code (cd 8 [1,1,1,1,1,1,1,1,1,1,1,1,0,1,0,0])),(.inLoop (cd 8 [1,1,1,1,1,1,1,1,1,1,1,1,0,1,0,0])),(.inBlock 0),(.code (cd 8 [1,1,1,1,1,1,1,1,1,1,1,1,1]))]
 | 2=>[(.code (cd 8 [1,1,1,1,1,1,1,1,1,1,1,1,1,0,1,0,0])),(.inLoop (cd 8 [1,1,1,1,1,1,1,1,1,1,1,1,1,0,1,0,0])),(.inBlock 2),(.code (cd 8 [1,1,1,1,1,1,1,1,1,1,1,1,1,1]))]
 | 4=>[(.code (cd 8 [1,1,1,1,1,1,1,1,1,1,1,1,1,1,0,1,0,0])),(.inLoop (cd 8 [1,1,1,1,1,1,1,1,1,1,1,1,1,1,0,1,0,0])),(.inBlock 4),(.code (cd 8 [1,1,1,1,1,1,1,1,1,1,1,1,1,1,1]))]
 | _=>[]
def L8:Nat→List Tmp:=fun i=>match i with
 | 0=>[2,8,11,12,77,78,79]
 | 2=>[2,8,11,12,88,89,90]
 | 4=>[11,145,146,147]
 | _=>[]
theorem e8 (a0 a1:Value) (A:AW):gE W0 m0 S Q 8 183 T8 L8 [a0,a1] A=(bothW (newP A (Value.cells a0).toList 27) fun t0 At0=>pureW (loadP Tp At0 27 t0) fun t1=>Wc Tp theX W0 m0 19 [t1] At0 fun t2 At2=>pureW (binA Tp .eql 27 (.tmp 21) (.const (.pointer none)) t2 (.pointer none)) fun t3=>forkW t3 (Q (.tuple ⟨[(.pointer none),(.int .i64 1)]⟩) At2) (pureW (binA Tp .lss 3 (.tmp 23) (.const (.int .i64 1)) a1 (.int .i64 1)) fun t4=>forkW t4 (Q (.tuple ⟨[(.pointer none),(.int .i64 2)]⟩) At2) (pureW (loadP Tp At2 27 t0) fun t5=>Wc Tp theX W0 m0 23 [t5] At2 fun t6 At6=>forkW t6 (Q (.tuple ⟨[(.pointer none),(.int .i64 100)]⟩) At6) (pureW (loadP Tp At6 27 t0) fun t7=>Wc Tp theX W0 m0 36 [t7] At6 fun t8 At8=>pureW (extractP t8 0) fun t9=>pureW (extractP t8 1) fun t10=>pureW (binA Tp .neq 30 (.tmp 32) (.const (.int .i64 0)) t10 (.int .i64 0)) fun t11=>forkW t11 (Q (.tuple ⟨[(.pointer none),t10]⟩) At8) (Wc Tp theX W0 m0 37 [t9] At8 fun t12 At12=>pureW (extractP t12 0) fun t13=>pureW (extractP t12 1) fun t14=>pureW (extractP t12 2) fun t15=>pureW (unA Tp .not t15) fun t16=>forkW t16 (Q (.tuple ⟨[(.pointer none),(.int .i64 120)]⟩) At12) (pureW (loadP Tp At12 27 t0) fun t17=>pureW (buildA Tp 83 [(0,t17),(1,a1)]) fun t18=>bothW (newP At12 (Value.cells t18).toList 83) fun t19 At19=>pureW (loadP Tp At19 27 t0) fun t20=>Wc Tp theX W0 m0 11 [t20] At19 fun t21 At21=>Wc Tp theX W0 m0 38 [t21,(.string ⟨⟨[106,46,110,101,119]⟩⟩)] At21 fun t22 At22=>forkW t22 (bothW (buildSliceA Tp At22 84 1 [(0,(.func (.func 39) ⟨[]⟩ ⟨[t0]⟩))]) fun t23 At23=>bothW (appendA Tp At23 84 84 (.slice none 0 0) t23) fun t24 At24=>pureW (lenA Tp At24 77 t13) fun t25=>pureW (binA Tp .eql 3 (.tmp 55) (.const (.int .i64 0)) t25 (.int .i64 0)) fun t26=>forkW t26 (bothW (buildSliceA Tp At24 46 1 [(0,(.int .i64 1))]) fun t27 At27=>Wc Tp theX W0 m0 41 [(.string ⟨⟨[]⟩⟩)] At27 fun t28 At28=>pureW (lenA Tp At28 9 t28) fun t29=>pureW (nilP t19) fun t30=>pureW (fieldAddrA Tp 83 t30 4) fun t31=>effW (storeP Tp At28 46 t31 t27) fun At32=>pureW (nilP t19) fun t33=>pureW (fieldAddrA Tp 83 t33 5) fun t34=>effW (storeP Tp At32 3 t34 t29) fun At35=>pureW (nilP t19) fun t36=>pureW (fieldAddrA Tp 83 t36 6) fun t37=>effW (storeP Tp At35 4 t37 (.bool true)) fun At38=>bothW (buildSliceA Tp At38 84 3 [(0,(.func (.func 42) ⟨[]⟩ ⟨[t0]⟩)),(1,(.func (.func 43) ⟨[]⟩ ⟨[t0]⟩)),(2,(.func (.func 45) ⟨[]⟩ ⟨[t0]⟩))]) fun t39 At39=>bothW (appendA Tp At39 84 84 t24 t39) fun t40 At40=>pureW (sliceA Tp At40 77 t9 none (some t14) none) fun t41=>pureW (lenA Tp At40 77 t41) fun t42=>cutW (T8 0) (T8 0) (S 0 [t0,t13,t19,t40,t41,t42,(.int .i64 0)] At40)) (pureW (sliceA Tp At24 77 t9 none (some t14) none) fun t43=>pureW (lenA Tp At24 77 t43) fun t44=>cutW (T8 0) (T8 0) (S 0 [t0,t13,t19,t24,t43,t44,(.int .i64 0)] At24))) (pureW (lenA Tp At22 77 t13) fun t45=>pureW (binA Tp .eql 3 (.tmp 55) (.const (.int .i64 0)) t45 (.int .i64 0)) fun t46=>forkW t46 (bothW (buildSliceA Tp At22 46 1 [(0,(.int .i64 1))]) fun t47 At47=>Wc Tp theX W0 m0 41 [(.string ⟨⟨[]⟩⟩)] At47 fun t48 At48=>pureW (lenA Tp At48 9 t48) fun t49=>pureW (nilP t19) fun t50=>pureW (fieldAddrA Tp 83 t50 4) fun t51=>effW (storeP Tp At48 46 t51 t47) fun At52=>pureW (nilP t19) fun t53=>pureW (fieldAddrA Tp 83 t53 5) fun t54=>effW (storeP Tp At52 3 t54 t49) fun At55=>pureW (nilP t19) fun t56=>pureW (fieldAddrA Tp 83 t56 6) fun t57=>effW (storeP Tp At55 4 t57 (.bool true)) fun At58=>bothW (buildSliceA Tp At58 84 3 [(0,(.func (.func 42) ⟨[]⟩ ⟨[t0]⟩)),(1,(.func (.func 43) ⟨[]⟩ ⟨[t0]⟩)),(2,(.func (.func 45) ⟨[]⟩ ⟨[t0]⟩))]) fun t59 At59=>bothW (appendA Tp At59 84 84 (.slice none 0 0) t59) fun t60 At60=>pureW (sliceA Tp At60 77 t9 none (some t14) none) fun t61=>pureW (lenA Tp At60 77 t61) fun t62=>cutW (T8 0) (T8 0) (S 0 [t0,t13,t19,t60,t61,t62,(.int .i64 0)] At60)) (pureW (sliceA Tp At22 77 t9 none (some t14) none) fun t63=>pureW (lenA Tp At22 77 t63) fun t64=>cutW (T8 0) (T8 0) (S 0 [t0,t13,t19,(.slice none 0 0),t63,t64,(.int .i64 0)] At22))))))))):=by kernel_rfl
theorem l8_0 (d:Nat→Value) (A:AW):gL W0 m0 S Q 8 183 T8 L8 d 0 A=(pureW (binA Tp .lss 3 (.tmp 79) (.tmp 78) (d 79) (d 78)) fun t0=>forkW t0 (pureW (indexAddrA Tp 77 (d 77) (d 79)) fun t1=>pureW (loadP Tp A 90 t1) fun t2=>bothW (allocP Tp A 90) fun t3 At3=>effW (storeP Tp At3 90 t3 t2) fun At4=>bothW (buildSliceA Tp At4 84 1 [(0,(.func (.func 48) ⟨[]⟩ ⟨[(d 2),t3]⟩))]) fun t5 At5=>bothW (appendA Tp At5 84 84 (d 12) t5) fun t6 At6=>pureW (binA Tp .add 3 (.tmp 79) (.const (.int .i64 1)) (d 79) (.int .i64 1)) fun t7=>cutW (T8 0) (T8 0) (S 0 [(d 2),(d 8),(d 11),t6,(d 77),(d 78),t7] At6)) (pureW (lenA Tp A 77 (d 8)) fun t8=>cutW (T8 2) (T8 2) (S 2 [(d 2),(d 8),(d 11),(d 12),(d 8),t8,(.int .i64 0)] A))):=by kernel_rfl
theorem l8_2 (d:Nat→Value) (A:AW):gL W0 m0 S Q 8 183 T8 L8 d 2 A=(pureW (binA Tp .lss 3 (.tmp 90) (.tmp 89) (d 90) (d 89)) fun t0=>forkW t0 (pureW (indexAddrA Tp 77 (d 88) (d 90)) fun t1=>pureW (loadP Tp A 90 t1) fun t2=>bothW (allocP Tp A 90) fun t3 At3=>effW (storeP Tp At3 90 t3 t2) fun At4=>pureW (nilP (d 11)) fun t5=>pureW (fieldAddrA Tp 83 t5 4) fun t6=>pureW (loadP Tp At4 46 t6) fun t7=>pureW (fieldAddrA Tp 90 t3 0) fun t8=>pureW (loadP Tp At4 3 t8) fun t9=>bothW (buildSliceA Tp At4 46 1 [(0,t9)]) fun t10 At10=>freshW (freshOf Tp (evalT (Tm.fill ⟨1,.nil⟩ 0 [t9])) (.buildSlice 46 1 #[(0,.tmp 0)])) At10 t10 (pureW (loadP Tp At10 3 t8) fun t11=>eqW t11 t9 (pureW (fieldAddrA Tp 90 t3 0) fun t12=>eqW t12 t8 (pureW (loadP Tp At10 46 t6) fun t13=>eqW t13 t7 (pureW (fieldAddrA Tp 83 t5 4) fun t14=>eqW t14 t6 (pureW (nilP (d 11)) fun t15=>eqW t15 t5 (eqW (d 11) (d 11) (eqW (d 11) (d 11) (bothW (appendA Tp At10 46 46 t7 t10) fun t16 At16=>eqW (d 11) (d 11) (pureW (nilP (d 11)) fun t17=>pureW (fieldAddrA Tp 83 t17 4) fun t18=>effW (storeP Tp At16 46 t18 t16) fun At19=>pureW (nilP (d 11)) fun t20=>pureW (fieldAddrA Tp 83 t20 3) fun t21=>pureW (loadP Tp At19 22 t21) fun t22=>pureW (fieldAddrA Tp 90 t3 1) fun t23=>pureW (loadP Tp At19 22 t23) fun t24=>bothW (appendA Tp At19 22 22 t22 t24) fun t25 At25=>eqW (d 11) (d 11) (pureW (nilP (d 11)) fun t26=>pureW (fieldAddrA Tp 83 t26 3) fun t27=>effW (storeP Tp At25 22 t27 t25) fun At28=>pureW (fieldAddrA Tp 90 t3 2) fun t29=>pureW (loadP Tp At28 3 t29) fun t30=>pureW (fieldAddrA Tp 90 t3 1) fun t31=>pureW (loadP Tp At28 22 t31) fun t32=>pureW (lenA Tp At28 22 t32) fun t33=>pureW (binA Tp .gtr 3 (.tmp 122) (.const (.int .i64 0)) t33 (.int .i64 0)) fun t34=>pureW (nilP (d 11)) fun t35=>pureW (fieldAddrA Tp 83 t35 5) fun t36=>effW (storeP Tp At28 3 t36 t30) fun At37=>pureW (binA Tp .gtr 3 (.tmp 122) (.const (.int .i64 0)) t33 (.int .i64 0)) fun t38=>eqW t38 t34 (pureW (lenA Tp At37 22 t32) fun t39=>eqW t39 t33 (pureW (loadP Tp At37 22 t31) fun t40=>eqW t40 t32 (pureW (fieldAddrA Tp 90 t3 1) fun t41=>eqW t41 t31 (eqW (d 11) (d 11) (pureW (nilP (d 11)) fun t42=>pureW (fieldAddrA Tp 83 t42 6) fun t43=>effW (storeP Tp At37 4 t43 t34) fun At44=>pureW (lenA Tp At44 77 (d 8)) fun t45=>pureW (binA Tp .sub 3 (.tmp 130) (.const (.int .i64 1)) t45 (.int .i64 1)) fun t46=>pureW (binA Tp .eql 3 (.tmp 128) (.tmp 131) (d 90) t46) fun t47=>forkW t47 (pureW (fieldAddrA Tp 90 t3 3) fun t48=>pureW (loadP Tp At44 88 t48) fun t49=>pureW (binA Tp .eql 88 (.tmp 134) (.const (.int .u8 1)) t49 (.int .u8 1)) fun t50=>forkW t50 (bothW (buildSliceA Tp At44 84 1 [(0,(.func (.func 49) ⟨[]⟩ ⟨[(d 2),t3]⟩))]) fun t51 At51=>bothW (appendA Tp At51 84 84 (d 12) t51) fun t52 At52=>bothW (buildSliceA Tp At52 84 1 [(0,(.func (.func 51) ⟨[]⟩ ⟨[(d 2),t3]⟩))]) fun t53 At53=>bothW (appendA Tp At53 84 84 t52 t53) fun t54 At54=>pureW (binA Tp .add 3 (.tmp 90) (.const (.int .i64 1)) (d 90) (.int .i64 1)) fun t55=>cutW (T8 2) (T8 2) (S 2 [(d 2),(d 8),(d 11),t54,(d 88),(d 89),t55] At54)) (bothW (buildSliceA Tp At44 84 1 [(0,(.func (.func 51) ⟨[]⟩ ⟨[(d 2),t3]⟩))]) fun t56 At56=>bothW (appendA Tp At56 84 84 (d 12) t56) fun t57 At57=>pureW (binA Tp .add 3 (.tmp 90) (.const (.int .i64 1)) (d 90) (.int .i64 1)) fun t58=>cutW (T8 2) (T8 2) (S 2 [(d 2),(d 8),(d 11),t57,(d 88),(d 89),t58] At57))) (pureW (binA Tp .add 3 (.tmp 90) (.const (.int .i64 1)) (d 90) (.int .i64 1)) fun t59=>cutW (T8 2) (T8 2) (S 2 [(d 2),(d 8),(d 11),(d 12),(d 88),(d 89),t59] At44)))))))))))))))))) (pureW (lenA Tp A 84 (d 12)) fun t60=>cutW (T8 4) (T8 4) (S 4 [(d 11),(d 12),t60,(.int .i64 0)] A))):=by kernel_rfl
theorem l8_4 (d:Nat→Value) (A:AW):gL W0 m0 S Q 8 183 T8 L8 d 4 A=(pureW (binA Tp .lss 3 (.tmp 147) (.tmp 146) (d 147) (d 146)) fun t0=>forkW t0 (pureW (indexAddrA Tp 84 (d 145) (d 147)) fun t1=>pureW (loadP Tp A 50 t1) fun t2=>anW Tp theX W0 m0 (dynA Tp theX A t2 []) fun t3 At3=>pureW (binA Tp .neq 30 (.tmp 153) (.const (.int .i64 0)) t3 (.int .i64 0)) fun t4=>forkW t4 (Q (.tuple ⟨[(.pointer none),t3]⟩) At3) (pureW (binA Tp .add 3 (.tmp 147) (.const (.int .i64 1)) (d 147) (.int .i64 1)) fun t5=>cutW (T8 4) (T8 4) (S 4 [(d 11),(d 145),(d 146),t5] At3))) (pureW (nilP (d 11)) fun t6=>pureW (fieldAddrA Tp 83 t6 3) fun t7=>pureW (loadP Tp A 22 t7) fun t8=>pureW (lenA Tp A 22 t8) fun t9=>pureW (binA Tp .gtr 3 (.tmp 161) (.const (.int .i64 0)) t9 (.int .i64 0)) fun t10=>forkW t10 (pureW (nilP (d 11)) fun t11=>pureW (fieldAddrA Tp 83 t11 3) fun t12=>pureW (loadP Tp A 22 t12) fun t13=>pureW (indexAddrA Tp 22 t13 (.int .i64 0)) fun t14=>pureW (fieldAddrA Tp 35 t14 1) fun t15=>pureW (loadP Tp A 9 t15) fun t16=>pureW (nilP (d 11)) fun t17=>pureW (fieldAddrA Tp 83 t17 3) fun t18=>pureW (loadP Tp A 22 t18) fun t19=>pureW (sliceA Tp A 22 t19 (some (.int .i64 1)) none none) fun t20=>Wc Tp theX W0 m0 52 [t20] A fun t21 At21=>pureW (loadP Tp At21 9 t15) fun t22=>eqW t22 t16 (pureW (fieldAddrA Tp 35 t14 1) fun t23=>eqW t23 t15 (pureW (indexAddrA Tp 22 t13 (.int .i64 0)) fun t24=>eqW t24 t14 (pureW (loadP Tp At21 22 t12) fun t25=>eqW t25 t13 (pureW (fieldAddrA Tp 83 t11 3) fun t26=>eqW t26 t12 (pureW (nilP (d 11)) fun t27=>eqW t27 t11 (eqW (d 11) (d 11) (eqW (d 11) (d 11) (eqW (d 11) (d 11) (pureW (nilP (d 11)) fun t28=>pureW (fieldAddrA Tp 83 t28 2) fun t29=>effW (storeP Tp At21 9 t29 t16) fun At30=>eqW (d 11) (d 11) (pureW (nilP (d 11)) fun t31=>pureW (fieldAddrA Tp 83 t31 3) fun t32=>effW (storeP Tp At30 22 t32 t21) fun At33=>Q (.tuple ⟨[(d 11),(.int .i64 0)]⟩) At33))))))))))) (Q (.tuple ⟨[(d 11),(.int .i64 0)]⟩) A))):=by kernel_rfl
theorem w8:Wf2 8 183 T8 L8:=wf2 (fun _ _=>by kernel_rfl) (by decide) fun _ _=>rfl
theorem c8:Cutf 8 183 T8 L8:=cutf (by decide)
theorem w10:Wf2 10 119 Tz Lz:=wf2 (fun _ _=>by kernel_rfl) (by decide) fun _ _=>rfl
theorem e11 (a0:Value) (A:AW):gE W0 m0 S Q 11 12 Tz Lz [a0] A=(Wc Tp theX W0 m0 58 [a0] A fun t0 At0=>pureW (unA Tp .not t0) fun t1=>forkW t1 (Q (.slice none 0 0) At0) (pureW (nilP a0) fun t2=>pureW (fieldAddrA Tp 76 t2 0) fun t3=>pureW (loadP Tp At0 74 t3) fun t4=>Wc Tp theX W0 m0 60 [t4] At0 fun t5 At5=>Wc Tp theX W0 m0 59 [t5] At5 fun t6 At6=>Q t6 At6)):=by kernel_rfl
theorem w11:Wf1 11 12 Tz Lz:=wf1 (fun _=>by kernel_rfl) (by decide) fun _=>rfl
theorem e12 (a0 a1:Value) (A:AW):gE W0 m0 S Q 12 17 Tz Lz [a0,a1] A=(Wc Tp theX W0 m0 61 [a0,a1] A fun t0 At0=>pureW (extractP t0 0) fun t1=>pureW (extractP t0 1) fun t2=>bothW (allocP Tp At0 100) fun t3 At3=>effW (storeP Tp At3 100 t3 t1) fun At4=>pureW (fieldAddrA Tp 100 t3 0) fun t5=>pureW (loadP Tp At4 9 t5) fun t6=>Q (.tuple ⟨[t6,t2]⟩) At4):=by kernel_rfl
theorem w12:Wf2 12 17 Tz Lz:=wf2 (fun _ _=>by kernel_rfl) (by decide) fun _ _=>rfl
theorem e13 (a0 a1 a2:Value) (A:AW):gE W0 m0 S Q 13 43 Tz Lz [a0,a1,a2] A=(bothW (newP A (Value.cells a0).toList 27) fun t0 At0=>bothW (newP At0 (Value.cells a1).toList 9) fun t1 At1=>bothW (newP At1 (Value.cells a2).toList 9) fun t2 At2=>pureW (loadP Tp At2 27 t0) fun t3=>Wc Tp theX W0 m0 62 [t3] At2 fun t4 At4=>pureW (binA Tp .neq 30 (.tmp 11) (.const (.int .i64 0)) t4 (.int .i64 0)) fun t5=>forkW t5 (Q t4 At4) (pureW (loadP Tp At4 9 t1) fun t6=>Wc Tp theX W0 m0 63 [t6] At4 fun t7 At7=>pureW (unA Tp .not t7) fun t8=>forkW t8 (Q (.int .i64 2) At7) (bothW (allocP Tp At7 100) fun t9 At9=>freshW (freshOf Tp (fun _=>undef) (.alloc 100)) At9 t9 (pureW (loadP Tp At9 27 t0) fun t10=>pureW (nilP t10) fun t11=>pureW (fieldAddrA Tp 76 t11 0) fun t12=>pureW (loadP Tp At9 74 t12) fun t13=>pureW (loadP Tp At9 9 t1) fun t14=>pureW (lookupA Tp At9 74 t13 t14 false) fun t15=>effW (storeP Tp At9 100 t9 t15) fun At16=>pureW (loadP Tp At16 9 t2) fun t17=>pureW (lenA Tp At16 9 t17) fun t18=>pureW (fieldAddrA Tp 100 t9 0) fun t19=>pureW (loadP Tp At16 9 t19) fun t20=>pureW (lenA Tp At16 9 t20) fun t21=>pureW (binA Tp .sub 3 (.const (.int .i64 1048576)) (.tmp 27) (.int .i64 1048576) t21) fun t22=>pureW (binA Tp .gtr 3 (.tmp 24) (.tmp 28) t18 t22) fun t23=>forkW t23 (Q (.int .i64 3) At16) (pureW (loadP Tp At16 9 t2) fun t24=>pureW (lenA Tp At16 9 t24) fun t25=>pureW (loadP Tp At16 27 t0) fun t26=>pureW (nilP t26) fun t27=>pureW (fieldAddrA Tp 76 t27 1) fun t28=>pureW (loadP Tp At16 3 t28) fun t29=>pureW (loadP Tp At16 27 t0) fun t30=>Wc Tp theX W0 m0 64 [t30] At16 fun t31 At31=>pureW (loadP Tp At31 3 t28) fun t32=>eqW t32 t29 (pureW (fieldAddrA Tp 76 t27 1) fun t33=>eqW t33 t28 (pureW (nilP t26) fun t34=>eqW t34 t27 (pureW (loadP Tp At31 27 t0) fun t35=>eqW t35 t26 (pureW (lenA Tp At31 9 t24) fun t36=>eqW t36 t25 (pureW (loadP Tp At31 9 t2) fun t37=>eqW t37 t24 (pureW (binA Tp .sub 3 (.tmp 35) (.tmp 37) t29 t31) fun t38=>pureW (binA Tp .gtr 3 (.tmp 31) (.tmp 38) t25 t38) fun t39=>forkW t39 (Q (.int .i64 6) At31) (pureW (loadP Tp At31 27 t0) fun t40=>Wc Tp theX W0 m0 65 [t40,(.func (.func 66) ⟨[]⟩ ⟨[t9,t2,t0,t1]⟩),(.bool true)] At31 fun t41 At41=>Q t41 At41)))))))))))):=by kernel_rfl
theorem w13:Wf3 13 43 Tz Lz:=wf3 (fun _ _ _=>by kernel_rfl) (by decide) fun _ _ _=>rfl
theorem e15 (a0:Value) (A:AW):gE W0 m0 S Q 15 22 Tz Lz [a0] A=(Wc Tp theX W0 m0 53 [a0] A fun t0 At0=>pureW (unA Tp .not t0) fun t1=>forkW t1 (Q (.int .i64 1) At0) (Wc Tp theX W0 m0 54 [a0] At0 fun t2 At2=>pureW (binA Tp .neq 30 (.tmp 9) (.const (.int .i64 0)) t2 (.int .i64 0)) fun t3=>forkW t3 (Q t2 At2) (pureW (nilP a0) fun t4=>pureW (fieldAddrA Tp 83 t4 0) fun t5=>pureW (loadP Tp At2 27 t5) fun t6=>Wc Tp theX W0 m0 56 [a0] At2 fun t7 At7=>pureW (loadP Tp At7 27 t5) fun t8=>eqW t8 t6 (pureW (fieldAddrA Tp 83 t4 0) fun t9=>eqW t9 t5 (pureW (nilP a0) fun t10=>eqW t10 t4 (eqW a0 a0 (eqW a0 a0 (knW Tp W0 m0 47 [t7] At7 fun t11 At11=>pureW (loadP Tp At11 27 t5) fun t12=>eqW t12 t6 (pureW (fieldAddrA Tp 83 t4 0) fun t13=>eqW t13 t5 (pureW (nilP a0) fun t14=>eqW t14 t4 (eqW a0 a0 (eqW a0 a0 (Wc Tp theX W0 m0 44 [t6,t11] At11 fun t15 At15=>eqW a0 a0 (Wc Tp theX W0 m0 57 [a0,t15] At15 fun t16 At16=>Q t16 At16)))))))))))))):=by kernel_rfl
theorem w15:Wf1 15 22 Tz Lz:=wf1 (fun _=>by kernel_rfl) (by decide) fun _=>rfl
noncomputable def T16:Nat→List Item:=fun i=>match i with
 | 0=>[(.code (cd 16 [1,1,1,1,1,1,1,1,1,1,1,1,1,0,1,0,0])),(.inLoop (cd 16 [1,1,1,1,1,1,1,1,1,1,1,1,1,0,1,0,0])),(.inBlock 0),(.code (cd 16 [1,1,1,1,1,1,1,1,1,1,1,1,1,1]))]
 | _=>[]
def L16:Nat→List Tmp:=fun i=>match i with
 | 0=>[0,107,108,109]
 | _=>[]
theorem l16_0 (d:Nat→Value) (A:AW):gL W0 m0 S Q 16 126 T16 L16 d 0 A=(pureW (binA Tp .lss 3 (.tmp 109) (.tmp 108) (d 109) (d 108)) fun t0=>forkW t0 (pureW (indexAddrA Tp 46 (d 107) (d 109)) fun t1=>pureW (loadP Tp A 3 t1) fun t2=>pureW (nilP (d 0)) fun t3=>pureW (fieldAddrA Tp 83 t3 0) fun t4=>pureW (loadP Tp A 27 t4) fun t5=>knW Tp W0 m0 47 [t2] A fun t6 At6=>pureW (loadP Tp At6 27 t4) fun t7=>eqW t7 t5 (pureW (fieldAddrA Tp 83 t3 0) fun t8=>eqW t8 t4 (pureW (nilP (d 0)) fun t9=>eqW t9 t3 (eqW (d 0) (d 0) (Wc Tp theX W0 m0 40 [t5,t6] At6 fun t10 At10=>pureW (binA Tp .neq 30 (.tmp 120) (.const (.int .i64 0)) t10 (.int .i64 0)) fun t11=>forkW t11 (Wc Tp theX W0 m0 57 [(d 0),t10] At10 fun t12 At12=>Q t12 At12) (pureW (binA Tp .add 3 (.tmp 109) (.const (.int .i64 1)) (d 109) (.int .i64 1)) fun t13=>cutW (T16 0) (T16 0) (S 0 [(d 0),(d 107),(d 108),t13] At10))))))) (Q (.int .i64 0) A)):=by kernel_rfl
theorem w16:Wf2 16 126 T16 L16:=wf2 (fun _ _=>by kernel_rfl) (by decide) fun _ _=>rfl
theorem c16:Cutf 16 126 T16 L16:=cutf (by decide)
theorem e17 (a0:Value) (A:AW):gE W0 m0 S Q 17 10 Tz Lz [a0] A=(Wc Tp theX W0 m0 53 [a0] A fun t0 At0=>pureW (unA Tp .not t0) fun t1=>forkW t1 (Q (.string ⟨⟨[]⟩⟩) At0) (pureW (nilP a0) fun t2=>pureW (fieldAddrA Tp 83 t2 2) fun t3=>pureW (loadP Tp At0 9 t3) fun t4=>Q t4 At0)):=by kernel_rfl
theorem w17:Wf1 17 10 Tz Lz:=wf1 (fun _=>by kernel_rfl) (by decide) fun _=>rfl
theorem e18 (a0:Value) (A:AW):gE W0 m0 S Q 18 11 Tz Lz [a0] A=(Wc Tp theX W0 m0 53 [a0] A fun t0 At0=>pureW (unA Tp .not t0) fun t1=>forkW t1 (Q (.slice none 0 0) At0) (pureW (nilP a0) fun t2=>pureW (fieldAddrA Tp 83 t2 3) fun t3=>pureW (loadP Tp At0 22 t3) fun t4=>Wc Tp theX W0 m0 52 [t4] At0 fun t5 At5=>Q t5 At5)):=by kernel_rfl
theorem w18:Wf1 18 11 Tz Lz:=wf1 (fun _=>by kernel_rfl) (by decide) fun _=>rfl
theorem e19 (a0:Value) (A:AW):gE W0 m0 S Q 19 25 Tz Lz [a0] A=(Wc Tp theX W0 m0 58 [a0] A fun t0 At0=>pureW (unA Tp .not t0) fun t1=>forkW t1 (Q (.pointer none) At0) (pureW (nilP a0) fun t2=>pureW (fieldAddrA Tp 76 t2 0) fun t3=>pureW (loadP Tp At0 74 t3) fun t4=>pureW (nilP a0) fun t5=>pureW (fieldAddrA Tp 76 t5 1) fun t6=>pureW (loadP Tp At0 3 t6) fun t7=>pureW (nilP a0) fun t8=>pureW (fieldAddrA Tp 76 t8 2) fun t9=>pureW (loadP Tp At0 3 t9) fun t10=>pureW (nilP a0) fun t11=>pureW (fieldAddrA Tp 76 t11 3) fun t12=>pureW (loadP Tp At0 4 t12) fun t13=>Wc Tp theX W0 m0 67 [t4] At0 fun t14 At14=>pureW (loadP Tp At14 4 t12) fun t15=>eqW t15 t13 (pureW (fieldAddrA Tp 76 t11 3) fun t16=>eqW t16 t12 (pureW (nilP a0) fun t17=>eqW t17 t11 (eqW a0 a0 (pureW (loadP Tp At14 3 t9) fun t18=>eqW t18 t10 (pureW (fieldAddrA Tp 76 t8 2) fun t19=>eqW t19 t9 (pureW (nilP a0) fun t20=>eqW t20 t8 (eqW a0 a0 (pureW (loadP Tp At14 3 t6) fun t21=>eqW t21 t7 (pureW (fieldAddrA Tp 76 t5 1) fun t22=>eqW t22 t6 (pureW (nilP a0) fun t23=>eqW t23 t5 (eqW a0 a0 (pureW (buildA Tp 76 [(0,t14),(1,t7),(2,t10),(3,t13)]) fun t24=>bothW (newP At14 (Value.cells t24).toList 76) fun t25 At25=>freshW (freshOf Tp (fun _=>t24) (.box 76 (.tmp 0))) At25 t25 (pureW (buildA Tp 76 [(0,t14),(1,t7),(2,t10),(3,t13)]) fun t26=>eqW t26 t24 (pureW (loadP Tp At25 4 t12) fun t27=>eqW t27 t13 (pureW (fieldAddrA Tp 76 t11 3) fun t28=>eqW t28 t12 (pureW (nilP a0) fun t29=>eqW t29 t11 (eqW a0 a0 (pureW (loadP Tp At25 3 t9) fun t30=>eqW t30 t10 (pureW (fieldAddrA Tp 76 t8 2) fun t31=>eqW t31 t9 (pureW (nilP a0) fun t32=>eqW t32 t8 (eqW a0 a0 (pureW (loadP Tp At25 3 t6) fun t33=>eqW t33 t7 (pureW (fieldAddrA Tp 76 t5 1) fun t34=>eqW t34 t6 (pureW (nilP a0) fun t35=>eqW t35 t5 (eqW a0 a0 (pureW (loadP Tp At25 74 t3) fun t36=>eqW t36 t4 (pureW (fieldAddrA Tp 76 t2 0) fun t37=>eqW t37 t3 (pureW (nilP a0) fun t38=>eqW t38 t2 (eqW a0 a0 (Q t25 At25)))))))))))))))))))))))))))))))):=by kernel_rfl
theorem w19:Wf1 19 25 Tz Lz:=wf1 (fun _=>by kernel_rfl) (by decide) fun _=>rfl
theorem e21 (a0 a1:Value) (A:AW):gE W0 m0 S Q 21 18 Tz Lz [a0,a1] A=(Wc Tp theX W0 m0 58 [a0] A fun t0 At0=>forkW t0 (pureW (nilP a0) fun t1=>pureW (fieldAddrA Tp 76 t1 3) fun t2=>pureW (loadP Tp At0 4 t2) fun t3=>pureW (unA Tp .not t3) fun t4=>forkW t4 (pureW (maxP a1 [(.int .i64 0)]) fun t5=>pureW (nilP a0) fun t6=>pureW (fieldAddrA Tp 76 t6 2) fun t7=>effW (storeP Tp At0 3 t7 t5) fun At8=>Q (.tuple ⟨[]⟩) At8) (Q (.tuple ⟨[]⟩) At0)) (Q (.tuple ⟨[]⟩) At0)):=by kernel_rfl
theorem w21:Wf2 21 18 Tz Lz:=wf2 (fun _ _=>by kernel_rfl) (by decide) fun _ _=>rfl
theorem e22 (a0:Value) (A:AW):gE W0 m0 S Q 22 10 Tz Lz [a0] A=(Wc Tp theX W0 m0 58 [a0] A fun t0 At0=>forkW t0 (pureW (nilP a0) fun t1=>pureW (fieldAddrA Tp 76 t1 3) fun t2=>effW (storeP Tp At0 4 t2 (.bool true)) fun At3=>pureW (nilP a0) fun t4=>pureW (fieldAddrA Tp 76 t4 2) fun t5=>effW (storeP Tp At3 3 t5 (.int .i64 0)) fun At6=>Q (.tuple ⟨[]⟩) At6) (Q (.tuple ⟨[]⟩) At0)):=by kernel_rfl
theorem w22:Wf1 22 10 Tz Lz:=wf1 (fun _=>by kernel_rfl) (by decide) fun _=>rfl
theorem e23 (a0:Value) (A:AW):gE W0 m0 S Q 23 12 Tz Lz [a0] A=(Wc Tp theX W0 m0 58 [a0] A fun t0 At0=>pureW (unA Tp .not t0) fun t1=>forkW t1 (Q (.bool true) At0) (pureW (nilP a0) fun t2=>pureW (fieldAddrA Tp 76 t2 3) fun t3=>pureW (loadP Tp At0 4 t3) fun t4=>Q t4 At0)):=by kernel_rfl
theorem w23:Wf1 23 12 Tz Lz:=wf1 (fun _=>by kernel_rfl) (by decide) fun _=>rfl
noncomputable def T24:Nat→List Item:=fun i=>match i with
 | 0=>[(.code (cd 24 [1,1,1,0,0])),(.inLoop (cd 24 [1,1,1,0,0])),(.inBlock 0)]
 | _=>[]
def L24:Nat→List Tmp:=fun i=>match i with
 | 0=>[0,1,22,23,24]
 | _=>[]
theorem e24 (a0 a1:Value) (A:AW):gE W0 m0 S Q 24 67 T24 L24 [a0,a1] A=(Wc Tp theX W0 m0 58 [a0] A fun t0 At0=>pureW (unA Tp .not t0) fun t1=>forkW t1 (Q (.tuple ⟨[]⟩) At0) (pureW (nilP a0) fun t2=>pureW (fieldAddrA Tp 76 t2 3) fun t3=>pureW (loadP Tp At0 4 t3) fun t4=>pureW (unA Tp .not t4) fun t5=>forkW t5 (Q (.tuple ⟨[]⟩) At0) (pureW (nilP a0) fun t6=>pureW (fieldAddrA Tp 76 t6 3) fun t7=>effW (storeP Tp At0 4 t7 (.bool false)) fun At8=>Wc Tp theX W0 m0 11 [a0] At8 fun t9 At9=>pureW (lenA Tp At9 37 t9) fun t10=>cutW (T24 0) (T24 0) (S 0 [a0,a1,t9,t10,(.int .i64 0)] At9)))):=by kernel_rfl
theorem l24_0 (d:Nat→Value) (A:AW):gL W0 m0 S Q 24 67 T24 L24 d 0 A=(pureW (binA Tp .lss 3 (.tmp 24) (.tmp 23) (d 24) (d 23)) fun t0=>forkW t0 (pureW (indexAddrA Tp 37 (d 22) (d 24)) fun t1=>pureW (loadP Tp A 9 t1) fun t2=>pureW (nilP (d 0)) fun t3=>pureW (fieldAddrA Tp 76 t3 0) fun t4=>pureW (loadP Tp A 74 t4) fun t5=>pureW (lookupA Tp A 74 t5 t2 false) fun t6=>bothW (allocP Tp A 100) fun t7 At7=>effW (storeP Tp At7 100 t7 t6) fun At8=>pureW (fieldAddrA Tp 100 t7 1) fun t9=>pureW (loadP Tp At8 3 t9) fun t10=>pureW (lenA Tp At8 46 (d 1)) fun t11=>pureW (binA Tp .lss 3 (.tmp 37) (.tmp 39) (d 24) t11) fun t12=>forkW t12 (pureW (indexAddrA Tp 46 (d 1) (d 24)) fun t13=>pureW (loadP Tp At8 3 t13) fun t14=>pureW (maxP t14 [(.int .i64 0)]) fun t15=>pureW (fieldAddrA Tp 100 t7 0) fun t16=>pureW (loadP Tp At8 9 t16) fun t17=>pureW (lenA Tp At8 9 t17) fun t18=>pureW (fieldAddrA Tp 100 t7 1) fun t19=>pureW (loadP Tp At8 3 t19) fun t20=>pureW (binA Tp .sub 3 (.tmp 49) (.tmp 51) t18 t20) fun t21=>pureW (minP t15 [t21]) fun t22=>pureW (binA Tp .add 3 (.tmp 41) (.tmp 53) t10 t22) fun t23=>pureW (nilP (d 0)) fun t24=>pureW (fieldAddrA Tp 76 t24 0) fun t25=>pureW (loadP Tp At8 74 t25) fun t26=>pureW (fieldAddrA Tp 100 t7 0) fun t27=>pureW (loadP Tp At8 9 t27) fun t28=>pureW (sliceA Tp At8 9 t28 none (some t23) none) fun t29=>pureW (buildA Tp 100 [(0,t29),(1,t23)]) fun t30=>effW (mapUpdateA Tp At8 74 t26 t2 t30) fun At31=>pureW (binA Tp .add 3 (.tmp 24) (.const (.int .i64 1)) (d 24) (.int .i64 1)) fun t32=>cutW (T24 0) (T24 0) (S 0 [(d 0),(d 1),(d 22),(d 23),t32] At31)) (pureW (nilP (d 0)) fun t33=>pureW (fieldAddrA Tp 76 t33 0) fun t34=>pureW (loadP Tp At8 74 t34) fun t35=>pureW (fieldAddrA Tp 100 t7 0) fun t36=>pureW (loadP Tp At8 9 t36) fun t37=>pureW (sliceA Tp At8 9 t37 none (some t10) none) fun t38=>pureW (buildA Tp 100 [(0,t38),(1,t10)]) fun t39=>effW (mapUpdateA Tp At8 74 t35 t2 t39) fun At40=>pureW (binA Tp .add 3 (.tmp 24) (.const (.int .i64 1)) (d 24) (.int .i64 1)) fun t41=>cutW (T24 0) (T24 0) (S 0 [(d 0),(d 1),(d 22),(d 23),t41] At40))) (Q (.tuple ⟨[]⟩) A)):=by kernel_rfl
theorem w24:Wf2 24 67 T24 L24:=wf2 (fun _ _=>by kernel_rfl) (by decide) fun _ _=>rfl
theorem c24:Cutf 24 67 T24 L24:=cutf (by decide)
noncomputable def T36:Nat→List Item:=fun i=>match i with
 | 0=>[(.code (cd 36 [1,1,0,1,0,0])),(.inLoop (cd 36 [1,1,0,1,0,0])),(.inBlock 0),(.code (cd 36 [1,1,1]))]
 | _=>[]
def L36:Nat→List Tmp:=fun i=>match i with
 | 0=>[0,4,12,13,14]
 | _=>[]
theorem e36 (a0:Value) (A:AW):gE W0 m0 S Q 36 48 T36 L36 [a0] A=(Wc Tp theX W0 m0 11 [a0] A fun t0 At0=>pureW (lenA Tp At0 37 t0) fun t1=>cutW (T36 0) (T36 0) (S 0 [a0,(.slice none 0 0),t0,t1,(.int .i64 0)] At0)):=by kernel_rfl
theorem l36_0 (d:Nat→Value) (A:AW):gL W0 m0 S Q 36 48 T36 L36 d 0 A=(pureW (binA Tp .lss 3 (.tmp 14) (.tmp 13) (d 14) (d 13)) fun t0=>forkW t0 (pureW (indexAddrA Tp 37 (d 12) (d 14)) fun t1=>pureW (loadP Tp A 9 t1) fun t2=>knW Tp W0 m0 88 [t2] A fun t3 At3=>pureW (binA Tp .eql 3 (.tmp 20) (.const (.int .i64 0)) t3 (.int .i64 0)) fun t4=>forkW t4 (pureW (binA Tp .add 3 (.tmp 14) (.const (.int .i64 1)) (d 14) (.int .i64 1)) fun t5=>cutW (T36 0) (T36 0) (S 0 [(d 0),(d 4),(d 12),(d 13),t5] At3)) (Wc Tp theX W0 m0 12 [(d 0),t2] At3 fun t6 At6=>pureW (extractP t6 0) fun t7=>pureW (extractP t6 1) fun t8=>pureW (binA Tp .neq 30 (.tmp 28) (.const (.int .i64 0)) t8 (.int .i64 0)) fun t9=>forkW t9 (Q (.tuple ⟨[(.slice none 0 0),t8]⟩) At6) (pureW (buildA Tp 90 [(0,t3)]) fun t10=>bothW (allocP Tp At6 90) fun t11 At11=>effW (storeP Tp At11 90 t11 t10) fun At12=>Wc Tp theX W0 m0 89 [t7] At12 fun t13 At13=>pureW (extractP t13 0) fun t14=>pureW (extractP t13 1) fun t15=>pureW (extractP t13 2) fun t16=>pureW (fieldAddrA Tp 90 t11 1) fun t17=>effW (storeP Tp At13 22 t17 t14) fun At18=>pureW (fieldAddrA Tp 90 t11 2) fun t19=>effW (storeP Tp At18 3 t19 t15) fun At20=>pureW (fieldAddrA Tp 90 t11 3) fun t21=>effW (storeP Tp At20 88 t21 t16) fun At22=>pureW (loadP Tp At22 90 t11) fun t23=>bothW (buildSliceA Tp At22 77 1 [(0,t23)]) fun t24 At24=>bothW (appendA Tp At24 77 77 (d 4) t24) fun t25 At25=>pureW (binA Tp .add 3 (.tmp 14) (.const (.int .i64 1)) (d 14) (.int .i64 1)) fun t26=>cutW (T36 0) (T36 0) (S 0 [(d 0),t25,(d 12),(d 13),t26] At25)))) (Q (.tuple ⟨[(d 4),(.int .i64 0)]⟩) A)):=by kernel_rfl
theorem w36:Wf1 36 48 T36 L36:=wf1 (fun _=>by kernel_rfl) (by decide) fun _=>rfl
theorem c36:Cutf 36 48 T36 L36:=cutf (by decide)
noncomputable def T37:Nat→List Item:=fun i=>match i with
 | 0=>[(.code (cd 37 [1,1,0,0,0])),(.inLoop (cd 37 [1,1,0,0,0])),(.inBlock 0),(.code (cd 37 [1,1,1]))]
 | 2=>[(.code (cd 37 [1,1,1,1,1,0,1,0,0])),(.inLoop (cd 37 [1,1,1,1,1,0,1,0,0])),(.inBlock 2),(.code (cd 37 [1,1,1,1,1,1]))]
 | 4=>[(.code (cd 37 [1,1,1,1,1,0,1,0,0,1,1,0,0,1,1,1,1,0,0])),(.inLoop (cd 37 [1,1,1,1,1,0,1,0,0,1,1,0,0,1,1,1,1,0,0])),(.inBlock 4),(.inBlock 3),(.code (cd 37 [1,1,1,1,1,0,1,0,0,1,1,1])),(.inLoop (cd 37 [1,1,1,1,1,0,1,0,0])),(.inBlock 2),(.code (cd 37 [1,1,1,1,1,1]))]
 | _=>[]
def L37:Nat→List Tmp:=fun i=>match i with
 | 0=>[0,5]
 | 2=>[5,6,35,36,37]
 | 4=>[5,6,7,35,36,37,71,72,73]
 | _=>[]
theorem e37 (a0:Value) (A:AW):gE W0 m0 S Q 37 91 T37 L37 [a0] A=(pureW (lenA Tp A 77 a0) fun t0=>pureW (binA Tp .sub 3 (.tmp 13) (.const (.int .i64 1)) t0 (.int .i64 1)) fun t1=>cutW (T37 0) (T37 0) (S 0 [a0,t1] A)):=by kernel_rfl
theorem l37_0 (d:Nat→Value) (A:AW):gL W0 m0 S Q 37 91 T37 L37 d 0 A=(pureW (binA Tp .geq 3 (.tmp 15) (.const (.int .i64 0)) (d 5) (.int .i64 0)) fun t0=>forkW t0 (pureW (indexAddrA Tp 77 (d 0) (d 5)) fun t1=>pureW (loadP Tp A 90 t1) fun t2=>Wc Tp theX W0 m0 90 [t2] A fun t3 At3=>pureW (unA Tp .not t3) fun t4=>forkW t4 (pureW (binA Tp .sub 3 (.tmp 25) (.const (.int .i64 1)) (d 5) (.int .i64 1)) fun t5=>cutW (T37 0) (T37 0) (S 0 [(d 0),t5] At3)) (pureW (binA Tp .lss 3 (.tmp 27) (.const (.int .i64 0)) (d 5) (.int .i64 0)) fun t6=>forkW t6 (pureW (lenA Tp At3 77 (d 0)) fun t7=>pureW (binA Tp .eql 3 (.tmp 30) (.const (.int .i64 0)) t7 (.int .i64 0)) fun t8=>Q (.tuple ⟨[(.slice none 0 0),(.int .i64 0),t8]⟩) At3) (pureW (sliceA Tp At3 77 (d 0) (some (d 5)) none none) fun t9=>pureW (lenA Tp At3 77 t9) fun t10=>cutW (T37 2) (T37 2) (S 2 [(d 5),t9,t9,t10,(.int .i64 0)] At3)))) (pureW (binA Tp .lss 3 (.tmp 27) (.const (.int .i64 0)) (d 5) (.int .i64 0)) fun t11=>forkW t11 (pureW (lenA Tp A 77 (d 0)) fun t12=>pureW (binA Tp .eql 3 (.tmp 30) (.const (.int .i64 0)) t12 (.int .i64 0)) fun t13=>Q (.tuple ⟨[(.slice none 0 0),(.int .i64 0),t13]⟩) A) (pureW (sliceA Tp A 77 (d 0) (some (d 5)) none none) fun t14=>pureW (lenA Tp A 77 t14) fun t15=>cutW (T37 2) (T37 2) (S 2 [(d 5),t14,t14,t15,(.int .i64 0)] A)))):=by kernel_rfl
theorem l37_2 (d:Nat→Value) (A:AW):gL W0 m0 S Q 37 91 T37 L37 d 2 A=(pureW (binA Tp .lss 3 (.tmp 37) (.tmp 36) (d 37) (d 36)) fun t0=>forkW t0 (pureW (indexAddrA Tp 77 (d 35) (d 37)) fun t1=>pureW (loadP Tp A 90 t1) fun t2=>bothW (allocP Tp A 90) fun t3 At3=>effW (storeP Tp At3 90 t3 t2) fun At4=>pureW (lenA Tp At4 77 (d 6)) fun t5=>pureW (binA Tp .sub 3 (.tmp 44) (.const (.int .i64 1)) t5 (.int .i64 1)) fun t6=>pureW (binA Tp .eql 3 (.tmp 42) (.tmp 45) (d 37) t6) fun t7=>pureW (fieldAddrA Tp 90 t3 0) fun t8=>pureW (loadP Tp At4 3 t8) fun t9=>pureW (indexAddrA Tp 77 (d 6) (.int .i64 0)) fun t10=>pureW (fieldAddrA Tp 90 t10 0) fun t11=>pureW (loadP Tp At4 3 t11) fun t12=>pureW (binA Tp .add 3 (.tmp 52) (.tmp 53) t12 (d 37)) fun t13=>pureW (binA Tp .neq 3 (.tmp 48) (.tmp 54) t9 t13) fun t14=>forkW t14 (Q (.tuple ⟨[(.slice none 0 0),(.int .i64 0),(.bool false)]⟩) At4) (pureW (unA Tp .not t7) fun t15=>forkW t15 (pureW (fieldAddrA Tp 90 t3 3) fun t16=>pureW (loadP Tp At4 88 t16) fun t17=>pureW (binA Tp .neq 88 (.tmp 61) (.const (.int .u8 0)) t17 (.int .u8 0)) fun t18=>forkW t18 (Q (.tuple ⟨[(.slice none 0 0),(.int .i64 0),(.bool false)]⟩) At4) (pureW (fieldAddrA Tp 90 t3 3) fun t19=>pureW (loadP Tp At4 88 t19) fun t20=>pureW (binA Tp .eql 88 (.tmp 67) (.const (.int .u8 2)) t20 (.int .u8 2)) fun t21=>forkW t21 (Q (.tuple ⟨[(.slice none 0 0),(.int .i64 0),(.bool false)]⟩) At4) (pureW (fieldAddrA Tp 90 t3 1) fun t22=>pureW (loadP Tp At4 22 t22) fun t23=>pureW (lenA Tp At4 22 t23) fun t24=>cutW (T37 4) (T37 4) (S 4 [(d 5),(d 6),(d 37),(d 35),(d 36),(d 37),t23,t24,(.int .i64 0)] At4)))) (pureW (fieldAddrA Tp 90 t3 3) fun t25=>pureW (loadP Tp At4 88 t25) fun t26=>pureW (binA Tp .eql 88 (.tmp 67) (.const (.int .u8 2)) t26 (.int .u8 2)) fun t27=>forkW t27 (Q (.tuple ⟨[(.slice none 0 0),(.int .i64 0),(.bool false)]⟩) At4) (pureW (fieldAddrA Tp 90 t3 1) fun t28=>pureW (loadP Tp At4 22 t28) fun t29=>pureW (lenA Tp At4 22 t29) fun t30=>cutW (T37 4) (T37 4) (S 4 [(d 5),(d 6),(d 37),(d 35),(d 36),(d 37),t29,t30,(.int .i64 0)] At4))))) (Q (.tuple ⟨[(d 6),(d 5),(.bool true)]⟩) A)):=by kernel_rfl
theorem l37_4 (d:Nat→Value) (A:AW):gL W0 m0 S Q 37 91 T37 L37 d 4 A=(pureW (binA Tp .lss 3 (.tmp 73) (.tmp 72) (d 73) (d 72)) fun t0=>forkW t0 (pureW (indexAddrA Tp 22 (d 71) (d 73)) fun t1=>pureW (loadP Tp A 35 t1) fun t2=>bothW (allocP Tp A 35) fun t3 At3=>effW (storeP Tp At3 35 t3 t2) fun At4=>pureW (fieldAddrA Tp 35 t3 0) fun t5=>pureW (loadP Tp At4 5 t5) fun t6=>pureW (binA Tp .eql 5 (.tmp 79) (.const (.int .u8 0)) t6 (.int .u8 0)) fun t7=>forkW t7 (pureW (binA Tp .add 3 (.tmp 82) (.tmp 83) (d 7) (d 73)) fun t8=>pureW (binA Tp .gtr 3 (.tmp 84) (.const (.int .i64 0)) t8 (.int .i64 0)) fun t9=>forkW t9 (Q (.tuple ⟨[(.slice none 0 0),(.int .i64 0),(.bool false)]⟩) At4) (pureW (binA Tp .add 3 (.tmp 73) (.const (.int .i64 1)) (d 73) (.int .i64 1)) fun t10=>cutW (T37 4) (T37 4) (S 4 [(d 5),(d 6),(d 7),(d 35),(d 36),(d 37),(d 71),(d 72),t10] At4))) (pureW (binA Tp .add 3 (.tmp 73) (.const (.int .i64 1)) (d 73) (.int .i64 1)) fun t11=>cutW (T37 4) (T37 4) (S 4 [(d 5),(d 6),(d 7),(d 35),(d 36),(d 37),(d 71),(d 72),t11] At4))) (pureW (binA Tp .add 3 (.tmp 37) (.const (.int .i64 1)) (d 37) (.int .i64 1)) fun t12=>cutW (T37 2) (T37 2) (S 2 [(d 5),(d 6),(d 35),(d 36),t12] A))):=by kernel_rfl
theorem w37:Wf1 37 91 T37 L37:=wf1 (fun _=>by kernel_rfl) (by decide) fun _=>rfl
theorem c37:Cutf 37 91 T37 L37:=cutf (by decide)
theorem e38 (a0 a1:Value) (A:AW):gE W0 m0 S Q 38 9 Tz Lz [a0,a1] A=(Wc Tp theX W0 m0 91 [a0,a1] A fun t0 At0=>pureW (binA Tp .geq 3 (.tmp 7) (.const (.int .i64 0)) t0 (.int .i64 0)) fun t1=>Q t1 At0):=by kernel_rfl
theorem w38:Wf2 38 9 Tz Lz:=wf2 (fun _ _=>by kernel_rfl) (by decide) fun _ _=>rfl
noncomputable def T91:Nat→List Item:=fun i=>match i with
 | 0=>[(.code (cd 91 [1,0,1,0,0])),(.inLoop (cd 91 [1,0,1,0,0])),(.inBlock 0),(.code (cd 91 [1,1]))]
 | _=>[]
def L91:Nat→List Tmp:=fun i=>match i with
 | 0=>[0,1,7,8]
 | _=>[]
theorem e91 (a0 a1:Value) (A:AW):gE W0 m0 S Q 91 19 T91 L91 [a0,a1] A=(pureW (lenA Tp A 37 a0) fun t0=>cutW (T91 0) (T91 0) (S 0 [a0,a1,t0,(.int .i64 0)] A)):=by kernel_rfl
theorem l91_0 (d:Nat→Value) (A:AW):gL W0 m0 S Q 91 19 T91 L91 d 0 A=(pureW (binA Tp .lss 3 (.tmp 8) (.tmp 7) (d 8) (d 7)) fun t0=>forkW t0 (pureW (indexAddrA Tp 37 (d 0) (d 8)) fun t1=>pureW (loadP Tp A 9 t1) fun t2=>pureW (binA Tp .eql 9 (.tmp 11) (.tmp 15) (d 1) t2) fun t3=>forkW t3 (Q (d 8) A) (pureW (binA Tp .add 3 (.tmp 8) (.const (.int .i64 1)) (d 8) (.int .i64 1)) fun t4=>cutW (T91 0) (T91 0) (S 0 [(d 0),(d 1),(d 7),t4] A))) (Q (.int .i64 (-1)) A)):=by kernel_rfl
theorem w91:Wf2 91 19 T91 L91:=wf2 (fun _ _=>by kernel_rfl) (by decide) fun _ _=>rfl
theorem c91:Cutf 91 19 T91 L91:=cutf (by decide)
theorem e39 (a0:Value) (A:AW):gE W0 m0 S Q 39 4 Tz Lz [a0] A=(pureW (loadP Tp A 27 a0) fun t0=>Wc Tp theX W0 m0 40 [t0,(.string ⟨⟨[106,46,110,101,119]⟩⟩)] A fun t1 At1=>Q t1 At1):=by kernel_rfl
theorem w39:Wf1 39 4 Tz Lz:=wf1 (fun _=>by kernel_rfl) (by decide) fun _=>rfl
theorem e40 (a0 a1:Value) (A:AW):gE W0 m0 S Q 40 27 Tz Lz [a0,a1] A=(bothW (newP A (Value.cells a0).toList 27) fun t0 At0=>bothW (newP At0 (Value.cells a1).toList 9) fun t1 At1=>pureW (loadP Tp At1 27 t0) fun t2=>Wc Tp theX W0 m0 62 [t2] At1 fun t3 At3=>pureW (binA Tp .neq 30 (.tmp 10) (.const (.int .i64 0)) t3 (.int .i64 0)) fun t4=>forkW t4 (Q t3 At3) (bothW (allocP Tp At3 100) fun t5 At5=>freshW (freshOf Tp (fun _=>undef) (.alloc 100)) At5 t5 (pureW (loadP Tp At5 27 t0) fun t6=>pureW (nilP t6) fun t7=>pureW (fieldAddrA Tp 76 t7 0) fun t8=>pureW (loadP Tp At5 74 t8) fun t9=>pureW (loadP Tp At5 9 t1) fun t10=>pureW (lookupA Tp At5 74 t9 t10 true) fun t11=>pureW (extractP t11 0) fun t12=>pureW (extractP t11 1) fun t13=>effW (storeP Tp At5 100 t5 t12) fun At14=>pureW (extractP t11 1) fun t15=>eqW t15 t13 (pureW (unA Tp .not t13) fun t16=>forkW t16 (Q (.int .i64 7) At14) (pureW (loadP Tp At14 27 t0) fun t17=>Wc Tp theX W0 m0 65 [t17,(.func (.func 92) ⟨[]⟩ ⟨[t0,t1]⟩),(.bool false)] At14 fun t18 At18=>Q t18 At18))))):=by kernel_rfl
theorem w40:Wf2 40 27 Tz Lz:=wf2 (fun _ _=>by kernel_rfl) (by decide) fun _ _=>rfl
theorem e41 (a0:Value) (A:AW):gE W0 m0 S Q 41 13 Tz Lz [a0] A=(pureW (buildA Tp 35 [(1,a0)]) fun t0=>bothW (buildSliceA Tp A 22 1 [(0,t0)]) fun t1 At1=>Wc Tp theX W0 m0 55 [t1] At1 fun t2 At2=>pureW (extractP t2 0) fun t3=>pureW (extractP t2 1) fun t4=>Q t3 At2):=by kernel_rfl
theorem w41:Wf1 41 13 Tz Lz:=wf1 (fun _=>by kernel_rfl) (by decide) fun _=>rfl
theorem e42 (a0:Value) (A:AW):gE W0 m0 S Q 42 5 Tz Lz [a0] A=(pureW (loadP Tp A 27 a0) fun t0=>Wc Tp theX W0 m0 41 [(.string ⟨⟨[]⟩⟩)] A fun t1 At1=>pureW (loadP Tp At1 27 a0) fun t2=>eqW t2 t0 (Wc Tp theX W0 m0 13 [t0,(.string ⟨⟨[106,46,110,101,119]⟩⟩),t1] At1 fun t3 At3=>Q t3 At3)):=by kernel_rfl
theorem w42:Wf1 42 5 Tz Lz:=wf1 (fun _=>by kernel_rfl) (by decide) fun _=>rfl
theorem e43 (a0:Value) (A:AW):gE W0 m0 S Q 43 4 Tz Lz [a0] A=(pureW (loadP Tp A 27 a0) fun t0=>Wc Tp theX W0 m0 44 [t0,(.string ⟨⟨[106,46,110,101,119]⟩⟩)] A fun t1 At1=>Q t1 At1):=by kernel_rfl
theorem w43:Wf1 43 4 Tz Lz:=wf1 (fun _=>by kernel_rfl) (by decide) fun _=>rfl
theorem e44 (a0 a1:Value) (A:AW):gE W0 m0 S Q 44 27 Tz Lz [a0,a1] A=(bothW (newP A (Value.cells a0).toList 27) fun t0 At0=>bothW (newP At0 (Value.cells a1).toList 9) fun t1 At1=>pureW (loadP Tp At1 27 t0) fun t2=>Wc Tp theX W0 m0 62 [t2] At1 fun t3 At3=>pureW (binA Tp .neq 30 (.tmp 10) (.const (.int .i64 0)) t3 (.int .i64 0)) fun t4=>forkW t4 (Q t3 At3) (bothW (allocP Tp At3 100) fun t5 At5=>freshW (freshOf Tp (fun _=>undef) (.alloc 100)) At5 t5 (pureW (loadP Tp At5 27 t0) fun t6=>pureW (nilP t6) fun t7=>pureW (fieldAddrA Tp 76 t7 0) fun t8=>pureW (loadP Tp At5 74 t8) fun t9=>pureW (loadP Tp At5 9 t1) fun t10=>pureW (lookupA Tp At5 74 t9 t10 true) fun t11=>pureW (extractP t11 0) fun t12=>pureW (extractP t11 1) fun t13=>effW (storeP Tp At5 100 t5 t12) fun At14=>pureW (extractP t11 1) fun t15=>eqW t15 t13 (pureW (unA Tp .not t13) fun t16=>forkW t16 (Q (.int .i64 7) At14) (pureW (loadP Tp At14 27 t0) fun t17=>Wc Tp theX W0 m0 65 [t17,(.func (.func 93) ⟨[]⟩ ⟨[t5,t0,t1]⟩),(.bool false)] At14 fun t18 At18=>Q t18 At18))))):=by kernel_rfl
theorem w44:Wf2 44 27 Tz Lz:=wf2 (fun _ _=>by kernel_rfl) (by decide) fun _ _=>rfl
theorem e45 (a0:Value) (A:AW):gE W0 m0 S Q 45 5 Tz Lz [a0] A=(pureW (loadP Tp A 27 a0) fun t0=>knW Tp W0 m0 47 [(.int .i64 1)] A fun t1 At1=>pureW (loadP Tp At1 27 a0) fun t2=>eqW t2 t0 (Wc Tp theX W0 m0 46 [t0,(.string ⟨⟨[106,46,110,101,119]⟩⟩),t1] At1 fun t3 At3=>Q t3 At3)):=by kernel_rfl
theorem w45:Wf1 45 5 Tz Lz:=wf1 (fun _=>by kernel_rfl) (by decide) fun _=>rfl
theorem e46 (a0 a1 a2:Value) (A:AW):gE W0 m0 S Q 46 37 Tz Lz [a0,a1,a2] A=(bothW (newP A (Value.cells a0).toList 27) fun t0 At0=>bothW (newP At0 (Value.cells a1).toList 9) fun t1 At1=>bothW (newP At1 (Value.cells a2).toList 9) fun t2 At2=>pureW (loadP Tp At2 27 t0) fun t3=>Wc Tp theX W0 m0 62 [t3] At2 fun t4 At4=>pureW (binA Tp .neq 30 (.tmp 12) (.const (.int .i64 0)) t4 (.int .i64 0)) fun t5=>forkW t5 (Q t4 At4) (pureW (loadP Tp At4 9 t1) fun t6=>Wc Tp theX W0 m0 63 [t6] At4 fun t7 At7=>pureW (unA Tp .not t7) fun t8=>forkW t8 (Q (.int .i64 2) At7) (pureW (loadP Tp At7 9 t2) fun t9=>Wc Tp theX W0 m0 63 [t9] At7 fun t10 At10=>pureW (unA Tp .not t10) fun t11=>forkW t11 (Q (.int .i64 2) At10) (bothW (allocP Tp At10 100) fun t12 At12=>freshW (freshOf Tp (fun _=>undef) (.alloc 100)) At12 t12 (pureW (loadP Tp At12 27 t0) fun t13=>pureW (nilP t13) fun t14=>pureW (fieldAddrA Tp 76 t14 0) fun t15=>pureW (loadP Tp At12 74 t15) fun t16=>pureW (loadP Tp At12 9 t1) fun t17=>pureW (lookupA Tp At12 74 t16 t17 true) fun t18=>pureW (extractP t18 0) fun t19=>pureW (extractP t18 1) fun t20=>effW (storeP Tp At12 100 t12 t19) fun At21=>pureW (extractP t18 1) fun t22=>eqW t22 t20 (pureW (unA Tp .not t20) fun t23=>forkW t23 (Q (.int .i64 7) At21) (pureW (loadP Tp At21 27 t0) fun t24=>Wc Tp theX W0 m0 65 [t24,(.func (.func 94) ⟨[]⟩ ⟨[t0,t1,t12,t2]⟩),(.bool false)] At21 fun t25 At25=>Q t25 At25))))))):=by kernel_rfl
theorem w46:Wf3 46 37 Tz Lz:=wf3 (fun _ _ _=>by kernel_rfl) (by decide) fun _ _ _=>rfl
theorem e48 (a0 a1:Value) (A:AW):gE W0 m0 S Q 48 8 Tz Lz [a0,a1] A=(pureW (loadP Tp A 27 a0) fun t0=>pureW (fieldAddrA Tp 90 a1 0) fun t1=>pureW (loadP Tp A 3 t1) fun t2=>knW Tp W0 m0 47 [t2] A fun t3 At3=>pureW (loadP Tp At3 27 a0) fun t4=>eqW t4 t0 (Wc Tp theX W0 m0 40 [t0,t3] At3 fun t5 At5=>Q t5 At5)):=by kernel_rfl
theorem w48:Wf2 48 8 Tz Lz:=wf2 (fun _ _=>by kernel_rfl) (by decide) fun _ _=>rfl
theorem e49 (a0 a1:Value) (A:AW):gE W0 m0 S Q 49 10 Tz Lz [a0,a1] A=(pureW (loadP Tp A 27 a0) fun t0=>pureW (fieldAddrA Tp 90 a1 0) fun t1=>pureW (loadP Tp A 3 t1) fun t2=>pureW (fieldAddrA Tp 90 a1 2) fun t3=>pureW (loadP Tp A 3 t3) fun t4=>knW Tp W0 m0 47 [t2] A fun t5 At5=>pureW (loadP Tp At5 3 t3) fun t6=>eqW t6 t4 (pureW (fieldAddrA Tp 90 a1 2) fun t7=>eqW t7 t3 (pureW (loadP Tp At5 27 a0) fun t8=>eqW t8 t0 (Wc Tp theX W0 m0 50 [t0,t5,t4] At5 fun t9 At9=>Q t9 At9)))):=by kernel_rfl
theorem w49:Wf2 49 10 Tz Lz:=wf2 (fun _ _=>by kernel_rfl) (by decide) fun _ _=>rfl
theorem e50 (a0 a1 a2:Value) (A:AW):gE W0 m0 S Q 50 39 Tz Lz [a0,a1,a2] A=(bothW (newP A (Value.cells a0).toList 27) fun t0 At0=>bothW (newP At0 (Value.cells a1).toList 9) fun t1 At1=>bothW (newP At1 (Value.cells a2).toList 3) fun t2 At2=>pureW (loadP Tp At2 27 t0) fun t3=>Wc Tp theX W0 m0 62 [t3] At2 fun t4 At4=>pureW (binA Tp .neq 30 (.tmp 12) (.const (.int .i64 0)) t4 (.int .i64 0)) fun t5=>forkW t5 (Q t4 At4) (bothW (allocP Tp At4 100) fun t6 At6=>freshW (freshOf Tp (fun _=>undef) (.alloc 100)) At6 t6 (pureW (loadP Tp At6 27 t0) fun t7=>pureW (nilP t7) fun t8=>pureW (fieldAddrA Tp 76 t8 0) fun t9=>pureW (loadP Tp At6 74 t9) fun t10=>pureW (loadP Tp At6 9 t1) fun t11=>pureW (lookupA Tp At6 74 t10 t11 true) fun t12=>pureW (extractP t12 0) fun t13=>pureW (extractP t12 1) fun t14=>effW (storeP Tp At6 100 t6 t13) fun At15=>pureW (extractP t12 1) fun t16=>eqW t16 t14 (pureW (loadP Tp At15 3 t2) fun t17=>pureW (binA Tp .lss 3 (.tmp 25) (.const (.int .i64 0)) t17 (.int .i64 0)) fun t18=>forkW t18 (Q (.int .i64 2) At15) (pureW (unA Tp .not t14) fun t19=>forkW t19 (Q (.int .i64 7) At15) (pureW (loadP Tp At15 3 t2) fun t20=>pureW (fieldAddrA Tp 100 t6 0) fun t21=>pureW (loadP Tp At15 9 t21) fun t22=>pureW (lenA Tp At15 9 t22) fun t23=>pureW (binA Tp .gtr 3 (.tmp 31) (.tmp 34) t20 t23) fun t24=>forkW t24 (Q (.int .i64 2) At15) (pureW (loadP Tp At15 27 t0) fun t25=>Wc Tp theX W0 m0 65 [t25,(.func (.func 98) ⟨[]⟩ ⟨[t6,t2,t0,t1]⟩),(.bool false)] At15 fun t26 At26=>Q t26 At26))))))):=by kernel_rfl
theorem w50:Wf3 50 39 Tz Lz:=wf3 (fun _ _ _=>by kernel_rfl) (by decide) fun _ _ _=>rfl
theorem e51 (a0 a1:Value) (A:AW):gE W0 m0 S Q 51 8 Tz Lz [a0,a1] A=(pureW (loadP Tp A 27 a0) fun t0=>pureW (fieldAddrA Tp 90 a1 0) fun t1=>pureW (loadP Tp A 3 t1) fun t2=>knW Tp W0 m0 47 [t2] A fun t3 At3=>pureW (loadP Tp At3 27 a0) fun t4=>eqW t4 t0 (Wc Tp theX W0 m0 44 [t0,t3] At3 fun t5 At5=>Q t5 At5)):=by kernel_rfl
theorem w51:Wf2 51 8 Tz Lz:=wf2 (fun _ _=>by kernel_rfl) (by decide) fun _ _=>rfl
theorem e52 (a0:Value) (A:AW):gE W0 m0 S Q 52 8 Tz Lz [a0] A=(pureW (binA Tp .eql 22 (.tmp 3) (.const (.slice none 0 0)) a0 (.slice none 0 0)) fun t0=>forkW t0 (Q (.slice none 0 0) A) (bothW (buildSliceA Tp A 22 0 []) fun t1 At1=>bothW (appendA Tp At1 22 22 t1 a0) fun t2 At2=>Q t2 At2)):=by kernel_rfl
theorem w52:Wf1 52 8 Tz Lz:=wf1 (fun _=>by kernel_rfl) (by decide) fun _=>rfl
theorem e53 (a0:Value) (A:AW):gE W0 m0 S Q 53 12 Tz Lz [a0] A=(pureW (binA Tp .neq 29 (.tmp 3) (.const (.pointer none)) a0 (.pointer none)) fun t0=>forkW t0 (pureW (nilP a0) fun t1=>pureW (fieldAddrA Tp 83 t1 0) fun t2=>pureW (loadP Tp A 27 t2) fun t3=>pureW (binA Tp .neq 27 (.tmp 9) (.const (.pointer none)) t3 (.pointer none)) fun t4=>Q t4 A) (Q (.bool false) A)):=by kernel_rfl
theorem w53:Wf1 53 12 Tz Lz:=wf1 (fun _=>by kernel_rfl) (by decide) fun _=>rfl
theorem e54 (a0:Value) (A:AW):gE W0 m0 S Q 54 7 Tz Lz [a0] A=(pureW (nilP a0) fun t0=>pureW (fieldAddrA Tp 83 t0 7) fun t1=>pureW (loadP Tp A 4 t1) fun t2=>forkW t2 (Q (.int .i64 100) A) (Q (.int .i64 0) A)):=by kernel_rfl
theorem w54:Wf1 54 7 Tz Lz:=wf1 (fun _=>by kernel_rfl) (by decide) fun _=>rfl
noncomputable def T55:Nat→List Item:=fun i=>match i with
 | 0=>[(.code (cd 55 [1,1,0,1,0,0])),(.inLoop (cd 55 [1,1,0,1,0,0])),(.inBlock 0),(.code (cd 55 [1,1,1]))]
 | _=>[]
def L55:Nat→List Tmp:=fun i=>match i with
 | 0=>[4,7,8,9]
 | _=>[]
theorem e55 (a0:Value) (A:AW):gE W0 m0 S Q 55 37 T55 L55 [a0] A=(pureW (lenA Tp A 22 a0) fun t0=>cutW (T55 0) (T55 0) (S 0 [(.slice none 0 0),a0,t0,(.int .i64 0)] A)):=by kernel_rfl
theorem l55_0 (d:Nat→Value) (A:AW):gL W0 m0 S Q 55 37 T55 L55 d 0 A=(pureW (binA Tp .lss 3 (.tmp 9) (.tmp 8) (d 9) (d 8)) fun t0=>forkW t0 (pureW (indexAddrA Tp 22 (d 7) (d 9)) fun t1=>pureW (loadP Tp A 35 t1) fun t2=>bothW (allocP Tp A 35) fun t3 At3=>effW (storeP Tp At3 35 t3 t2) fun At4=>pureW (fieldAddrA Tp 35 t3 1) fun t5=>pureW (loadP Tp At4 9 t5) fun t6=>pureW (lenA Tp At4 9 t6) fun t7=>pureW (binA Tp .gtr 3 (.tmp 15) (.const (.int .i64 65536)) t7 (.int .i64 65536)) fun t8=>forkW t8 (Q (.tuple ⟨[(.string ⟨⟨[]⟩⟩),(.int .i64 3)]⟩) At4) (pureW (fieldAddrA Tp 35 t3 0) fun t9=>pureW (loadP Tp At4 5 t9) fun t10=>bothW (buildSliceA Tp At4 41 1 [(0,t10)]) fun t11 At11=>pureW (fieldAddrA Tp 35 t3 1) fun t12=>pureW (loadP Tp At11 9 t12) fun t13=>pureW (lenA Tp At11 9 t13) fun t14=>bothW (convertA Tp At11 3 134 t14) fun t15 At15=>Wc Tp theX W0 m0 100 [t11,t15,(.int .i64 4)] At15 fun t16 At16=>Wc Tp theX W0 m0 99 [t16] At16 fun t17 At17=>bothW (appendA Tp At17 41 41 (d 4) t17) fun t18 At18=>pureW (fieldAddrA Tp 35 t3 1) fun t19=>pureW (loadP Tp At18 9 t19) fun t20=>bothW (convertA Tp At18 9 41 t20) fun t21 At21=>Wc Tp theX W0 m0 99 [t21] At21 fun t22 At22=>bothW (appendA Tp At22 41 41 t18 t22) fun t23 At23=>pureW (binA Tp .add 3 (.tmp 9) (.const (.int .i64 1)) (d 9) (.int .i64 1)) fun t24=>cutW (T55 0) (T55 0) (S 0 [t23,(d 7),(d 8),t24] At23))) (bothW (convertA Tp A 41 9 (d 4)) fun t25 At25=>Q (.tuple ⟨[t25,(.int .i64 0)]⟩) At25)):=by kernel_rfl
theorem w55:Wf1 55 37 T55 L55:=wf1 (fun _=>by kernel_rfl) (by decide) fun _=>rfl
theorem c55:Cutf 55 37 T55 L55:=cutf (by decide)
theorem e56 (a0:Value) (A:AW):gE W0 m0 S Q 56 15 Tz Lz [a0] A=(pureW (nilP a0) fun t0=>pureW (fieldAddrA Tp 83 t0 4) fun t1=>pureW (loadP Tp A 46 t1) fun t2=>pureW (nilP a0) fun t3=>pureW (fieldAddrA Tp 83 t3 4) fun t4=>pureW (loadP Tp A 46 t4) fun t5=>pureW (lenA Tp A 46 t5) fun t6=>pureW (binA Tp .sub 3 (.tmp 11) (.const (.int .i64 1)) t6 (.int .i64 1)) fun t7=>pureW (indexAddrA Tp 46 t2 t7) fun t8=>pureW (loadP Tp A 3 t8) fun t9=>Q t9 A):=by kernel_rfl
theorem w56:Wf1 56 15 Tz Lz:=wf1 (fun _=>by kernel_rfl) (by decide) fun _=>rfl
theorem e57 (a0 a1:Value) (A:AW):gE W0 m0 S Q 57 17 Tz Lz [a0,a1] A=(pureW (nilP a0) fun t0=>pureW (fieldAddrA Tp 83 t0 7) fun t1=>pureW (loadP Tp A 4 t1) fun t2=>forkW t2 (pureW (nilP a0) fun t3=>pureW (fieldAddrA Tp 83 t3 7) fun t4=>effW (storeP Tp A 4 t4 (.bool true)) fun At5=>Q a1 At5) (pureW (binA Tp .eql 30 (.tmp 11) (.const (.int .i64 100)) a1 (.int .i64 100)) fun t6=>pureW (nilP a0) fun t7=>pureW (fieldAddrA Tp 83 t7 7) fun t8=>effW (storeP Tp A 4 t8 t6) fun At9=>Q a1 At9)):=by kernel_rfl
theorem w57:Wf2 57 17 Tz Lz:=wf2 (fun _ _=>by kernel_rfl) (by decide) fun _ _=>rfl
theorem e58 (a0:Value) (A:AW):gE W0 m0 S Q 58 12 Tz Lz [a0] A=(pureW (binA Tp .neq 27 (.tmp 3) (.const (.pointer none)) a0 (.pointer none)) fun t0=>forkW t0 (pureW (nilP a0) fun t1=>pureW (fieldAddrA Tp 76 t1 0) fun t2=>pureW (loadP Tp A 74 t2) fun t3=>pureW (binA Tp .neq 74 (.tmp 9) (.const (.map none)) t3 (.map none)) fun t4=>Q t4 A) (Q (.bool false) A)):=by kernel_rfl
theorem w58:Wf1 58 12 Tz Lz:=wf1 (fun _=>by kernel_rfl) (by decide) fun _=>rfl
theorem e59 (a0:Value) (A:AW):gE W0 m0 S Q 59 9 Tz Lz [a0] A=(Wc Tp theX W0 m0 101 [a0] A fun t0 At0=>knW Tp W0 m0 102 [t0] At0 fun t1 At1=>Q t0 At1):=by kernel_rfl
theorem w59:Wf1 59 9 Tz Lz:=wf1 (fun _=>by kernel_rfl) (by decide) fun _=>rfl
theorem e60 (a0:Value) (A:AW):gE W0 m0 S Q 60 4 Tz Lz [a0] A=(bothW (newP A (Value.cells a0).toList 74) fun t0 At0=>Q (.func (.func 103) ⟨[]⟩ ⟨[t0]⟩) At0):=by kernel_rfl
theorem w60:Wf1 60 4 Tz Lz:=wf1 (fun _=>by kernel_rfl) (by decide) fun _=>rfl
theorem e61 (a0 a1:Value) (A:AW):gE W0 m0 S Q 61 28 Tz Lz [a0,a1] A=(bothW (allocP Tp A 100) fun t0 At0=>Wc Tp theX W0 m0 62 [a0] At0 fun t1 At1=>pureW (binA Tp .neq 30 (.tmp 11) (.const (.int .i64 0)) t1 (.int .i64 0)) fun t2=>forkW t2 (pureW (buildA Tp 100 []) fun t3=>effW (storeP Tp At1 100 t0 t3) fun At4=>pureW (loadP Tp At4 100 t0) fun t5=>Q (.tuple ⟨[t5,t1]⟩) At4) (pureW (nilP a0) fun t6=>pureW (fieldAddrA Tp 76 t6 0) fun t7=>pureW (loadP Tp At1 74 t7) fun t8=>pureW (lookupA Tp At1 74 t8 a1 true) fun t9=>pureW (extractP t9 0) fun t10=>pureW (extractP t9 1) fun t11=>bothW (allocP Tp At1 100) fun t12 At12=>effW (storeP Tp At12 100 t12 t10) fun At13=>pureW (unA Tp .not t11) fun t14=>forkW t14 (pureW (buildA Tp 100 []) fun t15=>effW (storeP Tp At13 100 t0 t15) fun At16=>pureW (loadP Tp At16 100 t0) fun t17=>Q (.tuple ⟨[t17,(.int .i64 7)]⟩) At16) (pureW (loadP Tp At13 100 t12) fun t18=>effW (storeP Tp At13 100 t0 t18) fun At19=>pureW (loadP Tp At19 100 t0) fun t20=>Q (.tuple ⟨[t20,(.int .i64 0)]⟩) At19))):=by kernel_rfl
theorem w61:Wf2 61 28 Tz Lz:=wf2 (fun _ _=>by kernel_rfl) (by decide) fun _ _=>rfl
theorem e62 (a0:Value) (A:AW):gE W0 m0 S Q 62 10 Tz Lz [a0] A=(Wc Tp theX W0 m0 58 [a0] A fun t0 At0=>pureW (unA Tp .not t0) fun t1=>forkW t1 (Q (.int .i64 1) At0) (pureW (nilP a0) fun t2=>pureW (fieldAddrA Tp 76 t2 3) fun t3=>pureW (loadP Tp At0 4 t3) fun t4=>forkW t4 (Q (.int .i64 100) At0) (Q (.int .i64 0) At0))):=by kernel_rfl
theorem w62:Wf1 62 10 Tz Lz:=wf1 (fun _=>by kernel_rfl) (by decide) fun _=>rfl
noncomputable def T63:Nat→List Item:=fun i=>match i with
 | 0=>[(.code (cd 63 [1,1,0,1,0,0])),(.inLoop (cd 63 [1,1,0,1,0,0])),(.inBlock 0),(.code (cd 63 [1,1,1]))]
 | _=>[]
def L63:Nat→List Tmp:=fun i=>match i with
 | 0=>[0,12,13]
 | _=>[]
theorem e63 (a0:Value) (A:AW):gE W0 m0 S Q 63 27 T63 L63 [a0] A=(pureW (binA Tp .eql 9 (.tmp 4) (.const (.string ⟨⟨[]⟩⟩)) a0 (.string ⟨⟨[]⟩⟩)) fun t0=>forkW t0 (Q (.bool false) A) (pureW (lenA Tp A 9 a0) fun t1=>pureW (binA Tp .gtr 3 (.tmp 8) (.const (.int .i64 40)) t1 (.int .i64 40)) fun t2=>forkW t2 (Q (.bool false) A) (pureW (lenA Tp A 9 a0) fun t3=>cutW (T63 0) (T63 0) (S 0 [a0,t3,(.int .i64 0)] A)))):=by kernel_rfl
theorem l63_0 (d:Nat→Value) (A:AW):gL W0 m0 S Q 63 27 T63 L63 d 0 A=(pureW (binA Tp .lss 3 (.tmp 13) (.tmp 12) (d 13) (d 12)) fun t0=>forkW t0 (pureW (indexA Tp 9 (d 0) (d 13)) fun t1=>pureW (binA Tp .lss 5 (.tmp 18) (.const (.int .u8 33)) t1 (.int .u8 33)) fun t2=>forkW t2 (Q (.bool false) A) (pureW (indexA Tp 9 (d 0) (d 13)) fun t3=>pureW (binA Tp .gtr 5 (.tmp 23) (.const (.int .u8 126)) t3 (.int .u8 126)) fun t4=>forkW t4 (Q (.bool false) A) (pureW (binA Tp .add 3 (.tmp 13) (.const (.int .i64 1)) (d 13) (.int .i64 1)) fun t5=>cutW (T63 0) (T63 0) (S 0 [(d 0),(d 12),t5] A)))) (Q (.bool true) A)):=by kernel_rfl
theorem w63:Wf1 63 27 T63 L63:=wf1 (fun _=>by kernel_rfl) (by decide) fun _=>rfl
theorem c63:Cutf 63 27 T63 L63:=cutf (by decide)
noncomputable def T64:Nat→List Item:=fun i=>match i with
 | 0=>[(.code (cd 64 [1,1,0,1,0,1,0,0])),(.inLoop (cd 64 [1,1,0,1,0,1,0,0])),(.inBlock 0),(.code (cd 64 [1,1,1]))]
 | _=>[]
def L64:Nat→List Tmp:=fun i=>match i with
 | 0=>[3,12]
 | _=>[]
theorem e64 (a0:Value) (A:AW):gE W0 m0 S Q 64 23 T64 L64 [a0] A=(Wc Tp theX W0 m0 58 [a0] A fun t0 At0=>forkW t0 (pureW (nilP a0) fun t1=>pureW (fieldAddrA Tp 76 t1 0) fun t2=>pureW (loadP Tp At0 74 t2) fun t3=>anW Tp theX W0 m0 (rangeP Tp At0 74 t3) fun t4 At4=>cutW (T64 0) (T64 0) (S 0 [(.int .i64 0),t4] At4)) (Q (.int .i64 0) At0)):=by kernel_rfl
theorem l64_0 (d:Nat→Value) (A:AW):gL W0 m0 S Q 64 23 T64 L64 d 0 A=(anW Tp theX W0 m0 (nextA A (d 12) false) fun t0 At0=>pureW (extractP t0 0) fun t1=>forkW t1 (anW Tp theX W0 m0 (entryP At0 (d 12)) fun t2 At2=>pureW (extractP t2 1) fun t3=>bothW (allocP Tp At2 100) fun t4 At4=>effW (storeP Tp At4 100 t4 t3) fun At5=>pureW (fieldAddrA Tp 100 t4 0) fun t6=>pureW (loadP Tp At5 9 t6) fun t7=>pureW (lenA Tp At5 9 t7) fun t8=>pureW (binA Tp .add 3 (.tmp 17) (.tmp 20) (d 3) t8) fun t9=>cutW (T64 0) (T64 0) (S 0 [t9,(d 12)] At5)) (Q (d 3) At0)):=by kernel_rfl
theorem w64:Wf1 64 23 T64 L64:=wf1 (fun _=>by kernel_rfl) (by decide) fun _=>rfl
theorem c64:Cutf 64 23 T64 L64:=cutf (by decide)
theorem e65 (a0 a1 a2:Value) (A:AW):gE W0 m0 S Q 65 32 Tz Lz [a0,a1,a2] A=(pureW (nilP a0) fun t0=>pureW (fieldAddrA Tp 76 t0 2) fun t1=>pureW (loadP Tp A 3 t1) fun t2=>pureW (binA Tp .gtr 3 (.tmp 10) (.const (.int .i64 0)) t2 (.int .i64 0)) fun t3=>forkW t3 (pureW (nilP a0) fun t4=>pureW (fieldAddrA Tp 76 t4 2) fun t5=>pureW (loadP Tp A 3 t5) fun t6=>pureW (binA Tp .sub 3 (.tmp 15) (.const (.int .i64 1)) t6 (.int .i64 1)) fun t7=>pureW (nilP a0) fun t8=>pureW (fieldAddrA Tp 76 t8 2) fun t9=>effW (storeP Tp A 3 t9 t7) fun At10=>pureW (nilP a0) fun t11=>pureW (fieldAddrA Tp 76 t11 2) fun t12=>pureW (loadP Tp At10 3 t12) fun t13=>pureW (binA Tp .eql 3 (.tmp 22) (.const (.int .i64 0)) t13 (.int .i64 0)) fun t14=>forkW t14 (forkW a2 (anW Tp theX W0 m0 (dynA Tp theX At10 a1 []) fun t15 At15=>pureW (nilP a0) fun t16=>pureW (fieldAddrA Tp 76 t16 3) fun t17=>effW (storeP Tp At15 4 t17 (.bool true)) fun At18=>Q (.int .i64 100) At18) (pureW (nilP a0) fun t19=>pureW (fieldAddrA Tp 76 t19 3) fun t20=>effW (storeP Tp At10 4 t20 (.bool true)) fun At21=>Q (.int .i64 100) At21)) (anW Tp theX W0 m0 (dynA Tp theX At10 a1 []) fun t22 At22=>Q (.int .i64 0) At22)) (anW Tp theX W0 m0 (dynA Tp theX A a1 []) fun t23 At23=>Q (.int .i64 0) At23)):=by kernel_rfl
theorem w65:Wf3 65 32 Tz Lz:=wf3 (fun _ _ _=>by kernel_rfl) (by decide) fun _ _ _=>rfl
theorem e66 (a0 a1 a2 a3:Value) (A:AW):gE W0 m0 S Q 66 16 Tz Lz [a0,a1,a2,a3] A=(pureW (loadP Tp A 27 a2) fun t0=>pureW (nilP t0) fun t1=>pureW (fieldAddrA Tp 76 t1 0) fun t2=>pureW (loadP Tp A 74 t2) fun t3=>pureW (loadP Tp A 9 a3) fun t4=>pureW (fieldAddrA Tp 100 a0 0) fun t5=>pureW (loadP Tp A 9 t5) fun t6=>pureW (loadP Tp A 9 a1) fun t7=>pureW (binA Tp .add 9 (.tmp 10) (.tmp 11) t6 t7) fun t8=>pureW (fieldAddrA Tp 100 a0 1) fun t9=>pureW (loadP Tp A 3 t9) fun t10=>pureW (buildA Tp 100 [(0,t8),(1,t10)]) fun t11=>effW (mapUpdateA Tp A 74 t3 t4 t11) fun At12=>Q (.tuple ⟨[]⟩) At12):=by kernel_rfl
theorem w66:Wf4 66 16 Tz Lz:=wf4 (fun _ _ _ _=>by kernel_rfl) (by decide) fun _ _ _ _=>rfl
theorem e67 (a0:Value) (A:AW):gE W0 m0 S Q 67 9 Tz Lz [a0] A=(pureW (binA Tp .eql 74 (.tmp 3) (.const (.map none)) a0 (.map none)) fun t0=>forkW t0 (Q (.map none) A) (pureW (ifaceP Tp 74 a0) fun t1=>anW Tp theX W0 m0 (callFuncA Tp theX A 104 [t1]) fun t2 At2=>pureW (typeAssertA Tp t2 20 74 false) fun t3=>Q t3 At2)):=by kernel_rfl
theorem w67:Wf1 67 9 Tz Lz:=wf1 (fun _=>by kernel_rfl) (by decide) fun _=>rfl
noncomputable def T89:Nat→List Item:=fun i=>match i with
 | 0=>[(.code (cd 89 [1,0,1,1,1,1,0,0,0])),(.inLoop (cd 89 [1,0,1,1,1,1,0,0,0])),(.inBlock 0),(.code (cd 89 [1,0,1,1,1,1,1])),(.inScope (cd 89 [1,0]))]
 | _=>[]
def L89:Nat→List Tmp:=fun i=>match i with
 | 0=>[0,5,6,7]
 | _=>[]
theorem e89 (a0:Value) (A:AW):gE W0 m0 S Q 89 79 T89 L89 [a0] A=(cutW (T89 0) (T89 0) (S 0 [a0,(.slice none 0 0),(.int .i64 0),(.int .u8 0)] A)):=by kernel_rfl
theorem l89_0 (d:Nat→Value) (A:AW):gL W0 m0 S Q 89 79 T89 L89 d 0 A=(pureW (sliceA Tp A 9 (d 0) (some (d 6)) none none) fun t0=>pureW (binA Tp .eql 9 (.tmp 19) (.const (.string ⟨⟨[]⟩⟩)) t0 (.string ⟨⟨[]⟩⟩)) fun t1=>forkW t1 (Q (.tuple ⟨[(d 5),(d 6),(d 7)]⟩) A) (pureW (lenA Tp A 9 t0) fun t2=>pureW (binA Tp .lss 3 (.tmp 23) (.const (.int .i64 9)) t2 (.int .i64 9)) fun t3=>forkW t3 (Q (.tuple ⟨[(d 5),(d 6),(.int .u8 1)]⟩) A) (pureW (sliceA Tp A 9 t0 none (some (.int .i64 9)) none) fun t4=>bothW (convertA Tp A 9 41 t4) fun t5 At5=>Wc Tp theX W0 m0 112 [t5] At5 fun t6 At6=>pureW (extractP t6 0) fun t7=>pureW (extractP t6 1) fun t8=>pureW (unA Tp .not t8) fun t9=>forkW t9 (Q (.tuple ⟨[(d 5),(d 6),(.int .u8 2)]⟩) At6) (pureW (sliceA Tp At6 41 t7 (some (.int .i64 1)) none none) fun t10=>Wc Tp theX W0 m0 113 [t10] At6 fun t11 At11=>Wc Tp theX W0 m0 114 [t11,(.int .i64 4)] At11 fun t12 At12=>pureW (binA Tp .gtr 134 (.tmp 40) (.const (.int .u64 65536)) t12 (.int .u64 65536)) fun t13=>forkW t13 (Q (.tuple ⟨[(d 5),(d 6),(.int .u8 2)]⟩) At12) (pureW (lenA Tp At12 9 t0) fun t14=>pureW (binA Tp .sub 3 (.tmp 44) (.const (.int .i64 9)) t14 (.int .i64 9)) fun t15=>bothW (convertA Tp At12 3 134 t15) fun t16 At16=>pureW (binA Tp .add 134 (.tmp 47) (.const (.int .u64 4)) t12 (.int .u64 4)) fun t17=>pureW (binA Tp .lss 134 (.tmp 46) (.tmp 48) t16 t17) fun t18=>forkW t18 (Q (.tuple ⟨[(d 5),(d 6),(.int .u8 1)]⟩) At16) (bothW (convertA Tp At16 134 3 t12) fun t19 At19=>pureW (binA Tp .add 3 (.const (.int .i64 9)) (.tmp 51) (.int .i64 9) t19) fun t20=>pureW (binA Tp .add 3 (.tmp 52) (.const (.int .i64 4)) t20 (.int .i64 4)) fun t21=>pureW (sliceA Tp At19 9 t0 (some (.int .i64 9)) (some t21) none) fun t22=>bothW (convertA Tp At19 9 41 t22) fun t23 At23=>Wc Tp theX W0 m0 112 [t23] At23 fun t24 At24=>pureW (extractP t24 0) fun t25=>pureW (extractP t24 1) fun t26=>pureW (unA Tp .not t26) fun t27=>forkW t27 (Q (.tuple ⟨[(d 5),(d 6),(.int .u8 2)]⟩) At24) (pureW (indexAddrA Tp 41 t7 (.int .i64 0)) fun t28=>pureW (loadP Tp At24 5 t28) fun t29=>bothW (convertA Tp At24 41 9 t25) fun t30 At30=>pureW (buildA Tp 35 [(0,t29),(1,t30)]) fun t31=>bothW (buildSliceA Tp At30 22 1 [(0,t31)]) fun t32 At32=>freshW (freshOf Tp (evalT (Tm.fill ⟨1,.nil⟩ 0 [t31])) (.buildSlice 22 1 #[(0,.tmp 0)])) At32 t32 (pureW (buildA Tp 35 [(0,t29),(1,t30)]) fun t33=>eqW t33 t31 (bothW (convertA Tp At32 41 9 t25) fun t34 _=>eqW t34 t30 (eqW t25 t25 (pureW (loadP Tp At32 5 t28) fun t35=>eqW t35 t29 (pureW (indexAddrA Tp 41 t7 (.int .i64 0)) fun t36=>eqW t36 t28 (eqW t7 t7 (eqW (d 5) (d 5) (bothW (appendA Tp At32 22 22 (d 5) t32) fun t37 At37=>pureW (binA Tp .add 3 (.tmp 73) (.tmp 74) (d 6) t21) fun t38=>cutW (T89 0) (T89 0) (S 0 [(d 0),t37,t38,(d 7)] At37)))))))))))))))):=by kernel_rfl
theorem w89:Wf1 89 79 T89 L89:=wf1 (fun _=>by kernel_rfl) (by decide) fun _=>rfl
theorem c89:Cutf 89 79 T89 L89:=cutf (by decide)
theorem e90 (a0:Value) (A:AW):gE W0 m0 S Q 90 15 Tz Lz [a0] A=(bothW (newP A (Value.cells a0).toList 90) fun t0 At0=>pureW (fieldAddrA Tp 90 t0 1) fun t1=>pureW (loadP Tp At0 22 t1) fun t2=>pureW (lenA Tp At0 22 t2) fun t3=>pureW (binA Tp .gtr 3 (.tmp 5) (.const (.int .i64 0)) t3 (.int .i64 0)) fun t4=>forkW t4 (pureW (fieldAddrA Tp 90 t0 1) fun t5=>pureW (loadP Tp At0 22 t5) fun t6=>pureW (indexAddrA Tp 22 t6 (.int .i64 0)) fun t7=>pureW (fieldAddrA Tp 35 t7 0) fun t8=>pureW (loadP Tp At0 5 t8) fun t9=>pureW (binA Tp .eql 5 (.tmp 12) (.const (.int .u8 0)) t9 (.int .u8 0)) fun t10=>Q t10 At0) (Q (.bool false) At0)):=by kernel_rfl
theorem w90:Wf1 90 15 Tz Lz:=wf1 (fun _=>by kernel_rfl) (by decide) fun _=>rfl
theorem e92 (a0 a1:Value) (A:AW):gE W0 m0 S Q 92 7 Tz Lz [a0,a1] A=(pureW (loadP Tp A 27 a0) fun t0=>pureW (nilP t0) fun t1=>pureW (fieldAddrA Tp 76 t1 0) fun t2=>pureW (loadP Tp A 74 t2) fun t3=>pureW (loadP Tp A 9 a1) fun t4=>effW (deleteA Tp A 74 t3 t4) fun At5=>Q (.tuple ⟨[]⟩) At5):=by kernel_rfl
theorem w92:Wf2 92 7 Tz Lz:=wf2 (fun _ _=>by kernel_rfl) (by decide) fun _ _=>rfl
theorem e93 (a0 a1 a2:Value) (A:AW):gE W0 m0 S Q 93 14 Tz Lz [a0,a1,a2] A=(pureW (loadP Tp A 27 a1) fun t0=>pureW (nilP t0) fun t1=>pureW (fieldAddrA Tp 76 t1 0) fun t2=>pureW (loadP Tp A 74 t2) fun t3=>pureW (loadP Tp A 9 a2) fun t4=>pureW (fieldAddrA Tp 100 a0 0) fun t5=>pureW (loadP Tp A 9 t5) fun t6=>pureW (fieldAddrA Tp 100 a0 0) fun t7=>pureW (loadP Tp A 9 t7) fun t8=>pureW (lenA Tp A 9 t8) fun t9=>pureW (buildA Tp 100 [(0,t6),(1,t9)]) fun t10=>effW (mapUpdateA Tp A 74 t3 t4 t10) fun At11=>Q (.tuple ⟨[]⟩) At11):=by kernel_rfl
theorem w93:Wf3 93 14 Tz Lz:=wf3 (fun _ _ _=>by kernel_rfl) (by decide) fun _ _ _=>rfl
theorem e94 (a0 a1 a2 a3:Value) (A:AW):gE W0 m0 S Q 94 15 Tz Lz [a0,a1,a2,a3] A=(pureW (loadP Tp A 27 a0) fun t0=>pureW (nilP t0) fun t1=>pureW (fieldAddrA Tp 76 t1 0) fun t2=>pureW (loadP Tp A 74 t2) fun t3=>pureW (loadP Tp A 9 a1) fun t4=>effW (deleteA Tp A 74 t3 t4) fun At5=>pureW (loadP Tp At5 27 a0) fun t6=>pureW (nilP t6) fun t7=>pureW (fieldAddrA Tp 76 t7 0) fun t8=>pureW (loadP Tp At5 74 t8) fun t9=>pureW (loadP Tp At5 9 a3) fun t10=>pureW (loadP Tp At5 100 a2) fun t11=>effW (mapUpdateA Tp At5 74 t9 t10 t11) fun At12=>Q (.tuple ⟨[]⟩) At12):=by kernel_rfl
theorem w94:Wf4 94 15 Tz Lz:=wf4 (fun _ _ _ _=>by kernel_rfl) (by decide) fun _ _ _ _=>rfl
theorem e98 (a0 a1 a2 a3:Value) (A:AW):gE W0 m0 S Q 98 18 Tz Lz [a0,a1,a2,a3] A=(pureW (loadP Tp A 27 a2) fun t0=>pureW (nilP t0) fun t1=>pureW (fieldAddrA Tp 76 t1 0) fun t2=>pureW (loadP Tp A 74 t2) fun t3=>pureW (loadP Tp A 9 a3) fun t4=>pureW (fieldAddrA Tp 100 a0 0) fun t5=>pureW (loadP Tp A 9 t5) fun t6=>pureW (loadP Tp A 3 a1) fun t7=>pureW (sliceA Tp A 9 t6 none (some t7) none) fun t8=>pureW (fieldAddrA Tp 100 a0 1) fun t9=>pureW (loadP Tp A 3 t9) fun t10=>pureW (loadP Tp A 3 a1) fun t11=>pureW (minP t10 [t11]) fun t12=>pureW (buildA Tp 100 [(0,t8),(1,t12)]) fun t13=>effW (mapUpdateA Tp A 74 t3 t4 t13) fun At14=>Q (.tuple ⟨[]⟩) At14):=by kernel_rfl
theorem w98:Wf4 98 18 Tz Lz:=wf4 (fun _ _ _ _=>by kernel_rfl) (by decide) fun _ _ _ _=>rfl
noncomputable def T99:Nat→List Item:=fun i=>match i with
 | 0=>[(.code (cd 99 [1,1,1,1,0,1,0,0])),(.inLoop (cd 99 [1,1,1,1,0,1,0,0])),(.inBlock 0),(.code (cd 99 [1,1,1,1,1]))]
 | _=>[]
def L99:Nat→List Tmp:=fun i=>match i with
 | 0=>[0,3,4,15]
 | _=>[]
theorem e99 (a0:Value) (A:AW):gE W0 m0 S Q 99 31 T99 L99 [a0] A=(pureW (lenA Tp A 41 a0) fun t0=>pureW (binA Tp .add 3 (.tmp 7) (.const (.int .i64 4)) t0 (.int .i64 4)) fun t1=>bothW (makeSliceA Tp A 41 t1 t1) fun t2 At2=>bothW (copyA Tp At2 41 t2 a0) fun t3 At3=>Wc Tp theX W0 m0 123 [a0] At3 fun t4 At4=>cutW (T99 0) (T99 0) (S 0 [a0,t2,t4,(.int .i64 0)] At4)):=by kernel_rfl
theorem l99_0 (d:Nat→Value) (A:AW):gL W0 m0 S Q 99 31 T99 L99 d 0 A=(pureW (binA Tp .lss 3 (.tmp 15) (.const (.int .i64 4)) (d 15) (.int .i64 4)) fun t0=>forkW t0 (pureW (lenA Tp A 41 (d 0)) fun t1=>pureW (binA Tp .add 3 (.tmp 20) (.tmp 21) t1 (d 15)) fun t2=>pureW (binA Tp .mul 3 (.const (.int .i64 8)) (.tmp 24) (.int .i64 8) (d 15)) fun t3=>pureW (binA Tp .shr 24 (.tmp 23) (.tmp 25) (d 4) t3) fun t4=>bothW (convertA Tp A 24 5 t4) fun t5 At5=>pureW (indexAddrA Tp 41 (d 3) t2) fun t6=>effW (storeP Tp At5 5 t6 t5) fun At7=>pureW (binA Tp .add 3 (.tmp 15) (.const (.int .i64 1)) (d 15) (.int .i64 1)) fun t8=>cutW (T99 0) (T99 0) (S 0 [(d 0),(d 3),(d 4),t8] At7)) (Q (d 3) A)):=by kernel_rfl
theorem w99:Wf1 99 31 T99 L99:=wf1 (fun _=>by kernel_rfl) (by decide) fun _=>rfl
theorem c99:Cutf 99 31 T99 L99:=cutf (by decide)
theorem e100 (a0 a1 a2:Value) (A:AW):gE W0 m0 S Q 100 17 Tz Lz [a0,a1,a2] A=(Wc Tp theX W0 m0 124 [a2] A fun t0 At0=>pureW (unA Tp .not t0) fun t1=>forkW t1 (Wc Tp theX W0 m0 125 [a0,(.slice none 0 0)] At0 fun t2 At2=>Q t2 At2) (Wc Tp theX W0 m0 126 [a1,a2] At0 fun t3 At3=>Wc Tp theX W0 m0 125 [a0,t3] At3 fun t4 At4=>Q t4 At4)):=by kernel_rfl
theorem w100:Wf3 100 17 Tz Lz:=wf3 (fun _ _ _=>by kernel_rfl) (by decide) fun _ _ _=>rfl
theorem e101 (a0:Value) (A:AW):gE W0 m0 S Q 101 5 Tz Lz [a0] A=(Wc Tp theX W0 m0 127 [(.slice none 0 0),a0] A fun t0 At0=>Q t0 At0):=by kernel_rfl
theorem w101:Wf1 101 5 Tz Lz:=wf1 (fun _=>by kernel_rfl) (by decide) fun _=>rfl
noncomputable def T103:Nat→List Item:=fun i=>match i with
 | 0=>[(.code (cd 103 [1,0,0])),(.inLoop (cd 103 [1,0,0])),(.inBlock 0)]
 | _=>[]
def L103:Nat→List Tmp:=fun i=>match i with
 | 0=>[0,5]
 | _=>[]
theorem e103 (a0 a1:Value) (A:AW):gE W0 m0 S Q 103 14 T103 L103 [a0,a1] A=(pureW (loadP Tp A 74 a1) fun t0=>anW Tp theX W0 m0 (rangeP Tp A 74 t0) fun t1 At1=>cutW (T103 0) (T103 0) (S 0 [a0,t1] At1)):=by kernel_rfl
theorem l103_0 (d:Nat→Value) (A:AW):gL W0 m0 S Q 103 14 T103 L103 d 0 A=(anW Tp theX W0 m0 (nextA A (d 5) false) fun t0 At0=>pureW (extractP t0 0) fun t1=>forkW t1 (anW Tp theX W0 m0 (entryP At0 (d 5)) fun t2 At2=>pureW (extractP t2 0) fun t3=>anW Tp theX W0 m0 (dynA Tp theX At2 (d 0) [t3]) fun t4 At4=>pureW (unA Tp .not t4) fun t5=>forkW t5 (Q (.tuple ⟨[]⟩) At4) (cutW (T103 0) (T103 0) (S 0 [(d 0),(d 5)] At4))) (Q (.tuple ⟨[]⟩) At0)):=by kernel_rfl
theorem w103:Wf2 103 14 T103 L103:=wf2 (fun _ _=>by kernel_rfl) (by decide) fun _ _=>rfl
theorem c103:Cutf 103 14 T103 L103:=cutf (by decide)
noncomputable def T112:Nat→List Item:=fun i=>match i with
 | 0=>[(.code (cd 112 [1,1,1,1,0,1,0,0])),(.inLoop (cd 112 [1,1,1,1,0,1,0,0])),(.inBlock 0),(.code (cd 112 [1,1,1,1,1]))]
 | _=>[]
def L112:Nat→List Tmp:=fun i=>match i with
 | 0=>[0,4,5,18]
 | _=>[]
theorem e112 (a0:Value) (A:AW):gE W0 m0 S Q 112 40 T112 L112 [a0] A=(pureW (lenA Tp A 41 a0) fun t0=>pureW (binA Tp .sub 3 (.tmp 9) (.const (.int .i64 4)) t0 (.int .i64 4)) fun t1=>pureW (binA Tp .lss 3 (.tmp 11) (.const (.int .i64 0)) t1 (.int .i64 0)) fun t2=>forkW t2 (Q (.tuple ⟨[(.slice none 0 0),(.bool false)]⟩) A) (pureW (sliceA Tp A 41 a0 none (some t1) (some t1)) fun t3=>Wc Tp theX W0 m0 123 [t3] A fun t4 At4=>cutW (T112 0) (T112 0) (S 0 [a0,t1,t4,(.int .i64 0)] At4))):=by kernel_rfl
theorem l112_0 (d:Nat→Value) (A:AW):gL W0 m0 S Q 112 40 T112 L112 d 0 A=(pureW (binA Tp .lss 3 (.tmp 18) (.const (.int .i64 4)) (d 18) (.int .i64 4)) fun t0=>forkW t0 (pureW (binA Tp .add 3 (.tmp 22) (.tmp 23) (d 4) (d 18)) fun t1=>pureW (indexAddrA Tp 41 (d 0) t1) fun t2=>pureW (loadP Tp A 5 t2) fun t3=>pureW (binA Tp .mul 3 (.const (.int .i64 8)) (.tmp 28) (.int .i64 8) (d 18)) fun t4=>pureW (binA Tp .shr 24 (.tmp 27) (.tmp 29) (d 5) t4) fun t5=>bothW (convertA Tp A 24 5 t5) fun t6 At6=>pureW (binA Tp .neq 5 (.tmp 26) (.tmp 31) t3 t6) fun t7=>forkW t7 (Q (.tuple ⟨[(.slice none 0 0),(.bool false)]⟩) At6) (pureW (binA Tp .add 3 (.tmp 18) (.const (.int .i64 1)) (d 18) (.int .i64 1)) fun t8=>cutW (T112 0) (T112 0) (S 0 [(d 0),(d 4),(d 5),t8] At6))) (bothW (makeSliceA Tp A 41 (d 4) (d 4)) fun t9 At9=>bothW (copyA Tp At9 41 t9 (d 0)) fun t10 At10=>Q (.tuple ⟨[t9,(.bool true)]⟩) At10)):=by kernel_rfl
theorem w112:Wf1 112 40 T112 L112:=wf1 (fun _=>by kernel_rfl) (by decide) fun _=>rfl
theorem c112:Cutf 112 40 T112 L112:=cutf (by decide)
theorem e113 (a0:Value) (A:AW):gE W0 m0 S Q 113 9 Tz Lz [a0] A=(Wc Tp theX W0 m0 136 [a0] A fun t0 At0=>pureW (buildA Tp 169 [(0,t0),(1,(.bool true))]) fun t1=>bothW (newP At0 (Value.cells t1).toList 169) fun t2 At2=>pureW (buildA Tp 171 [(0,t2)]) fun t3=>bothW (newP At2 (Value.cells t3).toList 171) fun t4 At4=>Q t4 At4):=by kernel_rfl
theorem w113:Wf1 113 9 Tz Lz:=wf1 (fun _=>by kernel_rfl) (by decide) fun _=>rfl
noncomputable def T114:Nat→List Item:=fun i=>match i with
 | 0=>[(.code (cd 114 [1,1,1,0,1,0,0])),(.inLoop (cd 114 [1,1,1,0,1,0,0])),(.inBlock 0),(.code (cd 114 [1,1,1,1]))]
 | _=>[]
def L114:Nat→List Tmp:=fun i=>match i with
 | 0=>[5,15,16,17]
 | _=>[]
theorem e114 (a0 a1:Value) (A:AW):gE W0 m0 S Q 114 28 T114 L114 [a0,a1] A=(Wc Tp theX W0 m0 124 [a1] A fun t0 At0=>pureW (unA Tp .not t0) fun t1=>forkW t1 (Wc Tp theX W0 m0 137 [a0] At0 fun t2 At2=>Q (.int .u64 0) At2) (Wc Tp theX W0 m0 138 [a0,a1] At0 fun t3 At3=>pureW (lenA Tp At3 41 t3) fun t4=>cutW (T114 0) (T114 0) (S 0 [(.int .u64 0),t3,t4,(.int .i64 0)] At3))):=by kernel_rfl
theorem l114_0 (d:Nat→Value) (A:AW):gL W0 m0 S Q 114 28 T114 L114 d 0 A=(pureW (binA Tp .lss 3 (.tmp 17) (.tmp 16) (d 17) (d 16)) fun t0=>forkW t0 (pureW (indexAddrA Tp 41 (d 15) (d 17)) fun t1=>pureW (loadP Tp A 5 t1) fun t2=>pureW (binA Tp .shl 134 (.tmp 21) (.const (.int .u64 8)) (d 5) (.int .u64 8)) fun t3=>bothW (convertA Tp A 5 134 t2) fun t4 At4=>pureW (binA Tp .or 134 (.tmp 22) (.tmp 24) t3 t4) fun t5=>pureW (binA Tp .add 3 (.tmp 17) (.const (.int .i64 1)) (d 17) (.int .i64 1)) fun t6=>cutW (T114 0) (T114 0) (S 0 [t5,(d 15),(d 16),t6] At4)) (Q (d 5) A)):=by kernel_rfl
theorem w114:Wf2 114 28 T114 L114:=wf2 (fun _ _=>by kernel_rfl) (by decide) fun _ _=>rfl
theorem c114:Cutf 114 28 T114 L114:=cutf (by decide)
theorem e123 (a0:Value) (A:AW):gE W0 m0 S Q 123 5 Tz Lz [a0] A=(Wc Tp theX W0 m0 145 [(.int .u32 0),a0] A fun t0 At0=>Q t0 At0):=by kernel_rfl
theorem w123:Wf1 123 5 Tz Lz:=wf1 (fun _=>by kernel_rfl) (by decide) fun _=>rfl
theorem e124 (a0:Value) (A:AW):gE W0 m0 S Q 124 12 Tz Lz [a0] A=(pureW (binA Tp .eql 3 (.tmp 3) (.const (.int .i64 1)) a0 (.int .i64 1)) fun t0=>forkW t0 (Q (.bool true) A) (pureW (binA Tp .eql 3 (.tmp 3) (.const (.int .i64 2)) a0 (.int .i64 2)) fun t1=>forkW t1 (Q (.bool true) A) (pureW (binA Tp .eql 3 (.tmp 3) (.const (.int .i64 4)) a0 (.int .i64 4)) fun t2=>forkW t2 (Q (.bool true) A) (pureW (binA Tp .eql 3 (.tmp 3) (.const (.int .i64 8)) a0 (.int .i64 8)) fun t3=>forkW t3 (Q (.bool true) A) (Q (.bool false) A))))):=by kernel_rfl
theorem w124:Wf1 124 12 Tz Lz:=wf1 (fun _=>by kernel_rfl) (by decide) fun _=>rfl
theorem e125 (a0 a1:Value) (A:AW):gE W0 m0 S Q 125 15 Tz Lz [a0,a1] A=(pureW (lenA Tp A 41 a0) fun t0=>pureW (lenA Tp A 41 a1) fun t1=>pureW (binA Tp .add 3 (.tmp 6) (.tmp 8) t0 t1) fun t2=>bothW (makeSliceA Tp A 41 (.int .i64 0) t2) fun t3 At3=>bothW (appendA Tp At3 41 41 t3 a0) fun t4 At4=>bothW (appendA Tp At4 41 41 t4 a1) fun t5 At5=>Q t5 At5):=by kernel_rfl
theorem w125:Wf2 125 15 Tz Lz:=wf2 (fun _ _=>by kernel_rfl) (by decide) fun _ _=>rfl
noncomputable def T126:Nat→List Item:=fun i=>match i with
 | 0=>[(.code (cd 126 [1,1,0,1,0,0])),(.inLoop (cd 126 [1,1,0,1,0,0])),(.inBlock 0),(.code (cd 126 [1,1,1]))]
 | _=>[]
def L126:Nat→List Tmp:=fun i=>match i with
 | 0=>[0,1,5,10,11]
 | _=>[]
theorem e126 (a0 a1:Value) (A:AW):gE W0 m0 S Q 126 27 T126 L126 [a0,a1] A=(bothW (makeSliceA Tp A 41 a1 a1) fun t0 At0=>pureW (lenA Tp At0 41 t0) fun t1=>cutW (T126 0) (T126 0) (S 0 [a0,a1,t0,t1,(.int .i64 0)] At0)):=by kernel_rfl
theorem l126_0 (d:Nat→Value) (A:AW):gL W0 m0 S Q 126 27 T126 L126 d 0 A=(pureW (binA Tp .lss 3 (.tmp 11) (.tmp 10) (d 11) (d 10)) fun t0=>forkW t0 (pureW (binA Tp .sub 3 (.tmp 15) (.const (.int .i64 1)) (d 1) (.int .i64 1)) fun t1=>pureW (binA Tp .sub 3 (.tmp 16) (.tmp 17) t1 (d 11)) fun t2=>pureW (binA Tp .mul 3 (.const (.int .i64 8)) (.tmp 20) (.int .i64 8) (d 11)) fun t3=>pureW (binA Tp .shr 134 (.tmp 19) (.tmp 21) (d 0) t3) fun t4=>bothW (convertA Tp A 134 5 t4) fun t5 At5=>pureW (indexAddrA Tp 41 (d 5) t2) fun t6=>effW (storeP Tp At5 5 t6 t5) fun At7=>pureW (binA Tp .add 3 (.tmp 11) (.const (.int .i64 1)) (d 11) (.int .i64 1)) fun t8=>cutW (T126 0) (T126 0) (S 0 [(d 0),(d 1),(d 5),(d 10),t8] At7)) (Q (d 5) A)):=by kernel_rfl
theorem w126:Wf2 126 27 T126 L126:=wf2 (fun _ _=>by kernel_rfl) (by decide) fun _ _=>rfl
theorem c126:Cutf 126 27 T126 L126:=cutf (by decide)
theorem e127 (a0 a1:Value) (A:AW):gE W0 m0 S Q 127 13 Tz Lz [a0,a1] A=(bothW (newP A (Value.cells a0).toList 37) fun t0 At0=>loopW At0 127 (setsT ⟨13,.nil⟩ [(0,a0),(1,a1),(2,t0),(4,(.slice none 0 0)),(6,a1)]) [7] (cd 127 [1,0,1,0,0]) (cd 127 [1,0,1,0,1]) fun Dt1 Lt1 Abt1=>dynW Tp theX W0 m0 Abt1 a1 [.func (.yield Lt1) #[] #[]] fun _ Act1=>endLoopW Act1 Lt1 (fun Adt1=>pureW (loadP Tp Adt1 37 t0) fun t2=>takeDs [Dt1] Adt1 fun At3=>Q t2 At3) (fun Aet1=>takeDs [Dt1] Aet1 fun At4=>Q (.slice none 0 0) At4)):=by kernel_rfl
theorem r127_0 (W0:World) (m0:Inj Tp) (S:Nat→List Value→AW→Prop) (Q:Value→AW→Prop) (l:Nat) (d:Nat→Value) (A:AW):wpgo Tp theX W0 m0 127 Tz Lz S Q (some l) 4000 (tmOf 13 d) [.code (cd 127 [1,0,1,0,0]),.beginRound,.code (cd 127 [1,0,1,0,1])] false 0 0 0 [] A=(beginW A l fun At0=>pureW (loadP Tp At0 37 (d 2)) fun t1=>bothW (buildSliceA Tp At0 37 1 [(0,(d 7))]) fun t2 At2=>bothW (appendA Tp At2 37 37 t1 t2) fun t3 At3=>effW (storeP Tp At3 37 (d 2) t3) fun At4=>leaveW At4 l none Q):=by kernel_rfl
theorem w127:Wf2 127 13 Tz Lz:=wf2 (fun _ _=>by kernel_rfl) (by decide) fun _ _=>rfl
theorem e136 (a0:Value) (A:AW):gE W0 m0 S Q 136 8 Tz Lz [a0] A=(pureW (binA Tp .eql 41 (.tmp 3) (.const (.slice none 0 0)) a0 (.slice none 0 0)) fun t0=>forkW t0 (Q (.slice none 0 0) A) (bothW (buildSliceA Tp A 41 0 []) fun t1 At1=>bothW (appendA Tp At1 41 41 t1 a0) fun t2 At2=>Q t2 At2)):=by kernel_rfl
theorem w136:Wf1 136 8 Tz Lz:=wf1 (fun _=>by kernel_rfl) (by decide) fun _=>rfl
theorem e137 (a0:Value) (A:AW):gE W0 m0 S Q 137 23 Tz Lz [a0] A=(pureW (binA Tp .neq 147 (.tmp 2) (.const (.pointer none)) a0 (.pointer none)) fun t0=>forkW t0 (pureW (nilP a0) fun t1=>pureW (fieldAddrA Tp 171 t1 0) fun t2=>pureW (loadP Tp A 167 t2) fun t3=>pureW (binA Tp .neq 167 (.tmp 8) (.const (.pointer none)) t3 (.pointer none)) fun t4=>forkW t4 (pureW (nilP a0) fun t5=>pureW (fieldAddrA Tp 171 t5 0) fun t6=>pureW (loadP Tp A 167 t6) fun t7=>pureW (nilP a0) fun t8=>pureW (fieldAddrA Tp 171 t8 0) fun t9=>pureW (loadP Tp A 167 t9) fun t10=>pureW (nilP t7) fun t11=>pureW (fieldAddrA Tp 169 t11 0) fun t12=>effW (storeP Tp A 41 t12 (.slice none 0 0)) fun At13=>pureW (nilP t10) fun t14=>pureW (fieldAddrA Tp 169 t14 2) fun t15=>effW (storeP Tp At13 4 t15 (.bool true)) fun At16=>Q (.tuple ⟨[]⟩) At16) (Q (.tuple ⟨[]⟩) A)) (Q (.tuple ⟨[]⟩) A)):=by kernel_rfl
theorem w137:Wf1 137 23 Tz Lz:=wf1 (fun _=>by kernel_rfl) (by decide) fun _=>rfl
theorem e138 (a0 a1:Value) (A:AW):gE W0 m0 S Q 138 46 Tz Lz [a0,a1] A=(Wc Tp theX W0 m0 166 [a0] A fun t0 At0=>forkW t0 (Wc Tp theX W0 m0 137 [a0] At0 fun t1 At1=>Q (.slice none 0 0) At1) (pureW (binA Tp .lss 3 (.tmp 9) (.const (.int .i64 0)) a1 (.int .i64 0)) fun t2=>forkW t2 (Wc Tp theX W0 m0 137 [a0] At0 fun t3 At3=>Q (.slice none 0 0) At3) (Wc Tp theX W0 m0 167 [a0] At0 fun t4 At4=>pureW (binA Tp .gtr 3 (.tmp 13) (.tmp 15) a1 t4) fun t5=>forkW t5 (Wc Tp theX W0 m0 137 [a0] At4 fun t6 At6=>Q (.slice none 0 0) At6) (pureW (nilP a0) fun t7=>pureW (fieldAddrA Tp 171 t7 0) fun t8=>pureW (loadP Tp At4 167 t8) fun t9=>pureW (nilP t9) fun t10=>pureW (fieldAddrA Tp 169 t10 0) fun t11=>pureW (loadP Tp At4 41 t11) fun t12=>pureW (sliceA Tp At4 41 t12 none (some a1) none) fun t13=>Wc Tp theX W0 m0 136 [t13] At4 fun t14 At14=>pureW (nilP a0) fun t15=>pureW (fieldAddrA Tp 171 t15 0) fun t16=>pureW (loadP Tp At14 167 t16) fun t17=>pureW (nilP a0) fun t18=>pureW (fieldAddrA Tp 171 t18 0) fun t19=>pureW (loadP Tp At14 167 t19) fun t20=>pureW (nilP t20) fun t21=>pureW (fieldAddrA Tp 169 t21 0) fun t22=>pureW (loadP Tp At14 41 t22) fun t23=>pureW (sliceA Tp At14 41 t23 (some a1) none none) fun t24=>pureW (nilP t17) fun t25=>pureW (fieldAddrA Tp 169 t25 0) fun t26=>effW (storeP Tp At14 41 t26 t24) fun At27=>Q t14 At27)))):=by kernel_rfl
theorem w138:Wf2 138 46 Tz Lz:=wf2 (fun _ _=>by kernel_rfl) (by decide) fun _ _=>rfl
noncomputable def T145:Nat→List Item:=fun i=>match i with
 | 0=>[(.code (cd 145 [1,1,0,1,0,0])),(.inLoop (cd 145 [1,1,0,1,0,0])),(.inBlock 0),(.code (cd 145 [1,1,1]))]
 | _=>[]
def L145:Nat→List Tmp:=fun i=>match i with
 | 0=>[1,5,10,11]
 | _=>[]
theorem e145 (a0 a1:Value) (A:AW):gE W0 m0 S Q 145 38 T145 L145 [a0,a1] A=(pureW (unA Tp .xor a0) fun t0=>pureW (lenA Tp A 41 a1) fun t1=>cutW (T145 0) (T145 0) (S 0 [a1,t0,t1,(.int .i64 0)] A)):=by kernel_rfl
theorem l145_0 (d:Nat→Value) (A:AW):gL W0 m0 S Q 145 38 T145 L145 d 0 A=(pureW (binA Tp .lss 3 (.tmp 11) (.tmp 10) (d 11) (d 10)) fun t0=>forkW t0 (pureW (indexAddrA Tp 41 (d 1) (d 11)) fun t1=>pureW (loadP Tp A 5 t1) fun t2=>bothW (convertA Tp A 5 24 t2) fun t3 At3=>pureW (binA Tp .xor 24 (.tmp 14) (.tmp 19) (d 5) t3) fun t4=>pureW (binA Tp .shr 24 (.tmp 21) (.const (.int .u64 4)) t4 (.int .u64 4)) fun t5=>pureW (binA Tp .and 24 (.tmp 23) (.const (.int .u32 15)) t4 (.int .u32 15)) fun t6=>pureW (indexAddrA Tp 204 (.pointer (some ⟨0,0,none⟩)) t6) fun t7=>pureW (loadP Tp At3 24 t7) fun t8=>pureW (binA Tp .xor 24 (.tmp 22) (.tmp 26) t5 t8) fun t9=>pureW (binA Tp .shr 24 (.tmp 28) (.const (.int .u64 4)) t9 (.int .u64 4)) fun t10=>pureW (binA Tp .and 24 (.tmp 30) (.const (.int .u32 15)) t9 (.int .u32 15)) fun t11=>pureW (indexAddrA Tp 204 (.pointer (some ⟨0,0,none⟩)) t11) fun t12=>pureW (loadP Tp At3 24 t12) fun t13=>pureW (binA Tp .xor 24 (.tmp 29) (.tmp 33) t10 t13) fun t14=>pureW (binA Tp .add 3 (.tmp 11) (.const (.int .i64 1)) (d 11) (.int .i64 1)) fun t15=>cutW (T145 0) (T145 0) (S 0 [(d 1),t14,(d 10),t15] At3)) (pureW (unA Tp .xor (d 5)) fun t16=>Q t16 A)):=by kernel_rfl
theorem w145:Wf2 145 38 T145 L145:=wf2 (fun _ _=>by kernel_rfl) (by decide) fun _ _=>rfl
theorem c145:Cutf 145 38 T145 L145:=cutf (by decide)
theorem e166 (a0:Value) (A:AW):gE W0 m0 S Q 166 12 Tz Lz [a0] A=(pureW (binA Tp .eql 147 (.tmp 3) (.const (.pointer none)) a0 (.pointer none)) fun t0=>forkW t0 (Q (.bool true) A) (pureW (nilP a0) fun t1=>pureW (fieldAddrA Tp 171 t1 0) fun t2=>pureW (loadP Tp A 167 t2) fun t3=>Wc Tp theX W0 m0 186 [t3] A fun t4 At4=>Q t4 At4)):=by kernel_rfl
theorem w166:Wf1 166 12 Tz Lz:=wf1 (fun _=>by kernel_rfl) (by decide) fun _=>rfl
theorem e167 (a0:Value) (A:AW):gE W0 m0 S Q 167 10 Tz Lz [a0] A=(pureW (binA Tp .eql 147 (.tmp 3) (.const (.pointer none)) a0 (.pointer none)) fun t0=>forkW t0 (Q (.int .i64 0) A) (pureW (nilP a0) fun t1=>pureW (fieldAddrA Tp 171 t1 0) fun t2=>pureW (loadP Tp A 167 t2) fun t3=>Wc Tp theX W0 m0 187 [t3] A fun t4 At4=>Q t4 At4)):=by kernel_rfl
theorem w167:Wf1 167 10 Tz Lz:=wf1 (fun _=>by kernel_rfl) (by decide) fun _=>rfl
theorem e186 (a0:Value) (A:AW):gE W0 m0 S Q 186 18 Tz Lz [a0] A=(pureW (binA Tp .eql 167 (.tmp 3) (.const (.pointer none)) a0 (.pointer none)) fun t0=>forkW t0 (Q (.bool true) A) (pureW (nilP a0) fun t1=>pureW (fieldAddrA Tp 169 t1 2) fun t2=>pureW (loadP Tp A 4 t2) fun t3=>forkW t3 (Q (.bool true) A) (pureW (nilP a0) fun t4=>pureW (fieldAddrA Tp 169 t4 1) fun t5=>pureW (loadP Tp A 4 t5) fun t6=>pureW (unA Tp .not t6) fun t7=>Q t7 A))):=by kernel_rfl
theorem w186:Wf1 186 18 Tz Lz:=wf1 (fun _=>by kernel_rfl) (by decide) fun _=>rfl
theorem e187 (a0:Value) (A:AW):gE W0 m0 S Q 187 10 Tz Lz [a0] A=(pureW (binA Tp .eql 167 (.tmp 3) (.const (.pointer none)) a0 (.pointer none)) fun t0=>forkW t0 (Q (.int .i64 0) A) (pureW (nilP a0) fun t1=>pureW (fieldAddrA Tp 169 t1 0) fun t2=>pureW (loadP Tp A 41 t2) fun t3=>pureW (lenA Tp A 41 t3) fun t4=>Q t4 A)):=by kernel_rfl
theorem w187:Wf1 187 10 Tz Lz:=wf1 (fun _=>by kernel_rfl) (by decide) fun _=>rfl
end
end Go.Proofs.YtbchfeibhoobeaaGreatDoor
namespace Go.Abs
def bytesV (l:List UInt8):List Value:=l.map fun b=>.int .u8 b.toNat
theorem bytesV_append (a b:List UInt8):bytesV (a++b)=bytesV a++bytesV b:=List.map_append
theorem bytesV_length (a:List UInt8):(bytesV a).length=a.length:=List.length_map _
theorem bytesV_one (a:List UInt8):(bytesV a).all oneCell=true:=by
 rw [List.all_eq_true]
 intro x hx
 obtain ⟨b,_,rfl⟩:=List.mem_map.1 hx
 rfl
theorem bytesV_noT (a:List UInt8):(bytesV a).all (fun v=>!isTuple v)=true:=by
 rw [List.all_eq_true]
 intro x hx
 obtain ⟨b,_,rfl⟩:=List.mem_map.1 hx
 rfl
theorem bytesV_get {a:List UInt8} {i:Nat} {b:UInt8} (h:a[i]? =some b):(bytesV a)[i]? =some (.int .u8 b.toNat):=by
 unfold bytesV
 rw [List.getElem?_map,h];rfl
theorem bytesOf_bytesV:∀ l:List UInt8,bytesOfCells (bytesV l)=some l
 | []=>rfl
 | b::r=>by
  show (match bytesOfCells (bytesV r) with | some l=>some (UInt8.ofNat ((b.toNat:Int)).toNat::l) | none=>none)=_
  rw [bytesOf_bytesV r]
  simp
theorem takeCells_pre:∀ (l rest:List Value),l.all (fun v=>!isTuple v)=true→takeCells (l++rest) l.length=some l
 | [],_,_=>by simp [takeCells]
 | v::r,rest,h=>by
  simp only [List.all_cons,Bool.and_eq_true,Bool.not_eq_true'] at h
  simp [takeCells,h.1,takeCells_pre r rest h.2]
theorem takeAny_pre:∀ (l rest:List Value),takeAny (l++rest) l.length=some l
 | [],_=>by simp [takeAny]
 | v::r,rest=>by simp [takeAny,takeAny_pre r rest]
def RdB (A:AW) (v:Value) (l:List UInt8) (F:List Nat):Prop:=
 (l=[]∧F=[]∧∃ o c,v=.slice o 0 c)∨∃ r o c cs e f b ro rest,v=.slice (some ⟨r,o,none⟩) l.length c∧A.get r=some (.row cs e f b ro)∧f < A.next∧F=[f]∧cs.drop o=bytesV l++rest
theorem RdB.keeps {A A':AW} {v:Value} {l:List UInt8} {F S:List Nat} (h:RdB A v l F) (k:Keeps A A' S) (hd:∀ x∈F,x∉S):RdB A' v l F:=by
 rcases h with h | ⟨r,o,c,cs,e,f,b,ro,rest,h1,h2,h3,rfl,h4⟩
 ·exact .inl h
 ·exact .inr ⟨r,o,c,cs,e,f,b,ro,rest,h1,k.get r _ h2 h3 (hd f (by simp)),Nat.lt_of_lt_of_le h3 k.next,rfl,h4⟩
theorem RdB.one {A:AW} {v:Value} {l:List UInt8} {F:List Nat} (h:RdB A v l F):oneCell v=true∧isTuple v=false:=by
 rcases h with ⟨_,_,o,c,rfl⟩ | ⟨r,o,c,cs,e,f,b,ro,rest,rfl,_⟩ <;> exact ⟨rfl,rfl⟩
theorem RdB.lt {A:AW} {v:Value} {l:List UInt8} {F:List Nat} (h:RdB A v l F):∀ x∈F,x < A.next:=by
 rcases h with ⟨_,rfl,_⟩ | ⟨r,o,c,cs,e,f,b,ro,rest,_,_,h3,rfl,_⟩
 ·simp
 ·simpa using h3
theorem RdB.slice {A:AW} {v:Value} {l:List UInt8} {F:List Nat} (h:RdB A v l F):∃ a c,v=.slice a l.length c:=by
 rcases h with ⟨rfl,_,o,c,rfl⟩ | ⟨r,o,c,cs,e,f,b,ro,rest,rfl,_⟩ <;> exact ⟨_,_,rfl⟩
theorem RdB.src {A:AW} {v:Value} {l:List UInt8} {F:List Nat} (h:RdB A v l F):sourceA A 1 v=some (l.length,bytesV l):=by
 rcases h with ⟨rfl,_,o,c,rfl⟩ | ⟨r,o,c,cs,e,f,b,ro,rest,rfl,h2,_,_,h4⟩
 ·cases o <;> rfl
 ·unfold sourceA
  simp only [Nat.mul_one,cells_row h2,h4]
  have:=takeCells_pre (bytesV l) rest (bytesV_noT l)
  rw [bytesV_length] at this
  rw [this]
theorem RdB.cell {A:AW} {l:List UInt8} {F:List Nat} {r o c i:Nat} {b:UInt8} (h:RdB A (.slice (some ⟨r,o,none⟩) l.length c) l F) (hi:l[i]? =some b):A.cell? ⟨r,o+i,none⟩=some (.int .u8 b.toNat):=by
 rcases h with ⟨rfl,_⟩ | ⟨r',o',c',cs,e,f,b',ro,rest,hv,h2,_,_,h4⟩
 ·simp at hi
 ·simp only [Value.slice.injEq,Option.some.injEq,Addr.mk.injEq,and_true] at hv
  obtain ⟨⟨rfl,rfl⟩,_⟩:=hv
  rw [cell_row h2]
  refine cellOf_get ?_ rfl
  rw [← List.getElem?_drop,h4,List.getElem?_append_left (by rw [bytesV_length];exact (List.getElem?_eq_some_iff.1 hi).1)]
  exact bytesV_get hi
structure BT (P:Program) (tb ts tst:TypeId):Prop where
 sl:sliceElemT P ts=some tb
 sz:szT P tb=some 1
 by_:bytesT P tb=some 1
 hz:hasZero P tb 1=true
 us:P.underlying ts=some (.slice tb)
 ub:P.underlying tb=some (.int .u8)
 ust:P.underlying tst=some .string
 zt:zeroT P tb=some (.int .u8 0)
 ln:∀ A a n c,lenA P A ts (.slice a n c)=some (.int .i64 (n:Nat))
 ia:∀ b o n c i k,indexAddrA P ts (.slice (some ⟨b,o,none⟩) n c) (.int k (.ofNat i))=(bif Nat.blt i n then some (.pointer (some (addA ⟨b,o,none⟩ (i * 1)))) else none)
 ld:∀ A a,loadP P A tb (.pointer (some a))=A.cell? a
 st:∀ A a v,storeP P A tb (.pointer (some a)) v=(bif Nat.beq v.cells.toList.length 1 then A.setCells a v.cells.toList else none)
section
variable {P:Program} {tb ts tst:TypeId}
theorem RdB.len {A:AW} {v:Value} {l:List UInt8} {F:List Nat} (T:BT P tb ts tst) (h:RdB A v l F):lenA P A ts v=some (.int .i64 (l.length:Nat)):=by
 obtain ⟨a,c,rfl⟩:=h.slice
 exact T.ln _ _ _ _
theorem RdB.str {A:AW} {v:Value} {l:List UInt8} {F:List Nat} (T:BT P tb ts tst) (h:RdB A v l F):convertA P A ts tst v=.ok (.string ⟨⟨l⟩⟩) A:=by
 rcases h with ⟨rfl,_,o,c,rfl⟩ | ⟨r,o,c,cs,e,f,b,ro,rest,rfl,h2,_,_,h4⟩
 ·unfold convertA
  cases o with
  | none=>simp only [T.us,T.ust,T.ub];rfl
  | some a=>simp only [T.us,T.ust,T.ub,AW.cells?,bytesOfCells]
 ·unfold convertA
  simp only [T.us,T.ust,T.ub,cells_row h2,h4]
  have:=takeCells_pre (bytesV l) rest (bytesV_noT l)
  rw [bytesV_length] at this
  simp only [this,bytesOf_bytesV]
theorem RdB.at {A:AW} {v:Value} {l:List UInt8} {F:List Nat} (T:BT P tb ts tst) (h:RdB A v l F) {i:Nat} {b:UInt8} (hi:l[i]? =some b):
  ∃ a,indexAddrA P ts v (.int .i64 (i:Int))=some (.pointer (some a))∧loadP P A tb (.pointer (some a))=some (.int .u8 b.toNat):=by
 have h0:=h
 rcases h with ⟨rfl,_⟩ | ⟨r,o,c,cs,e,f,b',ro,rest,rfl,h2,h3,h5,h4⟩
 ·simp at hi
 ·have hlt:i < l.length:=(List.getElem?_eq_some_iff.1 hi).1
  refine ⟨addA ⟨r,o,none⟩ (i * 1),?_,?_⟩
  ·show indexAddrA P ts _ (.int .i64 (.ofNat i))=_
   rw [T.ia,blt_true.2 hlt,cond_true]
  ·have e:addA ⟨r,o,none⟩ (i * 1)=⟨r,o+i,none⟩:=by
    unfold addA
    cases hb:Nat.beq (i * 1) 0 with
    | true=>rw [cond_true];have:=Nat.eq_of_beq_eq_true hb;rw [Nat.mul_one] at this;rw [this];rfl
    | false=>rw [cond_false,Nat.mul_one]
   rw [T.ld,e]
   exact h0.cell hi
theorem src_slice {A:AW} {v:Value} {l:List UInt8} {F:List Nat} (T:BT P tb ts tst) (h:RdB A v l F):sourceZ P A tb ts 1 v=some (l.length,bytesV l):=by
 unfold sourceZ
 rw [T.us]
 exact h.src
def Buf (tb:TypeId) (A:AW) (v:Value) (l:List UInt8) (F:List Nat):Prop:=
 (v=.slice none 0 0∧l=[]∧F=[])∨(∃ b f,v=.slice (some ⟨b,0,none⟩) l.length (capU+l.length)∧OwnAt 0 A tb 1 l.length (bytesV l) b f∧F=[f])∨
 ∃ b c pad,v=.slice (some ⟨b,0,none⟩) l.length c∧c < room∧Row1 A b (bytesV l++pad) tb∧l.length+pad.length=c∧pad.all oneCell=true∧F=[b]
theorem Buf.nil (tb:TypeId) (A:AW):Buf tb A (.slice none 0 0) [] []:=.inl ⟨rfl,rfl,rfl⟩
theorem Buf.keeps {A A':AW} {v:Value} {l:List UInt8} {F S:List Nat} (h:Buf tb A v l F) (k:Keeps A A' S) (hd:∀ x∈F,x∉S):Buf tb A' v l F:=by
 rcases h with h | ⟨b,f,rfl,h,rfl⟩ | ⟨b,c,pad,h1,h2,h3,h4,h5,rfl⟩
 ·exact .inl h
 ·have:=OwnG.keeps (v:=.slice (some ⟨b,0,none⟩) l.length (capU+l.length)) (.inr ⟨b,f,rfl,h,rfl⟩) k hd
  rcases this with ⟨h1,_⟩ | ⟨b',f',h1,h2,h3⟩
  ·cases h1
  ·exact .inr (.inl ⟨b',f',h1,h2,h3⟩)
 ·exact .inr (.inr ⟨b,c,pad,h1,h2,h3.keeps k (hd b (by simp)),h4,h5,rfl⟩)
theorem Buf.rd {A:AW} {v:Value} {l:List UInt8} {F:List Nat} (h:Buf tb A v l F):RdB A v l F:=by
 rcases h with ⟨rfl,rfl,rfl⟩ | ⟨b,f,rfl,h,rfl⟩ | ⟨b,c,pad,rfl,h2,h3,h4,h5,rfl⟩
 ·exact .inl ⟨rfl,rfl,none,0,rfl⟩
 ·exact .inr ⟨b,0,_,_,_,f,0,false,[],rfl,h.row,h.ltf,rfl,by simp⟩
 ·exact .inr ⟨b,0,_,_,_,b,0,false,pad,rfl,h3.row,h3.lt,rfl,by simp⟩
theorem Buf.lt {A:AW} {v:Value} {l:List UInt8} {F:List Nat} (h:Buf tb A v l F):∀ x∈F,x < A.next:=h.rd.lt
theorem setL_mid:∀ (a mid new rest:List Value),mid.length=new.length→setL (a++(mid++rest)) a.length new=a++(new++rest)
 | a,[],[],rest,_=>by simp [setL]
 | a,m::ms,n::ns,rest,h=>by
  simp only [List.length_cons,Nat.add_right_cancel_iff] at h
  have:=setL_mid (a++[n]) ms ns rest h
  simp only [setL]
  have e:(a++(m::ms++rest)).set a.length n=(a++[n])++(ms++rest):=by simp
  rw [e]
  have e2:a.length+1=(a++[n]).length:=by simp
  rw [e2,this]
  simp
 | a,[],_::_,rest,h=>by simp at h
 | a,_::_,[],rest,h=>by simp at h
theorem appendBuf {A:AW} {t2:TypeId} {v x:Value} {l new:List UInt8} {F:List Nat} {K:Value→AW→Prop} (T:BT P tb ts tst) (h:Buf tb A v l F) (hx:sourceZ P A tb t2 1 x=some (new.length,bytesV new)) (hf:Fine A) (hmax:A.next < maxId) (hr:l.length+new.length < room)
  (hk:∀ v' A' F',Buf tb A' v' (l++new) F'→Keeps A A' F→(∀ x∈F',x∈F∨A.next≤x)→A'.next≤A.next+1→Fine A'→K v' A'):bothW (appendA P A ts t2 v x) K:=by
 have hroom:(Nat.blt (l.length+new.length) room&&Nat.blt ((l.length+new.length) * 1) room&&hasZero P tb 1)=true:=by rw [Nat.mul_one,blt_true.2 hr,T.hz];rfl
 rcases Nat.eq_zero_or_pos new.length with h0 | hpos
 ·have hnew:new=[]:=List.eq_nil_of_length_eq_zero h0
  subst hnew
  obtain ⟨a,c,rfl⟩:=h.rd.slice
  have e:appendA P A ts t2 (.slice a l.length c) x=.ok (.slice a l.length c) A:=by
   unfold appendA
   simp only [T.sl,T.sz,T.by_,hx]
   simp only [List.length_nil] at hroom ⊢
   rw [hroom]
   rfl
  rw [e]
  refine bothW_ok.2 (hk _ A F (by rw [List.append_nil];exact h) (.refl _ _) (fun x hx=>.inl hx) (by omega) hf)
 ·obtain ⟨m,hm⟩:∃ m,new.length=m+1:=⟨new.length - 1,by omega⟩
  rcases h with ⟨rfl,rfl,rfl⟩ | ⟨b,f,rfl,ho,rfl⟩ | ⟨b,c,pad,rfl,hc,h3,h4,h5,rfl⟩
  ·have hx':sourceZ P A tb t2 (0+1) x=some (m+1,bytesV new):=by rw [← hm];exact hx
   rw [hm] at hroom
   rw [appendA_nil T.sl T.sz T.by_ hx' hroom hmax]
   have hfp:=hf.push (.row (bytesV new) tb A.next 0 false) hmax
   have hrow:(A.push (.row (bytesV new) tb A.next 0 false)).get A.next=some (.row (bytesV new) tb A.next 0 false):=by rw [AW.push_get _ hmax,if_pos rfl]
   refine bothW_ok.2 (hk _ _ [A.next] (.inr (.inl ⟨A.next,A.next,by simp [hm],?_,rfl⟩)) ((AW.push_ext _ hmax).keeps hf) (fun x hx=>.inr (by simp at hx;omega)) (by rw [AW.push_next];omega) hfp)
   refine ⟨by simp [hm],by rw [hrow];rfl,by simp [bytesV_length],Nat.zero_le _,Nat.zero_le _,by rw [AW.push_next];omega,fun i hi=>?_⟩
   have:(A.push (.row (bytesV new) tb A.next 0 false)).members A.next=[A.next]:=hf.alone (Nat.le_refl _)
   rw [this] at hi
   obtain rfl:i=A.next:=by simpa using hi
   exact ⟨Nat.zero_le _,by rw [AW.push_next];omega,_,_,_,_,hrow⟩
  ·have hx':sourceZ P A tb t2 (0+1) x=some (m+1,bytesV new):=by rw [← hm];exact hx
   refine appendG (P:=P) (size:=0) T.sl T.sz T.by_ T.hz hx' (by rw [bytesV_length,hm];omega) (bytesV_one new) (.inr ⟨b,f,rfl,ho,rfl⟩) hf hmax (by omega) (by omega) fun v' A' F' hv hk' hF' hn hf'=>?_
   refine hk v' A' F' ?_ hk' (fun x hx=>?_) (by omega) hf'
   ·rcases hv with ⟨_,hz,_⟩ | ⟨b',f',h1,h2,h3⟩
    ·omega
    ·refine .inr (.inl ⟨b',f',?_,?_,h3⟩)
     ·rw [h1,List.length_append,hm]
     ·rw [List.length_append,hm,bytesV_append];exact h2
   ·rcases hF' x hx with h | h
    ·exact .inl h
    ·exact .inr (by omega)
  ·have hlen:(bytesV l++pad).length=c:=by rw [List.length_append,bytesV_length];exact h4
   have hcu:Nat.ble capU c=false:=ble_false.2 (by unfold room at hc;unfold capU;omega)
   by_cases hfit:l.length+new.length≤c
   ·
    have hb:=h3.lt
    obtain ⟨A',h1,w⟩:=setCells_own (new:=bytesV new) (off:=l.length) h3.row h3.mem (by rw [hlen,bytesV_length];exact hfit) (bytesV_one new) (by omega)
    have e:appendA P A ts t2 (.slice (some ⟨b,0,none⟩) l.length c) x=.ok (.slice (some ⟨b,0,none⟩) (l.length+new.length) c) A':=by
     unfold appendA
     simp only [T.sl,T.sz,T.by_,hx]
     rw [hroom]
     rw [hm]
     have ha:addA ⟨b,0,none⟩ (l.length * 1)=⟨b,l.length,none⟩:=by
      unfold addA
      cases hb:Nat.beq (l.length * 1) 0 with
      | true=>rw [cond_true];have:=Nat.eq_of_beq_eq_true hb;rw [Nat.mul_one] at this;rw [this]
      | false=>rw [cond_false,Nat.mul_one,Nat.zero_add]
     have hfit':Nat.ble (l.length+(m+1)) c=true:=ble_true.2 (by omega)
     simp only [hcu,cond_false,hfit',cond_true,ha,h1,Bool.not_true]
    rw [e]
    have hcs:setL (bytesV l++pad) l.length (bytesV new)=bytesV (l++new)++pad.drop new.length:=by
     have hp:pad=pad.take new.length++pad.drop new.length:=(List.take_append_drop _ _).symm
     conv=>lhs;rw [hp]
     have hl2:l.length=(bytesV l).length:=(bytesV_length l).symm
     conv=>lhs;arg 2;rw [hl2]
     rw [setL_mid (bytesV l) (pad.take new.length) (bytesV new) (pad.drop new.length) (by rw [List.length_take,bytesV_length];omega),bytesV_append,List.append_assoc]
    refine bothW_ok.2 (hk _ A' [b] (.inr (.inr ⟨b,c,pad.drop new.length,by rw [List.length_append],hc,?_,by rw [List.length_append,List.length_drop];omega,?_,rfl⟩)) (w.keeps h3.row) (fun x hx=>.inl hx) (by rw [w.next];omega) (w.fine hf h3.row))
    ·rw [← hcs]
     exact ⟨w.row,by rw [w.mem];exact h3.mem,by rw [w.next];exact h3.lt⟩
    ·rw [List.all_eq_true] at h5 ⊢
     exact fun x hx=>h5 x (List.mem_of_mem_drop hx)
   ·
    have hold:(match (some ⟨b,0,none⟩:Option Addr) with | some a=>A.cellsAny a (l.length * 1) | none=>some [])=some (bytesV l):=by
     show A.cellsAny ⟨b,0,none⟩ (l.length * 1)=_
     rw [Nat.mul_one]
     unfold AW.cellsAny
     cases hl:l.length with
     | zero=>
      have:l=[]:=List.eq_nil_of_length_eq_zero hl
      subst this;rfl
     | succ k=>
      simp only [h3.row,List.drop_zero]
      have:=takeAny_pre (bytesV l) pad
      rw [bytesV_length,hl] at this
      exact this
    have hnew:A.new (.row (bytesV l++bytesV new) tb A.next 0 false)=some (A.next,A.push (.row (bytesV l++bytesV new) tb A.next 0 false)):=by
     unfold AW.new
     simp only [blt_true.2 hmax,cond_true]
     rfl
    have e:appendA P A ts t2 (.slice (some ⟨b,0,none⟩) l.length c) x=.ok (.slice (some ⟨A.next,0,none⟩) (l.length+new.length) (capU+(l.length+new.length))) (A.push (.row (bytesV l++bytesV new) tb A.next 0 false)):=by
     unfold appendA
     simp only [T.sl,T.sz,T.by_,hx]
     rw [hroom]
     rw [hm]
     have hfit':Nat.ble (l.length+(m+1)) c=false:=ble_false.2 (by omega)
     simp only [hcu,cond_false,hfit',Bool.not_true]
     simp only at hold
     rw [hold]
     simp only [hnew]
    rw [e]
    have hfp:=hf.push (.row (bytesV l++bytesV new) tb A.next 0 false) hmax
    have hrow:(A.push (.row (bytesV l++bytesV new) tb A.next 0 false)).get A.next=some (.row (bytesV l++bytesV new) tb A.next 0 false):=by rw [AW.push_get _ hmax,if_pos rfl]
    refine bothW_ok.2 (hk _ _ [A.next] (.inr (.inl ⟨A.next,A.next,by rw [List.length_append],?_,rfl⟩)) (((AW.push_ext _ hmax).keeps hf).more (by simp)) (fun x hx=>.inr (by simp at hx;omega)) (by rw [AW.push_next];omega) hfp)
    refine ⟨by rw [List.length_append];omega,by rw [hrow,bytesV_append],by rw [bytesV_length,Nat.mul_one],Nat.zero_le _,Nat.zero_le _,by rw [AW.push_next];omega,fun i hi=>?_⟩
    have:(A.push (.row (bytesV l++bytesV new) tb A.next 0 false)).members A.next=[A.next]:=hf.alone (Nat.le_refl _)
    rw [this] at hi
    obtain rfl:i=A.next:=by simpa using hi
    exact ⟨Nat.zero_le _,by rw [AW.push_next];omega,_,_,_,_,hrow⟩
theorem zerosA_one (v:Value):∀ n,zerosA [v] n=List.replicate n v
 | 0=>rfl
 | n+1=>by rw [zerosA,zerosA_one v n];rfl
theorem makeBytes {A:AW} {k k2:IntKind} {n c:Nat} {K:Value→AW→Prop} (T:BT P tb ts tst) (hf:Fine A) (hmax:A.next < maxId) (hn:n≤c) (hc:c < room)
  (hk:∀ A',Made A A' (List.replicate c (.int .u8 0)) tb→K (.slice (some ⟨A.next,0,none⟩) n c) A'):bothW (makeSliceA P A ts (.int k (n:Int)) (.int k2 (c:Int))) K:=by
 have hz:zerosT P tb 1 c=some (List.replicate c (.int .u8 0)):=by
  unfold zerosT
  rw [T.zt]
  cases c with
  | zero=>rfl
  | succ c=>
   have:Nat.beq ((c+1) * 1) 0=false:=beq_false.2 (by omega)
   simp only [this,cond_false]
   show (bif Nat.beq 1 1 then some (zerosA [.int .u8 0] (c+1)) else none)=_
   rw [zerosA_one];rfl
 have hnr:A.newRow (List.replicate c (.int .u8 0)) tb=some (⟨A.next,0,none⟩,A.push (.row (List.replicate c (.int .u8 0)) tb A.next 0 false)):=by
  unfold AW.newRow AW.new
  have:(List.replicate c (Value.int .u8 0)).all oneCell=true:=by
   rw [List.all_eq_true];intro x hx;rw [List.eq_of_mem_replicate hx];rfl
  simp only [this,cond_true,blt_true.2 hmax]
  rfl
 have e:makeSliceA P A ts (.int k (n:Int)) (.int k2 (c:Int))=.ok (.slice (some ⟨A.next,0,none⟩) n c) (A.push (.row (List.replicate c (.int .u8 0)) tb A.next 0 false)):=by
  show makeSliceA P A ts (.int k (.ofNat n)) (.int k2 (.ofNat c))=_
  unfold makeSliceA
  simp only [T.sl,T.sz,T.by_,Nat.mul_one,ble_true.2 hn,blt_true.2 hc,Bool.and_self,cond_true,hz,hnr]
 rw [e]
 exact bothW_ok.2 (hk _ ⟨AW.push_ext _ hmax,rfl,by rw [AW.push_get _ hmax,if_pos rfl],hf.alone (Nat.le_refl _),hf.push _ hmax⟩)
theorem Made.buf0 {A A':AW} {c:Nat} (m:Made A A' (List.replicate c (.int .u8 0)) tb) (hc:c < room):Buf tb A' (.slice (some ⟨A.next,0,none⟩) 0 c) [] [A.next]:=
 .inr (.inr ⟨A.next,c,List.replicate c (.int .u8 0),rfl,hc,m.row1,by simp,by rw [List.all_eq_true];intro x hx;rw [List.eq_of_mem_replicate hx];rfl,rfl⟩)
end
section
variable {P:Program}
theorem quiet_fieldR {d:Nat} {xs ys:Array Value} {f:Field} {fs:List Field} {a b:Value} {r:Bool} (hn:decide (f.name≠ "_")=true) (h1:quiet P (part f.type xs f.offset)=some a) (h2:quiet P (part f.type ys f.offset)=some b) (h3:quiet P (Op.equalIn d f.type a b)=some r):
  quiet P (Op.eqFields d xs ys (f::fs))=if r=true then quiet P (Op.eqFields d xs ys fs) else some false:=by
 simp only [Op.eqFields]
 rw [if_pos (of_decide_eq_true hn)]
 show quiet P (Sem.bind _ _)=_
 rw [quiet_bind,h1]
 simp only [Option.bind_some]
 show quiet P (Sem.bind _ _)=_
 rw [quiet_bind,h2]
 simp only [Option.bind_some]
 show quiet P (Sem.bind _ _)=_
 rw [quiet_bind,h3]
 cases r <;> rfl
theorem bytes_beq (a b:ByteArray):(a==b)=(a.data.toList==b.data.toList):=by
 obtain ⟨⟨x⟩⟩:=a
 obtain ⟨⟨y⟩⟩:=b
 show ((⟨x⟩:Array UInt8)==⟨y⟩)=(x==y)
 simp
theorem quiet_eqs {d:Nat} {t:TypeId} {a b:ByteArray} (h:quiet P (underlying t)=some .string):quiet P (Op.equalIn (d+1) t (.string a) (.string b))=some (a.data.toList==b.data.toList):=by
 rw [quiet_eq_string d t a b h,bytes_beq]
end
end Go.Abs
namespace Go.Proofs.YtbchfeibhoobeaaGreatDoor
open Go.Abs
theorem fa_35_0 (b o:Nat):fieldAddrA Tp 35 (.pointer (some ⟨b,o,none⟩)) 0=some (.pointer (some ⟨b,o,none⟩)):=by kernel_rfl
theorem fa_35_1 (b o:Nat):fieldAddrA Tp 35 (.pointer (some ⟨b,o,none⟩)) 1=some (.pointer (some ⟨b,o+1,none⟩)):=by kernel_rfl
theorem fa_48_0 (b o:Nat):fieldAddrA Tp 48 (.pointer (some ⟨b,o,none⟩)) 0=some (.pointer (some ⟨b,o,none⟩)):=by kernel_rfl
theorem fa_48_1 (b o:Nat):fieldAddrA Tp 48 (.pointer (some ⟨b,o,none⟩)) 1=some (.pointer (some ⟨b,o+1,none⟩)):=by kernel_rfl
theorem fa_48_2 (b o:Nat):fieldAddrA Tp 48 (.pointer (some ⟨b,o,none⟩)) 2=some (.pointer (some ⟨b,o+3,none⟩)):=by kernel_rfl
theorem fa_48_3 (b o:Nat):fieldAddrA Tp 48 (.pointer (some ⟨b,o,none⟩)) 3=some (.pointer (some ⟨b,o+4,none⟩)):=by kernel_rfl
theorem fa_48_4 (b o:Nat):fieldAddrA Tp 48 (.pointer (some ⟨b,o,none⟩)) 4=some (.pointer (some ⟨b,o+5,none⟩)):=by kernel_rfl
theorem fa_58_0 (b o:Nat):fieldAddrA Tp 58 (.pointer (some ⟨b,o,none⟩)) 0=some (.pointer (some ⟨b,o,none⟩)):=by kernel_rfl
theorem fa_58_1 (b o:Nat):fieldAddrA Tp 58 (.pointer (some ⟨b,o,none⟩)) 1=some (.pointer (some ⟨b,o+1,none⟩)):=by kernel_rfl
theorem fa_76_0 (b o:Nat):fieldAddrA Tp 76 (.pointer (some ⟨b,o,none⟩)) 0=some (.pointer (some ⟨b,o,none⟩)):=by kernel_rfl
theorem fa_76_1 (b o:Nat):fieldAddrA Tp 76 (.pointer (some ⟨b,o,none⟩)) 1=some (.pointer (some ⟨b,o+1,none⟩)):=by kernel_rfl
theorem fa_76_2 (b o:Nat):fieldAddrA Tp 76 (.pointer (some ⟨b,o,none⟩)) 2=some (.pointer (some ⟨b,o+2,none⟩)):=by kernel_rfl
theorem fa_76_3 (b o:Nat):fieldAddrA Tp 76 (.pointer (some ⟨b,o,none⟩)) 3=some (.pointer (some ⟨b,o+3,none⟩)):=by kernel_rfl
theorem fa_83_0 (b o:Nat):fieldAddrA Tp 83 (.pointer (some ⟨b,o,none⟩)) 0=some (.pointer (some ⟨b,o,none⟩)):=by kernel_rfl
theorem fa_83_1 (b o:Nat):fieldAddrA Tp 83 (.pointer (some ⟨b,o,none⟩)) 1=some (.pointer (some ⟨b,o+1,none⟩)):=by kernel_rfl
theorem fa_83_2 (b o:Nat):fieldAddrA Tp 83 (.pointer (some ⟨b,o,none⟩)) 2=some (.pointer (some ⟨b,o+2,none⟩)):=by kernel_rfl
theorem fa_83_3 (b o:Nat):fieldAddrA Tp 83 (.pointer (some ⟨b,o,none⟩)) 3=some (.pointer (some ⟨b,o+3,none⟩)):=by kernel_rfl
theorem fa_83_4 (b o:Nat):fieldAddrA Tp 83 (.pointer (some ⟨b,o,none⟩)) 4=some (.pointer (some ⟨b,o+4,none⟩)):=by kernel_rfl
theorem fa_83_5 (b o:Nat):fieldAddrA Tp 83 (.pointer (some ⟨b,o,none⟩)) 5=some (.pointer (some ⟨b,o+5,none⟩)):=by kernel_rfl
theorem fa_83_6 (b o:Nat):fieldAddrA Tp 83 (.pointer (some ⟨b,o,none⟩)) 6=some (.pointer (some ⟨b,o+6,none⟩)):=by kernel_rfl
theorem fa_83_7 (b o:Nat):fieldAddrA Tp 83 (.pointer (some ⟨b,o,none⟩)) 7=some (.pointer (some ⟨b,o+7,none⟩)):=by kernel_rfl
theorem fa_90_0 (b o:Nat):fieldAddrA Tp 90 (.pointer (some ⟨b,o,none⟩)) 0=some (.pointer (some ⟨b,o,none⟩)):=by kernel_rfl
theorem fa_90_1 (b o:Nat):fieldAddrA Tp 90 (.pointer (some ⟨b,o,none⟩)) 1=some (.pointer (some ⟨b,o+1,none⟩)):=by kernel_rfl
theorem fa_90_2 (b o:Nat):fieldAddrA Tp 90 (.pointer (some ⟨b,o,none⟩)) 2=some (.pointer (some ⟨b,o+2,none⟩)):=by kernel_rfl
theorem fa_90_3 (b o:Nat):fieldAddrA Tp 90 (.pointer (some ⟨b,o,none⟩)) 3=some (.pointer (some ⟨b,o+3,none⟩)):=by kernel_rfl
theorem fa_100_0 (b o:Nat):fieldAddrA Tp 100 (.pointer (some ⟨b,o,none⟩)) 0=some (.pointer (some ⟨b,o,none⟩)):=by kernel_rfl
theorem fa_100_1 (b o:Nat):fieldAddrA Tp 100 (.pointer (some ⟨b,o,none⟩)) 1=some (.pointer (some ⟨b,o+1,none⟩)):=by kernel_rfl
theorem fa_169_0 (b o:Nat):fieldAddrA Tp 169 (.pointer (some ⟨b,o,none⟩)) 0=some (.pointer (some ⟨b,o,none⟩)):=by kernel_rfl
theorem fa_169_1 (b o:Nat):fieldAddrA Tp 169 (.pointer (some ⟨b,o,none⟩)) 1=some (.pointer (some ⟨b,o+1,none⟩)):=by kernel_rfl
theorem fa_169_2 (b o:Nat):fieldAddrA Tp 169 (.pointer (some ⟨b,o,none⟩)) 2=some (.pointer (some ⟨b,o+2,none⟩)):=by kernel_rfl
theorem fa_171_0 (b o:Nat):fieldAddrA Tp 171 (.pointer (some ⟨b,o,none⟩)) 0=some (.pointer (some ⟨b,o,none⟩)):=by kernel_rfl
theorem ld_3 (A:AW) (a:Addr):loadP Tp A 3 (.pointer (some a))=A.cell? a:=by kernel_rfl
theorem ld_4 (A:AW) (a:Addr):loadP Tp A 4 (.pointer (some a))=A.cell? a:=by kernel_rfl
theorem ld_5 (A:AW) (a:Addr):loadP Tp A 5 (.pointer (some a))=A.cell? a:=by kernel_rfl
theorem ld_9 (A:AW) (a:Addr):loadP Tp A 9 (.pointer (some a))=A.cell? a:=by kernel_rfl
theorem ld_22 (A:AW) (a:Addr):loadP Tp A 22 (.pointer (some a))=A.cell? a:=by kernel_rfl
theorem ld_24 (A:AW) (a:Addr):loadP Tp A 24 (.pointer (some a))=A.cell? a:=by kernel_rfl
theorem ld_27 (A:AW) (a:Addr):loadP Tp A 27 (.pointer (some a))=A.cell? a:=by kernel_rfl
theorem ld_35 (A:AW) (a:Addr):loadP Tp A 35 (.pointer (some a))=(match A.cells? a 2 with | some l=>some (.agg ⟨l⟩) | none=>none):=by kernel_rfl
theorem ld_37 (A:AW) (a:Addr):loadP Tp A 37 (.pointer (some a))=A.cell? a:=by kernel_rfl
theorem ld_41 (A:AW) (a:Addr):loadP Tp A 41 (.pointer (some a))=A.cell? a:=by kernel_rfl
theorem ld_46 (A:AW) (a:Addr):loadP Tp A 46 (.pointer (some a))=A.cell? a:=by kernel_rfl
theorem ld_48 (A:AW) (a:Addr):loadP Tp A 48 (.pointer (some a))=(match A.cells? a 6 with | some l=>some (.agg ⟨l⟩) | none=>none):=by kernel_rfl
theorem ld_50 (A:AW) (a:Addr):loadP Tp A 50 (.pointer (some a))=A.cell? a:=by kernel_rfl
theorem ld_58 (A:AW) (a:Addr):loadP Tp A 58 (.pointer (some a))=(match A.cells? a 2 with | some l=>some (.agg ⟨l⟩) | none=>none):=by kernel_rfl
theorem ld_74 (A:AW) (a:Addr):loadP Tp A 74 (.pointer (some a))=A.cell? a:=by kernel_rfl
theorem ld_88 (A:AW) (a:Addr):loadP Tp A 88 (.pointer (some a))=A.cell? a:=by kernel_rfl
theorem ld_90 (A:AW) (a:Addr):loadP Tp A 90 (.pointer (some a))=(match A.cells? a 4 with | some l=>some (.agg ⟨l⟩) | none=>none):=by kernel_rfl
theorem ld_100 (A:AW) (a:Addr):loadP Tp A 100 (.pointer (some a))=(match A.cells? a 2 with | some l=>some (.agg ⟨l⟩) | none=>none):=by kernel_rfl
theorem ld_167 (A:AW) (a:Addr):loadP Tp A 167 (.pointer (some a))=A.cell? a:=by kernel_rfl
theorem st_3 (A:AW) (a:Addr) (v:Value):storeP Tp A 3 (.pointer (some a)) v=(bif Nat.beq v.cells.toList.length 1 then A.setCells a v.cells.toList else none):=by kernel_rfl
theorem st_4 (A:AW) (a:Addr) (v:Value):storeP Tp A 4 (.pointer (some a)) v=(bif Nat.beq v.cells.toList.length 1 then A.setCells a v.cells.toList else none):=by kernel_rfl
theorem st_5 (A:AW) (a:Addr) (v:Value):storeP Tp A 5 (.pointer (some a)) v=(bif Nat.beq v.cells.toList.length 1 then A.setCells a v.cells.toList else none):=by kernel_rfl
theorem st_9 (A:AW) (a:Addr) (v:Value):storeP Tp A 9 (.pointer (some a)) v=(bif Nat.beq v.cells.toList.length 1 then A.setCells a v.cells.toList else none):=by kernel_rfl
theorem st_22 (A:AW) (a:Addr) (v:Value):storeP Tp A 22 (.pointer (some a)) v=(bif Nat.beq v.cells.toList.length 1 then A.setCells a v.cells.toList else none):=by kernel_rfl
theorem st_35 (A:AW) (a:Addr) (v:Value):storeP Tp A 35 (.pointer (some a)) v=(bif Nat.beq v.cells.toList.length 2 then A.setCells a v.cells.toList else none):=by kernel_rfl
theorem st_37 (A:AW) (a:Addr) (v:Value):storeP Tp A 37 (.pointer (some a)) v=(bif Nat.beq v.cells.toList.length 1 then A.setCells a v.cells.toList else none):=by kernel_rfl
theorem st_41 (A:AW) (a:Addr) (v:Value):storeP Tp A 41 (.pointer (some a)) v=(bif Nat.beq v.cells.toList.length 1 then A.setCells a v.cells.toList else none):=by kernel_rfl
theorem st_46 (A:AW) (a:Addr) (v:Value):storeP Tp A 46 (.pointer (some a)) v=(bif Nat.beq v.cells.toList.length 1 then A.setCells a v.cells.toList else none):=by kernel_rfl
theorem st_48 (A:AW) (a:Addr) (v:Value):storeP Tp A 48 (.pointer (some a)) v=(bif Nat.beq v.cells.toList.length 6 then A.setCells a v.cells.toList else none):=by kernel_rfl
theorem st_58 (A:AW) (a:Addr) (v:Value):storeP Tp A 58 (.pointer (some a)) v=(bif Nat.beq v.cells.toList.length 2 then A.setCells a v.cells.toList else none):=by kernel_rfl
theorem st_88 (A:AW) (a:Addr) (v:Value):storeP Tp A 88 (.pointer (some a)) v=(bif Nat.beq v.cells.toList.length 1 then A.setCells a v.cells.toList else none):=by kernel_rfl
theorem st_90 (A:AW) (a:Addr) (v:Value):storeP Tp A 90 (.pointer (some a)) v=(bif Nat.beq v.cells.toList.length 4 then A.setCells a v.cells.toList else none):=by kernel_rfl
theorem st_100 (A:AW) (a:Addr) (v:Value):storeP Tp A 100 (.pointer (some a)) v=(bif Nat.beq v.cells.toList.length 2 then A.setCells a v.cells.toList else none):=by kernel_rfl
theorem ia_41 (b o n c i:Nat) (k:IntKind):indexAddrA Tp 41 (.slice (some ⟨b,o,none⟩) n c) (.int k (.ofNat i))=(bif Nat.blt i n then some (.pointer (some (addA ⟨b,o,none⟩ (i * 1)))) else none):=by kernel_rfl
theorem ln_9 (A:AW) (s:ByteArray):lenA Tp A 9 (.string s)=some (.int .i64 s.data.toList.length):=by kernel_rfl
theorem ln_22 (A:AW) (a:Option Addr) (n c:Nat):lenA Tp A 22 (.slice a n c)=some (.int .i64 n):=by kernel_rfl
theorem ln_41 (A:AW) (a:Option Addr) (n c:Nat):lenA Tp A 41 (.slice a n c)=some (.int .i64 n):=by kernel_rfl
theorem ln_45 (A:AW) (a:Option Addr) (n c:Nat):lenA Tp A 45 (.slice a n c)=some (.int .i64 n):=by kernel_rfl
theorem ln_46 (A:AW) (a:Option Addr) (n c:Nat):lenA Tp A 46 (.slice a n c)=some (.int .i64 n):=by kernel_rfl
theorem ia_204 (b o i:Nat) (k:IntKind):indexAddrA Tp 204 (.pointer (some ⟨b,o,none⟩)) (.int k (.ofNat i))=(bif Nat.blt i 16 then some (.pointer (some (addA ⟨b,o,none⟩ (i * 1)))) else none):=by kernel_rfl
theorem tb:BT Tp 5 41 9 where
 sl:=by kernel_rfl
 sz:=by kernel_rfl
 by_:=by kernel_rfl
 hz:=by kernel_rfl
 us:=by kernel_rfl
 ub:=by kernel_rfl
 ust:=by kernel_rfl
 zt:=by kernel_rfl
 ln:=ln_41
 ia:=fun b o n c i k=>ia_41 b o n c i k
 ld:=ld_5
 st:=st_5
theorem cv_134_5 (A:AW) (n:Int) (k:IntKind):convertA Tp A 134 5 (.int k n)=.ok (.int .u8 (IntKind.u8.wrap n)) A:=by kernel_rfl
theorem cv_24_5 (A:AW) (n:Int) (k:IntKind):convertA Tp A 24 5 (.int k n)=.ok (.int .u8 (IntKind.u8.wrap n)) A:=by kernel_rfl
theorem cv_3_134 (A:AW) (n:Int) (k:IntKind):convertA Tp A 3 134 (.int k n)=.ok (.int .u64 (IntKind.u64.wrap n)) A:=by kernel_rfl
theorem cv_134_3 (A:AW) (n:Int) (k:IntKind):convertA Tp A 134 3 (.int k n)=.ok (.int .i64 (IntKind.i64.wrap n)) A:=by kernel_rfl
theorem cv_5_134 (A:AW) (n:Int) (k:IntKind):convertA Tp A 5 134 (.int k n)=.ok (.int .u64 (IntKind.u64.wrap n)) A:=by kernel_rfl
theorem cv_5_24 (A:AW) (n:Int) (k:IntKind):convertA Tp A 5 24 (.int k n)=.ok (.int .u32 (IntKind.u32.wrap n)) A:=by kernel_rfl
theorem cv_5_3 (A:AW) (n:Int) (k:IntKind):convertA Tp A 5 3 (.int k n)=.ok (.int .i64 (IntKind.i64.wrap n)) A:=by kernel_rfl
theorem bs41 (A:AW) (n:Int):buildSliceA Tp A 41 1 [(0,.int .u8 n)]=(match A.newRow [.int .u8 n] 5 with | some (a,w')=>.ok (.slice (some a) 1 1) w' | none=>.fail "buildSlice new"):=by kernel_rfl
theorem ut9:quiet Tp (underlying 9)=some .string:=by kernel_rfl
theorem bin_mul {P:Program} {t:TypeId} {xo yo:Operand} {k:IntKind} {a b:Int}:binA P .mul t xo yo (.int k a) (.int k b)=some (.int k (k.wrap (a * b))):=by simp [binA,binOp,Op.intArith,quiet,closedO,closedV,pure]
theorem bin_shr {P:Program} {t:TypeId} {xo yo:Operand} {k k2:IntKind} {a b:Int} (hb:¬ b < 0):binA P .shr t xo yo (.int k a) (.int k2 b)=some (.int k (a.fdiv (2 ^ (min b.toNat k.bits)))):=by simp [binA,binOp,Op.shift,hb,quiet,closedO,closedV,pure]
theorem wrap_u8 {n:Int}:IntKind.u8.wrap n=n % 256:=by
 simp [IntKind.wrap,IntKind.bits,IntKind.signed]
theorem wrap_u64 {n:Int} (h1:0≤n) (h2:n < 18446744073709551616):IntKind.u64.wrap n=n:=by
 simp [IntKind.wrap,IntKind.bits,IntKind.signed]
 omega
theorem ofNat_u8 (n:Nat):((UInt8.ofNat n).toNat:Int)=(n:Int) % 256:=by
 rw [UInt8.toNat_ofNat']
 omega
structure Grow (A A':AW) (n:Nat):Prop where
 keeps:Keeps A A' []
 fine:Fine A'
 next:A'.next≤A.next+n
theorem Grow.le {A A':AW} {n:Nat} (h:Grow A A' n):A.next≤A'.next:=h.keeps.next
theorem Grow.refl {A:AW} (hf:Fine A):Grow A A 0:=⟨.refl _ _,hf,Nat.le_refl _⟩
theorem Grow.trans {A B C:AW} {n m:Nat} (h:Grow A B n) (k:Grow B C m):Grow A C (n+m):=⟨h.keeps.trans k.keeps (by simp),k.fine,by have:=h.next;have:=k.next;omega⟩
theorem Grow.more {A B:AW} {n m:Nat} (h:Grow A B n) (hm:n≤m):Grow A B m:=⟨h.keeps,h.fine,by have:=h.next;omega⟩
theorem Grow.made {A A':AW} {cs:List Value} {e:TypeId} (m:Made A A' cs e) (hf:Fine A):Grow A A' 1:=⟨m.keeps hf,m.fine,by rw [m.next];omega⟩
theorem Grow.own {A B C:AW} {n m:Nat} {F:List Nat} (h:Grow A B n) (k:Keeps B C F) (hF:∀ x∈F,A.next≤x) (hc:C.next≤B.next+m) (hf:Fine C):Grow A C (n+m):=
 ⟨h.keeps.trans k (fun x hx=>.inr (hF x hx)),hf,by have:=h.next;omega⟩
def be (n:Nat):Nat→List UInt8
 | 0=>[]
 | i+1=>UInt8.ofNat (n / 256 ^ i)::be n i
theorem be_length (n:Nat):∀ i,(be n i).length=i
 | 0=>rfl
 | i+1=>by rw [be,List.length_cons,be_length n i]
section
variable {W0:World} {m0:Inj Tp}
theorem wc124 {w:Int} {A:AW} {K:Value→AW→Prop} (hk:K (.bool (w==1 || (w==2 || (w==4 || w==8)))) A):Wc Tp theX W0 m0 124 [.int .i64 w] A K:=by
 refine w124 _ _ (cuts_none (S:=fun _ _ _=>False) fun _ _ _ h=>h) ?_
 rw [e124]
 simp only [bin_eql,pureW_some,forkW_beq]
 refine ⟨fun h=>by subst h;exact hk,fun h1=>⟨fun h=>by subst h;exact hk,fun h2=>⟨fun h=>by subst h;exact hk,fun h3=>⟨fun h=>by subst h;exact hk,fun h4=>?_⟩⟩⟩⟩
 have:(w==1 || (w==2 || (w==4 || w==8)))=false:=by simp [h1,h2,h3,h4]
 rw [this] at hk
 exact hk
end
theorem byte_of (n i:Nat):IntKind.u8.wrap ((n:Int).fdiv (2 ^ (8 * i)))=((UInt8.ofNat (n / 256 ^ i)).toNat:Int):=by
 rw [wrap_u8,ofNat_u8,Int.fdiv_eq_ediv_of_nonneg _ (Int.pow_nonneg (by decide))]
 rw [show (2:Int) ^ (8 * i)=((256 ^ i:Nat):Int) by rw [Int.pow_mul,show (2:Int) ^ 8=((256:Nat):Int) from by decide,Int.natCast_pow]]
 rfl
theorem zeros_be {w i:Nat} (n:Nat) (h:i < w):setL (List.replicate (w - i) (.int .u8 0)++bytesV (be n i)) (w - 1 - i) [.int .u8 ((UInt8.ofNat (n / 256 ^ i)).toNat:Int)]=List.replicate (w - (i+1)) (.int .u8 0)++bytesV (be n (i+1)):=by
 have e1:w - i=(w - 1 - i)+1:=by omega
 have e2:w - (i+1)=w - 1 - i:=by omega
 rw [e1,e2,List.replicate_succ',List.append_assoc]
 have h:=setL_mid (List.replicate (w - 1 - i) (Value.int .u8 0)) [.int .u8 0] [.int .u8 ((UInt8.ofNat (n / 256 ^ i)).toNat:Int)] (bytesV (be n i)) rfl
 rw [List.length_replicate] at h
 rw [h]
 rfl
section
variable {W0:World} {m0:Inj Tp}
theorem wc126 {n w:Nat} {A:AW} {K:Value→AW→Prop} (hf:Fine A) (hA:A.next+1 < maxId) (hw:w≤8)
  (hk:∀ A' v F,Grow A A' 1→Buf 5 A' v (be n w) F→(∀ x∈F,A.next≤x)→K v A'):Wc Tp theX W0 m0 126 [.int .u64 (n:Int),.int .i64 (w:Int)] A K:=by
 let I:Nat→Nat→List Value→AW→Prop:=fun g id vals A'=>id=0∧∃ i:Nat,vals=[.int .u64 (n:Int),.int .i64 (w:Int),.slice (some ⟨A.next,0,none⟩) w w,.int .i64 (w:Int),.int .i64 (i:Int)]∧i≤w∧
  Go.Abs.Row1 A' A.next (List.replicate (w - i) (.int .u8 0)++bytesV (be n i)) 5∧Grow A A' 1∧A'.next=A.next+1∧g=w - i
 refine w126 _ _ _ (c126 (I:=I) ?_) ?_
 ·rintro g id vals A' d ⟨rfl,i,rfl,hi,hr,hg,hn,rfl⟩ hd
  rw [l126_0]
  have h0:d 0=.int .u64 (n:Int):=by simp [L126] at hd;exact hd.1
  have h1:d 1=.int .i64 (w:Int):=by simp [L126] at hd;exact hd.2.1
  have h5:d 5=.slice (some ⟨A.next,0,none⟩) w w:=by simp [L126] at hd;exact hd.2.2.1
  have h10:d 10=.int .i64 (w:Int):=by simp [L126] at hd;exact hd.2.2.2.1
  have h11:d 11=.int .i64 (i:Int):=by simp [L126] at hd;exact hd.2.2.2.2
  simp only [h0,h1,h5,h10,h11,bin_lss,bin_sub,bin_mul,pureW_some,forkW_dec]
  refine ⟨fun hlt=>?_,fun hge=>?_⟩
  ·have hlt:i < w:=by omega
   rw [wrap_i64 (n:=(w:Int) - 1) (by omega) (by omega),wrap_i64 (n:=(w:Int) - 1 - i) (by omega) (by omega),wrap_i64 (n:=8 * (i:Int)) (by omega) (by omega)]
   have e2:(w:Int) - 1 - i=((w - 1 - i:Nat):Int):=by omega
   have e3:min (8 * (i:Int)).toNat (IntKind.bits .u64)=8 * i:=by show min _ 64=_;omega
   rw [bin_shr (by omega),e2,e3]
   simp only [pureW_some,cv_134_5,bothW_ok,byte_of]
   have hia:indexAddrA Tp 41 (.slice (some ⟨A.next,0,none⟩) w w) (.int .i64 ((w - 1 - i:Nat):Int))=some (.pointer (some ⟨A.next,w - 1 - i,none⟩)):=by
    show indexAddrA Tp 41 _ (.int .i64 (.ofNat (w - 1 - i)))=_
    rw [ia_41,blt_true.2 (by omega),cond_true]
    unfold addA
    cases hb:Nat.beq ((w - 1 - i) * 1) 0 with
    | true=>rw [cond_true];have:=Nat.eq_of_beq_eq_true hb;rw [Nat.mul_one] at this;rw [this]
    | false=>rw [cond_false,Nat.mul_one,Nat.zero_add]
   rw [hia]
   simp only [pureW_some,bin_add]
   refine hr.store hg.fine (by omega) (st_5 _ _ _) rfl (by simp [Value.cells,be_length];omega) rfl fun A2 r2 k2 n2 f2=>?_
   have hs:setL (List.replicate (w - i) (Value.int .u8 0)++bytesV (be n i)) (w - 1 - i) (Value.cells (.int .u8 ((UInt8.ofNat (n / 256 ^ i)).toNat:Int))).toList=_:=zeros_be n hlt
   rw [hs] at r2
   rw [wrap_i64 (by omega) (by omega)]
   refine cutW_self.2 ⟨w - (i+1),by omega,rfl,i+1,rfl,by omega,r2,?_,by omega,rfl⟩
   exact hg.own k2 (by simp) (m:=0) (by omega) f2
  ·have hi:i=w:=by omega
   subst hi
   rw [Nat.sub_self] at hr
   refine hk A' _ [A.next] hg ?_ (by simp)
   refine .inr (.inr ⟨A.next,i,[],?_,by have:room=68719476736:=rfl;omega,by simpa using hr,by rw [be_length];rfl,rfl,rfl⟩)
   rw [be_length]
 ·rw [e126]
  refine makeBytes tb hf (by omega) (Nat.le_refl w) (by have:room=68719476736:=rfl;omega) fun A1 m1=>?_
  simp only [ln_41,pureW_some]
  refine cutW_self.2 ⟨w,rfl,0,rfl,by omega,?_,.made m1 hf,m1.next,rfl⟩
  simpa [be,bytesV] using m1.row1
theorem wc125 {v1 v2:Value} {l1 l2:List UInt8} {F1 F2:List Nat} {A:AW} {K:Value→AW→Prop} (hf:Fine A) (hA:A.next+3 < maxId) (h1:RdB A v1 l1 F1) (h2:RdB A v2 l2 F2) (hr:l1.length+l2.length < 1000000)
  (hk:∀ A' v F,Grow A A' 3→Buf 5 A' v (l1++l2) F→(∀ x∈F,A.next≤x)→K v A'):Wc Tp theX W0 m0 125 [v1,v2] A K:=by
 have hroom:room=68719476736:=rfl
 have lt1:=h1.lt
 have lt2:=h2.lt
 refine w125 _ _ _ (cuts_none (S:=fun _ _ _=>False) fun _ _ _ h=>h) ?_
 rw [e125]
 simp only [h1.len tb,h2.len tb,bin_add,pureW_some]
 rw [wrap_i64 (by omega) (by omega)]
 have e:((l1.length:Nat):Int)+((l2.length:Nat):Int)=((l1.length+l2.length:Nat):Int):=by omega
 rw [e]
 refine makeBytes (n:=0) (k:=.i64) tb hf (by omega) (Nat.zero_le _) (by omega) fun A1 m1=>?_
 have n1:=m1.next
 refine appendBuf tb (m1.buf0 (by omega)) (src_slice tb (h1.keeps (m1.keeps hf) (by simp))) m1.fine (by omega) (by simp;omega) fun v3 A3 F3 hb3 k3 hF3 n3 f3=>?_
 have g3:Grow A A3 2:=(Grow.made m1 hf).own k3 (by simp) (m:=1) (by omega) f3
 have hF3':∀ x∈F3,A.next≤x:=fun x hx=>by
  rcases hF3 x hx with h | h
  ·simp at h;omega
  ·omega
 refine appendBuf tb hb3 (src_slice tb (h2.keeps g3.keeps (by simp))) f3 (by omega) (by simp;omega) fun v4 A4 F4 hb4 k4 hF4 n4 f4=>?_
 rw [List.nil_append] at hb4
 refine hk A4 v4 F4 ((g3.own k4 hF3' (m:=1) (by omega) f4).more (by omega)) hb4 fun x hx=>?_
 rcases hF4 x hx with h | h
 ·exact hF3' x h
 ·have:=g3.le;omega
theorem wc100 {v:Value} {l:List UInt8} {F0:List Nat} {n w:Nat} {A:AW} {K:Value→AW→Prop} (hf:Fine A) (hA:A.next+5 < maxId) (hv:RdB A v l F0) (hl:l.length < 900000) (hw:w=1∨w=2∨w=4∨w=8)
  (hk:∀ A' v F,Grow A A' 4→Buf 5 A' v (l++be n w) F→(∀ x∈F,A.next≤x)→K v A'):Wc Tp theX W0 m0 100 [v,.int .u64 (n:Int),.int .i64 (w:Int)] A K:=by
 refine w100 _ _ _ _ (cuts_none (S:=fun _ _ _=>False) fun _ _ _ h=>h) ?_
 rw [e100]
 refine wc124 ?_
 have hb:((w:Int)==1 || ((w:Int)==2 || ((w:Int)==4 || (w:Int)==8)))=true:=by rcases hw with rfl | rfl | rfl | rfl <;> rfl
 rw [hb]
 simp only [un_not,pureW_some]
 refine forkW_bool.2 ⟨fun h=>by simp at h,fun _=>?_⟩
 refine wc126 hf (by omega) (by omega) fun A1 v1 F1 g1 b1 _=>?_
 have n1:=g1.next
 have l1:=g1.le
 refine wc125 g1.fine (by omega) (hv.keeps g1.keeps (by simp)) b1.rd (by rw [be_length];omega) fun A2 v2 F2 g2 b2 hF2=>?_
 exact hk A2 v2 F2 ((g1.trans g2).more (by omega)) b2 fun x hx=>Nat.le_trans l1 (hF2 x hx)
end
end Go.Proofs.YtbchfeibhoobeaaGreatDoor
namespace Go.Crc
def bit1 (r:Nat):Nat:=if r % 2=1 then (r / 2) ^^^ 2197175160 else r / 2
def bits:Nat→Nat→Nat
 | 0,r=>r
 | n+1,r=>bits n (bit1 r)
def tab:List Nat:=[0,274646895,549293790,820201905,1098587580,1361435347,1640403810,1905808397,2197175160,2460548119,2722870694,2987750089,3280807620,3553878443,3811616794,4084100981]
def nib (r:Nat):Nat:=(r / 16) ^^^ tab.getD (r % 16) 0
def byteR (r:Nat) (c:UInt8):Nat:=bits 8 (r ^^^ c.toNat)
def crcR (r:Nat) (l:List UInt8):Nat:=l.foldl byteR r
def sum32 (l:List UInt8):Nat:=4294967295 - crcR 4294967295 l
def le4 (s:Nat):List UInt8:=[UInt8.ofNat s,UInt8.ofNat (s / 256),UInt8.ofNat (s / 65536),UInt8.ofNat (s / 16777216)]
def sealT (l:List UInt8):List UInt8:=l++le4 (sum32 l)
theorem xor_half (x y:Nat):(x ^^^ y) / 2=(x / 2) ^^^ (y / 2):=by
 apply Nat.eq_of_testBit_eq
 intro i
 simp [Nat.testBit_div_two,Nat.testBit_xor]
theorem xor_odd (x y:Nat):((x ^^^ y) % 2=1)↔¬ ((x % 2=1)↔(y % 2=1)):=by
 have h:=Nat.testBit_xor x y 0
 simp only [Nat.testBit_zero] at h
 by_cases hx:x % 2=1 <;> by_cases hy:y % 2=1 <;> simp_all
theorem bit1_xor (x y:Nat):bit1 (x ^^^ y)=bit1 x ^^^ bit1 y:=by
 unfold bit1
 have h:=xor_odd x y
 rw [xor_half]
 by_cases hx:x % 2=1 <;> by_cases hy:y % 2=1
 ·rw [if_neg (fun e=>(h.1 e) ⟨fun _=>hy,fun _=>hx⟩),if_pos hx,if_pos hy]
  apply Nat.eq_of_testBit_eq
  intro i
  simp only [Nat.testBit_xor]
  cases (x / 2).testBit i <;> cases (y / 2).testBit i <;> cases Nat.testBit 2197175160 i <;> rfl
 ·rw [if_pos (h.2 fun e=>hy (e.1 hx)),if_pos hx,if_neg hy]
  apply Nat.eq_of_testBit_eq
  intro i
  simp only [Nat.testBit_xor]
  cases (x / 2).testBit i <;> cases (y / 2).testBit i <;> cases Nat.testBit 2197175160 i <;> rfl
 ·rw [if_pos (h.2 fun e=>hx (e.2 hy)),if_neg hx,if_pos hy]
  apply Nat.eq_of_testBit_eq
  intro i
  simp only [Nat.testBit_xor]
  cases (x / 2).testBit i <;> cases (y / 2).testBit i <;> cases Nat.testBit 2197175160 i <;> rfl
 ·rw [if_neg (fun e=>(h.1 e) ⟨fun e=>absurd e hx,fun e=>absurd e hy⟩),if_neg hx,if_neg hy]
theorem bits_xor:∀ (n x y:Nat),bits n (x ^^^ y)=bits n x ^^^ bits n y
 | 0,_,_=>rfl
 | n+1,x,y=>by rw [bits,bit1_xor,bits_xor n];rfl
theorem bits_add:∀ (n m r:Nat),bits (n+m) r=bits m (bits n r)
 | 0,m,r=>by rw [Nat.zero_add];rfl
 | n+1,m,r=>by rw [show n+1+m=(n+m)+1 by omega,bits,bits_add n m];rfl
theorem bit1_even (q:Nat):bit1 (2 * q)=q:=by
 unfold bit1
 rw [if_neg (by omega)]
 omega
theorem bits_shift:∀ (n q:Nat),bits n (2 ^ n * q)=q
 | 0,q=>by simp [bits]
 | n+1,q=>by rw [bits,Nat.pow_succ,Nat.mul_comm (2 ^ n) 2,Nat.mul_assoc,bit1_even,bits_shift n]
theorem split_xor (n r:Nat):r=(2 ^ n * (r / 2 ^ n)) ^^^ (r % 2 ^ n):=by
 apply Nat.eq_of_testBit_eq
 intro i
 rw [Nat.testBit_xor,Nat.testBit_two_pow_mul,Nat.testBit_mod_two_pow]
 by_cases h:i < n
 ·simp [h,show ¬ n≤i by omega]
 ·have h2:n≤i:=by omega
  simp only [h,h2,decide_true,decide_false,Bool.true_and,Bool.false_and,Bool.xor_false]
  rw [Nat.testBit_div_two_pow,show i - n+n=i by omega]
theorem tab_bits:∀ n,n < 16→bits 4 n=tab.getD n 0:=by decide
theorem nib_bits (r:Nat):nib r=bits 4 r:=by
 conv=>rhs;rw [split_xor 4 r]
 rw [bits_xor,bits_shift 4,tab_bits _ (Nat.mod_lt _ (by decide))]
 rfl
theorem nib_nib (r:Nat):nib (nib r)=bits 8 r:=by
 rw [nib_bits,nib_bits,← bits_add]
theorem bit1_lt {r:Nat} (h:r < 4294967296):bit1 r < 4294967296:=by
 unfold bit1
 split
 ·exact Nat.xor_lt_two_pow (n:=32) (by omega) (by decide)
 ·omega
theorem bits_lt:∀ (n:Nat) {r:Nat},r < 4294967296→bits n r < 4294967296
 | 0,_,h=>h
 | n+1,_,h=>bits_lt n (bit1_lt h)
theorem byte_lt (c:UInt8):c.toNat < 4294967296:=Nat.lt_trans c.toNat_lt (by decide)
theorem byteR_lt {r:Nat} (c:UInt8) (h:r < 4294967296):byteR r c < 4294967296:=bits_lt 8 (Nat.xor_lt_two_pow (n:=32) h (byte_lt c))
theorem crcR_lt:∀ (l:List UInt8) {r:Nat},r < 4294967296→crcR r l < 4294967296
 | [],_,h=>h
 | c::l,_,h=>crcR_lt l (byteR_lt c h)
theorem le4_length (s:Nat):(le4 s).length=4:=rfl
theorem seal_length (l:List UInt8):(sealT l).length=l.length+4:=by simp [sealT,le4]
theorem crcR_append (r:Nat) (a b:List UInt8):crcR r (a++b)=crcR (crcR r a) b:=by simp [crcR]
def sealed (l:List UInt8):Bool:=decide (4≤l.length)&&(l==sealT (l.take (l.length - 4)))
theorem sealed_seal (l:List UInt8):sealed (sealT l)=true:=by
 unfold sealed
 have h:(sealT l).take ((sealT l).length - 4)=l:=by
  rw [seal_length,Nat.add_sub_cancel]
  unfold sealT
  rw [List.take_left']
  rfl
 rw [h,seal_length]
 simp
end Go.Crc
namespace Go.Abs
def RdS (tb:TypeId) (A:AW) (v:Value) (l:List UInt8) (F:List Nat):Prop:=
 (l=[]∧F=[]∧∃ o c,v=.slice o 0 c∧c < capU∧(o=none→c=0))∨∃ r o c C cs f b ro rest,v=.slice (some ⟨r,o,none⟩) l.length C∧(C=capU+c∨(C=c∧c < capU))∧l.length≤c∧A.get r=some (.row cs tb f b ro)∧f < A.next∧F=[f]∧cs.drop o=bytesV l++rest
theorem RdS.rd {tb:TypeId} {A:AW} {v:Value} {l:List UInt8} {F:List Nat} (h:RdS tb A v l F):RdB A v l F:=by
 rcases h with ⟨h1,h2,o,c,h3,_⟩ | ⟨r,o,c,C,cs,f,b,ro,rest,h1,_,_,h2,h3,h4,h5⟩
 ·exact .inl ⟨h1,h2,o,c,h3⟩
 ·exact .inr ⟨r,o,C,cs,tb,f,b,ro,rest,h1,h2,h3,h4,h5⟩
theorem RdS.keeps {tb:TypeId} {A A':AW} {v:Value} {l:List UInt8} {F S:List Nat} (h:RdS tb A v l F) (k:Keeps A A' S) (hd:∀ x∈F,x∉S):RdS tb A' v l F:=by
 rcases h with h | ⟨r,o,c,C,cs,f,b,ro,rest,h1,h0,h6,h2,h3,rfl,h5⟩
 ·exact .inl h
 ·exact .inr ⟨r,o,c,C,cs,f,b,ro,rest,h1,h0,h6,k.get r _ h2 h3 (hd f (by simp)),Nat.lt_of_lt_of_le h3 k.next,rfl,h5⟩
theorem RdS.nil (tb:TypeId) (A:AW):RdS tb A (.slice none 0 0) [] []:=.inl ⟨rfl,rfl,none,0,rfl,by decide,fun _=>rfl⟩
theorem Buf.rdS {tb:TypeId} {A:AW} {v:Value} {l:List UInt8} {F:List Nat} (h:Buf tb A v l F):RdS tb A v l F:=by
 rcases h with ⟨rfl,rfl,rfl⟩ | ⟨b,f,rfl,ho,rfl⟩ | ⟨b,c,pad,rfl,hc,hr,hl,ho,rfl⟩
 ·exact .nil _ _
 ·exact .inr ⟨b,0,l.length,_,_,f,0,false,[],rfl,.inl rfl,Nat.le_refl _,ho.row,ho.ltf,rfl,by simp⟩
 ·have:c < capU:=by have h1:room=68719476736:=rfl;have h2:capU=18446744073709551616:=rfl;omega
  exact .inr ⟨b,0,c,c,_,b,0,false,pad,rfl,.inr ⟨rfl,this⟩,by omega,hr.row,hr.lt,rfl,by simp⟩
section
variable {P:Program} {tb ts tst:TypeId}
theorem moved_eq (r o n:Nat):moved (some ⟨r,o,none⟩) (n * 1)=some ⟨r,o+n,none⟩:=by
 show some (bif Nat.beq (n * 1) 0 then (⟨r,o,none⟩:Addr) else ⟨r,o+n * 1,none⟩)=_
 rw [Nat.mul_one]
 cases n <;> rfl
theorem cond_none {o:Option Addr} (c:Nat) (hz:o=none→c=0):(bif Nat.beq c 0 then o else moved o (0 * 1))=none→c=0:=by
 cases o with
 | none=>exact fun _=>hz rfl
 | some a=>cases Nat.beq c 0 <;> (intro h;cases h)
theorem bytesV_take (l:List UInt8) (n:Nat):bytesV (l.take n)=(bytesV l).take n:=List.map_take
theorem bytesV_drop (l:List UInt8) (n:Nat):bytesV (l.drop n)=(bytesV l).drop n:=List.map_drop
theorem slice_known {A:AW} (T:BT P tb ts tst) {a:Option Addr} {len C n:Nat} (hc:C < capU) (hn:n≤C):sliceA P A ts (.slice a len C) none (some (.int .i64 (.ofNat n))) none=some (.slice (bif Nat.beq C 0 then a else moved a (0 * 1)) n C):=by
 unfold sliceA
 simp only [T.us,T.sz,ble_false.2 hc,cond_false,bounds,okMax,boundA,ble_true.2 hn,Nat.sub_zero,Option.isSome_some,Option.isSome_none,Bool.not_false,Bool.or_true,cond_true]
theorem slice_open {A:AW} (T:BT P tb ts tst) {a:Option Addr} {len c n:Nat} (hr:rowIs A a tb=true) (hn:n≤c):sliceA P A ts (.slice a len (capU+c)) none (some (.int .i64 (.ofNat n))) none=some (.slice (moved a (0 * 1)) n (capU+c)):=by
 unfold sliceA
 simp only [T.us,T.sz,ble_true.2 (show capU≤capU+c from Nat.le_add_right _ _),cond_true,bounds,okMax,boundA,Nat.add_sub_cancel_left,ble_true.2 hn,Nat.sub_zero,Option.isSome_some,Option.isSome_none,Bool.not_false,Bool.or_true,hr,Bool.and_self]
theorem RdS.to {A:AW} {v:Value} {l:List UInt8} {F:List Nat} (T:BT P tb ts tst) (h:RdS tb A v l F) {n:Nat} (hn:n≤l.length):∃ v',sliceA P A ts v none (some (.int .i64 (n:Int))) none=some v'∧RdS tb A v' (l.take n) F:=by
 show ∃ v',sliceA P A ts v none (some (.int .i64 (.ofNat n))) none=some v'∧_
 rcases h with ⟨rfl,rfl,o,c,rfl,hc,hz⟩ | ⟨r,o,c,C,cs,f,b,ro,rest,rfl,hC,hl,h2,h3,rfl,h5⟩
 ·have hn0:n=0:=Nat.le_zero.1 hn
  refine ⟨_,slice_known T hc (by omega),.inl ⟨List.take_nil,rfl,_,c,by rw [hn0],hc,cond_none c hz⟩⟩
 ·have hd:cs.drop o=bytesV (l.take n)++(bytesV (l.drop n)++rest):=by
   rw [h5,bytesV_take,bytesV_drop,← List.append_assoc,List.take_append_drop]
  have hlen:(l.take n).length=n:=by rw [List.length_take];omega
  rcases hC with rfl | ⟨rfl,hc⟩
  ·refine ⟨_,slice_open T (by unfold rowIs;simp only [h2];exact beq_true.2 rfl) (by omega),?_⟩
   rw [moved_eq,Nat.add_zero]
   exact .inr ⟨r,o,c,capU+c,cs,f,b,ro,_,by rw [hlen],.inl rfl,by omega,h2,h3,rfl,hd⟩
  ·refine ⟨_,slice_known T hc (by omega),?_⟩
   rw [moved_eq,Nat.add_zero]
   refine .inr ⟨r,o,C,C,cs,f,b,ro,_,?_,.inr ⟨rfl,hc⟩,by omega,h2,h3,rfl,hd⟩
   rw [hlen]
   cases Nat.beq C 0
   ·rw [cond_false]
   ·rw [cond_true]
theorem RdS.from {A:AW} {v:Value} {l:List UInt8} {F:List Nat} (T:BT P tb ts tst) (h:RdS tb A v l F) {n:Nat} (hn:n≤l.length):∃ v',sliceA P A ts v (some (.int .i64 (n:Int))) none none=some v'∧RdS tb A v' (l.drop n) F:=by
 have hc0:capU=18446744073709551616:=rfl
 show ∃ v',sliceA P A ts v (some (.int .i64 (.ofNat n))) none none=some v'∧_
 rcases h with ⟨rfl,rfl,o,c,rfl,hc,hz⟩ | ⟨r,o,c,C,cs,f,b,ro,rest,rfl,hC,hl,h2,h3,rfl,h5⟩
 ·obtain rfl:n=0:=by simpa using hn
  refine ⟨.slice (bif Nat.beq c 0 then o else moved o (0 * 1)) 0 c,?_,.inl ⟨rfl,rfl,_,c,rfl,hc,cond_none c hz⟩⟩
  unfold sliceA
  simp only [T.us,T.sz,ble_false.2 hc,cond_false,bounds,okMax,boundA,ble_true.2 (Nat.le_refl 0),Nat.sub_zero,Option.isSome_none,Bool.not_false,Bool.or_true,cond_true]
 ·have hd:cs.drop (o+n)=bytesV (l.drop n)++rest:=by
   rw [← List.drop_drop,h5,bytesV_drop,List.drop_append_of_le_length (by rw [bytesV_length];exact hn)]
  have hlen:(l.drop n).length=l.length - n:=List.length_drop
  rcases hC with rfl | ⟨rfl,hc⟩
  ·refine ⟨.slice (moved (some ⟨r,o,none⟩) (n * 1)) (l.length - n) (capU+(c - n)),?_,?_⟩
   ·unfold sliceA
    have hr:rowIs A (some ⟨r,o,none⟩) tb=true:=by unfold rowIs;simp only [h2];exact beq_true.2 rfl
    simp only [T.us,T.sz,ble_true.2 (show capU≤capU+c by omega),cond_true,bounds,okMax,boundA,Nat.add_sub_cancel_left,ble_true.2 hn,ble_true.2 hl,Option.isSome_none,Bool.not_false,Bool.or_true,hr,Bool.and_self]
   ·rw [moved_eq]
    exact .inr ⟨r,o+n,c - n,_,cs,f,b,ro,rest,by rw [hlen],.inl rfl,by omega,h2,h3,rfl,hd⟩
  ·refine ⟨.slice (bif Nat.beq C n then some ⟨r,o,none⟩ else moved (some ⟨r,o,none⟩) (n * 1)) (l.length - n) (C - n),?_,?_⟩
   ·unfold sliceA
    simp only [T.us,T.sz,ble_false.2 hc,cond_false,bounds,okMax,boundA,ble_true.2 hn,Option.isSome_none,Bool.not_false,Bool.or_true,cond_true]
   ·rw [moved_eq]
    cases hb:Nat.beq C n with
    | false=>exact .inr ⟨r,o+n,C - n,C - n,cs,f,b,ro,rest,by rw [hlen,cond_false],.inr ⟨rfl,by omega⟩,by omega,h2,h3,rfl,hd⟩
    | true=>
     have e:=Nat.eq_of_beq_eq_true hb
     have hnil:l.drop n=[]:=List.drop_eq_nil_of_le (by omega)
     refine .inr ⟨r,o,C - n,C - n,cs,f,b,ro,cs.drop o,by rw [hlen,cond_true],.inr ⟨rfl,by omega⟩,by omega,h2,h3,rfl,?_⟩
     rw [hnil];rfl
end
section
variable {P:Program} {tb ts tst:TypeId}
theorem least_min (a b:Nat):least a b=min a b:=least_eq a b
theorem cells0 (A:AW) (a:Addr):A.cells? a 0=some []:=by unfold AW.cells?;rfl
theorem RdB.copy {A:AW} {v:Value} {l:List UInt8} {F:List Nat} (h:RdB A v l F) {n:Nat} (hn:n≤l.length):copyCells A 1 n v=some (bytesV (l.take n)):=by
 rcases h with ⟨rfl,_,o,c,rfl⟩ | ⟨r,o,c,cs,e,f,b,ro,rest,rfl,h2,_,_,h4⟩
 ·obtain rfl:n=0:=by simpa using hn
  cases o with
  | none=>rfl
  | some a=>exact cells0 A a
 ·unfold copyCells
  simp only [Nat.mul_one,cells_row h2,h4]
  have e:bytesV l++rest=bytesV (l.take n)++(bytesV (l.drop n)++rest):=by rw [bytesV_take,bytesV_drop,← List.append_assoc,List.take_append_drop]
  have:=takeCells_pre (bytesV (l.take n)) (bytesV (l.drop n)++rest) (bytesV_noT _)
  rw [bytesV_length,List.length_take,Nat.min_eq_left hn] at this
  rw [e,this]
theorem RdB.lenV {A:AW} {v:Value} {l:List UInt8} {F:List Nat} (h:RdB A v l F):lenV v=some l.length:=by
 obtain ⟨a,c,rfl⟩:=h.slice
 rfl
theorem copyOwn {A:AW} {b dl dc:Nat} {cs:List Value} {x:Value} {l:List UInt8} {F:List Nat} {K:Value→AW→Prop} (T:BT P tb ts tst) (hd:Row1 A b cs tb) (h:RdB A x l F) (hf:Fine A) (hA:A.next≤maxId) (hcs:min l.length dl≤cs.length)
  (hk:∀ A' v,Row1 A' b (setL cs 0 (bytesV (l.take (min l.length dl)))) tb→Keeps A A' [b]→A'.next=A.next→Fine A'→K v A'):bothW (copyA P A ts (.slice (some ⟨b,0,none⟩) dl dc) x) K:=by
 have hlt:=hd.lt
 obtain ⟨A',h1,w⟩:=setCells_own (new:=bytesV (l.take (min l.length dl))) (off:=0) hd.row hd.mem (by rw [bytesV_length,List.length_take];omega) (bytesV_one _) (by omega)
 have e:copyA P A ts (.slice (some ⟨b,0,none⟩) dl dc) x=.ok (.int .i64 (min l.length dl:Nat)) A':=by
  unfold copyA
  simp only [T.sl,T.sz,h.lenV,least_min,h.copy (show min l.length dl≤l.length by omega),h1]
 rw [e]
 exact bothW_ok.2 (hk A' _ ⟨w.row,by rw [w.mem];exact hd.mem,by rw [w.next];exact hd.lt⟩ (w.keeps hd.row) w.next (w.fine hf hd.row))
def appU (P:Program) (U:Nat) (w:AW) (t t2:TypeId) (s x:Value):R Value:=
 match sliceElemT P t,s with
 | some e,.slice base n cap=>
  (match szT P e,bytesT P e with
  | some 0,_=>.fail "append size 0"
  | some size,some bytes=>
   match sourceZ P w e t2 size x with
   | none=>.fail "append source"
   | some (m,new)=>
    let need:=n+m
    bif !(Nat.blt need room&&Nat.blt (need * bytes) room&&hasZero P e size) then .fail "append room" else
    match m with
    | 0=>.ok s w
    | _+1=>
     let lb:=bif Nat.ble U cap then cap - U else cap
     bif Nat.ble need lb then
      match base with
      | none=>.fail "append nil with room"
      | some a=>(match w.setCells (addA a (n * size)) new with
       | some w'=>.ok (.slice base need cap) w'
       | none=>.fail "append set")
     else bif Nat.ble U cap then
      match base with
      | none=>.fail "append nil with unknown capacity"
      | some a=>match a.spot,w.get a.block with
       | none,some (.row _ e' fam b0 false)=>
        bif !(Nat.beq e' e&&new.all oneCell) then .fail "append elements" else
        (match w.cellsAny a (n * size) with
        | none=>.fail "append old cells"
        | some old=>
         match (poisonFrom (b0+a.off+n * size) (w.members fam) w).newIn (old++new) e fam (b0+a.off) with
         | some (a',w')=>.ok (.slice (some a') need (U+need)) w'
         | none=>.fail "append new")
       | _,_=>.fail "append base row"
     else
      match (match base with | some a=>w.cellsAny a (n * size) | none=>some []) with
      | none=>.fail "append old cells"
      | some old=>(match w.new (.row (old++new) e w.next 0 false) with
       | some (b,w')=>.ok (.slice (some ⟨b,0,none⟩) need (U+need)) w'
       | none=>.fail "append new")
  | _,_=>.fail "append type")
 | _,_=>.fail "append"
theorem appU_eq (A:AW) (t t2:TypeId) (s x:Value):appendA P A t t2 s x=appU P capU A t t2 s x:=rfl
end
end Go.Abs
namespace Go.Proofs.YtbchfeibhoobeaaGreatDoor
open Go.Abs Go.Crc
theorem bv32 {n:Nat} (h:n < 4294967296):(BitVec.ofInt 32 (n:Int)).toNat=n:=by
 rw [BitVec.toNat_ofInt]
 have:((2 ^ 32:Nat):Int)=4294967296:=by decide
 rw [this]
 omega
theorem wrap_u32 {n:Nat} (h:n < 4294967296):IntKind.u32.wrap (n:Int)=(n:Int):=by
 simp [IntKind.wrap,IntKind.bits,IntKind.signed]
 omega
theorem bin_xor32 {P:Program} {t:TypeId} {xo yo:Operand} {a b:Nat} (ha:a < 4294967296) (hb:b < 4294967296):binA P .xor t xo yo (.int .u32 (a:Int)) (.int .u32 (b:Int))=some (.int .u32 ((a ^^^ b:Nat):Int)):=by
 have e:IntKind.u32.wrap ((BitVec.ofInt 32 (a:Int) ^^^ BitVec.ofInt 32 (b:Int)).toNat:Int)=((a ^^^ b:Nat):Int):=by
  rw [BitVec.toNat_xor,bv32 ha,bv32 hb]
  exact wrap_u32 (Nat.xor_lt_two_pow (n:=32) ha hb)
 have:binA P .xor t xo yo (.int .u32 (a:Int)) (.int .u32 (b:Int))=some (.int .u32 (IntKind.u32.wrap ((BitVec.ofInt 32 (a:Int) ^^^ BitVec.ofInt 32 (b:Int)).toNat:Int))):=by
  rfl
 rw [this,e]
theorem and15 (a:Nat):a&&& 15=a % 16:=Nat.and_two_pow_sub_one_eq_mod a 4
theorem bin_and15 {P:Program} {t:TypeId} {xo yo:Operand} {a:Nat} (ha:a < 4294967296):binA P .and t xo yo (.int .u32 (a:Int)) (.int .u32 15)=some (.int .u32 ((a % 16:Nat):Int)):=by
 have e:IntKind.u32.wrap ((BitVec.ofInt 32 (a:Int)&&& BitVec.ofInt 32 ((15:Nat):Int)).toNat:Int)=((a % 16:Nat):Int):=by
  rw [BitVec.toNat_and,bv32 ha,bv32 (by decide),and15]
  exact wrap_u32 (by omega)
 have:binA P .and t xo yo (.int .u32 (a:Int)) (.int .u32 15)=some (.int .u32 (IntKind.u32.wrap ((BitVec.ofInt 32 (a:Int)&&& BitVec.ofInt 32 ((15:Nat):Int)).toNat:Int))):=by
  rfl
 rw [this,e]
theorem xor_all {n:Nat} (h:n < 4294967296):4294967295 ^^^ n=4294967295 - n:=by
 apply Nat.eq_of_testBit_eq
 intro i
 have e1:4294967295 - n=2 ^ 32 - (n+1):=by omega
 rw [e1,Nat.testBit_two_pow_sub_succ (by omega),Nat.testBit_xor,show (4294967295:Nat)=2 ^ 32 - 1 by rfl,Nat.testBit_two_pow_sub_one]
 by_cases hi:i < 32
 ·simp [hi]
 ·have:n.testBit i=false:=Nat.testBit_lt_two_pow (Nat.lt_of_lt_of_le h (Nat.pow_le_pow_right (n:=2) (by decide) (show 32≤i by omega)))
  simp [hi,this]
theorem un_xor32 {P:Program} {n:Nat} (h:n < 4294967296):unA P .xor (.int .u32 (n:Int))=some (.int .u32 ((4294967295 - n:Nat):Int)):=by
 have e:IntKind.u32.wrap ((BitVec.ofInt 32 ((4294967295:Nat):Int) ^^^ BitVec.ofInt 32 (n:Int)).toNat:Int)=((4294967295 - n:Nat):Int):=by
  rw [BitVec.toNat_xor,bv32 (by decide),bv32 h,xor_all h]
  exact wrap_u32 (by omega)
 have:unA P .xor (.int .u32 (n:Int))=some (.int .u32 (IntKind.u32.wrap ((BitVec.ofInt 32 ((4294967295:Nat):Int) ^^^ BitVec.ofInt 32 (n:Int)).toNat:Int))):=by
  rfl
 rw [this,e]
theorem shr_nat (a s:Nat):((a:Int).fdiv (2 ^ s))=((a / 2 ^ s:Nat):Int):=by
 rw [Int.fdiv_eq_ediv_of_nonneg _ (Int.pow_nonneg (by decide)),show (2:Int) ^ s=((2 ^ s:Nat):Int) by rw [Int.natCast_pow];rfl]
 rfl
def tabV:List Value:=tab.map fun (n:Nat)=>.int .u32 (n:Int)
structure Glb (A:AW):Prop where
 row:A.get 0=some (.row tabV 204 0 0 true)
 lt:0 < A.next
theorem Glb.keeps {A A':AW} {S:List Nat} (h:Glb A) (k:Keeps A A' S) (hn:0∉S):Glb A':=⟨k.get 0 _ h.row h.lt hn,Nat.lt_of_lt_of_le h.lt k.next⟩
theorem tab_load {A:AW} (h:Glb A) {i:Nat} (hi:i < 16):∃ a,indexAddrA Tp 204 (.pointer (some ⟨0,0,none⟩)) (.int .u32 (i:Int))=some (.pointer (some a))∧A.cell? a=some (.int .u32 ((tab.getD i 0:Nat):Int)):=by
 refine ⟨⟨0,i,none⟩,?_,?_⟩
 ·show indexAddrA Tp 204 _ (.int .u32 (.ofNat i))=_
  rw [ia_204,blt_true.2 hi,cond_true]
  unfold addA
  cases hb:Nat.beq (i * 1) 0 with
  | true=>rw [cond_true];have:=Nat.eq_of_beq_eq_true hb;rw [Nat.mul_one] at this;rw [this]
  | false=>rw [cond_false,Nat.mul_one,Nat.zero_add]
 ·rw [cell_row h.row]
  refine cellOf_get ?_ rfl
  unfold tabV
  have hl:i < tab.length:=hi
  rw [List.getElem?_map,List.getElem?_eq_getElem hl]
  simp [List.getD,List.getElem?_eq_getElem hl]
theorem tab_lt:∀ i,i < 16→tab.getD i 0 < 4294967296:=by decide
theorem nib_lt {r:Nat} (h:r < 4294967296):nib r < 4294967296:=by rw [nib_bits];exact bits_lt 4 h
section
variable {W0:World} {m0:Inj Tp}
theorem nib_step {A:AW} {r:Nat} {K:Value→Prop} (hg:Glb A) (hr:r < 4294967296) {o1 o2 o3 o4 o5 o6:Operand} (hk:K (.int .u32 ((nib r:Nat):Int))):
  pureW (binA Tp .shr 24 o1 o2 (.int .u32 (r:Int)) (.int .u64 4)) fun t5=>pureW (binA Tp .and 24 o3 o4 (.int .u32 (r:Int)) (.int .u32 15)) fun t6=>pureW (indexAddrA Tp 204 (.pointer (some ⟨0,0,none⟩)) t6) fun t7=>pureW (loadP Tp A 24 t7) fun t8=>pureW (binA Tp .xor 24 o5 o6 t5 t8) fun t9=>K t9:=by
 have hi:r % 16 < 16:=Nat.mod_lt _ (by decide)
 obtain ⟨a,h1,h2⟩:=tab_load hg hi
 rw [bin_shr (by decide)]
 have e1:(r:Int).fdiv (2 ^ (min (4:Int).toNat (IntKind.bits .u32)))=((r / 16:Nat):Int):=shr_nat r 4
 rw [e1]
 simp only [bin_and15 hr,pureW_some,h1,ld_24,h2]
 rw [bin_xor32 (by omega) (tab_lt _ hi)]
 exact pureW_some.2 hk
theorem wc145 {A:AW} {x:Value} {l:List UInt8} {F:List Nat} {s0:Nat} {K:Value→AW→Prop} (h:RdB A x l F) (hg:Glb A) (hl:l.length < 1000000) (hs:s0 < 4294967296) (hk:K (.int .u32 ((4294967295 - crcR (4294967295 - s0) l:Nat):Int)) A):Wc Tp theX W0 m0 145 [.int .u32 (s0:Int),x] A K:=by
 let I:Nat→Nat→List Value→AW→Prop:=fun g id vals A'=>id=0∧A'=A∧∃ i:Nat,vals=[x,.int .u32 ((crcR (4294967295 - s0) (l.take i):Nat):Int),.int .i64 (l.length:Int),.int .i64 (i:Int)]∧g=l.length - i∧i≤l.length
 refine w145 _ _ _ (c145 (I:=I) ?_) ?_
 ·rintro g id vals A' d ⟨rfl,rfl,i,rfl,rfl,hi⟩ hd
  rw [l145_0]
  simp only [L145,List.map_cons,List.map_nil,List.cons.injEq,and_true] at hd
  obtain ⟨h1,h5,h10,h11⟩:=hd
  have hr:crcR (4294967295 - s0) (l.take i) < 4294967296:=crcR_lt _ (by omega)
  obtain ⟨r,hre⟩:∃ r,crcR (4294967295 - s0) (l.take i)=r:=⟨_,rfl⟩
  rw [hre] at h5 hr
  simp only [h1,h5,h10,h11,bin_lss,pureW_some,forkW_dec]
  refine ⟨fun hlt=>?_,fun hge=>?_⟩
  ·have hlt:i < l.length:=by omega
   have hc:=List.getElem?_eq_getElem hlt
   obtain ⟨a,a1,a2⟩:=h.at tb hc
   have hcl:=byte_lt l[i]
   have ec:IntKind.u32.wrap ((l[i].toNat:Nat):Int)=((l[i].toNat:Nat):Int):=wrap_u32 hcl
   simp only [a1,ld_5,a2,pureW_some,cv_5_24,bothW_ok,ec,bin_xor32 hr hcl]
   have hx:r ^^^ l[i].toNat < 4294967296:=Nat.xor_lt_two_pow (n:=32) hr hcl
   refine nib_step hg hx ?_
   refine nib_step hg (nib_lt hx) ?_
   simp only [bin_add,pureW_some]
   rw [wrap_i64 (by omega) (by omega),nib_nib]
   refine cutW_self.2 ⟨l.length - (i+1),by omega,rfl,rfl,i+1,?_,rfl,by omega⟩
   rw [List.take_add_one,hc]
   have e:crcR (4294967295 - s0) (l.take i++(some l[i]).toList)=Go.Crc.bits 8 (r ^^^ l[i].toNat):=by
    rw [crcR_append,hre];rfl
   rw [e];rfl
  ·have hi':i=l.length:=by omega
   rw [hi',List.take_length] at hre
   rw [un_xor32 hr]
   refine pureW_some.2 ?_
   rw [← hre]
   exact hk
 ·rw [e145]
  rw [un_xor32 hs]
  simp only [h.len tb,pureW_some]
  exact cutW_self.2 ⟨l.length,rfl,rfl,0,rfl,rfl,by omega⟩
theorem wc123 {A:AW} {x:Value} {l:List UInt8} {F:List Nat} {K:Value→AW→Prop} (h:RdB A x l F) (hg:Glb A) (hl:l.length < 1000000) (hk:K (.int .u32 ((sum32 l:Nat):Int)) A):Wc Tp theX W0 m0 123 [x] A K:=by
 refine w123 _ _ (cuts_none (S:=fun _ _ _=>False) fun _ _ _ h=>h) ?_
 rw [e123]
 exact wc145 (s0:=0) h hg hl (by decide) hk
theorem le4_get {s i:Nat} (h:i < 4):(le4 s)[i]? =some (UInt8.ofNat (s / 256 ^ i)):=by
 have hc:i=0∨i=1∨i=2∨i=3:=by omega
 rcases hc with rfl | rfl | rfl | rfl <;> simp [le4]
theorem wc99 {A:AW} {x:Value} {l:List UInt8} {F:List Nat} {K:Value→AW→Prop} (h:RdB A x l F) (hg:Glb A) (hf:Fine A) (hA:A.next+5 < maxId) (hl:l.length < 900000)
  (hk:∀ A' v F',Grow A A' 1→Buf 5 A' v (Go.Crc.sealT l) F'→(∀ x∈F',A.next≤x)→K v A'):Wc Tp theX W0 m0 99 [x] A K:=by
 have hroom:room=68719476736:=rfl
 have hlt:=h.lt
 obtain ⟨a0,c0,hx⟩:=h.slice
 let I:Nat→Nat→List Value→AW→Prop:=fun g id vals A'=>id=0∧∃ i:Nat,vals=[x,.slice (some ⟨A.next,0,none⟩) (l.length+4) (l.length+4),.int .u32 ((sum32 l:Nat):Int),.int .i64 (i:Int)]∧g=4 - i∧i≤4∧
  Go.Abs.Row1 A' A.next (bytesV (l++(le4 (sum32 l)).take i)++List.replicate (4 - i) (.int .u8 0)) 5∧Grow A A' 1∧A'.next=A.next+1
 refine w99 _ _ (c99 (I:=I) ?_) ?_
 ·rintro g id vals A' d ⟨rfl,i,rfl,rfl,hi,hr,hgr,hn⟩ hd
  rw [l99_0]
  simp only [L99,List.map_cons,List.map_nil,List.cons.injEq,and_true] at hd
  obtain ⟨h0,h3,h4,h15⟩:=hd
  have hx':lenA Tp A' 41 x=some (.int .i64 (l.length:Int)):=by rw [hx];exact ln_41 _ _ _ _
  simp only [h0,h3,h4,h15,bin_lss,pureW_some,forkW_dec]
  refine ⟨fun hlt=>?_,fun hge=>?_⟩
  ·have hlt:i < 4:=by omega
   have hlen:lenA Tp A' 41 x=some (.int .i64 (l.length:Int)):=by rw [hx];exact ln_41 _ _ _ _
   simp only [hlen,bin_add,bin_mul,pureW_some]
   rw [wrap_i64 (n:=(l.length:Int)+i) (by omega) (by omega),wrap_i64 (n:=8 * (i:Int)) (by omega) (by omega),bin_shr (by omega)]
   have e3:min (8 * (i:Int)).toNat (IntKind.bits .u32)=8 * i:=by show min _ 32=_;omega
   rw [e3]
   simp only [pureW_some,cv_24_5,bothW_ok,byte_of]
   have hia:indexAddrA Tp 41 (.slice (some ⟨A.next,0,none⟩) (l.length+4) (l.length+4)) (.int .i64 ((l.length:Int)+i))=some (.pointer (some ⟨A.next,l.length+i,none⟩)):=by
    show indexAddrA Tp 41 _ (.int .i64 (.ofNat (l.length+i)))=_
    rw [ia_41,blt_true.2 (by omega),cond_true]
    unfold addA
    cases hb:Nat.beq ((l.length+i) * 1) 0 with
    | true=>rw [cond_true];have:=Nat.eq_of_beq_eq_true hb;rw [Nat.mul_one] at this;rw [this]
    | false=>rw [cond_false,Nat.mul_one,Nat.zero_add]
   rw [hia]
   simp only [pureW_some]
   refine hr.store hgr.fine (by omega) (st_5 _ _ _) rfl (by simp [Value.cells,bytesV_length,le4_length];omega) rfl fun A2 r2 k2 n2 f2=>?_
   have e4:4 - i=(4 - (i+1))+1:=by omega
   have e5:l.length+i=(bytesV (l++(le4 (sum32 l)).take i)).length:=by rw [bytesV_length,List.length_append,List.length_take,le4_length];omega
   have hs:setL (bytesV (l++(le4 (sum32 l)).take i)++List.replicate (4 - i) (Value.int .u8 0)) (l.length+i) (Value.cells (.int .u8 ((UInt8.ofNat (sum32 l / 256 ^ i)).toNat:Int))).toList=bytesV (l++(le4 (sum32 l)).take (i+1))++List.replicate (4 - (i+1)) (.int .u8 0):=by
    rw [e4,List.replicate_succ,e5]
    have:=setL_mid (bytesV (l++(le4 (sum32 l)).take i)) [Value.int .u8 0] [Value.int .u8 ((UInt8.ofNat (sum32 l / 256 ^ i)).toNat:Int)] (List.replicate (4 - (i+1)) (.int .u8 0)) rfl
    refine this.trans ?_
    rw [List.take_add_one,le4_get hlt,← List.append_assoc,bytesV_append,bytesV_append,bytesV_append]
    simp [bytesV]
   rw [hs] at r2
   rw [wrap_i64 (by omega) (by omega)]
   exact cutW_self.2 ⟨4 - (i+1),by omega,rfl,i+1,rfl,rfl,by omega,r2,(hgr.own k2 (by simp) (m:=0) (by omega) f2),by omega⟩
  ·have hi':i=4:=by omega
   subst hi'
   have e:bytesV (l++(le4 (sum32 l)).take 4)++List.replicate (4 - 4) (Value.int .u8 0)=bytesV (Go.Crc.sealT l)++[]:=rfl
   rw [e] at hr
   refine hk A' _ [A.next] hgr (.inr (.inr ⟨A.next,l.length+4,[],by rw [seal_length],by omega,hr,by rw [seal_length];rfl,rfl,rfl⟩)) (by simp)
 ·rw [e99]
  simp only [h.len tb,bin_add,pureW_some]
  rw [wrap_i64 (by omega) (by omega),show (l.length:Int)+4=((l.length+4:Nat):Int) by omega]
  refine makeBytes tb hf (by omega) (Nat.le_refl _) (by omega) fun A1 m1=>?_
  have n1:=m1.next
  have k1:=m1.keeps hf
  refine copyOwn tb m1.row1 (h.keeps k1 (by simp)) m1.fine (by omega) (by rw [List.length_replicate];omega) fun A2 vv r2 k2 n2 f2=>?_
  rw [Nat.min_eq_left (by omega),List.take_length] at r2
  have g2:Grow A A2 1:=(Grow.made m1 hf).own k2 (by simp) (m:=0) (by omega) f2
  have hx2:=h.keeps g2.keeps (by simp)
  have hg2:=hg.keeps g2.keeps (by simp)
  refine wc123 hx2 hg2 (by omega) ?_
  refine cutW_self.2 ⟨4,rfl,0,rfl,rfl,by omega,?_,g2,by omega⟩
  have e:setL (List.replicate (l.length+4) (Value.int .u8 0)) 0 (bytesV l)=bytesV (l++(le4 (sum32 l)).take 0)++List.replicate (4 - 0) (.int .u8 0):=by
   rw [List.replicate_append_replicate.symm]
   have:=setL_mid [] (List.replicate l.length (Value.int .u8 0)) (bytesV l) (List.replicate 4 (.int .u8 0)) (by rw [List.length_replicate,bytesV_length])
   simp only [List.nil_append,List.length_nil] at this
   rw [this]
   simp
  rw [← e]
  exact r2
theorem bufN {A:AW} {b:Nat} {l:List UInt8} (h:Go.Abs.Row1 A b (bytesV l) 5) (hl:l.length < 1000000):Buf 5 A (.slice (some ⟨b,0,none⟩) l.length l.length) l [b]:=
 .inr (.inr ⟨b,l.length,[],rfl,by have:room=68719476736:=rfl;omega,by simpa using h,rfl,rfl,rfl⟩)
end
end Go.Proofs.YtbchfeibhoobeaaGreatDoor
namespace Go.Proofs.YtbchfeibhoobeaaGreatDoor
open Go.Abs
theorem pe147 (a:Addr) (xo yo:Operand):binA Tp .eql 147 xo yo (.pointer (some a)) (.pointer none)=some (.bool false):=by kernel_rfl
theorem pn147 (a:Addr) (xo yo:Operand):binA Tp .neq 147 xo yo (.pointer (some a)) (.pointer none)=some (.bool true):=by kernel_rfl
theorem pe167 (a:Addr) (xo yo:Operand):binA Tp .eql 167 xo yo (.pointer (some a)) (.pointer none)=some (.bool false):=by kernel_rfl
theorem pn167 (a:Addr) (xo yo:Operand):binA Tp .neq 167 xo yo (.pointer (some a)) (.pointer none)=some (.bool true):=by kernel_rfl
theorem nilP_some (a:Addr):nilP (.pointer (some a))=some (.pointer (some a)):=rfl
theorem ba169 (o:Option Addr) (n c:Nat):buildA Tp 169 [(0,.slice o n c),(1,.bool true)]=some (.agg ⟨[.slice o n c,.bool true,.bool false]⟩):=by kernel_rfl
theorem ba171 (o:Option Addr):buildA Tp 171 [(0,.pointer o)]=some (.agg ⟨[.pointer o]⟩):=by kernel_rfl
structure OR (A:AW) (r v:Nat) (l:List UInt8) (bad:Bool) (F:List Nat):Prop where
 rr:Go.Abs.Row1 A r [.pointer (some ⟨v,0,none⟩)] 171
 ex:∃ bs,Go.Abs.Row1 A v [bs,.bool true,.bool bad] 169∧RdS 5 A bs l F
 hb:bad=true→l=[]
 ne:r≠v
 hv:v∉F
section
variable {W0:World} {m0:Inj Tp}
theorem wc186 {A:AW} {v:Nat} {bs:Value} {bad:Bool} {K:Value→AW→Prop} (h:Go.Abs.Row1 A v [bs,.bool true,.bool bad] 169) (hbs:isTuple bs=false) (hk:K (.bool bad) A):Wc Tp theX W0 m0 186 [.pointer (some ⟨v,0,none⟩)] A K:=by
 refine w186 _ _ (cuts_none (S:=fun _ _ _=>False) fun _ _ _ h=>h) ?_
 rw [e186]
 simp only [pe167,nilP_some,fa_169_1,fa_169_2,ld_4,cell_row h.row,cellOf,hbs,isT_bool,cond_false,pureW_some,un_not,Nat.zero_add]
 refine forkW_bool.2 ⟨fun h=>by simp at h,fun _=>forkW_bool.2 ⟨fun h=>?_,fun h=>?_⟩⟩
 ·subst h;exact hk
 ·subst h;exact hk
theorem wc166 {A:AW} {r v:Nat} {l:List UInt8} {bad:Bool} {F:List Nat} {K:Value→AW→Prop} (h:OR A r v l bad F) (hk:K (.bool bad) A):Wc Tp theX W0 m0 166 [.pointer (some ⟨r,0,none⟩)] A K:=by
 obtain ⟨bs,h1,h2⟩:=h.ex
 refine w166 _ _ (cuts_none (S:=fun _ _ _=>False) fun _ _ _ h=>h) ?_
 rw [e166]
 simp only [pe147,nilP_some,fa_171_0,ld_167,cell_row h.rr.row,cellOf,isT_ptr,cond_false,pureW_some]
 refine forkW_bool.2 ⟨fun h=>by simp at h,fun _=>?_⟩
 exact wc186 h1 h2.rd.one.2 hk
theorem wc187 {A:AW} {v:Nat} {bs:Value} {l:List UInt8} {F:List Nat} {b1 b2:Value} {K:Value→AW→Prop} (h:Go.Abs.Row1 A v [bs,b1,b2] 169) (hbs:RdS 5 A bs l F) (hk:K (.int .i64 (l.length:Int)) A):Wc Tp theX W0 m0 187 [.pointer (some ⟨v,0,none⟩)] A K:=by
 refine w187 _ _ (cuts_none (S:=fun _ _ _=>False) fun _ _ _ h=>h) ?_
 rw [e187]
 simp only [pe167,nilP_some,fa_169_0,ld_41,cell_row h.row,cellOf,hbs.rd.one.2,cond_false,hbs.rd.len tb,pureW_some]
 exact forkW_bool.2 ⟨fun h=>by simp at h,fun _=>hk⟩
theorem wc167 {A:AW} {r v:Nat} {l:List UInt8} {bad:Bool} {F:List Nat} {K:Value→AW→Prop} (h:OR A r v l bad F) (hk:K (.int .i64 (l.length:Int)) A):Wc Tp theX W0 m0 167 [.pointer (some ⟨r,0,none⟩)] A K:=by
 obtain ⟨bs,h1,h2⟩:=h.ex
 refine w167 _ _ (cuts_none (S:=fun _ _ _=>False) fun _ _ _ h=>h) ?_
 rw [e167]
 simp only [pe147,nilP_some,fa_171_0,ld_167,cell_row h.rr.row,cellOf,isT_ptr,cond_false,pureW_some]
 refine forkW_bool.2 ⟨fun h=>by simp at h,fun _=>?_⟩
 exact wc187 h1 h2 hk
theorem wc137 {A:AW} {r v:Nat} {l:List UInt8} {bad:Bool} {F:List Nat} {K:Value→AW→Prop} (h:OR A r v l bad F) (hf:Fine A) (hA:A.next < maxId) (hk:∀ A',OR A' r v [] true []→Keeps A A' [v]→A'.next=A.next→Fine A'→K (.tuple ⟨[]⟩) A'):Wc Tp theX W0 m0 137 [.pointer (some ⟨r,0,none⟩)] A K:=by
 obtain ⟨bs,h1,h2⟩:=h.ex
 refine w137 _ _ (cuts_none (S:=fun _ _ _=>False) fun _ _ _ h=>h) ?_
 rw [e137]
 simp only [pn147,pn167,nilP_some,fa_171_0,fa_169_0,fa_169_2,ld_167,cell_row h.rr.row,cellOf,isT_ptr,cond_false,pureW_some,Nat.zero_add]
 refine forkW_bool.2 ⟨fun _=>forkW_bool.2 ⟨fun _=>?_,fun h=>by simp at h⟩,fun h=>by simp at h⟩
 refine h1.store hf (by omega) (st_41 _ _ _) rfl (by simp) rfl fun A2 r2 k2 n2 f2=>?_
 have r2:Go.Abs.Row1 A2 v [.slice none 0 0,.bool true,.bool bad] 169:=r2
 refine r2.store f2 (by omega) (st_4 _ _ _) rfl (by simp) rfl fun A3 r3 k3 n3 f3=>?_
 have r3:Go.Abs.Row1 A3 v [.slice none 0 0,.bool true,.bool true] 169:=r3
 have hrv:r∉[v]:=by simpa using h.ne
 exact hk A3 ⟨(h.rr.keeps k2 hrv).keeps k3 hrv,⟨_,r3,.nil _ _⟩,fun _=>rfl,h.ne,by simp⟩ (k2.trans k3 (fun x hx=>.inl hx)) (by omega) f3
end
end Go.Proofs.YtbchfeibhoobeaaGreatDoor
