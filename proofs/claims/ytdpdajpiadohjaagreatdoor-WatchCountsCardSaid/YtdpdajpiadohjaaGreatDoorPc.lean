/-
  This text prints what the functions reached ask of their memory, and shows what they answer. Conditions: none for the last theorem, those that each theorem states for the others.
-/
import Derived.Test.YtdpdajpiadohjaaGreatDoorPb
import Derived.Below
import Derived.Carry
import Derived.ChangeSame
import Derived.Deep.Strs
import Derived.DeepKeys2
import Derived.HandedShaped
import Derived.KernelRfl
import Derived.Laws.StructEq
import Derived.Lib.Bytealg
import Derived.ProofKit
import Derived.Shelf.SlSortCmp.NoneTotal
import Derived.Stop.Joined
import Derived.Test.YtdpdajpiadohjaaGreatDoorProg
set_option maxRecDepth 100000
set_option maxHeartbeats 1000000
namespace Go.Abs
open Go.ChangeShapes Go.WideShapes Go.ChangeAt Go.RowKit
def progOk (P:Program):Bool:=P.funcs.toList.all fun fn=>match fn.body with | some c=>codeOk P c | none=>true
theorem pok_of {P:Program} (h:progOk P=true) (hm:P.follows .mixedOrders=true):POk P:=by
 refine ⟨fun f fn c hf hb=>?_,hm⟩
 unfold progOk at h
 have:=List.all_eq_true.1 h fn (by simpa using Array.mem_of_getElem? hf)
 rw [hb] at this
 exact this
def isT:Value→Bool
 | .bool b=>b
 | _=>false
def frOf (P:Program) (f:FuncId) (args:List Value):AFr:=(enterA P f args .normal).getD ⟨0,⟨0,.nil⟩,[],[],.run,.normal,none,false⟩
def rowsT:List (Nat × List Value × TypeId)→Trie AO
 | []=>.nil
 | x::r=>(rowsT r).put depth x.1 (some (.row x.2.1 x.2.2 x.1 0 true))
def wG (n:Nat) (l:List (Nat × List Value × TypeId)):AW:=⟨rowsT l,n,.nil⟩
theorem rowsT_get:∀ (l:List (Nat × List Value × TypeId)),(∀ x∈l,x.1 < maxId)→∀ i o,(rowsT l).get? i=some o→∃ x∈l,x.1=i∧o=.row x.2.1 x.2.2 i 0 true
 | [],_,i,o,h=>by simp [rowsT,Trie.get?] at h
 | x::r,hl,i,o,h=>by
  simp only [rowsT] at h
  rw [Trie.get?_put depth _ x.1 i _ (by have:=hl x (by simp);unfold depth maxId at *;omega)] at h
  split at h
  ·rename_i e
   subst e
   cases h
   exact ⟨x,by simp,rfl,rfl⟩
  ·obtain ⟨y,hy,h1,h2⟩:=rowsT_get r (fun y hy=>hl y (by simp [hy])) i o h
   exact ⟨y,by simp [hy],h1,h2⟩
def mG (P:Program):Inj P:=⟨fun i=>if i < P.globals.size then some (i,0) else none,fun _=>0,fun _=>0,fun _=>0,fun _ h=>absurd rfl h⟩
theorem mG_lt {P:Program} {i c d:Nat} (h:mG P i=some (c,d)):i < P.globals.size∧c=i∧d=0:=by
 have h:(if i < P.globals.size then some (i,0) else none)=some (c,d):=h
 split at h
 ·cases h;exact ⟨‹_›,rfl,rfl⟩
 ·cases h
theorem gG {P:Program}:GOk (mG P):=fun i hi=>by
 show (if i < P.globals.size then some (i,0) else none)=some (i,0)
 rw [if_pos hi]
def Holds (W:World) (l:List (Nat × List Value × TypeId)):Prop:=∀ x∈l,∃ fr,W.heap[x.1]? =some (.cells ⟨x.2.1⟩ x.2.2 fr)
def okG (n:Nat) (l:List (Nat × List Value × TypeId)):Bool:=Nat.ble n maxId&&l.all fun x=>Nat.blt x.1 n&&x.2.1.all (closedV 4)
theorem relG {P:Program} {W:World} {l:List (Nat × List Value × TypeId)} (hok:okG P.globals.size l=true) (hW:Holds W l):Rel (mG P) (wG P.globals.size l) W:=by
 unfold okG at hok
 simp only [Bool.and_eq_true,List.all_eq_true] at hok
 obtain ⟨hn,hl⟩:=hok
 have hn:=ble_true.1 hn
 have hget:∀ i o,(wG P.globals.size l).get i=some o→∃ x∈l,x.1=i∧o=.row x.2.1 x.2.2 i 0 true:=rowsT_get l fun x hx=>Nat.lt_of_lt_of_le (blt_true.1 (hl x hx).1) hn
 refine ⟨?_,?_,?_,?_,?_,hn,?_⟩
 ·intro i o c d hi hm
  obtain ⟨x,hx,rfl,rfl⟩:=hget i o hi
  obtain ⟨_,rfl,rfl⟩:=mG_lt hm
  obtain ⟨fr,hc⟩:=hW x hx
  refine ⟨_,hc,_,fr,rfl,fun i v hv=>⟨v,by simpa using hv,fun _=>closedV_rel 4 v ((hl x hx).2 v (List.mem_of_getElem? hv)),fun h=>by cases h⟩⟩
 ·intro i cs e b ro hi c d hm
  exact (mG_lt hm).2.2
 ·intro i j oi oj c di dj hij hi hj hmi hmj
  obtain ⟨x,hx,rfl,rfl⟩:=hget i oi hi
  obtain ⟨y,hy,rfl,rfl⟩:=hget j oj hj
  exact .inl ⟨rfl,rfl⟩
 ·intro i o f b hi hf
  obtain ⟨x,hx,rfl,rfl⟩:=hget i o hi
  simp only [AO.fam,Option.some.injEq,Prod.mk.injEq] at hf
  obtain ⟨rfl,rfl⟩:=hf
  refine ⟨?_,blt_true.1 (hl x hx).1⟩
  show x.1∈(match (Trie.nil:Trie (List Nat)).get? x.1 with | some l=>l | none=>[x.1])
  simp [Trie.get?]
 ·intro i hi
  have hi:P.globals.size≤i:=hi
  refine ⟨?_,?_,rfl⟩
  ·cases hq:(wG P.globals.size l).get i with
   | none=>rfl
   | some o=>
    obtain ⟨x,hx,rfl,_⟩:=hget i o hq
    have:=blt_true.1 (hl x hx).1
    omega
  ·show (if i < P.globals.size then some (i,0) else none)=none
   rw [if_neg (by omega)]
 ·intro i cs e f b ro c d hi hm
  obtain ⟨x,hx,rfl,he⟩:=hget i _ hi
  cases he
  obtain ⟨_,rfl,rfl⟩:=mG_lt hm
  obtain ⟨fr,hc⟩:=hW x hx
  exact ⟨fun h=>absurd rfl h,_,_,fr,hc,by show 0+0≤_;omega,fun h=>by cases h⟩
theorem ownG {P:Program} {l:List (Nat × List Value × TypeId)} (hok:okG P.globals.size l=true) (c:Nat):¬ Own (mG P) (wG P.globals.size l) c:=by
 rintro ⟨i,o,d,hi,hro,_⟩
 unfold okG at hok
 simp only [Bool.and_eq_true,List.all_eq_true] at hok
 obtain ⟨x,hx,rfl,rfl⟩:=rowsT_get l (fun x hx=>Nat.lt_of_lt_of_le (blt_true.1 (hok.2 x hx).1) (ble_true.1 hok.1)) i o hi
 cases hro
theorem low_of {P:Program} {m m':Inj P} {A A':AW} {w w':World} {lo:Nat} (h:EvL lo m A w m' A' w') (hno:∀ c,¬ Own m A c):Low w w':=
 ⟨⟨h.os,h.tape,h.output,h.size,fun k hk=>h.keep k hk (hno k)⟩,h.draws⟩
theorem below_of {P:Program} {m m':Inj P} {A A':AW} {w w':World} {lo:Nat} (h:EvL lo m A w m' A' w') (hno:∀ c,¬ Own m A c):Below w.heap.size w w':=
 ⟨h.os,h.tape,h.output,h.size,fun k hk=>h.keep k hk (hno k)⟩
theorem calls_true {P:Program} {X:XNames} (hP:POk P) {l:List (Nat × List Value × TypeId)} (hok:okG P.globals.size l=true) {g:FuncId} {args:List Value} (hcl:args.all (closedV 4)=true) (he:(enterA P g args .normal).isSome=true)
  (W:World) (hW:Holds W l)
  (h:Answers P X W (mG P) isT ⟨frOf P g args,[],wG P.globals.size l⟩):Calls P g ⟨args⟩ W fun e W'=>e=.returned (.bool true)∧Low W W':=by
 obtain ⟨fr,hfr⟩:=Option.isSome_iff_exists.1 he
 have hfo:frOf P g args=fr:=by unfold frOf;rw [hfr];rfl
 rw [hfo] at h
 refine (calls_of_answers (w:=W) hP hfr h (relG hok hW) gG (ownG hok) (VRels.self fun v hv=>closedV_rel 4 v (List.all_eq_true.1 hcl v hv))).mono ?_
 rintro e w' ⟨v,v',m',A',h1,rfl,h2,h3⟩
 refine ⟨?_,low_of h3 (ownG hok)⟩
 cases v with
 | bool b=>
  have h1:b=true:=h1
  subst h1
  cases h2;rfl
 | _=>cases h1
def mA (P:Program) (l:List (Nat × Nat)):Inj P:=⟨fun i=>if i < P.globals.size then some (i,0) else l[i - P.globals.size]?,fun _=>0,fun _=>0,fun _=>0,fun _ h=>absurd rfl h⟩
theorem mA_var {P:Program} {l:List (Nat × Nat)} {i:Nat} (h:i < P.globals.size):mA P l i=some (i,0):=by
 show (if i < P.globals.size then some (i,0) else l[i - P.globals.size]?)=some (i,0)
 rw [if_pos h]
theorem mA_arg {P:Program} {l:List (Nat × Nat)} (i:Nat):mA P l (P.globals.size+i)=l[i]? :=by
 show (if P.globals.size+i < P.globals.size then some (P.globals.size+i,0) else l[P.globals.size+i - P.globals.size]?)=l[i]?
 rw [if_neg (by omega),Nat.add_sub_cancel_left]
theorem kc_true {P:Program} {rows:List (Nat × List Value × TypeId)} {g:FuncId} (hg:g≠sameFn) (h:∀ W,Holds W rows→Calls P g #[] W fun e W'=>e=.returned (.bool true)∧Low W W') {W0:World} (hW:Holds W0 rows) (m0:Inj P):
  KC.Holds P W0 m0 ⟨g,[],[.bool true]⟩:=by
 refine ⟨fun e=>absurd e hg,fun _=>?_⟩
 intro m args' W _ hb ha
 cases ha
 refine (h W fun x hx=>?_).mono ?_
 ·obtain ⟨fr,hc⟩:=hW x hx
  exact ⟨fr,by rw [hb.block x.1 (Array.getElem?_eq_some_iff.1 hc).1];exact hc⟩
 ·rintro e W' ⟨rfl,hb'⟩
  exact ⟨_,by simp,rfl,hb'⟩
theorem slice_rel {P:Program} {l:List (Nat × Nat)} {i n c:Nat} {a:Addr} (hl:l[i]? =some (a.block,a.off)) (hn:n≤c) (hc:c < capU) (hs:0 < c→a.spot=none):
  VRel (mA P l) (.slice (some ⟨P.globals.size+i,0,none⟩) n c) (.slice (some a) n c):=
 .slice (.inl ⟨hc,rfl⟩) hn fun hp=>⟨rfl,hs hp,a.off,by rw [mA_arg];exact hl,rfl⟩
def IsSlice (s:Value):Prop:=s=.slice none 0 0∨∃ (a:Addr) (n c:Nat),s=.slice (some a) n c∧n≤c∧c < capU∧(0 < c→a.spot=none)
def placeOf:Value→Nat × Nat
 | .slice (some a) _ _=>(a.block,a.off)
 | _=>(0,0)
section
variable {H:Type} {enc:TypeId × Value→H}
theorem returnsInHanded_and_shaped {a:Assume} {C:Checked} {os:Os} {f:FuncId} {fn:Func} {s:ChangeSpec} {conds:List PathCond} {apart fresh handsOn again:Bool} {X:World→Array Value→Prop}
  (hX:∀ (w w':World) (args:Array Value),w.heap=w'.heap→X w args→X w' args)
  (own:ownKnob C.prog.godebug=none) (started:os.Started) (noInit:C.prog.inits.idxOf? f=none) (hfn:C.prog.funcs[f]? =some fn)
  (witness:∃ (w:World) (tape:Tape) (i:Input),w.os=os∧(w.forCall tape i).Shaped C.prog∧i.vars=[]∧Input.okWide C.prog (w.forCall tape i) .any w.heap.size f i∧
   ((s.pre enc C.prog fn conds apart (w.forCall tape i).memory i.args∧X (w.forCall tape i).memory i.args)∧sizedMet enc C.prog fn (OpenSpec.ofChange s) apart (w.forCall tape i).memory i.args)∧a.holds C.prog (lone (Frame.enter C.prog f i.args .normal) [] (w.forCall tape i)))
  (contract:∀ (W:World) (base:Nat) (args:Array Value) (ds gs:List (DataW H)) (before:List MemPlace),
   (∀ (j:Nat) t v,fn.params[j]? =some t→args[j]? =some v→Value.okWide C.prog W .any base t v)→
   DataW.Whole enc C.prog fn.params.toList s.vars apart W args.toList ds gs before→
   conds.all (PathCond.test C.prog ⟨fn.params.toList,ds,s.plain.varTypes C.prog,gs⟩)=true→
   (DataW.weightsEach C.prog (fn.params.toList++s.plain.varTypes C.prog) (ds++gs)).all (·≤reachBytes)=true→X W args→W.ShapedOpen C.prog→
   Calls C.prog f args W fun e W'=>∃ v,e=.returned v∧s.post enc C.prog fn apart fresh handsOn again W args v W'):
  ReturnsInHanded a C os f .any (fun w args=>(s.pre enc C.prog fn conds apart w args∧X w args)∧sizedMet enc C.prog fn (OpenSpec.ofChange s) apart w args) (s.post enc C.prog fn apart fresh handsOn again):=by
 refine returnsInHanded_of_calls own started noInit witness ?_
 intro w tape i _ hsh _ hok hpre hholds
 obtain ⟨_,_,_,fn',hfn',_,_,_,_,hval⟩:=hok
 have e:fn'=fn:=Option.some.inj (hfn'.symm.trans hfn)
 subst e
 obtain ⟨⟨⟨ds,gs,before,hw,hc⟩,hx⟩,hz⟩:=hpre
 have hw':=DataW.Whole.of_heap (w':=w.forCall tape i) (by rfl) hw
 refine (contract (w.forCall tape i) w.heap.size i.args ds gs before hval hw' hc (hz.weights hw) (hX _ _ _ (by rfl) hx) hsh).mono fun e W' ⟨v,he,hp⟩=>?_
 subst he
 exact ChangeSpec.post_blind hp
theorem read_slice {P:Program} {w:World} {t e:TypeId} {fuel:Nat} {cs:List Value} {x:DataW H × List MemPlace} (hu:P.underlying t=some (.slice e)) (hz:0 < P.cellsOf e) (h:DataW.trod enc P w 0 (fun _=>true) true fuel t cs=some x):∃ s,cs=[s]∧IsSlice s:=by
 rcases Go.Deep.open_slice hu h with ⟨h1,_⟩ | ⟨a,n,c,m,_,D,Pl,h1,_,hn,hm,rfl,_,hx⟩
 ·exact ⟨_,h1,.inl rfl⟩
 ·refine ⟨_,h1,.inr ⟨a,n,m,rfl,hn,Nat.lt_of_le_of_lt hm (by decide),fun hp=>?_⟩⟩
  obtain ⟨cs',h2,_⟩:=hx 0 hp
  obtain ⟨_,hl,h3⟩:=World.cells?_some h2
  have h4:=h3 0 hz
  have h5:cs'[0]? =some (cs'[0]'(by rw [hl];exact hz)):=List.getElem?_eq_getElem _
  rw [h5] at h4
  unfold World.cell? at h4
  split at h4
  ·split at h4
   ·cases h4
   ·rename_i hsp
    cases hq:a.spot with
    | none=>rfl
    | some z=>exact absurd (by simp [Addr.add,hq]) hsp
  ·cases h4
variable {P:Program}
theorem post_of_below {f:Func} {s:ChangeSpec} {apart fresh handsOn again:Bool} {W W':World} {args:Array Value} {v:Value} {ds gs:List (DataW H)} {before pa pv:List MemPlace}
  (hW:DataW.Whole enc P f.params.toList s.vars apart W args.toList ds gs before)
  (hres:∀ (b:Nat) (sp:Nat→Bool) (hd:Bool),DataW.TrodAll enc P W' b sp hd f.resultTypes.toList (v.resultList f.resultTypes.size) (s.fn H (ds++gs)).results [])
  (hargs:∀ sp:Nat→Bool,(∀ p∈before,sp p.block=true)→DataW.TrodAll enc P W' 0 sp true f.params.toList args.toList (s.fn H (ds++gs)).args pa)
  (hvars:∀ sp:Nat→Bool,(∀ p∈before,sp p.block=true)→DataW.TrodVars enc P W' sp s.vars (s.fn H (ds++gs)).vars pv)
  (hps:before=pa++pv) (hb:Below W.heap.size W W')
  (hok:∀ (j:Nat) (t:TypeId) (r:Value),f.resultTypes[j]? =some t→(v.resultList f.resultTypes.size)[j]? =some r→Value.okWide P W' .any 0 t r):
  s.post enc P f apart fresh handsOn again W args v W':=by
 have hlt:∀ p∈before,p.block < W.heap.size:=fun p hp=>hW.lt p hp
 have hold:∀ p∈before,(fun b=>decide (b < W.heap.size)) p.block=true:=fun p hp=>by simpa using hlt p hp
 refine ⟨ds,gs,before,[],pa,pv,hW,hres _ _ _,hargs _ hold,hvars _ hold,World.keptBut_mono (fun p hp=>⟨hp,?_⟩) (hb.frame (·∈before)),fun _=>?_⟩
 ·rw [hps,List.mem_append] at hp
  exact Or.inr hp
 ·obtain ⟨_,_,_,_,_,hz,hn⟩:=hW
  refine ⟨hok,_,_,([]++pa)++pv,⟨[]++pa,pv,trodAll_append (hargs _ (fun _ _=>rfl)) (hres _ _ _),hvars _ (fun _ _=>rfl),rfl,?_,?_⟩,?_⟩
  ·intro b off hp
   have hin:MemPlace.cell b off∈before:=by rw [hps];simpa using hp
   rw [hb.frozen (hlt _ hin)]
   exact hz b off hin
  ·intro ha
   have:=hn ha
   rw [hps] at this
   simpa using this
  ·intro p hp _
   rw [hps]
   simpa using hp
end
end Go.Abs
namespace Go.Abs
section
variable {P:Program} {X:XNames} {W0:World} {m0:Inj P}
def WP (P:Program) (X:XNames) (W0:World) (m0:Inj P) (s:ASt) (Q:Value→AW→Prop):Prop:=
 ∀ (f0:FuncId) (base lo:Nat) (cs0:List Frame) (m:Inj P) (f:Frame) (csW:List Frame) (w:World),SRel P X f0 base lo m s f csW w→Old W0 m0 m s.w w→
  ∃ v A',Q v A'∧∃ v' m' w' f',Steps P (lone f (csW++cs0) w) (lone f' cs0 w')∧VRel m' v v'∧EvL base m s.w w m' A' w'∧f'.leaving P w' (.returned v')∧f'.fn=f0
theorem Reach.wp {s:ASt} {L:List ASt} {Q:Value→AW→Prop} (h:Reach P X W0 m0 s L) (h':∀ x∈L,WP P X W0 m0 x Q):WP P X W0 m0 s Q:=by
 intro f0 base lo cs0 m f csW w hr ho
 obtain ⟨s',hs',lo1,m1,f1,cs1,w1,t1,t2,t3⟩:=h f0 base lo cs0 m f csW w hr ho
 obtain ⟨v,A',hq,v',m',w',f',u1,u2,u3,u4,u5⟩:=h' s' hs' f0 base lo1 cs0 m1 f1 cs1 w1 t3 (ho.next t2)
 exact ⟨v,A',hq,v',m',w',f',t1.trans u1,u2,t2.trans u3,u4,u5⟩
theorem Reach.wp1 {s s':ASt} {Q:Value→AW→Prop} (h:Reach P X W0 m0 s [s']) (h':WP P X W0 m0 s' Q):WP P X W0 m0 s Q:=h.wp fun x hx=>by simp at hx;subst hx;exact h'
theorem Res.wp {s:ASt} {l:List (Value × AW)} {Q:Value→AW→Prop} (h:Res P X W0 m0 s l) (hq:∀ x∈l,Q x.1 x.2):WP P X W0 m0 s Q:=by
 intro f0 base lo cs0 m f csW w hr ho
 obtain ⟨x,hx,r⟩:=h f0 base lo cs0 m f csW w hr ho
 exact ⟨x.1,x.2,hq x hx,r⟩
theorem wp_sub {fr c:AFr} {rest:List AFr} {A:AW} {K Q:Value→AW→Prop} (hk:fr.kind=.normal) (hro:fr.roundOf=none) (h:WP P X W0 m0 ⟨fr,[],A⟩ K) (h':∀ v A',K v A'→WP P X W0 m0 ⟨c.finish v,rest,A'⟩ Q):
  WP P X W0 m0 ⟨fr,c::rest,A⟩ Q:=by
 intro f0 base lo cs0 m f csW w hr ho
 obtain ⟨lo1,g,l',rfl,h1,h2,h3⟩:=hr.stk.inv
 have hbase:=hr.stk.base
 have hlo:=hr.below
 have hs:SRel P X fr.fn lo lo m ⟨fr,[],A⟩ f [] w:=⟨hr.rel,hr.glob,hr.below,hr.top,.nil lo (Nat.le_refl _),⟨hk,rfl,hro⟩⟩
 obtain ⟨v,A',hK,v',m',w',f',u1,u2,u3,u4,u5⟩:=h fr.fn lo lo (g::l'++cs0) m f [] w hs ho
 have hnext:A.next≤A'.next:=u3.next
 have hsim:Sim P X f0 base cs0 m A w (lone f (g::l'++cs0) w) ⟨c.finish v,rest,A'⟩:=by
  refine ⟨lo1,m',g.finish v',l',w',?_,u3.weak hbase,u3.rel,hr.glob.mono u3.ext,?_,?_,?_,?_⟩
  ·exact u1.trans (.one (step_leave_returned u4))
  ·show lo1≤A'.next
   have:lo≤A.next:=hlo
   omega
  ·refine (h2.mono (A':=A') u3.ext (fun i hi=>u3.same i hi) (Nat.le_refl lo)).finish u2 ?_
   have:lo≤A.next:=hlo
   show lo≤A'.next
   omega
  ·exact h3.mono u3.ext fun i hi=>u3.same i (by omega)
  ·have hb:Bot f0 (c::rest):=hr.bot
   exact hb.finish v
 obtain ⟨lo2,m2,f2,cs2,w2,t1,t2,t3⟩:=hsim
 obtain ⟨v2,A2,hq,v3,m3,w3,f3,s1,s2,s3,s4,s5⟩:=h' v A' hK f0 base lo2 cs0 m2 f2 cs2 w2 t3 (ho.next t2)
 exact ⟨v2,A2,hq,v3,m3,w3,f3,t1.trans s1,s2,t2.trans s3,s4,s5⟩
def Wc (P:Program) (X:XNames) (W0:World) (m0:Inj P) (g:FuncId) (args:List Value) (A:AW) (K:Value→AW→Prop):Prop:=
 (enterA P g args .normal).isSome=true∧WP P X W0 m0 ⟨frOf P g args,[],A⟩ K
theorem calls_of_wc (hP:POk P) {m:Inj P} {A:AW} {w:World} {g:FuncId} {args args':List Value} {Q:Value→AW→Prop} (h:Wc P X w m g args A Q) (r:Rel m A w) (hG:GOk m)
  (hno:∀ c,¬ Own m A c) (ha:VRels m args args'):Calls P g ⟨args'⟩ w fun e w'=>∃ v v' m' A',Q v A'∧e=.returned v'∧VRel m' v v'∧EvL A.next m A w m' A' w':=by
 intro cs0
 obtain ⟨fr,he⟩:=Option.isSome_iff_exists.1 h.1
 have h2:=h.2
 unfold frOf at h2
 rw [he] at h2
 obtain ⟨g1,g2,g3,g4⟩:=enter_rel (X:=X) (A:=A) hP he ha (.inl rfl) A.next A.next
 have hs:SRel P X g A.next A.next m ⟨fr,[],A⟩ (Frame.enter P g ⟨args'⟩ .normal) [] w:=⟨r,hG,Nat.le_refl _,g1,.nil _ (Nat.le_refl _),⟨g2,g3,g4⟩⟩
 obtain ⟨v,A',hq,v',m',w',f',k1,k2,k3,k4,k5⟩:=h2 g A.next A.next cs0 m _ [] w hs ⟨.refl m,.refl _ _,fun c _=>hno c⟩
 exact ⟨.returned v',w',f',⟨v,v',m',A',hq,rfl,k2,k3⟩,k1,k5,k4⟩
theorem wp_lib (hX:XOk P X) (hP:POk P) {s s':ASt} {g:FuncId} {args:List Value} {K Q:Value→AW→Prop} (h:stepD P X s=.calls g args s')
  (hk:∀ (m:Inj P) (w:World) (args':List Value),Rel m s'.w w→m0.le m→Go.RowKit.Below W0.heap.size W0 w→VRels m args args'→
   Calls P g ⟨args'⟩ w fun e w'=>∃ v v' m' A',K v A'∧e=.returned v'∧VRel m' v v'∧EvL s'.w.next m s'.w w m' A' w')
  (h':∀ v A',K v A'→WP P X W0 m0 ⟨s'.fr.finish v,s'.cs,A'⟩ Q):WP P X W0 m0 s Q:=by
 intro f0 base lo cs0 m f csW w hr ho
 have hs:=step_says (cs0:=cs0) hX hP hr
 rw [h] at hs
 obtain ⟨lo',m',f',cs',w',args',t1,t2,t3,t4,t5,t6,t7,t8⟩:=hs
 have ho':=ho.next t2
 obtain ⟨e,w'',fr,⟨v,v',m2,A2,hK,rfl,hv,hev⟩,hst,_,hlv⟩:=hk m' w' args' t2.rel ho'.le ho'.below t3 (f'::(cs'++cs0))
 have hst:Steps P (lone (Frame.enter P g ⟨args'⟩ .normal) (f'::(cs'++cs0)) w') (lone fr (f'::(cs'++cs0)) w''):=hst
 have hbase:=t7.base
 have hnext:s'.w.next≤A2.next:=hev.next
 have hev0:EvL base m' s'.w w' m2 A2 w'':=hev.weak (by omega)
 have hsim:Sim P X f0 base cs0 m s.w w (lone f (csW++cs0) w) ⟨s'.fr.finish v,s'.cs,A2⟩:=
  ⟨lo',m2,f'.finish v',cs',w'',t1.trans (hst.trans (.one (step_leave_returned hlv))),t2.trans hev0,hev.rel,t4.mono hev.ext,(by show lo'≤A2.next;omega),
   (t6.mono hev.ext hev.same hnext).finish hv (Nat.le_refl _),t7.mono hev.ext fun i hi=>hev.same i (by omega),t8.finish v⟩
 obtain ⟨lo2,m3,f3,cs3,w3,u1,u2,u3⟩:=hsim
 obtain ⟨v2,A3,hq,v3,m4,w4,f4,s1,s2,s3,s4,s5⟩:=h' v A2 hK f0 base lo2 cs0 m3 f3 cs3 w3 u3 (ho.next u2)
 exact ⟨v2,A3,hq,v3,m4,w4,f4,u1.trans s1,s2,u2.trans s3,s4,s5⟩
def pureW (r:Option Value) (K:Value→Prop):Prop:=∃ v,r=some v∧K v
def effW (r:Option AW) (K:AW→Prop):Prop:=∃ A,r=some A∧K A
def bothW (r:R Value) (K:Value→AW→Prop):Prop:=∃ v A,r=.ok v A∧K v A
def LibW (P:Program) (W0:World) (m0:Inj P) (g:FuncId) (args:List Value) (A:AW) (K:Value→AW→Prop):Prop:=
 ∀ (m:Inj P) (w:World) (args':List Value),Rel m A w→m0.le m→Go.RowKit.Below W0.heap.size W0 w→VRels m args args'→
  Calls P g ⟨args'⟩ w fun e w'=>∃ v v' m' A',K v A'∧e=.returned v'∧VRel m' v v'∧EvL A.next m A w m' A' w'
def knW (P:Program) (W0:World) (m0:Inj P) (g:FuncId) (args:List Value) (A:AW) (K:Value→AW→Prop):Prop:=
 (∃ vals,g≠sameFn∧KC.Holds P W0 m0 ⟨g,args,vals⟩∧vals.all (closedV 4)=true∧∀ v∈vals,K v A)∨LibW P W0 m0 g args A K
def toW (P:Program) (X:XNames) (W0:World) (m0:Inj P) (g:FuncId) (args:List Value) (A:AW) (K:Value→AW→Prop):Prop:=
 bif memN g X.known then knW P W0 m0 g args A K else Wc P X W0 m0 g args A K
abbrev roundFr (fn:FuncId) (tm:Tm) (assign body:Code) (l:Nat):AFr:=⟨fn,tm,[.code assign,.beginRound,.code body],[],.run,.normal,some l,false⟩
def RoundW (P:Program) (X:XNames) (W0:World) (m0:Inj P) (l:Nat) (fn:FuncId) (tm:Tm) (assign body:Code) (A:AW) (K:Value→AW→Prop):Prop:=
 ∀ (c:AFr) (rest:List AFr) (Q:Value→AW→Prop),(∀ v A',K v A'→WP P X W0 m0 ⟨c.finish v,rest,A'⟩ Q)→WP P X W0 m0 ⟨roundFr fn tm assign body l,c::rest,A⟩ Q
def candsOf (es:List MapEntry) (since:Nat) (seen:List Nat):List (Option MapEntry):=
 (if ((es.filter fun e=>!seen.contains e.born).filter fun e=>Nat.blt e.born since).isEmpty then [none] else [])++
  (((es.filter fun e=>!seen.contains e.born).filter fun e=>Nat.blt e.born since)++((es.filter fun e=>!seen.contains e.born).filter fun e=>Nat.ble since e.born)).map some
def nextW (A:AW) (r:Nat) (K:Value→AW→Prop):Prop:=
 ∃ m since seen last es clock ro,A.get r=some (.mit (some m) since seen last)∧A.get m=some (.map es clock ro)∧(!seen.isEmpty&&!es.isEmpty&&es.all (fun e=>Nat.ble last e.born))=false∧
  ∀ c∈candsOf es since seen,(match c with
   | some e=>K (.tuple #[.bool true,e.key,e.val]) (A.put r (.mit (some m) since (seen++[e.born]) clock))
   | none=>K (.tuple #[.bool false]) A)
def anW (P:Program) (X:XNames) (W0:World) (m0:Inj P) (r:R AN) (K:Value→AW→Prop):Prop:=
 (∃ v A,r=.ok (.value v) A∧K v A)∨(∃ g args A,r=.ok (.enter g args) A∧toW P X W0 m0 g args A K)∨
  (∃ l fn tm assign body A,r=.ok (.round l fn tm assign body) A∧RoundW P X W0 m0 l fn tm assign body A K)∨(∃ it A,r=.ok (.rangeNext it) A∧nextW A it K)
def pickW (c a b:Value) (K:Value→Prop):Prop:=∃ t,c=.bool t∧K (bif t then a else b)
def loadP (P:Program) (A:AW) (t:TypeId) (a:Value):Option Value:=match a with | .pointer (some a)=>loadVarA P A t a | _=>none
def storeP (P:Program) (A:AW) (t:TypeId) (a x:Value):Option AW:=match a with | .pointer (some a)=>storeVarA P A t a x | _=>none
def newP (A:AW) (cs:List Value) (e:TypeId):R Value:=match A.newRow cs e with | some (a,A')=>.ok (.pointer (some a)) A' | none=>.fail ""
def allocP (P:Program) (A:AW) (e:TypeId):R Value:=match zeroT P e with | some z=>newP A z.cells.toList e | none=>.fail ""
def newMapP (A:AW):R Value:=match A.new (.map [] 0 false) with | some (b,A')=>.ok (.map (some b)) A' | none=>.fail ""
def ifaceP (P:Program) (t:TypeId) (x:Value):Option Value:=match P.underlying t with | some (.interface _)=>none | some _=>some (.iface t x) | none=>none
def extractP (t:Value) (i:Nat):Option Value:=match t with | .tuple vs=>vs.toList[i]? | _=>none
def mapEntryP (P:Program) (A:AW) (t:TypeId) (m k:Value):R Value:=match mapEntryA P A t m k with | some (v,A')=>.ok v A' | none=>.fail ""
def nilP (x:Value):Option Value:=match x with | .pointer none=>none | .nilIface=>none | .nilFunc=>none | .func (.method _) _ _=>none | x=>some x
def dynA (P:Program) (X:XNames) (A:AW) (f:Value) (args:List Value):R AN:=match f with | .func fn first captured=>invokeA P X A (.fn fn captured) (first.toList++args) | _=>.fail ""
def minP (x:Value) (r:List Value):Option Value:=match x with | .int k a=>(match minL a r with | some n=>some (.int k n) | none=>none) | _=>none
def maxP (x:Value) (r:List Value):Option Value:=match x with | .int k a=>(match maxL a r with | some n=>some (.int k n) | none=>none) | _=>none
def callW (P:Program) (X:XNames) (W0:World) (m0:Inj P) (ρ:Operand→Value) (c:Call) (type:TypeId) (A:AW) (K:Value→AW→Prop):Prop:=
 match c.callee,c.argTypes.toList,c.args.toList with
 | .builtin .len,[t],[x]=>pureW (lenA P A t (ρ x)) fun v=>K v A
 | .builtin .append,[t,t2],[s,x]=>bothW (appendA P A t t2 (ρ s) (ρ x)) K
 | .builtin .copy,[t,_],[d,x]=>bothW (copyA P A t (ρ d) (ρ x)) K
 | .builtin .delete,[t,_],[m,k]=>effW (deleteA P A t (ρ m) (ρ k)) fun A=>K (.tuple #[]) A
 | .builtin .clear,[t],[x]=>effW (clearA P A t (ρ x)) fun A=>K (.tuple #[]) A
 | .builtin .min,_,x::r=>pureW (minP (ρ x) (r.map ρ)) fun v=>K v A
 | .builtin .max,_,x::r=>pureW (maxP (ρ x) (r.map ρ)) fun v=>K v A
 | .value (.func f),_,args=>bif hasBody P f then toW P X W0 m0 f (args.map ρ) A K else anW P X W0 m0 (callFuncA P X A f (args.map ρ)) K
 | .value f,_,args=>anW P X W0 m0 (dynA P X A (ρ f) (args.map ρ)) K
 | .invoke recv name,_,args=>anW P X W0 m0 (callMethodA P X A (ρ recv) name (args.map ρ)) K
 | .builtin b,ts,args=>anW P X W0 m0 (builtinA P A b ts type (args.map ρ)) K
def opW (P:Program) (X:XNames) (W0:World) (m0:Inj P) (ρ:Operand→Value) (o:Oper) (A:AW) (K:Value→AW→Prop):Prop:=
 match o.op with
 | .move x=>K (ρ x) A
 | .assign x=>K (ρ x) A
 | .pick c a b=>pickW (ρ c) (ρ a) (ρ b) fun v=>K v A
 | .alloc e=>bothW (allocP P A e) K
 | .box e x=>bothW (newP A (ρ x).cells.toList e) K
 | .build t parts=>pureW (buildA P t (pickAt parts.toList ρ)) fun v=>K v A
 | .buildSlice t len parts=>bothW (buildSliceA P A t len (pickAt parts.toList ρ)) K
 | .load t a=>pureW (loadP P A t (ρ a)) fun v=>K v A
 | .store t a x=>effW (storeP P A t (ρ a) (ρ x)) fun A=>K undef A
 | .nilCheck x=>pureW (nilP (ρ x)) fun v=>K v A
 | .binOp op t x y _=>pureW (binA P op t x y (ρ x) (ρ y)) fun v=>K v A
 | .unOp op _ x=>pureW (unA P op (ρ x)) fun v=>K v A
 | .convert s d x=>bothW (convertA P A s d (ρ x)) K
 | .makeInterface t x=>pureW (ifaceP P t (ρ x)) fun v=>K v A
 | .makeFunc fn first captured=>(match fn with | .yield _=>False | _=>K (.func fn ⟨first.toList.map ρ⟩ ⟨captured.toList.map ρ⟩) A)
 | .makeMap _ none=>bothW (newMapP A) K
 | .makeSlice t l c=>bothW (makeSliceA P A t (ρ l) (ρ c)) K
 | .slice t x lo hi mx=>pureW (sliceA P A t (ρ x) (lo.map ρ) (hi.map ρ) (mx.map ρ)) fun v=>K v A
 | .fieldAddr s x f=>pureW (fieldAddrA P s (ρ x) f) fun v=>K v A
 | .field s x f=>pureW (fieldA P s (ρ x) f) fun v=>K v A
 | .indexAddr t x ix=>pureW (indexAddrA P t (ρ x) (ρ ix)) fun v=>K v A
 | .index t x ix=>pureW (indexA P t (ρ x) (ρ ix)) fun v=>K v A
 | .lookup t x k ok=>pureW (lookupA P A t (ρ x) (ρ k) ok) fun v=>K v A
 | .mapUpdate t m k x=>effW (mapUpdateA P A t (ρ m) (ρ k) (ρ x)) fun A=>K undef A
 | .insert t m k x=>effW (mapUpdateA P A t (ρ m) (ρ k) (ρ x)) fun A=>K undef A
 | .mapEntry t m k=>bothW (mapEntryP P A t (ρ m) (ρ k)) K
 | .entryStore _ m s x=>effW (entryStoreA A (ρ m) (ρ s) (ρ x)) fun A=>K undef A
 | .typeAssert x xt at_ ok=>pureW (typeAssertA P (ρ x) xt at_ ok) fun v=>K v A
 | .extract t ix=>pureW (extractP (ρ t) ix) fun v=>K v A
 | .call c=>callW P X W0 m0 ρ c o.type A K
 | _=>anW P X W0 m0 (execA P X ρ o A) K
def Does (P:Program) (X:XNames) (W0:World) (m0:Inj P) (r:R AN) (K:Value→AW→Prop):Prop:=
 (∃ v A,r=.ok (.value v) A∧K v A)∨(∃ A,r=.ok .skip A∧K undef A)∨(∃ g args A,r=.ok (.enter g args) A∧toW P X W0 m0 g args A K)∨
  (∃ l fn tm assign body A,r=.ok (.round l fn tm assign body) A∧RoundW P X W0 m0 l fn tm assign body A K)∨(∃ it A,r=.ok (.rangeNext it) A∧nextW A it K)
theorem anW.does {r:R AN} {K:Value→AW→Prop} (h:anW P X W0 m0 r K):Does P X W0 m0 r K:=by
 rcases h with h | h | h
 ·exact .inl h
 ·exact .inr (.inr (.inl h))
 ·exact .inr (.inr (.inr h))
end
section
variable {P:Program} {X:XNames} {W0:World} {m0:Inj P}
theorem does_pure {r:Option Value} {A:AW} {K:Value→AW→Prop} (h:pureW r fun v=>K v A) {why:String}:Does P X W0 m0 (match (generalizing:=false) r with | some v=>.ok (.value v) A | none=>.fail why) K:=by
 obtain ⟨v,rfl,hk⟩:=h
 exact .inl ⟨v,A,rfl,hk⟩
theorem does_eff {r:Option AW} {K:Value→AW→Prop} (h:effW r fun A=>K undef A) {why:String}:Does P X W0 m0 (match (generalizing:=false) r with | some A=>.ok .skip A | none=>.fail why) K:=by
 obtain ⟨v,rfl,hk⟩:=h
 exact .inr (.inl ⟨v,rfl,hk⟩)
theorem does_effT {r:Option AW} {K:Value→AW→Prop} (h:effW r fun A=>K (.tuple #[]) A) {why:String}:Does P X W0 m0 (match (generalizing:=false) r with | some A=>.ok (.value (.tuple #[])) A | none=>.fail why) K:=by
 obtain ⟨v,rfl,hk⟩:=h
 exact .inl ⟨_,v,rfl,hk⟩
theorem does_both {r:R Value} {K:Value→AW→Prop} (h:bothW r K):Does P X W0 m0 (match (generalizing:=false) r with | .ok v A=>.ok (.value v) A | .panic v A=>.panic v A | .fail y=>.fail y) K:=by
 obtain ⟨v,A,rfl,hk⟩:=h
 exact .inl ⟨v,A,rfl,hk⟩
theorem does_value {v:Value} {A:AW} {K:Value→AW→Prop} (h:K v A):Does P X W0 m0 (.ok (.value v) A) K:=.inl ⟨v,A,rfl,h⟩
theorem callW_does {ρ:Operand→Value} (hρ:∀ f,ρ (.func f)=.func (.func f) #[] #[]) {c:Call} {type:TypeId} {A:AW} {K:Value→AW→Prop} (h:callW P X W0 m0 ρ c type A K):
  Does P X W0 m0 (match (generalizing:=false) resolveA ρ c type with | some d=>invokeA P X A d.target d.args.toList | none=>.fail "call no function") K:=by
 obtain ⟨callee,args,ts⟩:=c
 unfold callW at h
 simp only at h
 unfold resolveA
 split at h
 ·rename_i h1 h2
  simp only [h1,h2,invokeA,builtinA,List.map_cons,List.map_nil]
  exact does_pure h
 ·rename_i h1 h2
  simp only [h1,h2,invokeA,builtinA,List.map_cons,List.map_nil]
  exact does_both h
 ·rename_i h1 h2
  simp only [h1,h2,invokeA,builtinA,List.map_cons,List.map_nil]
  exact does_both h
 ·rename_i h1 h2
  simp only [h1,h2,invokeA,builtinA,List.map_cons,List.map_nil]
  exact does_effT h
 ·rename_i h1 h2
  simp only [h1,h2,invokeA,builtinA,List.map_cons,List.map_nil]
  exact does_effT h
 ·rename_i x r h2
  simp only [h2,invokeA,List.map_cons]
  obtain ⟨v,hv,hk⟩:=h
  unfold minP at hv
  split at hv
  ·rename_i k a he
   split at hv
   ·rename_i n hn
    cases hv
    simp only [he,builtinA,hn]
    exact does_value hk
   ·cases hv
  ·cases hv
 ·rename_i x r h2
  simp only [h2,invokeA,List.map_cons]
  obtain ⟨v,hv,hk⟩:=h
  unfold maxP at hv
  split at hv
  ·rename_i k a he
   split at hv
   ·rename_i n hn
    cases hv
    simp only [he,builtinA,hn]
    exact does_value hk
   ·cases hv
  ·cases hv
 ·rename_i f
  simp only [hρ,invokeA,List.nil_append,List.append_nil]
  cases hb:hasBody P f with
  | true=>
   rw [hb,cond_true] at h
   unfold callFuncA
   rw [hb,cond_true]
   exact .inr (.inr (.inl ⟨f,_,A,rfl,h⟩))
  | false=>
   rw [hb,cond_false] at h
   exact h.does
 ·simp only
  have h:=h.does
  unfold dynA at h
  split at h
  ·rename_i he
   simp only [he]
   exact h
  ·rcases h with ⟨v,A',h,_⟩ | ⟨A',h,_⟩ | ⟨g,aS,A',h,_⟩ | ⟨l,fn,tm,a,b,A',h,_⟩ | ⟨it,A',h,_⟩ <;> cases h
 ·simp only [invokeA]
  exact h.does
 ·simp only [invokeA]
  exact h.does
theorem opW_does {ρ:Operand→Value} (hρ:∀ f,ρ (.func f)=.func (.func f) #[] #[]) {o:Oper} {A:AW} {K:Value→AW→Prop} (h:opW P X W0 m0 ρ o A K):Does P X W0 m0 (execA P X ρ o A) K:=by
 obtain ⟨dst,op,type,pos,after,guard⟩:=o
 unfold opW at h
 unfold execA
 cases op with
 | move x=>exact does_value h
 | assign x=>exact does_value h
 | pick c a b=>
  obtain ⟨t,h1,h2⟩:=h
  simp only [h1]
  cases t <;> exact does_value h2
 | alloc e=>
  obtain ⟨v,A',h1,h2⟩:=h
  unfold allocP newP at h1
  split at h1
  ·rename_i z hz
   simp only [hz]
   split at h1
   ·rename_i a A2 ha
    cases h1
    simp only [ha]
    exact does_value h2
   ·cases h1
  ·cases h1
 | box e x=>
  obtain ⟨v,A',h1,h2⟩:=h
  unfold newP at h1
  split at h1
  ·rename_i a A2 ha
   cases h1
   simp only [ha]
   exact does_value h2
  ·cases h1
 | build t parts=>exact does_pure h
 | buildSlice t len parts=>exact does_both h
 | load t a=>
  obtain ⟨v,h1,h2⟩:=h
  unfold loadP at h1
  split at h1
  ·rename_i ad he
   simp only [he]
   rw [h1]
   exact does_value h2
  ·cases h1
 | store t a x=>
  obtain ⟨v,h1,h2⟩:=h
  unfold storeP at h1
  split at h1
  ·rename_i ad he
   simp only [he]
   rw [h1]
   exact .inr (.inl ⟨_,rfl,h2⟩)
  ·cases h1
 | nilCheck x=>
  obtain ⟨v,h1,h2⟩:=h
  unfold nilP at h1
  split at h1
  ·cases h1
  ·cases h1
  ·cases h1
  ·cases h1
  ·cases h1
   simp only
   exact does_value h2
 | binOp op t x y yt=>exact does_pure h
 | unOp op t x=>exact does_pure h
 | convert s d x=>exact does_both h
 | makeInterface t x=>
  obtain ⟨v,h1,h2⟩:=h
  unfold ifaceP at h1
  simp only
  cases hu:P.underlying t with
  | none=>rw [hu] at h1;cases h1
  | some d=>
   rw [hu] at h1
   cases d <;> first | (cases h1;done) | (cases h1;exact does_value h2)
 | makeFunc fn first captured=>
  simp only at h ⊢
  split at h
  ·exact h.elim
  ·split
   ·simp_all
   ·exact does_value h
 | makeMap t r=>
  cases r with
  | none=>
   obtain ⟨v,A',h1,h2⟩:=h
   unfold newMapP at h1
   simp only
   split at h1
   ·rename_i b A2 hb
    cases h1
    simp only [hb]
    exact does_value h2
   ·cases h1
  | some r=>exact h.does
 | makeSlice t l c=>exact does_both h
 | slice t x lo hi mx=>exact does_pure h
 | fieldAddr s x f=>exact does_pure h
 | field s x f=>exact does_pure h
 | indexAddr t x ix=>exact does_pure h
 | index t x ix=>exact does_pure h
 | lookup t x k ok=>exact does_pure h
 | mapUpdate t m k x=>exact does_eff h
 | insert t m k x=>exact does_eff h
 | mapEntry t m k=>
  obtain ⟨v,A',h1,h2⟩:=h
  unfold mapEntryP at h1
  simp only
  split at h1
  ·rename_i b A2 hb
   cases h1
   simp only [hb]
   exact does_value h2
  ·cases h1
 | entryStore t m s x=>exact does_eff h
 | typeAssert x xt at_ ok=>exact does_pure h
 | extract t ix=>
  obtain ⟨v,h1,h2⟩:=h
  unfold extractP at h1
  simp only
  split at h1
  ·rename_i vs he
   simp only [he]
   rw [h1]
   exact does_value h2
  ·cases h1
 | call c=>exact callW_does hρ h
 | _=>exact h.does
end
def forkW (v:Value) (p q:Prop):Prop:=(∃ b,v=.bool b)∧(v=.bool true→p)∧(v=.bool false→q)
def cutW (a b:List Item) (p:Prop):Prop:=a=b∧p
def eqW (a b:Value) (p:Prop):Prop:=a=b∧p
def freshW (c:Option Fresh) (A:AW) (v:Value) (p:Prop):Prop:=(∃ f,c=some f∧stillFresh A v f=true)∧p
def knOf (kt kf:Nat):Operand→Option Bool
 | .const (.bool b)=>some b
 | .tmp t=>bif kt.testBit t then some true else bif kf.testBit t then some false else none
 | _=>none
def knOp (kt kf:Nat):Op→Option Bool
 | .move x=>knOf kt kf x
 | .assign x=>knOf kt kf x
 | .pick c a b=>(match knOf kt kf c with | some true=>knOf kt kf a | some false=>knOf kt kf b | none=>none)
 | _=>none
def pickKn (kt kf:Nat):Op→Option Operand
 | .pick c a b=>(match knOf kt kf c with | some true=>some a | some false=>some b | none=>none)
 | _=>none
def clr (k d:Nat):Nat:=bif k.testBit d then k ^^^ (1 <<< d) else k
def setB (k d:Nat):Nat:=bif k.testBit d then k else k ^^^ (1 <<< d)
def knT (kt d:Nat):Option Bool→Nat
 | some true=>setB kt d
 | _=>clr kt d
def knF (kf d:Nat):Option Bool→Nat
 | some false=>setB kf d
 | _=>clr kf d
def opdT (kt:Nat):Operand→Nat
 | .tmp t=>setB kt t
 | _=>kt
def cutId:List Item→Nat
 | .inBlock id::_=>id
 | _=>0
def oneOf:List Value→Value
 | [v]=>v
 | l=>.tuple ⟨l⟩
def slotOf (ops:Array Oper) (j:Nat):Option Tmp:=match ops.toList[j]? with | some o=>o.dst | none=>none
def knU (ku d:Nat) (skipped:Bool):Nat:=bif skipped then setB ku d else clr ku d
def wants (kt kf ku:Nat) (ops:Array Oper) (o:Oper):Option Bool:=
 match o.guard with
 | none=>some true
 | some (j,want)=>(match slotOf ops j with
  | none=>none
  | some d=>bif ku.testBit d then some false else (match knOf kt kf (.tmp d) with | some b=>some (b==want) | none=>none))
section
variable (P:Program) (X:XNames) (W0:World) (m0:Inj P)
def resGo (A:AW) (tm:Tm) (Q:Value→AW→Prop):List ResultVar→List Value→Prop
 | [],acc=>Q (oneOf acc.reverse) A
 | .tmp t::r,acc=>resGo A tm Q r (tm.get t::acc)
 | .cell a t::r,acc=>pureW (loadP P A t (tm.get a)) fun v=>resGo A tm Q r (v::acc)
def retW (fn:FuncId) (A:AW) (tm:Tm) (Q:Value→AW→Prop):Prop:=
 match P.funcs[fn]? with
 | some f=>resGo P A tm Q f.results.toList []
 | none=>False
def takeDs:List Nat→AW→(AW→Prop)→Prop
 | [],A,K=>K A
 | D::r,A,K=>A.get D=some (.deferred (some []))∧takeDs r (A.put D (.deferred none)) K
def leaveW (A:AW) (l:Nat) (j:Option Code) (K:Value→AW→Prop):Prop:=
 ∃ r,A.get l=some (.loop r)∧K (.bool j.isNone) (A.put l (.loop { r with state:=if j.isNone then .ready else .done,pending:=j }))
def leaveR (fn:FuncId) (ro:Option Nat) (ds:List Nat) (A:AW) (tm:Tm) (Q:Value→AW→Prop) (j:Option Code):Prop:=
 match ro with
 | none=>(match j with | none=>takeDs ds A fun A=>retW P fn A tm Q | some .ret=>takeDs ds A fun A=>retW P fn A tm Q | _=>False)
 | some l=>(match ds with | []=>leaveW A l j Q | _=>False)
def beginW (A:AW) (l:Nat) (K:AW→Prop):Prop:=∃ r,A.get l=some (.loop r)∧r.state=.ready∧K (A.put l (.loop { r with state:=.busy }))
def loopW (A:AW) (fn:FuncId) (tm:Tm) (ps:List Tmp) (assign body:Code) (K:Nat→Nat→AW→Prop):Prop:=
 ∃ D A1 l A2,A.new (.deferred (some []))=some (D,A1)∧A1.new (.loop { state:=.ready,pending:=none,fn:=fn,tm:=tm,params:=ps,assign:=assign,body:=body,defers:=D })=some (l,A2)∧K D l A2
def setsT (tm:Tm) (l:List (Nat × Value)):Tm:=l.foldl (fun tm p=>tm.set p.1 p.2) tm
def endLoopW (A:AW) (l:Nat) (p q:AW→Prop):Prop:=
 ∃ r,A.get l=some (.loop r)∧r.state≠ .busy∧((r.pending=none∧p (A.put l (.loop { r with state:=.exhausted })))∨(r.pending=some .ret∧q (A.put l (.loop { r with state:=.exhausted }))))
def dynW (A:AW) (f:Value) (args:List Value) (K:Value→AW→Prop):Prop:=∃ g aS A',dynA P X A f args=.ok (.enter g aS) A'∧Wc P X W0 m0 g aS A' K
def noDs (ds:List Nat) (p:Prop):Prop:=match ds with | []=>p | _=>False
def wpgo (fn:FuncId) (T:Nat→List Item) (L:Nat→List Tmp) (S:Nat→List Value→AW→Prop) (Q:Value→AW→Prop) (ro:Option Nat):Nat→Tm→List Item→Bool→Nat→Nat→Nat→List Nat→AW→Prop
 | 0,_,_,_,_,_,_,_,_=>False
 | n+1,tm,todo,dr,kt,kf,ku,ds,A=>
  match todo with
  | []=>bif dr then False else leaveR P fn ro ds A tm Q none
  | .code .ret::_=>bif dr then False else leaveR P fn ro ds A tm Q (some .ret)
  | .beginRound::k=>bif dr then False else (match ro with | some l=>beginW A l fun A'=>wpgo fn T L S Q ro n tm k dr kt kf ku ds A' | none=>False)
  | .code (.rangeFunc f ps assign body)::k=>bif dr then False else (match ro with
   | some _=>False
   | none=>loopW A fn tm ps.toList assign body fun D l A1=>dynW P X W0 m0 A1 (evalT tm f) [.func (.yield l) #[] #[]] fun _ A'=>
     endLoopW A' l (fun A''=>wpgo fn T L S Q ro n tm k dr kt kf ku (D::ds) A'') (fun A''=>takeDs (D::ds) A'' fun A3=>retW P fn A3 tm Q))
  | .code .skip::k=>wpgo fn T L S Q ro n tm k dr kt kf ku ds A
  | .code (.label _)::k=>wpgo fn T L S Q ro n tm k dr kt kf ku ds A
  | .inBlock _::k=>wpgo fn T L S Q ro n tm k dr kt kf ku ds A
  | .inScope _::k=>wpgo fn T L S Q ro n tm k dr kt kf ku ds A
  | .code (.seq a b)::k=>wpgo fn T L S Q ro n tm (.code a:: .code b::k) dr kt kf ku ds A
  | .code (.cond c a b)::k=>(match knOf kt kf c with
   | some true=>wpgo fn T L S Q ro n tm (.code a::k) dr kt kf ku ds A
   | some false=>wpgo fn T L S Q ro n tm (.code b::k) dr kt kf ku ds A
   | none=>forkW (evalT tm c) (wpgo fn T L S Q ro n tm (.code a::k) dr (opdT kt c) kf ku ds A) (wpgo fn T L S Q ro n tm (.code b::k) dr kt (opdT kf c) ku ds A))
  | .code (.block id b)::k=>wpgo fn T L S Q ro n tm (.code b:: .inBlock id::k) dr kt kf ku ds A
  | .code (.scope b)::k=>wpgo fn T L S Q ro n tm (.code b:: .inScope b::k) dr kt kf ku ds A
  | .code (.loop b)::k=>bif dr then False else noDs ds (cutW (.code b:: .inLoop b::k) (T (cutId k)) (S (cutId k) ((L (cutId k)).map tm.get) A))
  | .inLoop b::k=>bif dr then False else noDs ds (cutW (.code b:: .inLoop b::k) (T (cutId k)) (S (cutId k) ((L (cutId k)).map tm.get) A))
  | .code (.exit id)::k=>(match exitToA id k with | some k'=>wpgo fn T L S Q ro n tm k' dr kt kf ku ds A | none=>bif dr then False else leaveR P fn ro ds A tm Q (some (.exit id)))
  | .code (.region _ ops false)::k=>wpgo fn T L S Q ro n tm (.inRegion ops (List.range ops.toList.length)::k) dr kt kf ku ds A
  | .code (.region _ ops true)::k=>bif dstsIn tm.sz ops.toList then (match planA P ops.toList with
   | some p=>wpgo fn T L S Q ro n tm (.inRegion ops p::k) true kt kf ku ds A
   | none=>False) else False
  | .inRegion _ []::k=>wpgo fn T L S Q ro n tm k false kt kf ku ds A
  | .inRegion ops (i::rest)::k=>
   bif dr&&!Nat.blt i ops.toList.length then
    (match ops.toList[i - ops.toList.length]? with
    | none=>False
    | some o=>(match o.dst,wants kt kf ku ops o with
     | some d,some false=>eqW undef (tm.get d) (wpgo fn T L S Q ro n tm (.inRegion ops rest::k) dr kt kf ku ds A)
     | some d,some true=>bif quietOp P o.op then
       (match pickKn kt kf o.op with
       | some x=>eqW (evalT tm x) (tm.get d) (wpgo fn T L S Q ro n tm (.inRegion ops rest::k) dr kt kf ku ds A)
       | none=>opW P X W0 m0 (evalT tm) o A fun v _=>eqW v (tm.get d) (wpgo fn T L S Q ro n tm (.inRegion ops rest::k) dr kt kf ku ds A))
      else freshW (freshOf P (evalT tm) o.op) A (tm.get d) (wpgo fn T L S Q ro n tm (.inRegion ops rest::k) dr kt kf ku ds A)
     | _,_=>False))
   else (match ops.toList[i]? with
    | none=>False
    | some o=>
     let fin (kt kf:Nat) (r:Option Bool) (sk:Bool) (v:Value) (A':AW):Prop:=(match o.dst with
      | some d=>bif Nat.blt d tm.sz then wpgo fn T L S Q ro n (tm.set d v) (.inRegion ops rest::k) dr (knT kt d r) (knF kf d r) (knU ku d sk) ds A' else False
      | none=>wpgo fn T L S Q ro n tm (.inRegion ops rest::k) dr kt kf ku ds A')
     let go (kt kf:Nat):Prop:=(match pickKn kt kf o.op with
      | some x=>fin kt kf (knOf kt kf x) false (evalT tm x) A
      | none=>opW P X W0 m0 (evalT tm) o A (fin kt kf (knOp kt kf o.op) false))
     match o.guard with
     | none=>go kt kf
     | some (j,want)=>(match slotOf ops j with
      | none=>False
      | some d=>bif ku.testBit d then fin kt kf none true undef A else (match knOf kt kf (.tmp d) with
       | some b=>bif b==want then go kt kf else fin kt kf none true undef A
       | none=>forkW (tm.get d) (bif want then go (setB kt d) kf else fin (setB kt d) kf none true undef A) (bif want then fin kt (setB kf d) none true undef A else go kt (setB kf d)))))
  | _=>False
end
section
variable {P:Program} {X:XNames} {W0:World} {m0:Inj P}
structure Plain (X:XNames):Prop where
 forks:X.forks=[]
 asks:X.asks=[]
 says:X.says=[]
abbrev frC (fn:FuncId) (tm:Tm) (todo:List Item) (dr:Bool) (ro:Option Nat) (ds:List Nat):AFr:=⟨fn,tm,todo,ds.map fun D=>{ target:=.collected D,args:=#[] },.run,.normal,ro,dr⟩
abbrev frM (fn:FuncId) (tm:Tm) (todo:List Item) (dr:Bool):AFr:=⟨fn,tm,todo,[],.run,.normal,none,dr⟩
def Kn (kt kf ku:Nat) (tm:Tm):Prop:=∀ t,(kt.testBit t=true→tm.get t=.bool true)∧(kf.testBit t=true→tm.get t=.bool false)∧(ku.testBit t=true→tm.get t=undef)
theorem knOf_spec {kt kf ku:Nat} {tm:Tm} (h:Kn kt kf ku tm) {x:Operand} {b:Bool} (hx:knOf kt kf x=some b):evalT tm x=.bool b:=by
 cases x with
 | const v=>
  cases v <;> simp only [knOf] at hx <;> first | (cases hx;done) | (cases hx;rfl)
 | tmp t=>
  simp only [knOf] at hx
  cases h1:kt.testBit t with
  | true=>
   rw [h1,cond_true,Option.some.injEq] at hx
   subst hx
   exact (h t).1 h1
  | false=>
   rw [h1,cond_false] at hx
   cases h2:kf.testBit t with
   | true=>
    rw [h2,cond_true,Option.some.injEq] at hx
    subst hx
    exact (h t).2.1 h2
   | false=>rw [h2] at hx;cases hx
 | _=>cases hx
theorem testBit_setB (k d t:Nat):(setB k d).testBit t=(k.testBit t || d==t):=by
 unfold setB
 cases h:k.testBit d with
 | true=>
  simp only [cond_true]
  by_cases e:d=t
  ·subst e;simp [h]
  ·simp [e]
 | false=>
  simp only [cond_false,Nat.testBit_xor,Nat.one_shiftLeft,Nat.testBit_two_pow]
  by_cases e:d=t
  ·subst e;simp [h]
  ·simp [e]
theorem testBit_clr (k d t:Nat):(clr k d).testBit t=(k.testBit t&&!(d==t)):=by
 unfold clr
 cases h:k.testBit d with
 | false=>
  simp only [cond_false]
  by_cases e:d=t
  ·subst e;simp [h]
  ·simp [e]
 | true=>
  simp only [cond_true,Nat.testBit_xor,Nat.one_shiftLeft,Nat.testBit_two_pow]
  by_cases e:d=t
  ·subst e;simp [h]
  ·simp [e]
theorem Kn.set {kt kf ku:Nat} {tm:Tm} (h:Kn kt kf ku tm) (hs:tm.sz < maxId) {d:Nat} (hd:d < tm.sz) {v:Value} {r:Option Bool} {sk:Bool} (hr:∀ b,r=some b→v=.bool b) (hu:sk=true→v=undef):Kn (knT kt d r) (knF kf d r) (knU ku d sk) (tm.set d v):=by
 intro t
 rw [Tm.get_set tm hs d t v]
 by_cases e:t=d
 ·subst e
  rw [if_pos ⟨rfl,hd⟩]
  refine ⟨?_,?_,?_⟩
  ·cases r with
   | none=>simp [knT,testBit_clr]
   | some b=>cases b <;> simp [knT,testBit_clr,testBit_setB,hr]
  ·cases r with
   | none=>simp [knF,testBit_clr]
   | some b=>cases b <;> simp [knF,testBit_clr,testBit_setB,hr]
  ·cases sk with
   | false=>simp [knU,testBit_clr]
   | true=>simp [knU,testBit_setB,hu]
 ·rw [if_neg (by simp [e])]
  have hne:(d==t)=false:=by simp [Ne.symm e]
  refine ⟨?_,?_,?_⟩
  ·cases r with
   | none=>simpa [knT,testBit_clr,hne] using (h t).1
   | some b=>cases b <;> simpa [knT,testBit_clr,testBit_setB,hne] using (h t).1
  ·cases r with
   | none=>simpa [knF,testBit_clr,hne] using (h t).2.1
   | some b=>cases b <;> simpa [knF,testBit_clr,testBit_setB,hne] using (h t).2.1
  ·cases sk <;> simpa [knU,testBit_clr,testBit_setB,hne] using (h t).2.2
theorem Kn.true {kt kf ku:Nat} {tm:Tm} (h:Kn kt kf ku tm) {d:Nat} (hv:tm.get d=.bool true):Kn (setB kt d) kf ku tm:=by
 intro t
 rw [testBit_setB]
 refine ⟨fun ht=>?_,(h t).2⟩
 simp only [Bool.or_eq_true,beq_iff_eq] at ht
 rcases ht with ht | rfl
 ·exact (h t).1 ht
 ·exact hv
theorem Kn.false {kt kf ku:Nat} {tm:Tm} (h:Kn kt kf ku tm) {d:Nat} (hv:tm.get d=.bool false):Kn kt (setB kf d) ku tm:=by
 intro t
 rw [testBit_setB]
 refine ⟨(h t).1,fun ht=>?_,(h t).2.2⟩
 simp only [Bool.or_eq_true,beq_iff_eq] at ht
 rcases ht with ht | rfl
 ·exact (h t).2.1 ht
 ·exact hv
theorem wp_next (hX:XOk P X) (hP:POk P) {s s':ASt} {Q:Value→AW→Prop} (h:stepD P X s=.next s') (h':WP P X W0 m0 s' Q):WP P X W0 m0 s Q:=(reach_next hX hP h).wp1 h'
theorem finish_at {fn:FuncId} {tm:Tm} {ops:Array Oper} {i:Nat} {rest:List Nat} {k:List Item} {dr:Bool} {ro:Option Nat} {ds:List Nat} {o:Oper} (ho:ops.toList[i]? =some o) (v:Value):
  (frC fn tm (.inRegion ops (i::rest)::k) dr ro ds).finish v=frC fn (match o.dst with | some d=>tm.set d v | none=>tm) (.inRegion ops rest::k) dr ro ds:=by
 unfold AFr.finish
 simp only [ho]
 rfl
theorem step_oper (hp:Plain X) {fn:FuncId} {tm:Tm} {ops:Array Oper} {i:Nat} {rest:List Nat} {k:List Item} {dr:Bool} {ro:Option Nat} {ds:List Nat} {cs:List AFr} {A:AW} {o:Oper} (ho:ops.toList[i]? =some o) (hi:(dr&&!Nat.blt i ops.toList.length)=false) (h1:knownA P X ⟨frC fn tm (.inRegion ops (i::rest)::k) dr ro ds,cs,A⟩ ops i=none):
  stepD P X ⟨frC fn tm (.inRegion ops (i::rest)::k) dr ro ds,cs,A⟩=
   (bif wantedA ops tm o then applyA P (frC fn tm (.inRegion ops (i::rest)::k) dr ro ds) cs false (execA P X (evalT tm) o A) else .next ⟨(frC fn tm (.inRegion ops (i::rest)::k) dr ro ds).finish undef,cs,A⟩):=by
 have e:stepD P X ⟨frC fn tm (.inRegion ops (i::rest)::k) dr ro ds,cs,A⟩=(bif dr&&!Nat.blt i ops.toList.length then
   (match asksA P X ⟨frC fn tm (.inRegion ops (i::rest)::k) dr ro ds,cs,A⟩ ops (i - ops.toList.length) with
   | some (v,v')=>.asks v v' ⟨frC fn tm (.inRegion ops rest::k) dr ro ds,cs,A⟩
   | none=>bif recheckA P X (frC fn tm (.inRegion ops (i::rest)::k) dr ro ds) A ops (i - ops.toList.length) then .next ⟨frC fn tm (.inRegion ops rest::k) dr ro ds,cs,A⟩ else .fail "recheck")
  else (match knownA P X ⟨frC fn tm (.inRegion ops (i::rest)::k) dr ro ds,cs,A⟩ ops i with
   | some (f,args,w)=>.calls f args ⟨frC fn tm (.inRegion ops (i::rest)::k) dr ro ds,cs,w⟩
   | none=>(match forkA P X ⟨frC fn tm (.inRegion ops (i::rest)::k) dr ro ds,cs,A⟩ ops i with
    | some w=>.branch [⟨(frC fn tm (.inRegion ops (i::rest)::k) dr ro ds).finish (.bool true),cs,w⟩,⟨(frC fn tm (.inRegion ops (i::rest)::k) dr ro ds).finish (.bool false),cs,w⟩]
    | none=>(match saysA P X ⟨frC fn tm (.inRegion ops (i::rest)::k) dr ro ds,cs,A⟩ ops i with
     | some (v,v',w)=>.asks v v' ⟨(frC fn tm (.inRegion ops (i::rest)::k) dr ro ds).finish v',cs,w⟩
     | none=>(match ops.toList[i]? with
      | some o=>bif wantedA ops tm o then applyA P (frC fn tm (.inRegion ops (i::rest)::k) dr ro ds) cs false (execA P X (frC fn tm (.inRegion ops (i::rest)::k) dr ro ds).eval o A) else .next ⟨(frC fn tm (.inRegion ops (i::rest)::k) dr ro ds).finish undef,cs,A⟩
      | none=>.fail "no operation"))))):=rfl
 rw [e,hi,cond_false]
 have h2:forkA P X ⟨frC fn tm (.inRegion ops (i::rest)::k) dr ro ds,cs,A⟩ ops i=none:=by unfold forkA;rw [hp.forks]
 have h3:saysA P X ⟨frC fn tm (.inRegion ops (i::rest)::k) dr ro ds,cs,A⟩ ops i=none:=by unfold saysA;rw [hp.says]
 rw [h1,h2,h3]
 simp only [ho]
 rw [eval_evalT]
theorem enter_kind {g:FuncId} {args:List Value} {kd:CallKind} {fr:AFr} (h:enterA P g args kd=some fr):fr.kind=kd∧fr.roundOf=none:=by
 unfold enterA at h
 split at h
 ·split at h
  ·simp only at h
   generalize (bif Nat.ble _ _ then _ else _)=n at h
   cases hn:Nat.blt n maxId with
   | false=>rw [hn] at h;cases h
   | true=>
    rw [hn,cond_true,Option.some.injEq] at h
    subst h
    exact ⟨rfl,rfl⟩
  ·cases h
 ·cases h
theorem wp_oper (hX:XOk P X) (hP:POk P) (hp:Plain X) {fn:FuncId} {tm:Tm} {ops:Array Oper} {i:Nat} {rest:List Nat} {k:List Item} {dr:Bool} {ro:Option Nat} {ds:List Nat} {cs:List AFr} {A:AW} {o:Oper} {K Q:Value→AW→Prop} (ho:ops.toList[i]? =some o)
  (hi:(dr&&!Nat.blt i ops.toList.length)=false) (hw:wantedA ops tm o=true) (h:Does P X W0 m0 (execA P X (evalT tm) o A) K)
  (h':∀ v A',K v A'→WP P X W0 m0 ⟨frC fn (match o.dst with | some d=>tm.set d v | none=>tm) (.inRegion ops rest::k) dr ro ds,cs,A'⟩ Q):WP P X W0 m0 ⟨frC fn tm (.inRegion ops (i::rest)::k) dr ro ds,cs,A⟩ Q:=by
 have e:=fun h=>step_oper (P:=P) (fn:=fn) (tm:=tm) (rest:=rest) (k:=k) (ro:=ro) (ds:=ds) (cs:=cs) (A:=A) hp ho hi h
 rw [hw,cond_true] at e
 have notk:∀ {r:R AN},execA P X (evalT tm) o A=r→(∀ g args A',r=.ok (.enter g args) A'→memN g X.known=false)→knownA P X ⟨frC fn tm (.inRegion ops (i::rest)::k) dr ro ds,cs,A⟩ ops i=none:=by
  intro r hr hn
  unfold knownA
  split
  ·rfl
  ·simp only [ho,hw,cond_true]
   rw [eval_evalT]
   show (match execA P X (evalT tm) o A with | .ok (.enter f args) w=>bif memN f X.known then some (f,args,w) else none | _=>none)=none
   rw [hr]
   split
   ·rename_i g args A' he
    rw [hn _ _ _ rfl,cond_false]
   ·rfl
 rcases h with ⟨v,A',hx,hk⟩ | ⟨A',hx,hk⟩ | ⟨g,args,A',hx,hk⟩ | ⟨l,fn',tm',assign,body,A',hx,hk⟩ | ⟨it,A',hx,m,since,seen,last,es,clock,ro',hg1,hg2,hg3,hk⟩
 ·rw [hx] at e
  refine wp_next hX hP (e (notk hx (fun _ _ _ h=>by cases h))) ?_
  rw [finish_at ho]
  exact h' v A' hk
 ·rw [hx] at e
  refine wp_next hX hP (e (notk hx (fun _ _ _ h=>by cases h))) ?_
  rw [finish_at ho]
  exact h' undef A' hk
 ·unfold toW at hk
  cases hkn:memN g X.known with
  | true=>
   rw [hkn,cond_true] at hk
   have e3:stepD P X ⟨frC fn tm (.inRegion ops (i::rest)::k) dr ro ds,cs,A⟩=.calls g args ⟨frC fn tm (.inRegion ops (i::rest)::k) dr ro ds,cs,A'⟩:=by
    have h1:knownA P X ⟨frC fn tm (.inRegion ops (i::rest)::k) dr ro ds,cs,A⟩ ops i=some (g,args,A'):=by
     unfold knownA
     split
     ·rename_i hnil;rw [hnil] at hkn;cases hkn
     ·simp only [ho,hw,cond_true]
      rw [eval_evalT]
      show (match execA P X (evalT tm) o A with | .ok (.enter f args) w=>bif memN f X.known then some (f,args,w) else none | _=>none)=_
      rw [hx]
      simp only [hkn,cond_true]
    have e4:stepD P X ⟨frC fn tm (.inRegion ops (i::rest)::k) dr ro ds,cs,A⟩=(bif dr&&!Nat.blt i ops.toList.length then
      (match asksA P X ⟨frC fn tm (.inRegion ops (i::rest)::k) dr ro ds,cs,A⟩ ops (i - ops.toList.length) with
      | some (v,v')=>.asks v v' ⟨frC fn tm (.inRegion ops rest::k) dr ro ds,cs,A⟩
      | none=>bif recheckA P X (frC fn tm (.inRegion ops (i::rest)::k) dr ro ds) A ops (i - ops.toList.length) then .next ⟨frC fn tm (.inRegion ops rest::k) dr ro ds,cs,A⟩ else .fail "recheck")
     else (match knownA P X ⟨frC fn tm (.inRegion ops (i::rest)::k) dr ro ds,cs,A⟩ ops i with
      | some (f,args,w)=>.calls f args ⟨frC fn tm (.inRegion ops (i::rest)::k) dr ro ds,cs,w⟩
      | none=>(match forkA P X ⟨frC fn tm (.inRegion ops (i::rest)::k) dr ro ds,cs,A⟩ ops i with
       | some w=>.branch [⟨(frC fn tm (.inRegion ops (i::rest)::k) dr ro ds).finish (.bool true),cs,w⟩,⟨(frC fn tm (.inRegion ops (i::rest)::k) dr ro ds).finish (.bool false),cs,w⟩]
       | none=>(match saysA P X ⟨frC fn tm (.inRegion ops (i::rest)::k) dr ro ds,cs,A⟩ ops i with
        | some (v,v',w)=>.asks v v' ⟨(frC fn tm (.inRegion ops (i::rest)::k) dr ro ds).finish v',cs,w⟩
        | none=>stepA P X ⟨frC fn tm (.inRegion ops (i::rest)::k) dr ro ds,cs,A⟩)))):=rfl
    rw [e4,hi,cond_false,h1]
   rcases hk with ⟨vals,hg,hK,hc,hq⟩ | hl
   ·refine (reach_calls hX hP e3 hg hK hc).wp fun x hx=>?_
    obtain ⟨v,hv,rfl⟩:=List.mem_map.1 hx
    show WP P X W0 m0 ⟨(frC fn tm (.inRegion ops (i::rest)::k) dr ro ds).finish v,cs,A'⟩ Q
    rw [finish_at ho]
    exact h' v A' (hq v hv)
   ·refine wp_lib hX hP e3 hl fun v A2 hq=>?_
    show WP P X W0 m0 ⟨(frC fn tm (.inRegion ops (i::rest)::k) dr ro ds).finish v,cs,A2⟩ Q
    rw [finish_at ho]
    exact h' v A2 hq
  | false=>
  rw [hkn,cond_false] at hk
  rw [hx] at e
  have e:=e (notk hx (fun _ _ _ h=>by cases h;exact hkn))
  obtain ⟨fr',he⟩:=Option.isSome_iff_exists.1 hk.1
  have h2:=hk.2
  unfold frOf at h2
  rw [he] at h2
  simp only [applyA,cond_false,he] at e
  refine wp_next hX hP e (wp_sub ?_ ?_ h2 fun v A2 hk2=>?_)
  ·exact (enter_kind he).1
  ·exact (enter_kind he).2
  ·rw [finish_at ho]
   exact h' v A2 hk2
 ·rw [hx] at e
  refine wp_next hX hP (e (notk hx (fun _ _ _ h=>by cases h))) (hk _ _ _ fun v A2 hk2=>?_)
  rw [finish_at ho]
  exact h' v A2 hk2
 ·rw [hx] at e
  have e:=e (notk hx (fun _ _ _ h=>by cases h))
  have e2:applyA P (frC fn tm (.inRegion ops (i::rest)::k) dr ro ds) cs false (.ok (.rangeNext it) A')=.branch ((candsOf es since seen).map fun c=>match c with
     | some e=>⟨(frC fn tm (.inRegion ops (i::rest)::k) dr ro ds).finish (.tuple #[.bool true,e.key,e.val]),cs,A'.put it (.mit (some m) since (seen++[e.born]) clock)⟩
     | none=>⟨(frC fn tm (.inRegion ops (i::rest)::k) dr ro ds).finish (.tuple #[.bool false]),cs,A'⟩):=by
   unfold applyA
   simp only [hg1,hg2,hg3,cond_false]
   rfl
  rw [e2] at e
  refine (reach_branch hX hP e).wp fun x hx=>?_
  obtain ⟨c,hc,rfl⟩:=List.mem_map.1 hx
  have hk:=hk c hc
  cases c with
  | none=>
   simp only at hk ⊢
   rw [finish_at ho]
   exact h' _ _ hk
  | some e=>
   simp only at hk ⊢
   rw [finish_at ho]
   exact h' _ _ hk
theorem wp_skip (hX:XOk P X) (hP:POk P) (hp:Plain X) {fn:FuncId} {tm:Tm} {ops:Array Oper} {i:Nat} {rest:List Nat} {k:List Item} {dr:Bool} {ro:Option Nat} {ds:List Nat} {cs:List AFr} {A:AW} {o:Oper} {Q:Value→AW→Prop} (ho:ops.toList[i]? =some o)
  (hi:(dr&&!Nat.blt i ops.toList.length)=false) (hw:wantedA ops tm o=false)
  (h':WP P X W0 m0 ⟨frC fn (match o.dst with | some d=>tm.set d undef | none=>tm) (.inRegion ops rest::k) dr ro ds,cs,A⟩ Q):WP P X W0 m0 ⟨frC fn tm (.inRegion ops (i::rest)::k) dr ro ds,cs,A⟩ Q:=by
 have hkn:knownA P X ⟨frC fn tm (.inRegion ops (i::rest)::k) dr ro ds,cs,A⟩ ops i=none:=by
  unfold knownA
  split
  ·rfl
  ·simp only [ho,hw,cond_false]
 have e:=step_oper (P:=P) (fn:=fn) (tm:=tm) (rest:=rest) (k:=k) (ro:=ro) (ds:=ds) (cs:=cs) (A:=A) hp ho hi hkn
 rw [hw,cond_false] at e
 refine wp_next hX hP e ?_
 rw [finish_at ho]
 exact h'
theorem wp_recheck {fn:FuncId} {tm:Tm} {ops:Array Oper} {i:Nat} {rest:List Nat} {k:List Item} {ro:Option Nat} {ds:List Nat} {cs:List AFr} {A:AW} {Q:Value→AW→Prop} (hi:ops.toList.length≤i) (hv:Valid P X A ops tm (i - ops.toList.length))
  (h':WP P X W0 m0 ⟨frC fn tm (.inRegion ops rest::k) true ro ds,cs,A⟩ Q):WP P X W0 m0 ⟨frC fn tm (.inRegion ops (i::rest)::k) true ro ds,cs,A⟩ Q:=by
 have hr:Reach P X W0 m0 ⟨frC fn tm (.inRegion ops (i::rest)::k) true ro ds,cs,A⟩ [⟨frC fn tm (.inRegion ops rest::k) true ro ds,cs,A⟩]:=by
  intro f0 base lo cs0 m f csW w h _
  exact ⟨_,by simp,recheck_sim h rfl rfl rfl hi hv⟩
 exact hr.wp1 h'
def oneR (P:Program) (A:AW) (tm:Tm) (r:ResultVar):Option Value:=match r with | .tmp t=>some (tm.get t) | .cell a t=>loadP P A t (tm.get a)
theorem resultsA_eqR {A:AW} {f:Func} {tm:Tm}:resultsA P A f tm=(match resultsA.go (oneR P A tm) f.results.toList with | some [v]=>some v | some l=>some (.tuple ⟨l⟩) | none=>none):=rfl
theorem resGo_spec {A:AW} {tm:Tm} {Q:Value→AW→Prop}:∀ (l:List ResultVar) (acc:List Value),resGo P A tm Q l acc→∃ vs,resultsA.go (oneR P A tm) l=some vs∧Q (oneOf (acc.reverse++vs)) A
 | [],acc,h=>⟨[],rfl,by simpa [resGo] using h⟩
 | .tmp t::l,acc,h=>by
  obtain ⟨vs,h1,h2⟩:=resGo_spec l _ h
  refine ⟨tm.get t::vs,?_,by simpa using h2⟩
  simp only [resultsA.go,h1,oneR]
 | .cell a t::l,acc,h=>by
  obtain ⟨v,h0,hv⟩:=h
  obtain ⟨vs,h1,h2⟩:=resGo_spec l _ hv
  refine ⟨v::vs,?_,by simpa using h2⟩
  simp only [resultsA.go,h1,oneR,h0]
theorem retW_spec {fn:FuncId} {f:Func} (hf:P.funcs[fn]? =some f) {A:AW} {tm:Tm} {Q:Value→AW→Prop} (h:retW P fn A tm Q):∃ v,resultsA P A f tm=some v∧Q v A:=by
 unfold retW at h
 rw [hf] at h
 obtain ⟨vs,h1,h2⟩:=resGo_spec _ _ h
 rw [resultsA_eqR,h1]
 match vs,h2 with
 | [],h2=>exact ⟨_,rfl,h2⟩
 | [v],h2=>exact ⟨_,rfl,h2⟩
 | a::b::r,h2=>exact ⟨_,rfl,h2⟩
theorem wp_returning (hX:XOk P X) (hP:POk P) {fn:FuncId} {tm:Tm} {todo:List Item} {Q:Value→AW→Prop}:∀ (ds:List Nat) (A:AW),takeDs ds A (fun A=>retW P fn A tm Q)→WP P X W0 m0 ⟨{ (frC fn tm todo false none ds) with mode:=.returning },[],A⟩ Q
 | [],A,h=>by
  have h:retW P fn A tm Q:=h
  cases hf:P.funcs[fn]? with
  | none=>unfold retW at h;rw [hf] at h;exact h.elim
  | some f=>
   obtain ⟨v,h1,h2⟩:=retW_spec hf h
   have e2:stepD P X ⟨{ (frC fn tm todo false none []) with mode:=.returning },[],A⟩=.done v A:=by
    have:stepD P X ⟨{ (frC fn tm todo false none []) with mode:=.returning },[],A⟩=(match P.funcs[fn]? with
     | none=>.fail "unwind fn"
     | some fn=>(match resultsA P A fn tm with
      | some v=>.done v A
      | none=>.fail "results")):=by
     rfl
    rw [this,hf]
    simp only
    rw [h1]
   exact (res_done hX hP e2).wp fun x hx=>by simp at hx;subst hx;exact h2
 | D::ds,A,h=>by
  obtain ⟨h1,h2⟩:=h
  have e:stepD P X ⟨{ (frC fn tm todo false none (D::ds)) with mode:=.returning },[],A⟩=.next ⟨{ (frC fn tm todo false none ds) with mode:=.returning },[],A.put D (.deferred none)⟩:=by
   have:stepD P X ⟨{ (frC fn tm todo false none (D::ds)) with mode:=.returning },[],A⟩=(match A.get D with
    | some (.deferred (some calls))=>.next ⟨{ (frC fn tm todo false none ds) with mode:=.returning,defers:=calls++ds.map fun D=>{ target:=.collected D,args:=#[] } },[],A.put D (.deferred none)⟩
    | _=>.fail "takeDeferred"):=by
    rfl
   rw [this,h1]
   rfl
  exact wp_next hX hP e (wp_returning hX hP ds _ h2)
theorem wp_leave (hX:XOk P X) (hP:POk P) {fn:FuncId} {tm:Tm} {todo:List Item} {ds:List Nat} {A:AW} {Q:Value→AW→Prop} (ht:todo=[]∨∃ k,todo=.code .ret::k) (h:takeDs ds A fun A=>retW P fn A tm Q):WP P X W0 m0 ⟨frC fn tm todo false none ds,[],A⟩ Q:=by
 have e:stepD P X ⟨frC fn tm todo false none ds,[],A⟩=.next ⟨{ (frC fn tm todo false none ds) with mode:=.returning },[],A⟩:=by
  rcases ht with rfl | ⟨k,rfl⟩ <;> rfl
 exact wp_next hX hP e (wp_returning hX hP ds A h)
inductive Leaves:List Item→Option Code→Prop
 | off:Leaves [] none
 | ret (k:List Item):Leaves (.code .ret::k) (some .ret)
 | exit (id:Nat) (k:List Item) (h:exitToA id k=none):Leaves (.code (.exit id)::k) (some (.exit id))
theorem wp_leaves (hX:XOk P X) (hP:POk P) {fn:FuncId} {tm:Tm} {todo:List Item} {ds:List Nat} {A:AW} {Q:Value→AW→Prop} {j:Option Code} (hj:Leaves todo j) (h:leaveR P fn none ds A tm Q j):WP P X W0 m0 ⟨frC fn tm todo false none ds,[],A⟩ Q:=by
 cases hj with
 | off=>exact wp_leave hX hP (.inl rfl) h
 | ret k=>exact wp_leave hX hP (.inr ⟨k,rfl⟩) h
 | exit id k hx=>exact h.elim
theorem round_leaves (hX:XOk P X) (hP:POk P) {fn:FuncId} {tm:Tm} {todo:List Item} {l:Nat} {ds:List Nat} {A:AW} {K:Value→AW→Prop} {j:Option Code} (hj:Leaves todo j) (h:leaveR P fn (some l) ds A tm K j) {c:AFr} {rest:List AFr} {Q:Value→AW→Prop}
  (hK:∀ v A',K v A'→WP P X W0 m0 ⟨c.finish v,rest,A'⟩ Q):WP P X W0 m0 ⟨frC fn tm todo false (some l) ds,c::rest,A⟩ Q:=by
 unfold leaveR at h
 cases ds with
 | cons D ds=>exact h.elim
 | nil=>
  obtain ⟨r,h1,h2⟩:=h
  have e:stepD P X ⟨frC fn tm todo false (some l) [],c::rest,A⟩=.next ⟨c.finish (.bool j.isNone),rest,A.put l (.loop { r with state:=if j.isNone then .ready else .done,pending:=j })⟩:=by
   have key:∀ jump:Option Code,(match A.get l with
     | some (.loop r)=>doReturnA (frC fn tm todo false (some l) []) (c::rest) (.bool jump.isNone) (A.put l (.loop { r with state:=if jump.isNone then .ready else .done,pending:=jump }))
     | _=>.fail "endRound")=.next ⟨c.finish (.bool jump.isNone),rest,A.put l (.loop { r with state:=if jump.isNone then .ready else .done,pending:=jump })⟩:=by
    intro jump
    rw [h1]
    rfl
   rw [← key j]
   cases hj with
   | off=>rfl
   | ret k=>rfl
   | exit id k hx=>
    unfold stepD stepA
    simp only [hx]
    rfl
  exact wp_next hX hP e (hK _ _ h2)
end
section
variable {P:Program} {X:XNames} {W0:World} {m0:Inj P}
theorem Tm.sz_set (tm:Tm) (d:Nat) (v:Value):(tm.set d v).sz=tm.sz:=by
 unfold Tm.set
 cases Nat.blt d tm.sz <;> rfl
theorem wants_spec {kt kf ku:Nat} {tm:Tm} (h:Kn kt kf ku tm) {ops:Array Oper} {o:Oper} {b:Bool} (hw:wants kt kf ku ops o=some b):wantedA ops tm o=b:=by
 unfold wants at hw
 unfold wantedA
 split at hw
 ·rename_i hg
  rw [hg]
  cases hw
  rfl
 ·rename_i j want hg
  rw [hg]
  simp only
  unfold slotOf at hw
  split at hw
  ·cases hw
  ·rename_i d hd
   split at hd
   ·rename_i o' ho'
    cases hu:ku.testBit d with
    | true=>
     rw [hu,cond_true] at hw
     cases hw
     have hv:tm.get d=undef:=(h d).2.2 hu
     unfold yieldedA
     simp only [ho',hd,hv]
     rfl
    | false=>
     rw [hu,cond_false] at hw
     split at hw
     ·rename_i c hc
      cases hw
      have hv:tm.get d=.bool c:=knOf_spec h hc
      unfold yieldedA
      simp only [ho',hd,hv]
     ·cases hw
   ·cases hd
theorem wanted_of {tm:Tm} {ops:Array Oper} {o:Oper} {j:Nat} {want b:Bool} {d:Tmp} (hg:o.guard=some (j,want)) (hs:slotOf ops j=some d) (hv:tm.get d=.bool b):wantedA ops tm o=(b==want):=by
 unfold wantedA yieldedA
 unfold slotOf at hs
 split at hs
 ·rename_i o' ho'
  simp only [hg,ho',hs,hv]
 ·cases hs
theorem unwanted_of {tm:Tm} {ops:Array Oper} {o:Oper} {j:Nat} {want:Bool} {d:Tmp} (hg:o.guard=some (j,want)) (hs:slotOf ops j=some d) (hv:tm.get d=undef):wantedA ops tm o=false:=by
 unfold wantedA yieldedA
 unfold slotOf at hs
 split at hs
 ·rename_i o' ho'
  simp only [hg,ho',hs,hv]
  rfl
 ·cases hs
theorem knOp_pick {kt kf ku:Nat} {op:Op} {x:Operand} (h:pickKn kt kf op=some x) {tm:Tm} (hk:Kn kt kf ku tm) (P:Program) (X:XNames) {o:Oper} (ho:o.op=op) (A:AW):execA P X (evalT tm) o A=.ok (.value (evalT tm x)) A:=by
 cases op <;> simp only [pickKn] at h <;> try (cases h;done)
 rename_i c a b
 split at h
 ·rename_i hc
  cases h
  have:=knOf_spec hk hc
  unfold execA
  simp only [ho,this]
 ·rename_i hc
  cases h
  have:=knOf_spec hk hc
  unfold execA
  simp only [ho,this]
 ·cases h
theorem knOp_move {kt kf:Nat} {op:Op} {b:Bool} (hp:pickKn kt kf op=none) (h:knOp kt kf op=some b):∃ x,(op=.move x∨op=.assign x)∧knOf kt kf x=some b:=by
 cases op <;> simp only [knOp] at h <;> try (cases h;done)
 ·exact ⟨_,.inl rfl,h⟩
 ·exact ⟨_,.inr rfl,h⟩
 ·simp only [pickKn] at hp
  split at h <;> first | (cases h;done) | skip
  ·rename_i hc;rw [hc] at hp;cases hp
  ·rename_i hc;rw [hc] at hp;cases hp
theorem move_does {ρ:Operand→Value} {o:Oper} {x:Operand} (hx:o.op=.move x∨o.op=.assign x) {A:AW} {K:Value→AW→Prop} (h:opW P X W0 m0 ρ o A K):execA P X ρ o A=.ok (.value (ρ x)) A∧K (ρ x) A:=by
 unfold opW at h
 unfold execA
 rcases hx with hx | hx
 ·rw [hx] at h ⊢
  exact ⟨rfl,h⟩
 ·rw [hx] at h ⊢
  exact ⟨rfl,h⟩
variable {fn:FuncId} {T:Nat→List Item} {L:Nat→List Tmp} {S:Nat→List Value→AW→Prop} {Q:Value→AW→Prop} {sz:Nat}
def Cuts (P:Program) (X:XNames) (W0:World) (m0:Inj P) (fn:FuncId) (T:Nat→List Item) (L:Nat→List Tmp) (S:Nat→List Value→AW→Prop) (Q:Value→AW→Prop) (sz:Nat):Prop:=
 ∀ id vals A tm,S id vals A→tm.sz=sz→(L id).map tm.get=vals→WP P X W0 m0 ⟨frM fn tm (T id) false,[],A⟩ Q
theorem wpgo_soundC (hX:XOk P X) (hP:POk P) (hp:Plain X) (hsz:sz < maxId) {ro:Option Nat} {cs:List AFr} {Q0:Value→AW→Prop}
  (hl:∀ todo tm ds A j,Leaves todo j→leaveR P fn ro ds A tm Q j→WP P X W0 m0 ⟨frC fn tm todo false ro ds,cs,A⟩ Q0)
  (hcut:∀ id vals A tm,S id vals A→tm.sz=sz→(L id).map tm.get=vals→WP P X W0 m0 ⟨frC fn tm (T id) false ro [],cs,A⟩ Q0):
  ∀ (n:Nat) (tm:Tm) (todo:List Item) (dr:Bool) (kt kf ku:Nat) (ds:List Nat) (A:AW),tm.sz=sz→Kn kt kf ku tm→wpgo P X W0 m0 fn T L S Q ro n tm todo dr kt kf ku ds A→WP P X W0 m0 ⟨frC fn tm todo dr ro ds,cs,A⟩ Q0:=by
 intro n
 induction n with
 | zero=>intro tm todo dr kt kf ku ds A _ _ h;exact h.elim
 | succ n ih=>
  intro tm todo dr kt kf ku ds A hs hk h
  unfold wpgo at h
  split at h
  ·cases dr with
   | true=>exact h.elim
   | false=>exact hl _ _ _ _ _ .off h
  ·cases dr with
   | true=>exact h.elim
   | false=>exact hl _ _ _ _ _ (.ret _) h
  ·
   rename_i k
   cases dr with
   | true=>exact h.elim
   | false=>
    cases ro with
    | none=>exact h.elim
    | some l=>
     obtain ⟨r,h1,h2,h3⟩:=h
     have e:stepD P X ⟨frC fn tm (.beginRound::k) false (some l) ds,cs,A⟩=.next ⟨frC fn tm k false (some l) ds,cs,A.put l (.loop { r with state:=.busy })⟩:=by
      have:stepD P X ⟨frC fn tm (.beginRound::k) false (some l) ds,cs,A⟩=(match A.get l with
       | some (.loop r)=>(match r.state with
        | .ready=>.next ⟨frC fn tm k false (some l) ds,cs,A.put l (.loop { r with state:=.busy })⟩
        | _=>.fail "beginRound")
       | _=>.fail "beginRound"):=by rfl
      rw [this,h1]
      simp only [h2]
     exact wp_next hX hP e (ih _ _ _ _ _ _ _ _ hs hk h3)
  ·
   rename_i f ps assign body k
   cases dr with
   | true=>exact h.elim
   | false=>
    cases ro with
    | some l=>exact h.elim
    | none=>
     obtain ⟨D,A1,l,A2,hn1,hn2,g,aS,A3,hdy,hwc⟩:=h
     have e:stepD P X ⟨frC fn tm (.code (.rangeFunc f ps assign body)::k) false none ds,cs,A⟩=(match evalT tm f with
       | .func fn' first captured=>applyA P (frC fn tm (.inRangeFunc l::k) false none (D::ds)) cs false (invokeA P X A2 (.fn fn' captured) (first.toList++[.func (.yield l) #[] #[]]))
       | _=>.fail "rangeFunc"):=by
      have:stepD P X ⟨frC fn tm (.code (.rangeFunc f ps assign body)::k) false none ds,cs,A⟩=(match (match A.new (.deferred (some [])) with | some (r,w')=>some (r,([{ target:=.collected r,args:=#[] }]:List Deferred),w') | none=>none) with
       | none=>.fail "enterLoop"
       | some (d,mark,w)=>(match w.new (.loop { state:=.ready,pending:=none,fn:=fn,tm:=tm,params:=ps.toList,assign,body,defers:=d }) with
        | none=>.fail "enterLoop"
        | some (l,w)=>(match (frC fn tm (.code (.rangeFunc f ps assign body)::k) false none ds).eval f with
         | .func fn' first captured=>applyA P ({ fn:=fn,tm:=tm,todo:=.inRangeFunc l::k,defers:=mark++(ds.map fun D=>{ target:=.collected D,args:=#[] }),mode:=.run,kind:=.normal,roundOf:=none,dr:=false }:AFr) cs false (invokeA P X w (.fn fn' captured) (first.toList++[.func (.yield l) #[] #[]]))
         | _=>.fail "rangeFunc"))):=by rfl
      rw [this,hn1]
      simp only [hn2]
      rw [eval_evalT]
      rfl
     unfold dynA at hdy
     cases hf:evalT tm f with
     | func fn' first captured=>
      rw [hf] at e hdy
      simp only at e hdy
      rw [hdy] at e
      obtain ⟨fr',he⟩:=Option.isSome_iff_exists.1 hwc.1
      have h2:=hwc.2
      unfold frOf at h2
      rw [he] at h2
      simp only [applyA,cond_false,he] at e
      refine wp_next hX hP e (wp_sub (enter_kind he).1 (enter_kind he).2 h2 fun v A4 hk2=>?_)
      obtain ⟨r,g1,g2,g3⟩:=hk2
      have e5:stepD P X ⟨(frC fn tm (.inRangeFunc l::k) false none (D::ds)).finish v,cs,A4⟩=.next ⟨frC fn tm (match r.pending with | some c=>.code c::k | none=>k) false none (D::ds),cs,A4.put l (.loop { r with state:=.exhausted })⟩:=by
       have:stepD P X ⟨(frC fn tm (.inRangeFunc l::k) false none (D::ds)).finish v,cs,A4⟩=(match A4.get l with
        | some (.loop r)=>(match r.state with
         | .busy=>.fail "endLoop"
         | _=>.next ⟨frC fn tm (match r.pending with | some c=>.code c::k | none=>k) false none (D::ds),cs,A4.put l (.loop { r with state:=.exhausted })⟩)
        | _=>.fail "endLoop"):=by rfl
       rw [this,g1]
       simp only
      refine wp_next hX hP e5 ?_
      rcases g3 with ⟨gp,g3⟩ | ⟨gp,g3⟩
      ·rw [show (match r.pending with | some c=>.code c::k | none=>k)=k by rw [gp]]
       exact ih _ _ _ _ _ _ _ _ hs hk g3
      ·rw [show (match r.pending with | some c=>.code c::k | none=>k)=.code .ret::k by rw [gp]]
       exact hl _ _ _ _ _ (.ret _) g3
     | _=>rw [hf] at hdy;cases hdy
  ·exact wp_next hX hP rfl (ih _ _ _ _ _ _ _ _ hs hk h)
  ·exact wp_next hX hP rfl (ih _ _ _ _ _ _ _ _ hs hk h)
  ·exact wp_next hX hP rfl (ih _ _ _ _ _ _ _ _ hs hk h)
  ·exact wp_next hX hP rfl (ih _ _ _ _ _ _ _ _ hs hk h)
  ·exact wp_next hX hP rfl (ih _ _ _ _ _ _ _ _ hs hk h)
  ·
   rename_i c a b k
   have e:∀ t,evalT tm c=.bool t→stepD P X ⟨frC fn tm (.code (.cond c a b)::k) dr ro ds,cs,A⟩=.next ⟨frC fn tm (.code (bif t then a else b)::k) dr ro ds,cs,A⟩:=by
    intro t ht
    have:stepD P X ⟨frC fn tm (.code (.cond c a b)::k) dr ro ds,cs,A⟩=(bif memN fn X.forks then (match (frC fn tm (.code (.cond c a b)::k) dr ro ds).eval c with
     | .bool _=>.branch [⟨frC fn tm (.code a::k) dr ro ds,cs,A⟩,⟨frC fn tm (.code b::k) dr ro ds,cs,A⟩]
     | _=>.fail "cond") else (match (frC fn tm (.code (.cond c a b)::k) dr ro ds).eval c with | .bool t=>.next ⟨frC fn tm (.code (bif t then a else b)::k) dr ro ds,cs,A⟩ | _=>.fail "cond")):=rfl
    rw [this,hp.forks,eval_evalT]
    simp only [memN,cond_false,ht]
   split at h
   ·rename_i hc
    exact wp_next hX hP (e true (knOf_spec hk hc)) (ih _ _ _ _ _ _ _ _ hs hk h)
   ·rename_i hc
    exact wp_next hX hP (e false (knOf_spec hk hc)) (ih _ _ _ _ _ _ _ _ hs hk h)
   ·obtain ⟨⟨t,ht⟩,h1,h2⟩:=h
    cases t with
    | true=>
     refine wp_next hX hP (e true ht) (ih _ _ _ _ _ _ _ _ hs ?_ (h1 ht))
     cases c with
     | tmp t=>exact hk.true ht
     | _=>exact hk
    | false=>
     refine wp_next hX hP (e false ht) (ih _ _ _ _ _ _ _ _ hs ?_ (h2 ht))
     cases c with
     | tmp t=>exact hk.false ht
     | _=>exact hk
  ·exact wp_next hX hP rfl (ih _ _ _ _ _ _ _ _ hs hk h)
  ·exact wp_next hX hP rfl (ih _ _ _ _ _ _ _ _ hs hk h)
  ·
   cases dr with
   | true=>exact h.elim
   | false=>
    cases ds with
    | cons D ds=>exact h.elim
    | nil=>
    obtain ⟨h1,h2⟩:=h
    refine wp_next hX hP rfl ?_
    have:=hcut _ _ A tm h2 hs rfl
    rw [← h1] at this
    exact this
  ·cases dr with
   | true=>exact h.elim
   | false=>
    cases ds with
    | cons D ds=>exact h.elim
    | nil=>
    obtain ⟨h1,h2⟩:=h
    refine wp_next hX hP rfl ?_
    have:=hcut _ _ A tm h2 hs rfl
    rw [← h1] at this
    exact this
  ·
   rename_i id k
   split at h
   ·rename_i k' hk'
    have e:stepD P X ⟨frC fn tm (.code (.exit id)::k) dr ro ds,cs,A⟩=.next ⟨frC fn tm k' dr ro ds,cs,A⟩:=by
     unfold stepD stepA
     simp only [hk']
    exact wp_next hX hP e (ih _ _ _ _ _ _ _ _ hs hk h)
   ·rename_i hx
    cases dr with
    | true=>exact h.elim
    | false=>exact hl _ _ _ _ _ (.exit _ _ hx) h
  ·exact wp_next hX hP rfl (ih _ _ _ _ _ _ _ _ hs hk h)
  ·
   rename_i id ops k
   cases hin:dstsIn tm.sz ops.toList with
   | false=>rw [hin] at h;exact h.elim
   | true=>
    rw [hin,cond_true] at h
    split at h
    ·rename_i p hpl
     have e:stepD P X ⟨frC fn tm (.code (.region id ops true)::k) dr ro ds,cs,A⟩=.next ⟨frC fn tm (.inRegion ops p::k) true ro ds,cs,A⟩:=by
      unfold stepD
      simp only [hin,cond_true,hpl]
     exact wp_next hX hP e (ih _ _ _ _ _ _ _ _ hs hk h)
    ·exact h.elim
  ·exact wp_next hX hP rfl (ih _ _ _ _ _ _ _ _ hs hk h)
  ·
   rename_i ops i rest k
   cases hb:(dr&&!Nat.blt i ops.toList.length) with
   | true=>
    rw [hb,cond_true] at h
    simp only [Bool.and_eq_true,Bool.not_eq_true'] at hb
    obtain ⟨rfl,hb⟩:=hb
    have hge:=blt_false.1 hb
    split at h
    ·exact h.elim
    ·rename_i o ho
     split at h
     ·rename_i d hd hw
      obtain ⟨h1,h2⟩:=h
      refine wp_recheck hge ?_ (ih _ _ _ _ _ _ _ _ hs hk h2)
      intro o' d' ho' hd'
      rw [ho] at ho'
      cases ho'
      rw [hd] at hd'
      cases hd'
      exact ⟨fun _=>h1.symm,fun hw'=>absurd hw' (by rw [wants_spec hk hw];exact Bool.noConfusion)⟩
     ·rename_i d hd hw
      cases hq:quietOp P o.op with
      | false=>
       rw [hq,cond_false] at h
       obtain ⟨⟨c,h1,h3⟩,h2⟩:=h
       refine wp_recheck hge ?_ (ih _ _ _ _ _ _ _ _ hs hk h2)
       intro o' d' ho' hd'
       rw [ho] at ho'
       cases ho'
       rw [hd] at hd'
       cases hd'
       exact ⟨fun hw'=>absurd hw' (by rw [wants_spec hk hw];exact Bool.noConfusion),fun _=>⟨fun hq'=>absurd hq' (by rw [hq];exact Bool.noConfusion),fun _=>⟨c,h1,h3⟩⟩⟩
      | true=>
       rw [hq,cond_true] at h
       have fin:∀ A',execA P X (evalT tm) o A=.ok (.value (tm.get d)) A'→Valid P X A ops tm (i - ops.toList.length):=by
        intro A' he o' d' ho' hd'
        rw [ho] at ho'
        cases ho'
        rw [hd] at hd'
        cases hd'
        exact ⟨fun hw'=>absurd hw' (by rw [wants_spec hk hw];exact Bool.noConfusion),fun _=>⟨fun _=>⟨A',he⟩,fun hq'=>absurd hq' (by rw [hq];exact Bool.noConfusion)⟩⟩
       split at h
       ·rename_i x hpk
        obtain ⟨h1,h2⟩:=h
        refine wp_recheck hge (fin A ?_) (ih _ _ _ _ _ _ _ _ hs hk h2)
        rw [← h1]
        exact knOp_pick hpk hk P X rfl A
       ·rcases opW_does (P:=P) (X:=X) (fun f=>rfl) h with ⟨v,A',he,h1,h2⟩ | ⟨A',he,_⟩ | ⟨g,args,A',he,_⟩ | ⟨l,fn',tm',a,b,A',he,_⟩ | ⟨it,A',he,_⟩
        ·refine wp_recheck hge (fin A' ?_) (ih _ _ _ _ _ _ _ _ hs hk h2)
         rw [← h1]
         exact he
        ·obtain ⟨_,v,hv⟩:=quiet_exec hq he
         cases hv
        ·obtain ⟨_,v,hv⟩:=quiet_exec hq he
         cases hv
        ·obtain ⟨_,v,hv⟩:=quiet_exec hq he
         cases hv
        ·obtain ⟨_,v,hv⟩:=quiet_exec hq he
         cases hv
     ·exact h.elim
   | false=>
    rw [hb,cond_false] at h
    split at h
    ·exact h.elim
    ·rename_i o ho
     simp only at h
     have fin:∀ {kt' kf':Nat} {r:Option Bool} {sk:Bool} {v:Value} {A':AW},Kn kt' kf' ku tm→(∀ b,r=some b→v=.bool b)→(sk=true→v=undef)→(match o.dst with
       | some d=>bif Nat.blt d tm.sz then wpgo P X W0 m0 fn T L S Q ro n (tm.set d v) (.inRegion ops rest::k) dr (knT kt' d r) (knF kf' d r) (knU ku d sk) ds A' else False
       | none=>wpgo P X W0 m0 fn T L S Q ro n tm (.inRegion ops rest::k) dr kt' kf' ku ds A')→
       WP P X W0 m0 ⟨frC fn (match o.dst with | some d=>tm.set d v | none=>tm) (.inRegion ops rest::k) dr ro ds,cs,A'⟩ Q0:=by
      intro kt' kf' r sk v A' hk' hr hu hh
      cases hd:o.dst with
      | none=>
       rw [hd] at hh
       exact ih _ _ _ _ _ _ _ _ hs hk' hh
      | some d=>
       rw [hd] at hh
       simp only at hh ⊢
       cases hlt:Nat.blt d tm.sz with
       | false=>rw [hlt] at hh;exact hh.elim
       | true=>
        rw [hlt,cond_true] at hh
        exact ih _ _ _ _ _ _ _ _ (by rw [Tm.sz_set];exact hs) (hk'.set (by omega) (blt_true.1 hlt) hr hu) hh
     have nf:∀ {v:Value},false=true→v=undef:=fun h=>Bool.noConfusion h
     have nn:∀ {v:Value} (b:Bool),(none:Option Bool)=some b→v=.bool b:=fun b h=>by cases h
     have go:∀ {kt' kf':Nat},Kn kt' kf' ku tm→wantedA ops tm o=true→(match pickKn kt' kf' o.op with
       | some x=>(match o.dst with
        | some d=>bif Nat.blt d tm.sz then wpgo P X W0 m0 fn T L S Q ro n (tm.set d (evalT tm x)) (.inRegion ops rest::k) dr (knT kt' d (knOf kt' kf' x)) (knF kf' d (knOf kt' kf' x)) (knU ku d false) ds A else False
        | none=>wpgo P X W0 m0 fn T L S Q ro n tm (.inRegion ops rest::k) dr kt' kf' ku ds A)
       | none=>opW P X W0 m0 (evalT tm) o A fun v A'=>(match o.dst with
        | some d=>bif Nat.blt d tm.sz then wpgo P X W0 m0 fn T L S Q ro n (tm.set d v) (.inRegion ops rest::k) dr (knT kt' d (knOp kt' kf' o.op)) (knF kf' d (knOp kt' kf' o.op)) (knU ku d false) ds A' else False
        | none=>wpgo P X W0 m0 fn T L S Q ro n tm (.inRegion ops rest::k) dr kt' kf' ku ds A'))→
       WP P X W0 m0 ⟨frC fn tm (.inRegion ops (i::rest)::k) dr ro ds,cs,A⟩ Q0:=by
      intro kt' kf' hk' hw hh
      split at hh
      ·rename_i x hpk
       exact wp_oper hX hP hp ho hb hw (K:=fun v A'=>v=evalT tm x∧A'=A) (.inl ⟨_,A,knOp_pick hpk hk' P X rfl A,(⟨rfl,rfl⟩:_∧_)⟩) fun v A' hvA=>by
        obtain ⟨rfl,rfl⟩:=hvA
        exact fin (sk:=false) hk' (fun b hb=>knOf_spec hk' hb) nf hh
      ·rename_i hpk
       cases hkn:knOp kt' kf' o.op with
       | none=>
        rw [hkn] at hh
        exact wp_oper hX hP hp ho hb hw (opW_does (fun f=>rfl) hh) fun v A' hv=>fin (r:=none) (sk:=false) hk' nn nf hv
       | some b=>
        obtain ⟨x,hx,hxb⟩:=knOp_move hpk hkn
        rw [hkn] at hh
        have hb2:=knOf_spec hk' hxb
        obtain ⟨h3,h4⟩:=move_does (W0:=W0) (m0:=m0) (X:=X) hx hh
        rw [hb2] at h3 h4
        exact wp_oper hX hP hp ho hb hw (K:=fun v A'=>v=.bool b∧A'=A) (.inl ⟨_,A,h3,(⟨rfl,rfl⟩:_∧_)⟩) fun v A' hvA=>by
         obtain ⟨rfl,rfl⟩:=hvA
         exact fin (r:=some b) (sk:=false) hk' (fun b' hb'=>by cases hb';rfl) nf h4
     split at h
     ·rename_i hg
      exact go hk (by unfold wantedA;rw [hg]) h
     ·rename_i j want hg
      split at h
      ·exact h.elim
      ·rename_i d hsl
       have ff:∀ {kt' kf':Nat},Kn kt' kf' ku tm→wantedA ops tm o=false→(match o.dst with
         | some d=>bif Nat.blt d tm.sz then wpgo P X W0 m0 fn T L S Q ro n (tm.set d undef) (.inRegion ops rest::k) dr (knT kt' d none) (knF kf' d none) (knU ku d true) ds A else False
         | none=>wpgo P X W0 m0 fn T L S Q ro n tm (.inRegion ops rest::k) dr kt' kf' ku ds A)→WP P X W0 m0 ⟨frC fn tm (.inRegion ops (i::rest)::k) dr ro ds,cs,A⟩ Q0:=
        fun hk' hw hh=>wp_skip hX hP hp ho hb hw (fin (r:=none) (sk:=true) hk' nn (fun _=>rfl) hh)
       cases hu:ku.testBit d with
       | true=>
        rw [hu,cond_true] at h
        exact ff hk (unwanted_of hg hsl ((hk d).2.2 hu)) h
       | false=>
        rw [hu,cond_false] at h
        split at h
        ·rename_i b hkb
         have hv:tm.get d=.bool b:=knOf_spec hk hkb
         have hw:=wanted_of hg hsl hv
         cases hbw:(b==want) with
         | true=>
          rw [hbw,cond_true] at h
          exact go hk (hw.trans hbw) h
         | false=>
          rw [hbw,cond_false] at h
          exact ff hk (hw.trans hbw) h
        ·obtain ⟨⟨b,hv⟩,h1,h2⟩:=h
         have hw:=wanted_of hg hsl hv
         cases b with
         | true=>
          have h1:=h1 hv
          cases want with
          | true=>exact go (hk.true hv) hw h1
          | false=>exact ff (hk.true hv) hw h1
         | false=>
          have h2:=h2 hv
          cases want with
          | true=>exact ff (hk.false hv) hw h2
          | false=>exact go (hk.false hv) hw h2
  ·exact h.elim
theorem wpgo_sound (hX:XOk P X) (hP:POk P) (hp:Plain X) (hsz:sz < maxId) (hcut:Cuts P X W0 m0 fn T L S Q sz) (n:Nat) (tm:Tm) (todo:List Item) (dr:Bool) (kt kf ku:Nat) (A:AW) (hs:tm.sz=sz) (hk:Kn kt kf ku tm)
  (h:wpgo P X W0 m0 fn T L S Q none n tm todo dr kt kf ku [] A):WP P X W0 m0 ⟨frM fn tm todo dr,[],A⟩ Q:=
 wpgo_soundC hX hP hp hsz (ro:=none) (cs:=[]) (Q0:=Q) (fun _ _ _ _ _ hj h=>wp_leaves hX hP hj h) hcut n tm todo dr kt kf ku [] A hs hk h
end
def fillD (d:Nat→Value):Nat→Trie Value→Trie Value
 | 0,t=>t
 | n+1,t=>fillD d n (t.put depth n (some (d n)))
def tmOf (sz:Nat) (d:Nat→Value):Tm:=⟨sz,fillD d sz .nil⟩
theorem fillD_get (d:Nat→Value):∀ (n:Nat) (t:Trie Value) (i:Nat),n≤maxId→i < maxId→(fillD d n t).get? i=if i < n then some (d i) else t.get? i
 | 0,t,i,_,_=>by simp [fillD]
 | n+1,t,i,hn,hi=>by
  unfold fillD
  rw [fillD_get d n _ i (by omega) hi,Trie.get?_put depth t n i (some (d n)) (by unfold depth maxId at *;omega)]
  by_cases h1:i < n
  ·rw [if_pos h1,if_pos (by omega)]
  ·rw [if_neg h1]
   by_cases h2:n=i
   ·subst h2;rw [if_pos rfl,if_pos (by omega)]
   ·rw [if_neg (fun e=>h2 e.symm),if_neg (by omega)]
section
variable {P:Program} {X:XNames} {W0:World} {m0:Inj P}
theorem tmOf_get {sz:Nat} (hs:sz < maxId) (d:Nat→Value) (i:Nat):(tmOf sz d).get i=if i < sz then d i else undef:=by
 unfold tmOf Tm.get
 simp only
 by_cases hm:i < maxId
 ·rw [fillD_get d sz .nil i (by omega) hm]
  by_cases hi:i < sz
  ·rw [if_pos hi,if_pos hi]
  ·rw [if_neg hi,if_neg hi];rfl
 ·have key:∀ (n:Nat) (t:Trie Value),n≤maxId→t.get? i=none→(fillD d n t).get? i=none:=by
   intro n
   induction n with
   | zero=>intro t _ ht;exact ht
   | succ n ih=>
    intro t hn ht
    unfold fillD
    refine ih _ (by omega) ?_
    rw [Trie.get?_put depth t n i _ (by unfold depth maxId at *;omega),if_neg (by omega)]
    exact ht
  rw [key sz .nil (by omega) rfl,if_neg (by omega)]
theorem tmOf_rel {m:Inj P} {tm:Tm} {t':Array Value} (h:TmRel m tm t'):TmRel m (tmOf tm.sz tm.get) t':=by
 refine ⟨h.size,h.small,fun i=>?_⟩
 rw [tmOf_get h.small]
 by_cases hi:i < tm.sz
 ·rw [if_pos hi]
  exact h.val i
 ·have hv:t'.getD i undef=undef:=by
   have:t'.size≤i:=by rw [h.size];omega
   simp [Array.getD,Nat.not_lt.2 this]
  rw [if_neg hi,hv]
  exact undef_rel m
theorem wp_tmC {fn:FuncId} {tm:Tm} {todo:List Item} {ro:Option Nat} {ds:List Nat} {cs:List AFr} {A:AW} {Q:Value→AW→Prop} (h:WP P X W0 m0 ⟨frC fn (tmOf tm.sz tm.get) todo false ro ds,cs,A⟩ Q):WP P X W0 m0 ⟨frC fn tm todo false ro ds,cs,A⟩ Q:=by
 intro f0 base lo cs0 m f csW w hr ho
 refine h f0 base lo cs0 m f csW w ⟨hr.rel,hr.glob,hr.below,⟨⟨hr.top.core.fn,hr.top.core.kind,hr.top.core.kindOk,hr.top.core.mode,hr.top.core.round,hr.top.core.defers⟩,?_⟩,hr.stk,hr.bot.top rfl rfl rfl⟩ ho
 cases hr.top.body with
 | plain hd tm' todo'=>exact .plain rfl (tmOf_rel tm') todo'
 | draw ops S C rl pl rest k k' hd=>cases hd
variable {fn:FuncId} {T:Nat→List Item} {L:Nat→List Tmp} {Q:Value→AW→Prop} {sz N:Nat}
theorem cuts_ofC (hX:XOk P X) (hP:POk P) (hp:Plain X) (hsz:sz < maxId) {ro:Option Nat} {cs:List AFr} {Q0:Value→AW→Prop}
  (hl:∀ todo tm ds A j,Leaves todo j→leaveR P fn ro ds A tm Q j→WP P X W0 m0 ⟨frC fn tm todo false ro ds,cs,A⟩ Q0) {I:Nat→Nat→List Value→AW→Prop}
  (hbody:∀ g id vals A d,I g id vals A→(L id).map d=vals→wpgo P X W0 m0 fn T L (fun id' v' A'=>∃ g',g' < g∧I g' id' v' A') Q ro N (tmOf sz d) (T id) false 0 0 0 [] A):
  ∀ id vals A tm,(∃ g,I g id vals A)→tm.sz=sz→(L id).map tm.get=vals→WP P X W0 m0 ⟨frC fn tm (T id) false ro [],cs,A⟩ Q0:=by
 have key:∀ g,∀ id vals A tm,I g id vals A→tm.sz=sz→(L id).map tm.get=vals→WP P X W0 m0 ⟨frC fn tm (T id) false ro [],cs,A⟩ Q0:=by
  intro g
  induction g using Nat.strongRecOn with
  | _ g ih=>
   intro id vals A tm hI hs hv
   have hb:=hbody g id vals A tm.get hI hv
   rw [← hs] at hb
   refine wp_tmC (wpgo_soundC hX hP hp hsz (S:=fun id' v' A'=>∃ g',g' < g∧I g' id' v' A') hl ?_ N _ _ _ _ _ _ _ _ hs (fun t=>by simp) hb)
   rintro id' v' A' tm' ⟨g',hg,hI'⟩ hs' hv'
   exact ih g' hg id' v' A' tm' hI' hs' hv'
 rintro id vals A tm ⟨g,hI⟩ hs hv
 exact key g id vals A tm hI hs hv
theorem cuts_of (hX:XOk P X) (hP:POk P) (hp:Plain X) (hsz:sz < maxId) {I:Nat→Nat→List Value→AW→Prop}
  (hbody:∀ g id vals A d,I g id vals A→(L id).map d=vals→wpgo P X W0 m0 fn T L (fun id' v' A'=>∃ g',g' < g∧I g' id' v' A') Q none N (tmOf sz d) (T id) false 0 0 0 [] A):
  Cuts P X W0 m0 fn T L (fun id v A=>∃ g,I g id v A) Q sz:=
 cuts_ofC hX hP hp hsz (ro:=none) (cs:=[]) (Q0:=Q) (fun _ _ _ _ _ hj h=>wp_leaves hX hP hj h) hbody
theorem wc_of (hX:XOk P X) (hP:POk P) (hp:Plain X) (hsz:sz < maxId) {S:Nat→List Value→AW→Prop} (hcut:Cuts P X W0 m0 fn T L S Q sz) {args:List Value} {tm:Tm} {todo:List Item} {A:AW}
  (he:enterA P fn args .normal=some (frM fn tm todo false)) (hs:tm.sz=sz) (h:wpgo P X W0 m0 fn T L S Q none N tm todo false 0 0 0 [] A):Wc P X W0 m0 fn args A Q:=by
 refine ⟨by rw [he];rfl,?_⟩
 unfold frOf
 rw [he]
 exact wpgo_sound hX hP hp hsz hcut N _ _ _ _ _ _ _ hs (fun t=>by simp) h
theorem cuts_none {S:Nat→List Value→AW→Prop} (h:∀ id v A,¬ S id v A):Cuts P X W0 m0 fn T L S Q sz:=fun id v A _ hs=>absurd hs (h id v A)
theorem round_of (hX:XOk P X) (hP:POk P) (hp:Plain X) (hsz:sz < maxId) {l:Nat} {tm:Tm} {assign body:Code} {A:AW} {K:Value→AW→Prop} (hs:tm.sz=sz)
  (h:wpgo P X W0 m0 fn T L (fun _ _ _=>False) K (some l) N (tmOf sz tm.get) [.code assign,.beginRound,.code body] false 0 0 0 [] A):RoundW P X W0 m0 l fn tm assign body A K:=by
 intro c rest Q0 hK
 have h':=h
 rw [← hs] at h'
 exact wp_tmC (fn:=fn) (ds:=[]) (wpgo_soundC (T:=T) (L:=L) (S:=fun _ _ _=>False) hX hP hp (by rw [hs];exact hsz) (sz:=tm.sz) (fun _ _ _ _ _ hj h=>round_leaves hX hP hj h hK) (fun _ _ _ _ h=>h.elim) N _ _ _ _ _ _ _ _ rfl (fun t=>by simp) h')
end
section
variable {P:Program}
theorem pureW_some {v:Value} {K:Value→Prop}:pureW (some v) K↔K v:=⟨fun ⟨_,h,hk⟩=>by cases h;exact hk,fun h=>⟨v,rfl,h⟩⟩
theorem effW_some {A:AW} {K:AW→Prop}:effW (some A) K↔K A:=⟨fun ⟨_,h,hk⟩=>by cases h;exact hk,fun h=>⟨A,rfl,h⟩⟩
theorem bothW_ok {v:Value} {A:AW} {K:Value→AW→Prop}:bothW (.ok v A) K↔K v A:=⟨fun ⟨_,_,h,hk⟩=>by cases h;exact hk,fun h=>⟨v,A,rfl,h⟩⟩
theorem forkW_bool {b:Bool} {p q:Prop}:forkW (.bool b) p q↔(b=true→p)∧(b=false→q):=
 ⟨fun h=>⟨fun e=>h.2.1 (by rw [e]),fun e=>h.2.2 (by rw [e])⟩,fun h=>⟨⟨b,rfl⟩,fun e=>h.1 (by cases e;rfl),fun e=>h.2 (by cases e;rfl)⟩⟩
theorem forkW_dec {c:Prop} [Decidable c] {p q:Prop}:forkW (.bool (decide c)) p q↔(c→p)∧(¬ c→q):=by
 rw [forkW_bool];simp
theorem forkW_beq {a b:Int} {p q:Prop}:forkW (.bool (a==b)) p q↔(a=b→p)∧(a≠b→q):=by
 rw [forkW_bool];simp
theorem forkW_bne {a b:Int} {p q:Prop}:forkW (.bool (a != b)) p q↔(a≠b→p)∧(a=b→q):=by
 rw [forkW_bool];simp
theorem cutW_self {a:List Item} {p:Prop}:cutW a a p↔p:=⟨fun h=>h.2,fun h=>⟨rfl,h⟩⟩
theorem eqW_self {a:Value} {p:Prop}:eqW a a p↔p:=⟨fun h=>h.2,fun h=>⟨rfl,h⟩⟩
section
variable {t:TypeId} {xo yo:Operand} {k:IntKind} {a b:Int}
theorem bin_lss:binA P .lss t xo yo (.int k a) (.int k b)=some (.bool (decide (a < b))):=by simp [binA,binOp,Op.intCmp,quiet,closedO,closedV,pure]
theorem bin_leq:binA P .leq t xo yo (.int k a) (.int k b)=some (.bool (decide (a≤b))):=by simp [binA,binOp,Op.intCmp,quiet,closedO,closedV,pure]
theorem bin_gtr:binA P .gtr t xo yo (.int k a) (.int k b)=some (.bool (decide (b < a))):=by simp [binA,binOp,Op.intCmp,quiet,closedO,closedV,pure]
theorem bin_geq:binA P .geq t xo yo (.int k a) (.int k b)=some (.bool (decide (b≤a))):=by simp [binA,binOp,Op.intCmp,quiet,closedO,closedV,pure]
theorem bin_eql:binA P .eql t xo yo (.int k a) (.int k b)=some (.bool (a==b)):=by simp [binA,binOp,Op.intCmp,quiet,closedO,closedV,pure]
theorem bin_neq:binA P .neq t xo yo (.int k a) (.int k b)=some (.bool (a != b)):=by simp [binA,binOp,Op.intCmp,quiet,closedO,closedV,pure]
theorem bin_add:binA P .add t xo yo (.int k a) (.int k b)=some (.int k (k.wrap (a+b))):=by simp [binA,binOp,Op.intArith,quiet,closedO,closedV,pure]
theorem bin_sub:binA P .sub t xo yo (.int k a) (.int k b)=some (.int k (k.wrap (a - b))):=by simp [binA,binOp,Op.intArith,quiet,closedO,closedV,pure]
theorem un_not {x:Bool}:unA P .not (.bool x)=some (.bool (!x)):=by simp [unA,closedV,Op.unary,quiet,closedO,pure]
theorem bin_streq {x y:ByteArray}:binA P .eql t xo yo (.string x) (.string y)=some (.bool (x.data.toList==y.data.toList)):=rfl
theorem bin_strneq {x y:ByteArray}:binA P .neq t xo yo (.string x) (.string y)=some (.bool !(x.data.toList==y.data.toList)):=rfl
end
theorem wrap_i64 {n:Int} (h1: -9223372036854775808≤n) (h2:n < 9223372036854775808):IntKind.i64.wrap n=n:=by
 unfold IntKind.wrap
 have e:(2 ^ IntKind.i64.bits:Int)=18446744073709551616:=by decide
 have e2:(2 ^ (IntKind.i64.bits - 1):Int)=9223372036854775808:=by decide
 have e3:IntKind.i64.signed=true:=rfl
 simp only [e,e2,e3,Bool.true_and,decide_eq_true_eq]
 split <;> omega
theorem sameInt_refl:∀ a:Int,sameInt a a=true
 | .ofNat a=>Nat.beq_refl a
 | .negSucc a=>Nat.beq_refl a
theorem same_int {n:Nat} {k:IntKind} {a:Int}:sameV (n+1) (.int k a) (.int k a)=true:=by simp [sameV,sameInt_refl]
structure Ext (A A':AW):Prop where
 next:A.next≤A'.next
 get:∀ i,i < A.next→A'.get i=A.get i
 mem:∀ i,i < A.next→A'.members i=A.members i
def AW.push (A:AW) (o:AO):AW:={ (A.put A.next o) with next:=A.next+1 }
theorem AW.push_get {A:AW} (o:AO) {j:Nat} (h:A.next < maxId):(A.push o).get j=if j=A.next then some o else A.get j:=AW.get_put A A.next j o h
theorem AW.push_next (A:AW) (o:AO):(A.push o).next=A.next+1:=rfl
theorem AW.push_ext {A:AW} (o:AO) (h:A.next < maxId):Ext A (A.push o):=
 ⟨Nat.le_succ _,fun i hi=>by rw [AW.push_get o h,if_neg (by omega)],fun i _=>rfl⟩
theorem newP_eq {A:AW} {cs:List Value} {e:TypeId} (h:A.next < maxId) (hc:cs.all oneCell=true):newP A cs e=.ok (.pointer (some ⟨A.next,0,none⟩)) (A.push (.row cs e A.next 0 false)):=by
 unfold newP AW.newRow AW.new
 simp only [hc,cond_true,blt_true.2 h]
 rfl
theorem isT_int {k:IntKind} {n:Int}:isTuple (.int k n)=false:=rfl
theorem isT_bool {b:Bool}:isTuple (.bool b)=false:=rfl
theorem isT_string {b:ByteArray}:isTuple (.string b)=false:=rfl
theorem isT_slice {a:Option Addr} {n c:Nat}:isTuple (.slice a n c)=false:=rfl
theorem isT_ptr {a:Option Addr}:isTuple (.pointer a)=false:=rfl
theorem isT_map {a:Option Nat}:isTuple (.map a)=false:=rfl
theorem one_int {k:IntKind} {n:Int}:oneCell (.int k n)=true:=rfl
theorem one_bool {b:Bool}:oneCell (.bool b)=true:=rfl
theorem one_string {b:ByteArray}:oneCell (.string b)=true:=rfl
theorem one_slice {a:Option Addr} {n c:Nat}:oneCell (.slice a n c)=true:=rfl
theorem one_ptr {a:Option Addr}:oneCell (.pointer a)=true:=rfl
theorem one_map {a:Option Nat}:oneCell (.map a)=true:=rfl
theorem cell_row {A:AW} {b off:Nat} {cs:List Value} {e f b0:Nat} {ro:Bool} (h:A.get b=some (.row cs e f b0 ro)):A.cell? ⟨b,off,none⟩=cellOf cs off:=by
 unfold AW.cell?
 simp only [h]
theorem cells_row {A:AW} {b off n:Nat} {cs:List Value} {e f b0:Nat} {ro:Bool} (h:A.get b=some (.row cs e f b0 ro)):A.cells? ⟨b,off,none⟩ n=takeCells (cs.drop off) n:=by
 unfold AW.cells?
 cases n with
 | zero=>simp [takeCells]
 | succ n=>simp only [h]
theorem cellOf_get:∀ {cs:List Value} {i:Nat} {v:Value},cs[i]? =some v→isTuple v=false→cellOf cs i=some v
 | [],i,v,h,_=>by simp at h
 | x::r,0,v,h,ht=>by
  simp only [List.getElem?_cons_zero,Option.some.injEq] at h
  subst h
  simp [cellOf,ht]
 | x::r,i+1,v,h,ht=>by
  simp only [List.getElem?_cons_succ] at h
  simp only [cellOf]
  exact cellOf_get h ht
end
section
variable {P:Program}
structure Fine (A:AW):Prop where
 fams:∀ i,A.next≤i→A.fams.get? i=none
 get:∀ i,A.next≤i→A.get i=none
theorem Fine.lt {A:AW} (h:Fine A) {i:Nat} {o:AO} (hi:A.get i=some o):i < A.next:=by
 rcases Nat.lt_or_ge i A.next with h1 | h1
 ·exact h1
 ·rw [h.get i h1] at hi;cases hi
theorem Fine.alone {A:AW} (h:Fine A) {i:Nat} (hi:A.next≤i):A.members i=[i]:=by
 unfold AW.members
 rw [h.fams i hi]
theorem Fine.push {A:AW} (h:Fine A) (o:AO) (hn:A.next < maxId):Fine (A.push o):=
 ⟨fun i hi=>h.fams i (by rw [AW.push_next] at hi;omega),fun i hi=>by rw [AW.push_next] at hi;rw [AW.push_get o hn,if_neg (by omega)];exact h.get i (by omega)⟩
structure Made (A A':AW) (cs:List Value) (e:TypeId):Prop where
 ext:Ext A A'
 next:A'.next=A.next+1
 row:A'.get A.next=some (.row cs e A.next 0 false)
 mem:A'.members A.next=[A.next]
 fine:Fine A'
theorem newP_made {A:AW} {cs:List Value} {e:TypeId} {K:Value→AW→Prop} (hf:Fine A) (h:A.next < maxId) (hc:cs.all oneCell=true) (hk:∀ A',Made A A' cs e→K (.pointer (some ⟨A.next,0,none⟩)) A'):bothW (newP A cs e) K:=by
 rw [newP_eq h hc]
 exact bothW_ok.2 (hk _ ⟨AW.push_ext _ h,rfl,by rw [AW.push_get _ h,if_pos rfl],hf.alone (Nat.le_refl _),hf.push _ h⟩)
theorem allocP_made {A:AW} {z:Value} {e:TypeId} {K:Value→AW→Prop} (hz:zeroT P e=some z) (hf:Fine A) (h:A.next < maxId) (hc:z.cells.toList.all oneCell=true)
  (hk:∀ A',Made A A' z.cells.toList e→K (.pointer (some ⟨A.next,0,none⟩)) A'):bothW (allocP P A e) K:=by
 unfold allocP
 rw [hz]
 exact newP_made hf h hc hk
theorem drop_of_get {l:List Value} {o:Nat} {v:Value} (h:l[o]? =some v):l.drop o=v::l.drop (o+1):=by
 obtain ⟨h1,rfl⟩:=List.getElem?_eq_some_iff.1 h
 exact List.drop_eq_getElem_cons h1
theorem takeCells_cons {v:Value} {l:List Value} {n:Nat} (h:isTuple v=false):takeCells (v::l) (n+1)=(match takeCells l n with | some r=>some (v::r) | none=>none):=by
 simp only [takeCells,h,cond_false]
 rfl
def setL:List Value→Nat→List Value→List Value
 | cs,_,[]=>cs
 | cs,o,v::r=>setL (cs.set o v) (o+1) r
theorem setL_length:∀ (new cs:List Value) (o:Nat),(setL cs o new).length=cs.length
 | [],cs,o=>rfl
 | v::r,cs,o=>by rw [setL,setL_length r];simp
structure Wrote (A A':AW) (b:Nat) (o:AO):Prop where
 row:A'.get b=some o
 get:∀ i,i≠b→A'.get i=A.get i
 next:A'.next=A.next
 fams:A'.fams=A.fams
theorem Wrote.fine {A A':AW} {b:Nat} {o o':AO} (h:Wrote A A' b o) (hf:Fine A) (hb:A.get b=some o'):Fine A':=
 ⟨fun i hi=>by rw [h.fams];exact hf.fams i (by rw [h.next] at hi;exact hi),fun i hi=>by
  rw [h.next] at hi
  have hb:=hf.lt hb
  rw [h.get i (by omega)]
  exact hf.get i hi⟩
theorem Wrote.mem {A A':AW} {b:Nat} {o:AO} (h:Wrote A A' b o) (f:Nat):A'.members f=A.members f:=by unfold AW.members;rw [h.fams]
theorem setCells_own:∀ {new:List Value} {A:AW} {b off:Nat} {cs:List Value} {e f b0:Nat},A.get b=some (.row cs e f b0 false)→A.members f=[b]→off+new.length≤cs.length→new.all oneCell=true→b < maxId→
  ∃ A',A.setCells ⟨b,off,none⟩ new=some A'∧Wrote A A' b (.row (setL cs off new) e f b0 false)
 | [],A,b,off,cs,e,f,b0,hg,hm,hl,ho,hb=>⟨A,rfl,hg,fun _ _=>rfl,rfl,rfl⟩
 | v::r,A,b,off,cs,e,f,b0,hg,hm,hl,ho,hb=>by
  simp only [List.all_cons,Bool.and_eq_true] at ho
  simp only [List.length_cons] at hl
  have hble:Nat.ble cs.length off=false:=ble_false.2 (by omega)
  have h1:A.setCell ⟨b,off,none⟩ v=some (A.put b (.row (cs.set off v) e f b0 false)):=by
   unfold AW.setCell
   simp only [hg,ho.1,Bool.not_true,Bool.false_or,hble,cond_false,hm,poisonAt,Nat.beq_refl,cond_true]
  have hg':(A.put b (.row (cs.set off v) e f b0 false)).get b=some (.row (cs.set off v) e f b0 false):=by rw [AW.get_put A b b _ hb,if_pos rfl]
  obtain ⟨A',h2,h3⟩:=setCells_own (new:=r) (A:=A.put b (.row (cs.set off v) e f b0 false)) (off:=off+1) hg' hm (by simp;omega) ho.2 hb
  refine ⟨A',?_,h3.row,fun i hi=>?_,h3.next,h3.fams⟩
  ·simp only [AW.setCells,h1]
   exact h2
  ·rw [h3.get i hi,AW.get_put A b i _ hb,if_neg hi]
theorem effW_store {A:AW} {b off n:Nat} {v:Value} {cs:List Value} {e f b0:Nat} {r:Option AW} {K:AW→Prop} (hr:r=(bif Nat.beq v.cells.toList.length n then A.setCells ⟨b,off,none⟩ v.cells.toList else none))
  (hv:v.cells.toList.length=n) (hg:A.get b=some (.row cs e f b0 false)) (hm:A.members f=[b]) (hl:off+n≤cs.length) (ho:v.cells.toList.all oneCell=true) (hb:b < maxId)
  (hk:∀ A',Wrote A A' b (.row (setL cs off v.cells.toList) e f b0 false)→K A'):effW r K:=by
 obtain ⟨A',h1,h2⟩:=setCells_own (new:=v.cells.toList) (off:=off) hg hm (by omega) ho hb
 rw [hr,hv,Nat.beq_refl,cond_true,h1]
 exact effW_some.2 (hk A' h2)
end
section
variable {P:Program}
structure OwnAt (lo:Nat) (A:AW) (e:TypeId) (size:Nat) (n:Nat) (cs:List Value) (b f:Nat):Prop where
 pos:0 < n
 row:A.get b=some (.row cs e f 0 false)
 len:cs.length=n * size
 lob:lo≤b
 lof:lo≤f
 ltf:f < A.next
 mem:∀ i∈A.members f,lo≤i∧i < A.next∧∃ cs' e' b' ro',A.get i=some (.row cs' e' f b' ro')
def OwnS (lo:Nat) (A:AW) (e:TypeId) (size:Nat) (v:Value) (n:Nat) (cs:List Value):Prop:=
 (v=.slice none 0 0∧n=0∧cs=[])∨∃ b f,v=.slice (some ⟨b,0,none⟩) n (capU+n)∧OwnAt lo A e size n cs b f
theorem OwnS.one {lo:Nat} {A:AW} {e:TypeId} {size:Nat} {v:Value} {n:Nat} {cs:List Value} (h:OwnS lo A e size v n cs):oneCell v=true∧isTuple v=false:=by
 rcases h with ⟨rfl,_⟩ | ⟨b,f,rfl,_⟩ <;> exact ⟨rfl,rfl⟩
theorem poisonFrom_get (coord:Nat):∀ (l:List Nat) (A:AW),(∀ i∈l,i < maxId)→(∀ i,i∉l→(poisonFrom coord l A).get i=A.get i)∧(poisonFrom coord l A).next=A.next∧(poisonFrom coord l A).fams=A.fams
 | [],A,_=>⟨fun _ _=>rfl,rfl,rfl⟩
 | x::r,A,hl=>by
  unfold poisonFrom
  split
  ·rename_i cs e fam base ro hx
   obtain ⟨h1,h2,h3⟩:=poisonFrom_get coord r (A.put x (.row (poisonFromL cs (coord - base)) e fam base ro)) fun i hi=>hl i (by simp [hi])
   refine ⟨fun i hi=>?_,h2,h3⟩
   simp only [List.mem_cons,not_or] at hi
   rw [h1 i hi.2,AW.get_put A x i _ (hl x (by simp)),if_neg hi.1]
  ·obtain ⟨h1,h2,h3⟩:=poisonFrom_get coord r A fun i hi=>hl i (by simp [hi])
   exact ⟨fun i hi=>h1 i (fun h=>hi (by simp [h])),h2,h3⟩
theorem takeAny_all:∀ (l:List Value),takeAny l l.length=some l
 | []=>rfl
 | v::r=>by simp [takeAny,takeAny_all r]
structure Appended (lo:Nat) (A A':AW) (e:TypeId) (size:Nat) (v v':Value) (n m:Nat) (cs new:List Value):Prop where
 own:OwnS lo A' e size v' (n+m) (cs++new)
 next:A'.next=A.next+1
 fine:Fine A'
 get:∀ i,i < A.next→(∀ b f,v=.slice (some ⟨b,0,none⟩) n (capU+n)→OwnAt lo A e size n cs b f→i∉A.members f)→A'.get i=A.get i
 mem:∀ g,g < A.next→(∀ b f,v=.slice (some ⟨b,0,none⟩) n (capU+n)→OwnAt lo A e size n cs b f→g≠f)→A'.members g=A.members g
 fam:∀ b' f',v'=.slice (some ⟨b',0,none⟩) (n+m) (capU+(n+m))→OwnAt lo A' e size (n+m) (cs++new) b' f'→f'=A.next∨∃ b,v=.slice (some ⟨b,0,none⟩) n (capU+n)∧OwnAt lo A e size n cs b f'
theorem appendA_nil {A:AW} {t t2 e:TypeId} {size bytes:Nat} {x:Value} {m:Nat} {new:List Value} (ht:sliceElemT P t=some e) (hs:szT P e=some (size+1)) (hb:bytesT P e=some bytes)
  (hx:sourceZ P A e t2 (size+1) x=some (m+1,new)) (hroom:(Nat.blt (0+(m+1)) room&&Nat.blt ((0+(m+1)) * bytes) room&&hasZero P e (size+1))=true) (hmax:A.next < maxId):
  appendA P A t t2 (.slice none 0 0) x=.ok (.slice (some ⟨A.next,0,none⟩) (0+(m+1)) (capU+(0+(m+1)))) (A.push (.row new e A.next 0 false)):=by
 unfold appendA
 simp only [ht,hs,hb,hx]
 rw [hroom]
 simp only [Bool.not_true,cond_false]
 have h1:Nat.ble capU 0=false:=rfl
 have h2:Nat.ble (0+(m+1)) 0=false:=ble_false.2 (by omega)
 simp only [h1,cond_false,h2,List.nil_append]
 unfold AW.new
 simp only [blt_true.2 hmax,cond_true]
 rfl
theorem appendA_grow {A B:AW} {t t2 e:TypeId} {size bytes:Nat} {x:Value} {n m c b f:Nat} {cs new:List Value} {a':Addr} (ht:sliceElemT P t=some e) (hs:szT P e=some (size+1)) (hb:bytesT P e=some bytes)
  (hx:sourceZ P A e t2 (size+1) x=some (m+1,new)) (hroom:(Nat.blt (n+(m+1)) room&&Nat.blt ((n+(m+1)) * bytes) room&&hasZero P e (size+1))=true) (h1:Nat.ble capU c=true) (h2:Nat.ble (n+(m+1)) (c - capU)=false)
  (hrow:A.get b=some (.row cs e f 0 false)) (hone:new.all oneCell=true) (hold:A.cellsAny ⟨b,0,none⟩ (n * (size+1))=some cs)
  (hni:(poisonFrom (n * (size+1)) (A.members f) A).newIn (cs++new) e f 0=some (a',B)):
  appendA P A t t2 (.slice (some ⟨b,0,none⟩) n c) x=.ok (.slice (some a') (n+(m+1)) (capU+(n+(m+1)))) B:=by
 unfold appendA
 simp only [ht,hs,hb,hx]
 rw [hroom]
 simp only [Bool.not_true,cond_false]
 generalize hlb:(bif Nat.ble capU c then c - capU else c)=lb
 have hz:Nat.ble (n+(m+1)) lb=false:=by
  rw [h1,cond_true] at hlb
  rw [← hlb]
  exact h2
 clear hlb h2
 have hbe:Nat.beq e e=true:=Nat.beq_refl e
 simp only [hz,h1,cond_false,cond_true,hrow,hbe,hone,Bool.and_self,Bool.not_true]
 rw [hold]
 have hc:(0+0+n * (size+1))=n * (size+1):=by omega
 simp only [hc,Nat.add_zero,hni]
theorem append_own {lo:Nat} {A:AW} {t t2 e:TypeId} {size bytes:Nat} {v x:Value} {n m:Nat} {cs new:List Value} (ht:sliceElemT P t=some e) (hs:szT P e=some (size+1)) (hb:bytesT P e=some bytes)
  (hz:hasZero P e (size+1)=true) (hx:sourceZ P A e t2 (size+1) x=some (m+1,new)) (hnew:new.length=(m+1) * (size+1)) (hone:new.all oneCell=true) (h:OwnS lo A e (size+1) v n cs) (hf:Fine A) (hlo:lo≤A.next)
  (hmax:A.next < maxId) (hr1:n+(m+1) < room) (hr2:(n+(m+1)) * bytes < room):∃ v' A',appendA P A t t2 v x=.ok v' A'∧Appended lo A A' e (size+1) v v' n (m+1) cs new:=by
 have hroom:(Nat.blt (n+(m+1)) room&&Nat.blt ((n+(m+1)) * bytes) room&&hasZero P e (size+1))=true:=by rw [blt_true.2 hr1,blt_true.2 hr2,hz];rfl
 rcases h with ⟨rfl,rfl,rfl⟩ | ⟨b,f,rfl,h⟩
 ·refine ⟨.slice (some ⟨A.next,0,none⟩) (0+(m+1)) (capU+(0+(m+1))),A.push (.row new e A.next 0 false),?_,?_⟩
  ·exact appendA_nil ht hs hb hx hroom hmax
  ·have hfp:=hf.push (.row new e A.next 0 false) hmax
   have hrow:(A.push (.row new e A.next 0 false)).get A.next=some (.row new e A.next 0 false):=by rw [AW.push_get _ hmax,if_pos rfl]
   refine ⟨.inr ⟨A.next,A.next,rfl,by omega,by rw [hrow];rfl,by simp only [List.nil_append,hnew,Nat.zero_add],hlo,hlo,by rw [AW.push_next];omega,fun i hi=>?_⟩,rfl,hfp,fun i hi _=>by rw [AW.push_get _ hmax,if_neg (by omega)],fun g hg _=>rfl,fun b' f' hv ho=>?_⟩
   ·have:(A.push (.row new e A.next 0 false)).members A.next=[A.next]:=hf.alone (Nat.le_refl _)
    rw [this] at hi
    obtain rfl:i=A.next:=by simpa using hi
    exact ⟨hlo,by rw [AW.push_next];omega,_,_,_,_,hrow⟩
   ·simp only [Value.slice.injEq,Option.some.injEq,Addr.mk.injEq] at hv
    obtain ⟨⟨rfl,_⟩,_⟩:=hv
    have:=ho.row
    rw [hrow] at this
    simp only [Option.some.injEq,AO.row.injEq] at this
    exact .inl this.2.2.1.symm
 ·have hmemlt:∀ i∈A.members f,i < maxId:=fun i hi=>by have:=(h.mem i hi).2.1;omega
  obtain ⟨p1,p2,p3⟩:=poisonFrom_get (n * (size+1)) (A.members f) A hmemlt
  let A1:=poisonFrom (n * (size+1)) (A.members f) A
  have hA1:A1.next=A.next:=p2
  let A2:AW:={ (A1.push (.row (cs++new) e f 0 false)) with fams:=(A1.push (.row (cs++new) e f 0 false)).fams.put depth f (some (A1.next::A1.members f)) }
  have hm1:∀ g,A1.members g=A.members g:=fun g=>by unfold AW.members;rw [show A1.fams=A.fams from p3]
  have hget2:∀ i,A2.get i=if i=A.next then some (.row (cs++new) e f 0 false) else A1.get i:=by
   intro i
   show (A1.push _).get i=_
   rw [AW.push_get _ (by rw [hA1];exact hmax),hA1]
  have hltf:=h.ltf
  have hmem2:∀ g,g < maxId→A2.members g=if g=f then A.next::A.members f else A.members g:=by
   intro g hg
   show (match ((A1.push (.row (cs++new) e f 0 false)).fams.put depth f (some (A1.next::A1.members f))).get? g with | some l=>l | none=>[g])=_
   rw [Trie.get?_put depth _ f g _ (by unfold depth maxId at *;omega)]
   by_cases hgf:g=f
   ·rw [if_pos hgf,if_pos hgf,hm1,hA1]
   ·rw [if_neg hgf,if_neg hgf,← hm1 g];rfl
  have hnext2:A2.next=A.next+1:=by show A1.next+1=_;rw [hA1]
  refine ⟨.slice (some ⟨A.next,0,none⟩) (n+(m+1)) (capU+(n+(m+1))),A2,?_,?_⟩
  ·have hold:A.cellsAny ⟨b,0,none⟩ (n * (size+1))=some cs:=by
    unfold AW.cellsAny
    obtain ⟨k,hk⟩:∃ k,n * (size+1)=k+1:=⟨n * (size+1) - 1,by have:0 < n * (size+1):=Nat.mul_pos h.pos (by omega);omega⟩
    rw [hk]
    simp only [h.row,List.drop_zero]
    rw [← hk,← h.len]
    exact takeAny_all cs
   have hni:(poisonFrom (n * (size+1)) (A.members f) A).newIn (cs++new) e f 0=some (⟨A1.next,0,none⟩,A2):=by
    unfold AW.newIn AW.new
    have:Nat.blt (poisonFrom (n * (size+1)) (A.members f) A).next maxId=true:=blt_true.2 (by rw [p2];exact hmax)
    simp only [this,cond_true]
    rfl
   rw [hA1] at hni
   exact appendA_grow ht hs hb hx hroom (ble_true.2 (Nat.le_add_right _ _)) (ble_false.2 (by rw [Nat.add_sub_cancel_left];omega)) h.row hone hold hni
  ·have hnot:A.next∉A.members f:=fun hi=>by have:=(h.mem _ hi).2.1;omega
   have hrow:A2.get A.next=some (.row (cs++new) e f 0 false):=by rw [hget2,if_pos rfl]
   have hfam:∀ i∈A.members f,∃ cs' e' b' ro',A1.get i=some (.row cs' e' f b' ro'):=by
    have key:∀ (l:List Nat) (B:AW),(∀ i∈l,i < maxId)→∀ i,(∃ cs' e' b' ro',B.get i=some (.row cs' e' f b' ro'))→∃ cs' e' b' ro',(poisonFrom (n * (size+1)) l B).get i=some (.row cs' e' f b' ro'):=by
     intro l
     induction l with
     | nil=>intro B _ i hi;exact hi
     | cons x r ih=>
      intro B hl i hi
      unfold poisonFrom
      refine ih _ (fun j hj=>hl j (by simp [hj])) i ?_
      split
      ·rename_i cs2 e2 f2 b2 ro2 hx2
       rw [AW.get_put B x i _ (hl x (by simp))]
       by_cases hix:i=x
       ·subst hix
        obtain ⟨cs',e',b',ro',hi⟩:=hi
        rw [hx2] at hi
        simp only [Option.some.injEq,AO.row.injEq] at hi
        rw [if_pos rfl]
        exact ⟨_,_,_,_,by rw [hi.2.2.1]⟩
       ·rw [if_neg hix];exact hi
      ·exact hi
    intro i hi
    obtain ⟨_,_,h3⟩:=h.mem i hi
    exact key _ _ hmemlt i h3
   refine ⟨.inr ⟨A.next,f,rfl,by omega,hrow,by rw [List.length_append,h.len,hnew,← Nat.add_mul],hlo,h.lof,by rw [hnext2];omega,fun i hi=>?_⟩,hnext2,⟨fun i hi=>?_,fun i hi=>?_⟩,fun i hi hnf=>?_,fun g hg hgf=>?_,fun b' f' hv ho=>?_⟩
   ·rw [hmem2 f (by omega),if_pos rfl,List.mem_cons] at hi
    rcases hi with rfl | hi
    ·exact ⟨hlo,by rw [hnext2];omega,_,_,_,_,hrow⟩
    ·obtain ⟨g1,g2,_⟩:=h.mem i hi
     obtain ⟨cs',e',b',ro',g3⟩:=hfam i hi
     exact ⟨g1,by rw [hnext2];omega,cs',e',b',ro',by rw [hget2,if_neg (by omega)];exact g3⟩
   ·rw [hnext2] at hi
    show ((A1.push (.row (cs++new) e f 0 false)).fams.put depth f (some (A1.next::A1.members f))).get? i=none
    rw [Trie.get?_put depth _ f i _ (by unfold depth maxId at *;omega),if_neg (by omega)]
    show A1.fams.get? i=none
    rw [show A1.fams=A.fams from p3]
    exact hf.fams i (by omega)
   ·rw [hnext2] at hi
    rw [hget2,if_neg (by omega)]
    show (poisonFrom _ _ A).get i=none
    rw [p1 i (fun hm=>by have:=(h.mem i hm).2.1;omega)]
    exact hf.get i (by omega)
   ·rw [hget2,if_neg (by omega)]
    exact p1 i (hnf b f rfl h)
   ·rw [hmem2 g (by omega),if_neg (hgf b f rfl h)]
   ·simp only [Value.slice.injEq,Option.some.injEq,Addr.mk.injEq] at hv
    obtain ⟨⟨rfl,_⟩,_⟩:=hv
    have:=ho.row
    rw [hrow] at this
    simp only [Option.some.injEq,AO.row.injEq] at this
    obtain ⟨_,_,rfl,_⟩:=this
    exact .inr ⟨b,rfl,h⟩
end
section
variable {P:Program}
theorem quiet_bind {α β:Type} (k:α→Sem β):∀ s:Sem α,quiet P (s.bind k)=(quiet P s).bind fun a=>quiet P (k a)
 | .pure a=>rfl
 | .program f=>quiet_bind k (f P)
 | .mark _ f=>by
  show quiet P (f.bind k)=_
  exact quiet_bind k f
 | .load .. =>rfl
 | .store .. =>rfl
 | .new .. =>rfl
 | .shape .. =>rfl
 | .freeze .. =>rfl
 | .frozen .. =>rfl
 | .getObj .. =>rfl
 | .setObj .. =>rfl
 | .choose .. =>rfl
 | .sys .. =>rfl
 | .halt _=>rfl
theorem quiet_bindM {α β:Type} (s:Sem α) (k:α→Sem β):quiet P (s >>=k)=(quiet P s).bind fun a=>quiet P (k a):=quiet_bind k s
theorem quiet_struct (d:Nat) (t:TypeId) (xs ys:Array Value) (ht:quiet P (underlying t)=some (.struct (P.fieldsOf t))) (hp:P.stoodInHeld t=false):
  quiet P (Op.equalIn (d+1) t (.agg xs) (.agg ys))=quiet P (Op.eqFields d xs ys (P.fieldsOf t).toList):=by
 simp only [Op.equalIn]
 show quiet P (Sem.bind _ _)=_
 rw [quiet_bind,ht]
 simp only [Option.bind_some]
 show quiet P (Sem.bind _ _)=_
 rw [quiet_bind]
 show (some P).bind _=_
 simp only [Option.bind_some,hp,Bool.false_eq_true,if_false]
 rw [← Array.forIn_toList]
 generalize (P.fieldsOf t).toList=fs
 clear ht
 induction fs with
 | nil=>simp [Op.eqFields]
 | cons f fs ih=>
  simp only [List.forIn_cons,Op.eqFields]
  split
  ·simp only [quiet_bindM,Option.bind_assoc] at ih ⊢
   congr 1
   funext a
   congr 1
   funext b
   congr 1
   funext r
   cases r
   ·rfl
   ·exact ih
  ·exact ih
theorem quiet_eq_int (d:Nat) (t:TypeId) (k k':IntKind) (a b:Int) (h:quiet P (underlying t)=some (.int k')):quiet P (Op.equalIn (d+1) t (.int k a) (.int k b))=some (a==b):=by
 simp only [Op.equalIn]
 show quiet P (Sem.bind _ _)=_
 rw [quiet_bind,h]
 simp only [Option.bind_some,if_true]
 rfl
theorem quiet_eq_string (d:Nat) (t:TypeId) (a b:ByteArray) (h:quiet P (underlying t)=some .string):quiet P (Op.equalIn (d+1) t (.string a) (.string b))=some (a==b):=by
 simp only [Op.equalIn]
 show quiet P (Sem.bind _ _)=_
 rw [quiet_bind,h]
 rfl
end
section
variable {P:Program}
def famOf (i:Nat):AO→Nat
 | .row _ _ f _ _=>f
 | _=>i
structure Keeps (A A':AW) (S:List Nat):Prop where
 next:A.next≤A'.next
 get:∀ i o,A.get i=some o→famOf i o < A.next→famOf i o∉S→A'.get i=some o
 mem:∀ f,f < A.next→f∉S→A'.members f=A.members f
theorem Keeps.refl (A:AW) (S:List Nat):Keeps A A S:=⟨Nat.le_refl _,fun _ _ h _ _=>h,fun _ _ _=>rfl⟩
theorem Keeps.trans {A B C:AW} {S T:List Nat} (h:Keeps A B S) (k:Keeps B C T) (hT:∀ x∈T,x∈S∨A.next≤x):Keeps A C S:=
 ⟨Nat.le_trans h.next k.next,fun i o hi hlt hn=>k.get i o (h.get i o hi hlt hn) (Nat.lt_of_lt_of_le hlt h.next) (fun hm=>by
  rcases hT _ hm with h1 | h1
  ·exact hn h1
  ·omega),fun f hf hn=>by
  rw [k.mem f (Nat.lt_of_lt_of_le hf h.next) (fun hm=>by
   rcases hT _ hm with h1 | h1
   ·exact hn h1
   ·omega),h.mem f hf hn]⟩
theorem Ext.keeps {A A':AW} (h:Ext A A') (hf:Fine A):Keeps A A' []:=
 ⟨h.next,fun i o hi _ _=>by rw [h.get i (hf.lt hi)];exact hi,fun f hf _=>h.mem f hf⟩
theorem Made.keeps {A A':AW} {cs:List Value} {e:TypeId} (m:Made A A' cs e) (hf:Fine A):Keeps A A' []:=m.ext.keeps hf
structure Row1 (A:AW) (b:Nat) (cs:List Value) (e:TypeId):Prop where
 row:A.get b=some (.row cs e b 0 false)
 mem:A.members b=[b]
 lt:b < A.next
theorem Made.row1 {A A':AW} {cs:List Value} {e:TypeId} (m:Made A A' cs e):Row1 A' A.next cs e:=⟨m.row,m.mem,by rw [m.next];omega⟩
theorem Row1.keeps {A A':AW} {b:Nat} {cs:List Value} {e:TypeId} {S:List Nat} (h:Row1 A b cs e) (k:Keeps A A' S) (hn:b∉S):Row1 A' b cs e:=
 ⟨k.get b _ h.row h.lt hn,by rw [k.mem b h.lt hn];exact h.mem,Nat.lt_of_lt_of_le h.lt k.next⟩
theorem Wrote.keeps {A A':AW} {b f:Nat} {o:AO} {cs:List Value} {e b0:Nat} {ro:Bool} (w:Wrote A A' b o) (h:A.get b=some (.row cs e f b0 ro)):Keeps A A' [f]:=
 ⟨by rw [w.next];exact Nat.le_refl _,fun i o hi _ hn=>by
  by_cases hib:i=b
  ·subst hib
   rw [h] at hi
   cases hi
   exact absurd (List.mem_singleton.2 rfl) hn
  ·rw [w.get i hib];exact hi,fun f _ _=>w.mem f⟩
theorem Row1.store {A:AW} {b off n:Nat} {v:Value} {cs:List Value} {e:TypeId} {r:Option AW} {K:AW→Prop} (h:Row1 A b cs e) (hf:Fine A) (hb:A.next≤maxId)
  (hr:r=(bif Nat.beq v.cells.toList.length n then A.setCells ⟨b,off,none⟩ v.cells.toList else none)) (hv:v.cells.toList.length=n) (hl:off+n≤cs.length) (ho:v.cells.toList.all oneCell=true)
  (hk:∀ A',Row1 A' b (setL cs off v.cells.toList) e→Keeps A A' [b]→A'.next=A.next→Fine A'→K A'):effW r K:=by
 have hlt:=h.lt
 refine effW_store hr hv h.row h.mem hl ho (by omega) fun A' w=>?_
 exact hk A' ⟨w.row,by rw [w.mem];exact h.mem,by rw [w.next];exact h.lt⟩ (w.keeps h.row) w.next (w.fine hf h.row)
def OwnG (A:AW) (e:TypeId) (size:Nat) (v:Value) (n:Nat) (cs:List Value) (F:List Nat):Prop:=
 (v=.slice none 0 0∧n=0∧cs=[]∧F=[])∨∃ b f,v=.slice (some ⟨b,0,none⟩) n (capU+n)∧OwnAt 0 A e size n cs b f∧F=[f]
theorem OwnG.nil (A:AW) (e:TypeId) (size:Nat):OwnG A e size (.slice none 0 0) 0 [] []:=.inl ⟨rfl,rfl,rfl,rfl⟩
theorem OwnG.ownS {A:AW} {e:TypeId} {size:Nat} {v:Value} {n:Nat} {cs:List Value} {F:List Nat} (h:OwnG A e size v n cs F):OwnS 0 A e size v n cs:=by
 rcases h with ⟨h1,h2,h3,_⟩ | ⟨b,f,h1,h2,_⟩
 ·exact .inl ⟨h1,h2,h3⟩
 ·exact .inr ⟨b,f,h1,h2⟩
theorem OwnG.one {A:AW} {e:TypeId} {size:Nat} {v:Value} {n:Nat} {cs:List Value} {F:List Nat} (h:OwnG A e size v n cs F):oneCell v=true∧isTuple v=false:=h.ownS.one
theorem OwnG.lt {A:AW} {e:TypeId} {size:Nat} {v:Value} {n:Nat} {cs:List Value} {F:List Nat} (h:OwnG A e size v n cs F):∀ x∈F,x < A.next:=by
 rcases h with ⟨_,_,_,rfl⟩ | ⟨b,f,_,h2,rfl⟩
 ·intro x hx;simp at hx
 ·intro x hx
  obtain rfl:x=f:=by simpa using hx
  exact h2.ltf
theorem OwnG.keeps {A A':AW} {e:TypeId} {size:Nat} {v:Value} {n:Nat} {cs:List Value} {F S:List Nat} (h:OwnG A e size v n cs F) (k:Keeps A A' S) (hd:∀ x∈F,x∉S):OwnG A' e size v n cs F:=by
 rcases h with h | ⟨b,f,rfl,h,rfl⟩
 ·exact .inl h
 ·have hfs:f∉S:=hd f (by simp)
  refine .inr ⟨b,f,rfl,⟨h.pos,k.get b _ h.row h.ltf hfs,h.len,Nat.zero_le _,Nat.zero_le _,Nat.lt_of_lt_of_le h.ltf k.next,fun i hi=>?_⟩,rfl⟩
  rw [k.mem f h.ltf hfs] at hi
  obtain ⟨_,h2,cs',e',b',ro',h3⟩:=h.mem i hi
  exact ⟨Nat.zero_le _,Nat.lt_of_lt_of_le h2 k.next,cs',e',b',ro',k.get i _ h3 h.ltf hfs⟩
theorem appendG {A:AW} {t t2 e:TypeId} {size bytes:Nat} {v x:Value} {n m:Nat} {cs new:List Value} {F:List Nat} (ht:sliceElemT P t=some e) (hs:szT P e=some (size+1)) (hb:bytesT P e=some bytes)
  (hz:hasZero P e (size+1)=true) (hx:sourceZ P A e t2 (size+1) x=some (m+1,new)) (hnew:new.length=(m+1) * (size+1)) (hone:new.all oneCell=true) (h:OwnG A e (size+1) v n cs F) (hf:Fine A)
  (hmax:A.next < maxId) (hr1:n+(m+1) < room) (hr2:(n+(m+1)) * bytes < room) {K:Value→AW→Prop}
  (hk:∀ v' A' F',OwnG A' e (size+1) v' (n+(m+1)) (cs++new) F'→Keeps A A' F→(∀ x∈F',x∈F∨x=A.next)→A'.next=A.next+1→Fine A'→K v' A'):bothW (appendA P A t t2 v x) K:=by
 obtain ⟨v',A',h1,a⟩:=append_own (P:=P) ht hs hb hz hx hnew hone h.ownS hf (Nat.zero_le _) hmax hr1 hr2
 rw [h1]
 refine bothW_ok.2 ?_
 have hfam:∀ b f,v=.slice (some ⟨b,0,none⟩) n (capU+n)→OwnAt 0 A e (size+1) n cs b f→f∈F:=by
  intro b f hv ho
  rcases h with ⟨h1,_⟩ | ⟨b',f',h1,h2,rfl⟩
  ·rw [h1] at hv;cases hv
  ·rw [h1] at hv
   simp only [Value.slice.injEq,Option.some.injEq,Addr.mk.injEq] at hv
   obtain ⟨⟨rfl,_⟩,_⟩:=hv
   have:=ho.row
   rw [h2.row] at this
   simp only [Option.some.injEq,AO.row.injEq] at this
   simp [this.2.2.1]
 have hkeep:Keeps A A' F:=⟨by rw [a.next];omega,fun i o hi hlt hn=>by
   rw [a.get i (hf.lt hi) (fun b f hv ho him=>?_)]
   ·exact hi
   ·obtain ⟨_,_,cs',e',b',ro',h3⟩:=ho.mem i him
    rw [hi] at h3
    cases h3
    exact hn (hfam b f hv ho),fun g hg hn=>a.mem g hg fun b f hv ho hgf=>hn (hgf▸hfam b f hv ho)⟩
 rcases a.own with ⟨_,h2,_⟩ | ⟨b,f,h2,h3⟩
 ·omega
 ·refine hk v' A' [f] (.inr ⟨b,f,h2,h3,rfl⟩) hkeep (fun x hx=>?_) a.next a.fine
  obtain rfl:x=f:=by simpa using hx
  rcases a.fam b x h2 h3 with h4 | ⟨b',h4,h5⟩
  ·exact .inr h4
  ·exact .inl (hfam b' x h4 h5)
theorem mem_of_fams {A A':AW} (h:A'.fams=A.fams) (g:Nat):A'.members g=A.members g:=by unfold AW.members;rw [h]
theorem poisonAt_get (self coord:Nat):∀ (l:List Nat) (A:AW),(∀ i∈l,i < maxId)→(∀ i,i∉l∨i=self→(poisonAt self coord l A).get i=A.get i)∧
  (∀ i cs e f b ro,A.get i=some (.row cs e f b ro)→∃ cs',(poisonAt self coord l A).get i=some (.row cs' e f b ro))∧(poisonAt self coord l A).next=A.next∧(poisonAt self coord l A).fams=A.fams
 | [],A,_=>⟨fun _ _=>rfl,fun i cs e f b ro h=>⟨cs,h⟩,rfl,rfl⟩
 | x::r,A,hl=>by
  unfold poisonAt
  cases hxs:Nat.beq x self with
  | true=>
   have hx:x=self:=Nat.eq_of_beq_eq_true hxs
   obtain ⟨h1,h2,h3,h4⟩:=poisonAt_get self coord r A (fun i hi=>hl i (by simp [hi]))
   refine ⟨fun i hi=>h1 i ?_,h2,h3,h4⟩
   rcases hi with hi | hi
   ·exact .inl (fun hm=>hi (by simp [hm]))
   ·exact .inr hi
  | false=>
   have hx:x≠self:=fun e=>by rw [e,Nat.beq_refl] at hxs;cases hxs
   simp only [cond_false]
   have same:∀ B:AW,(∀ i,i≠x→B.get i=A.get i)→(∀ i cs e f b ro,A.get i=some (.row cs e f b ro)→∃ cs',B.get i=some (.row cs' e f b ro))→B.next=A.next→B.fams=A.fams→
     (∀ i,i∉x::r∨i=self→(poisonAt self coord r B).get i=A.get i)∧(∀ i cs e f b ro,A.get i=some (.row cs e f b ro)→∃ cs',(poisonAt self coord r B).get i=some (.row cs' e f b ro))∧(poisonAt self coord r B).next=A.next∧(poisonAt self coord r B).fams=A.fams:=by
    intro B g1 g2 g3 g4
    obtain ⟨h1,h2,h3,h4⟩:=poisonAt_get self coord r B (fun i hi=>hl i (by simp [hi]))
    refine ⟨fun i hi=>?_,fun i cs e f b ro hi=>?_,by rw [h3,g3],by rw [h4,g4]⟩
    ·rw [h1 i (by
      rcases hi with hi | hi
      ·exact .inl (fun hm=>hi (by simp [hm]))
      ·exact .inr hi),g1 i (by
      rcases hi with hi | hi
      ·exact fun e=>hi (by simp [e])
      ·subst hi;exact fun e=>hx e.symm)]
    ·obtain ⟨cs',hb⟩:=g2 i cs e f b ro hi
     exact h2 i cs' e f b ro hb
   split
   ·rename_i cs2 e2 f2 b2 ro2 hx2
    cases hble:Nat.ble b2 coord with
    | false=>exact same A (fun _ _=>rfl) (fun i cs e f b ro h=>⟨cs,h⟩) rfl rfl
    | true=>
     simp only [cond_true]
     refine same _ (fun i hi=>by rw [AW.get_put A x i _ (hl x (by simp)),if_neg hi]) (fun i cs e f b ro hi=>?_) rfl rfl
     rw [AW.get_put A x i _ (hl x (by simp))]
     by_cases hix:i=x
     ·subst hix
      rw [hx2] at hi
      cases hi
      exact ⟨_,by rw [if_pos rfl]⟩
     ·exact ⟨cs,by rw [if_neg hix];exact hi⟩
   ·exact same A (fun _ _=>rfl) (fun i cs e f b ro h=>⟨cs,h⟩) rfl rfl
theorem setCells_fam:∀ {new:List Value} {A:AW} {b off:Nat} {cs:List Value} {e f:Nat},A.get b=some (.row cs e f 0 false)→(∀ i∈A.members f,i < maxId)→off+new.length≤cs.length→new.all oneCell=true→b < maxId→
  ∃ A',A.setCells ⟨b,off,none⟩ new=some A'∧A'.get b=some (.row (setL cs off new) e f 0 false)∧(∀ i,i≠b→i∉A.members f→A'.get i=A.get i)∧
   (∀ i cs e f b ro,A.get i=some (.row cs e f b ro)→∃ cs',A'.get i=some (.row cs' e f b ro))∧A'.next=A.next∧A'.fams=A.fams
 | [],A,b,off,cs,e,f,hg,hm,hl,ho,hb=>⟨A,rfl,hg,fun _ _ _=>rfl,fun i cs e f b ro h=>⟨cs,h⟩,rfl,rfl⟩
 | v::r,A,b,off,cs,e,f,hg,hm,hl,ho,hb=>by
  simp only [List.all_cons,Bool.and_eq_true] at ho
  simp only [List.length_cons] at hl
  have hble:Nat.ble cs.length off=false:=ble_false.2 (by omega)
  obtain ⟨p1,p2,p3,p4⟩:=poisonAt_get b (0+off) (A.members f) (A.put b (.row (cs.set off v) e f 0 false)) hm
  have h1:A.setCell ⟨b,off,none⟩ v=some (poisonAt b (0+off) (A.members f) (A.put b (.row (cs.set off v) e f 0 false))):=by
   unfold AW.setCell
   simp only [hg,ho.1,Bool.not_true,Bool.false_or,hble,cond_false]
  have hmem:∀ g,(poisonAt b (0+off) (A.members f) (A.put b (.row (cs.set off v) e f 0 false))).members g=A.members g:=mem_of_fams p4
  have hg':(poisonAt b (0+off) (A.members f) (A.put b (.row (cs.set off v) e f 0 false))).get b=some (.row (cs.set off v) e f 0 false):=by
   rw [p1 b (.inr rfl),AW.get_put A b b _ hb,if_pos rfl]
  obtain ⟨A',h2,h3,h4,h5,h6,h7⟩:=setCells_fam (new:=r) (off:=off+1) hg' (by rw [hmem];exact hm) (by simp;omega) ho.2 hb
  refine ⟨A',?_,h3,fun i hi hn=>?_,fun i cs2 e2 f2 b2 ro2 hi=>?_,by rw [h6,p3];rfl,by rw [h7,p4];rfl⟩
  ·simp only [AW.setCells,h1]
   exact h2
  ·rw [h4 i hi (by rw [hmem];exact hn),p1 i (.inl hn),AW.get_put A b i _ hb,if_neg hi]
  ·have:∃ cs',(A.put b (.row (cs.set off v) e f 0 false)).get i=some (.row cs' e2 f2 b2 ro2):=by
    rw [AW.get_put A b i _ hb]
    by_cases hib:i=b
    ·subst hib
     rw [hg] at hi
     cases hi
     exact ⟨_,by rw [if_pos rfl]⟩
    ·exact ⟨cs2,by rw [if_neg hib];exact hi⟩
   obtain ⟨cs3,h8⟩:=this
   obtain ⟨cs4,h9⟩:=p2 i cs3 e2 f2 b2 ro2 h8
   exact h5 i cs4 e2 f2 b2 ro2 h9
theorem storeG {A:AW} {e:TypeId} {size:Nat} {n:Nat} {cs:List Value} {F:List Nat} {b off k:Nat} {w:Value} {r:Option AW} {K:AW→Prop} (h:OwnG A e size (.slice (some ⟨b,0,none⟩) n (capU+n)) n cs F) (hf:Fine A) (hmax:A.next≤maxId)
  (hr:r=(bif Nat.beq w.cells.toList.length k then A.setCells ⟨b,off,none⟩ w.cells.toList else none)) (hv:w.cells.toList.length=k) (hl:off+k≤cs.length) (ho:w.cells.toList.all oneCell=true)
  (hk:∀ A',OwnG A' e size (.slice (some ⟨b,0,none⟩) n (capU+n)) n (setL cs off w.cells.toList) F→Keeps A A' F→A'.next=A.next→Fine A'→K A'):effW r K:=by
 rcases h with ⟨h1,_⟩ | ⟨b',f,h1,h,rfl⟩
 ·cases h1
 simp only [Value.slice.injEq,Option.some.injEq,Addr.mk.injEq,and_true] at h1
 subst h1
 have hbl:=hf.lt h.row
 have hml:∀ i∈A.members f,i < maxId:=fun i hi=>by have:=(h.mem i hi).2.1;omega
 obtain ⟨A',g1,g2,g3,g4,g5,g6⟩:=setCells_fam (new:=w.cells.toList) (off:=off) h.row hml (by omega) ho (by omega)
 have hmem:∀ g,A'.members g=A.members g:=mem_of_fams g6
 rw [hr,hv,Nat.beq_refl,cond_true,g1]
 refine effW_some.2 (hk A' (.inr ⟨b,f,rfl,⟨h.pos,g2,by rw [setL_length];exact h.len,Nat.zero_le _,Nat.zero_le _,by rw [g5];exact h.ltf,fun i hi=>?_⟩,rfl⟩) ⟨by rw [g5];exact Nat.le_refl _,fun i o hi _ hn=>?_,fun g _ _=>hmem g⟩ g5 ⟨fun i hi=>?_,fun i hi=>?_⟩)
 ·rw [hmem] at hi
  obtain ⟨_,h2,cs',e',b',ro',h3⟩:=h.mem i hi
  obtain ⟨cs2,h4⟩:=g4 i _ _ _ _ _ h3
  exact ⟨Nat.zero_le _,by rw [g5];exact h2,cs2,e',b',ro',h4⟩
 ·rw [g3 i (fun e=>?_) (fun hm=>?_)]
  ·exact hi
  ·subst e
   rw [h.row] at hi
   cases hi
   exact hn (List.mem_singleton.2 rfl)
  ·obtain ⟨_,_,cs',e',b',ro',h3⟩:=h.mem i hm
   rw [hi] at h3
   cases h3
   exact hn (List.mem_singleton.2 rfl)
 ·rw [g6];exact hf.fams i (by rw [g5] at hi;exact hi)
 ·rw [g5] at hi
  rw [g3 i (fun e=>by omega) (fun hm=>by have:=(h.mem i hm).2.1;omega)]
  exact hf.get i hi
end
end Go.Abs
namespace Go.Proofs.YtdpdajpiadohjaaGreatDoor
open Go.Abs
def theX:XNames:={ clone:=[],noEscape:=[],noZero:=[],known:=[7,54,60,86,87,88] }
def sub:Code→List Nat→Code
 | c,[]=>c
 | .seq a _,0::p=>sub a p
 | .seq _ b,_::p=>sub b p
 | .cond _ a _,0::p=>sub a p
 | .cond _ _ b,_::p=>sub b p
 | .block _ b,_::p=>sub b p
 | .loop b,_::p=>sub b p
 | .rangeFunc _ _ a _,0::p=>sub a p
 | .rangeFunc _ _ _ b,_::p=>sub b p
 | .scope b,_::p=>sub b p
 | c,_=>c
noncomputable def cd (f:FuncId) (p:List Nat):Code:=match Tryz.prog.funcs[f]? with
 | some fn=>(match fn.body with | some c=>sub c p | none=>.skip)
 | none=>.skip
theorem gX:XOk Tryz.prog theX:=⟨fun f h=>by simp [theX,memN] at h,fun f h=>by simp [theX,memN] at h,fun f h=>by simp [theX,memN] at h⟩
theorem gP:POk Tryz.prog:=pok_of (by kernel_rfl) (by kernel_rfl)
theorem gPlain:Plain theX:=⟨rfl,rfl,rfl⟩
def Wf1 (f sz:Nat) (T:Nat→List Item) (L:Nat→List Tmp):Prop:=∀ {W0:World} {m0:Inj Tryz.prog} {S:Nat→List Value→AW→Prop} {Q:Value→AW→Prop} (a0:Value) (A:AW),Cuts Tryz.prog theX W0 m0 f T L S Q sz→wpgo Tryz.prog theX W0 m0 f T L S Q none 4000 (Tm.fill ⟨sz,.nil⟩ 0 [a0]) [.code (cd f [])] false 0 0 0 [] A→Wc Tryz.prog theX W0 m0 f [a0] A Q
theorem wf1 {f sz:Nat} {T:Nat→List Item} {L:Nat→List Tmp} (n:∀ (a0:Value),enterA Tryz.prog f [a0] .normal=some (frM f (Tm.fill ⟨sz,.nil⟩ 0 [a0]) [.code (cd f [])] false)) (hs:sz < maxId) (hz:∀ (a0:Value),(Tm.fill ⟨sz,.nil⟩ 0 [a0]).sz=sz):Wf1 f sz T L:=fun a0 _ hc h=>wc_of gX gP gPlain hs hc (n a0) (hz a0) h
def Wf2 (f sz:Nat) (T:Nat→List Item) (L:Nat→List Tmp):Prop:=∀ {W0:World} {m0:Inj Tryz.prog} {S:Nat→List Value→AW→Prop} {Q:Value→AW→Prop} (a0 a1:Value) (A:AW),Cuts Tryz.prog theX W0 m0 f T L S Q sz→wpgo Tryz.prog theX W0 m0 f T L S Q none 4000 (Tm.fill ⟨sz,.nil⟩ 0 [a0,a1]) [.code (cd f [])] false 0 0 0 [] A→Wc Tryz.prog theX W0 m0 f [a0,a1] A Q
theorem wf2 {f sz:Nat} {T:Nat→List Item} {L:Nat→List Tmp} (n:∀ (a0 a1:Value),enterA Tryz.prog f [a0,a1] .normal=some (frM f (Tm.fill ⟨sz,.nil⟩ 0 [a0,a1]) [.code (cd f [])] false)) (hs:sz < maxId) (hz:∀ (a0 a1:Value),(Tm.fill ⟨sz,.nil⟩ 0 [a0,a1]).sz=sz):Wf2 f sz T L:=fun a0 a1 _ hc h=>wc_of gX gP gPlain hs hc (n a0 a1) (hz a0 a1) h
def Cutf (f sz:Nat) (T:Nat→List Item) (L:Nat→List Tmp):Prop:=∀ {W0:World} {m0:Inj Tryz.prog} {Q:Value→AW→Prop} {I:Nat→Nat→List Value→AW→Prop},(∀ g id vals A d,I g id vals A→(L id).map d=vals→wpgo Tryz.prog theX W0 m0 f T L (fun id v A=>∃ g2,g2 < g∧I g2 id v A) Q none 4000 (tmOf sz d) (T id) false 0 0 0 [] A)→Cuts Tryz.prog theX W0 m0 f T L (fun id v A=>∃ g,I g id v A) Q sz
theorem cutf {f sz:Nat} {T:Nat→List Item} {L:Nat→List Tmp} (hs:sz < maxId):Cutf f sz T L:=fun h=>cuts_of gX gP gPlain hs h
noncomputable def T3:Nat→List Item:=fun i=>match i with
 | _=>[]
noncomputable def T8:Nat→List Item:=fun i=>match i with
 | 0=>[(.code (cd 8 [1,1,0,1,0,0])),(.inLoop (cd 8 [1,1,0,1,0,0])),(.inBlock 0),(.code (cd 8 [1,1,1]))]
 | _=>[]
noncomputable def T11:Nat→List Item:=fun i=>match i with
 | 0=>[(.code (cd 11 [1,1,0,1,0,0])),(.inLoop (cd 11 [1,1,0,1,0,0])),(.inBlock 0),(.code (cd 11 [1,1,1]))]
 | _=>[]
def L11:Nat→List Tmp:=fun i=>match i with
 | 0=>[0,1,5]
 | _=>[]
theorem e11 (W0:World) (m0:Inj Tryz.prog) (S:Nat→List Value→AW→Prop) (Q:Value→AW→Prop) (a0 a1:Value) (A:AW):wpgo Tryz.prog theX W0 m0 11 T11 L11 S Q none 4000 (Tm.fill ⟨26,.nil⟩ 0 [a0,a1]) [.code (cd 11 [])] false 0 0 0 [] A=(pureW (lenA Tryz.prog A 28 a0) fun t0=>pureW (lenA Tryz.prog A 28 a1) fun t1=>pureW (binA Tryz.prog .neq 3 (.tmp 7) (.tmp 9) t0 t1) fun t2=>forkW t2 (Q (.bool false) A) (cutW (T11 0) (T11 0) (S 0 [a0,a1,(.int .i64 0)] A))):=by kernel_rfl
theorem l11_0 (W0:World) (m0:Inj Tryz.prog) (S:Nat→List Value→AW→Prop) (Q:Value→AW→Prop) (d:Nat→Value) (A:AW):wpgo Tryz.prog theX W0 m0 11 T11 L11 S Q none 4000 (tmOf 26 d) (T11 0) false 0 0 0 [] A=(pureW (lenA Tryz.prog A 28 (d 0)) fun t0=>pureW (binA Tryz.prog .lss 3 (.tmp 11) (.tmp 13) (d 5) t0) fun t1=>forkW t1 (pureW (indexAddrA Tryz.prog 28 (d 0) (d 5)) fun t2=>pureW (loadP Tryz.prog A 46 t2) fun t3=>pureW (indexAddrA Tryz.prog 28 (d 1) (d 5)) fun t4=>pureW (loadP Tryz.prog A 46 t4) fun t5=>pureW (binA Tryz.prog .neq 46 (.tmp 20) (.tmp 24) t3 t5) fun t6=>forkW t6 (Q (.bool false) A) (pureW (binA Tryz.prog .add 3 (.tmp 15) (.const (.int .i64 1)) (d 5) (.int .i64 1)) fun t7=>cutW (T11 0) (T11 0) (S 0 [(d 0),(d 1),t7] A))) (Q (.bool true) A)):=by kernel_rfl
theorem n11 (a0 a1:Value):enterA Tryz.prog 11 [a0,a1] .normal=some (frM 11 (Tm.fill ⟨26,.nil⟩ 0 [a0,a1]) [.code (cd 11 [])] false):=by kernel_rfl
theorem w11:Wf2 11 26 T11 L11:=wf2 n11 (by decide) fun _ _=>rfl
theorem c11:Cutf 11 26 T11 L11:=cutf (by decide)
noncomputable def T23:Nat→List Item:=fun i=>match i with
 | _=>[]
def L23:Nat→List Tmp:=fun i=>match i with
 | _=>[]
theorem e23 (W0:World) (m0:Inj Tryz.prog) (S:Nat→List Value→AW→Prop) (Q:Value→AW→Prop) (a0:Value) (A:AW):wpgo Tryz.prog theX W0 m0 23 T23 L23 S Q none 4000 (Tm.fill ⟨5,.nil⟩ 0 [a0]) [.code (cd 23 [])] false 0 0 0 [] A=(bothW (newP A (Value.cells a0).toList 46) fun t0 At0=>bothW (allocP Tryz.prog At0 46) fun t1 At1=>pureW (fieldAddrA Tryz.prog 46 t0 2) fun t2=>effW (storeP Tryz.prog At1 9 t2 (.string ⟨⟨[]⟩⟩)) fun At3=>pureW (loadP Tryz.prog At3 46 t0) fun t4=>effW (storeP Tryz.prog At3 46 t1 t4) fun At5=>pureW (loadP Tryz.prog At5 46 t1) fun t6=>Q t6 At5):=by kernel_rfl
theorem n23 (a0:Value):enterA Tryz.prog 23 [a0] .normal=some (frM 23 (Tm.fill ⟨5,.nil⟩ 0 [a0]) [.code (cd 23 [])] false):=by kernel_rfl
theorem w23:Wf1 23 5 T23 L23:=wf1 n23 (by decide) fun _=>rfl
noncomputable def T25:Nat→List Item:=fun i=>match i with
 | _=>[]
def L25:Nat→List Tmp:=fun i=>match i with
 | _=>[]
theorem e25 (W0:World) (m0:Inj Tryz.prog) (S:Nat→List Value→AW→Prop) (Q:Value→AW→Prop) (a0 a1:Value) (A:AW):wpgo Tryz.prog theX W0 m0 25 T25 L25 S Q none 4000 (Tm.fill ⟨12,.nil⟩ 0 [a0,a1]) [.code (cd 25 [])] false 0 0 0 [] A=(Wc Tryz.prog theX W0 m0 53 [a0] A fun t0 At0=>knW Tryz.prog W0 m0 54 [t0,a1] At0 fun t1 At1=>Q t0 At1):=by kernel_rfl
theorem n25 (a0 a1:Value):enterA Tryz.prog 25 [a0,a1] .normal=some (frM 25 (Tm.fill ⟨12,.nil⟩ 0 [a0,a1]) [.code (cd 25 [])] false):=by kernel_rfl
theorem w25:Wf2 25 12 T25 L25:=wf2 n25 (by decide) fun _ _=>rfl
noncomputable def T27:Nat→List Item:=fun i=>match i with
 | _=>[]
def L27:Nat→List Tmp:=fun i=>match i with
 | _=>[]
theorem e27 (W0:World) (m0:Inj Tryz.prog) (S:Nat→List Value→AW→Prop) (Q:Value→AW→Prop) (a0 a1:Value) (A:AW):wpgo Tryz.prog theX W0 m0 27 T27 L27 S Q none 4000 (Tm.fill ⟨22,.nil⟩ 0 [a0,a1]) [.code (cd 27 [])] false 0 0 0 [] A=(bothW (newP A (Value.cells a0).toList 46) fun t0 At0=>bothW (newP At0 (Value.cells a1).toList 46) fun t1 At1=>pureW (fieldAddrA Tryz.prog 46 t0 0) fun t2=>pureW (loadP Tryz.prog At1 44 t2) fun t3=>pureW (fieldAddrA Tryz.prog 46 t1 0) fun t4=>pureW (loadP Tryz.prog At1 44 t4) fun t5=>pureW (fieldAddrA Tryz.prog 46 t0 1) fun t6=>pureW (loadP Tryz.prog At1 9 t6) fun t7=>pureW (fieldAddrA Tryz.prog 46 t1 1) fun t8=>pureW (loadP Tryz.prog At1 9 t8) fun t9=>pureW (fieldAddrA Tryz.prog 46 t0 2) fun t10=>pureW (loadP Tryz.prog At1 9 t10) fun t11=>pureW (fieldAddrA Tryz.prog 46 t1 2) fun t12=>pureW (loadP Tryz.prog At1 9 t12) fun t13=>Wc Tryz.prog theX W0 m0 57 [t3,t5] At1 fun t14 At14=>pureW (loadP Tryz.prog At14 9 t12) fun t15=>eqW t15 t13 (pureW (fieldAddrA Tryz.prog 46 t1 2) fun t16=>eqW t16 t12 (pureW (loadP Tryz.prog At14 9 t10) fun t17=>eqW t17 t11 (pureW (fieldAddrA Tryz.prog 46 t0 2) fun t18=>eqW t18 t10 (pureW (loadP Tryz.prog At14 9 t8) fun t19=>eqW t19 t9 (pureW (fieldAddrA Tryz.prog 46 t1 1) fun t20=>eqW t20 t8 (pureW (loadP Tryz.prog At14 9 t6) fun t21=>eqW t21 t7 (pureW (fieldAddrA Tryz.prog 46 t0 1) fun t22=>eqW t22 t6 (Wc Tryz.prog theX W0 m0 58 [t7,t9] At14 fun t23 At23=>pureW (loadP Tryz.prog At23 9 t12) fun t24=>eqW t24 t13 (pureW (fieldAddrA Tryz.prog 46 t1 2) fun t25=>eqW t25 t12 (pureW (loadP Tryz.prog At23 9 t10) fun t26=>eqW t26 t11 (pureW (fieldAddrA Tryz.prog 46 t0 2) fun t27=>eqW t27 t10 (Wc Tryz.prog theX W0 m0 58 [t11,t13] At23 fun t28 At28=>bothW (buildSliceA Tryz.prog At28 143 3 [(0,t14),(1,t23),(2,t28)]) fun t29 At29=>freshW (freshOf Tryz.prog (evalT (Tm.fill ⟨3,.nil⟩ 0 [t14,t23,t28])) (.buildSlice 143 3 #[(0,.tmp 0),(1,.tmp 1),(2,.tmp 2)])) At29 t29 (pureW (loadP Tryz.prog At29 9 t12) fun t30=>eqW t30 t13 (pureW (fieldAddrA Tryz.prog 46 t1 2) fun t31=>eqW t31 t12 (pureW (loadP Tryz.prog At29 9 t10) fun t32=>eqW t32 t11 (pureW (fieldAddrA Tryz.prog 46 t0 2) fun t33=>eqW t33 t10 (pureW (loadP Tryz.prog At29 9 t8) fun t34=>eqW t34 t9 (pureW (fieldAddrA Tryz.prog 46 t1 1) fun t35=>eqW t35 t8 (pureW (loadP Tryz.prog At29 9 t6) fun t36=>eqW t36 t7 (pureW (fieldAddrA Tryz.prog 46 t0 1) fun t37=>eqW t37 t6 (pureW (loadP Tryz.prog At29 44 t4) fun t38=>eqW t38 t5 (pureW (fieldAddrA Tryz.prog 46 t1 0) fun t39=>eqW t39 t4 (pureW (loadP Tryz.prog At29 44 t2) fun t40=>eqW t40 t3 (pureW (fieldAddrA Tryz.prog 46 t0 0) fun t41=>eqW t41 t2 (Wc Tryz.prog theX W0 m0 56 [t29] At29 fun t42 At42=>Q t42 At42)))))))))))))))))))))))))):=by kernel_rfl
theorem n27 (a0 a1:Value):enterA Tryz.prog 27 [a0,a1] .normal=some (frM 27 (Tm.fill ⟨22,.nil⟩ 0 [a0,a1]) [.code (cd 27 [])] false):=by kernel_rfl
theorem w27:Wf2 27 22 T27 L27:=wf2 n27 (by decide) fun _ _=>rfl
noncomputable def T28:Nat→List Item:=fun i=>match i with
 | 0=>[(.code (cd 28 [1,1,0,0,0])),(.inLoop (cd 28 [1,1,0,0,0])),(.inBlock 0),(.code (cd 28 [1,1,1]))]
 | _=>[]
def L28:Nat→List Tmp:=fun i=>match i with
 | 0=>[0,3,5]
 | _=>[]
theorem e28 (W0:World) (m0:Inj Tryz.prog) (S:Nat→List Value→AW→Prop) (Q:Value→AW→Prop) (a0 a1:Value) (A:AW):wpgo Tryz.prog theX W0 m0 28 T28 L28 S Q none 4000 (Tm.fill ⟨49,.nil⟩ 0 [a0,a1]) [.code (cd 28 [])] false 0 0 0 [] A=(bothW (newP A (Value.cells a1).toList 46) fun t0 At0=>cutW (T28 0) (T28 0) (S 0 [a0,t0,(.int .i64 0)] At0)):=by kernel_rfl
theorem l28_0 (W0:World) (m0:Inj Tryz.prog) (S:Nat→List Value→AW→Prop) (Q:Value→AW→Prop) (d:Nat→Value) (A:AW):wpgo Tryz.prog theX W0 m0 28 T28 L28 S Q none 4000 (tmOf 49 d) (T28 0) false 0 0 0 [] A=(pureW (lenA Tryz.prog A 28 (d 0)) fun t0=>pureW (binA Tryz.prog .lss 3 (.tmp 7) (.tmp 9) (d 5) t0) fun t1=>forkW t1 (pureW (indexAddrA Tryz.prog 28 (d 0) (d 5)) fun t2=>pureW (loadP Tryz.prog A 46 t2) fun t3=>pureW (loadP Tryz.prog A 46 (d 3)) fun t4=>Wc Tryz.prog theX W0 m0 59 [t3,t4] A fun t5 At5=>pureW (binA Tryz.prog .lss 3 (.tmp 17) (.const (.int .i64 0)) t5 (.int .i64 0)) fun t6=>forkW t6 (pureW (binA Tryz.prog .add 3 (.tmp 20) (.const (.int .i64 1)) (d 5) (.int .i64 1)) fun t7=>cutW (T28 0) (T28 0) (S 0 [(d 0),(d 3),t7] At5)) (pureW (lenA Tryz.prog At5 28 (d 0)) fun t8=>pureW (binA Tryz.prog .lss 3 (.tmp 22) (.tmp 24) (d 5) t8) fun t9=>forkW t9 (pureW (indexAddrA Tryz.prog 28 (d 0) (d 5)) fun t10=>pureW (loadP Tryz.prog At5 46 t10) fun t11=>pureW (loadP Tryz.prog At5 46 (d 3)) fun t12=>pureW (binA Tryz.prog .eql 46 (.tmp 30) (.tmp 31) t11 t12) fun t13=>forkW t13 (Q (d 0) At5) (pureW (sliceA Tryz.prog At5 28 (d 0) none (some (d 5)) none) fun t14=>bothW (appendA Tryz.prog At5 28 28 (.slice none 0 0) t14) fun t15 At15=>pureW (loadP Tryz.prog At15 46 (d 3)) fun t16=>bothW (buildSliceA Tryz.prog At15 28 1 [(0,t16)]) fun t17 At17=>bothW (appendA Tryz.prog At17 28 28 t15 t17) fun t18 At18=>pureW (sliceA Tryz.prog At18 28 (d 0) (some (d 5)) none none) fun t19=>bothW (appendA Tryz.prog At18 28 28 t18 t19) fun t20 At20=>Q t20 At20)) (pureW (sliceA Tryz.prog At5 28 (d 0) none (some (d 5)) none) fun t21=>bothW (appendA Tryz.prog At5 28 28 (.slice none 0 0) t21) fun t22 At22=>pureW (loadP Tryz.prog At22 46 (d 3)) fun t23=>bothW (buildSliceA Tryz.prog At22 28 1 [(0,t23)]) fun t24 At24=>bothW (appendA Tryz.prog At24 28 28 t22 t24) fun t25 At25=>pureW (sliceA Tryz.prog At25 28 (d 0) (some (d 5)) none none) fun t26=>bothW (appendA Tryz.prog At25 28 28 t25 t26) fun t27 At27=>Q t27 At27))) (pureW (lenA Tryz.prog A 28 (d 0)) fun t28=>pureW (binA Tryz.prog .lss 3 (.tmp 22) (.tmp 24) (d 5) t28) fun t29=>forkW t29 (pureW (indexAddrA Tryz.prog 28 (d 0) (d 5)) fun t30=>pureW (loadP Tryz.prog A 46 t30) fun t31=>pureW (loadP Tryz.prog A 46 (d 3)) fun t32=>pureW (binA Tryz.prog .eql 46 (.tmp 30) (.tmp 31) t31 t32) fun t33=>forkW t33 (Q (d 0) A) (pureW (sliceA Tryz.prog A 28 (d 0) none (some (d 5)) none) fun t34=>bothW (appendA Tryz.prog A 28 28 (.slice none 0 0) t34) fun t35 At35=>pureW (loadP Tryz.prog At35 46 (d 3)) fun t36=>bothW (buildSliceA Tryz.prog At35 28 1 [(0,t36)]) fun t37 At37=>bothW (appendA Tryz.prog At37 28 28 t35 t37) fun t38 At38=>pureW (sliceA Tryz.prog At38 28 (d 0) (some (d 5)) none none) fun t39=>bothW (appendA Tryz.prog At38 28 28 t38 t39) fun t40 At40=>Q t40 At40)) (pureW (sliceA Tryz.prog A 28 (d 0) none (some (d 5)) none) fun t41=>bothW (appendA Tryz.prog A 28 28 (.slice none 0 0) t41) fun t42 At42=>pureW (loadP Tryz.prog At42 46 (d 3)) fun t43=>bothW (buildSliceA Tryz.prog At42 28 1 [(0,t43)]) fun t44 At44=>bothW (appendA Tryz.prog At44 28 28 t42 t44) fun t45 At45=>pureW (sliceA Tryz.prog At45 28 (d 0) (some (d 5)) none none) fun t46=>bothW (appendA Tryz.prog At45 28 28 t45 t46) fun t47 At47=>Q t47 At47))):=by kernel_rfl
theorem n28 (a0 a1:Value):enterA Tryz.prog 28 [a0,a1] .normal=some (frM 28 (Tm.fill ⟨49,.nil⟩ 0 [a0,a1]) [.code (cd 28 [])] false):=by kernel_rfl
theorem w28:Wf2 28 49 T28 L28:=wf2 n28 (by decide) fun _ _=>rfl
theorem c28:Cutf 28 49 T28 L28:=cutf (by decide)
noncomputable def T29:Nat→List Item:=fun i=>match i with
 | _=>[]
def L29:Nat→List Tmp:=fun i=>match i with
 | _=>[]
theorem e29 (W0:World) (m0:Inj Tryz.prog) (S:Nat→List Value→AW→Prop) (Q:Value→AW→Prop) (a0:Value) (A:AW):wpgo Tryz.prog theX W0 m0 29 T29 L29 S Q none 4000 (Tm.fill ⟨8,.nil⟩ 0 [a0]) [.code (cd 29 [])] false 0 0 0 [] A=(bothW (newP A (Value.cells a0).toList 46) fun t0 At0=>bothW (allocP Tryz.prog At0 46) fun t1 At1=>pureW (fieldAddrA Tryz.prog 46 t0 0) fun t2=>pureW (loadP Tryz.prog At1 44 t2) fun t3=>pureW (fieldAddrA Tryz.prog 46 t0 1) fun t4=>pureW (loadP Tryz.prog At1 9 t4) fun t5=>pureW (buildA Tryz.prog 46 [(0,t3),(1,t5)]) fun t6=>effW (storeP Tryz.prog At1 46 t1 t6) fun At7=>pureW (loadP Tryz.prog At7 46 t1) fun t8=>Q t8 At7):=by kernel_rfl
theorem n29 (a0:Value):enterA Tryz.prog 29 [a0] .normal=some (frM 29 (Tm.fill ⟨8,.nil⟩ 0 [a0]) [.code (cd 29 [])] false):=by kernel_rfl
theorem w29:Wf1 29 8 T29 L29:=wf1 n29 (by decide) fun _=>rfl
noncomputable def T53:Nat→List Item:=fun i=>match i with
 | _=>[]
def L53:Nat→List Tmp:=fun i=>match i with
 | _=>[]
theorem e53 (W0:World) (m0:Inj Tryz.prog) (S:Nat→List Value→AW→Prop) (Q:Value→AW→Prop) (a0:Value) (A:AW):wpgo Tryz.prog theX W0 m0 53 T53 L53 S Q none 4000 (Tm.fill ⟨5,.nil⟩ 0 [a0]) [.code (cd 53 [])] false 0 0 0 [] A=(Wc Tryz.prog theX W0 m0 80 [(.slice none 0 0),a0] A fun t0 At0=>Q t0 At0):=by kernel_rfl
theorem n53 (a0:Value):enterA Tryz.prog 53 [a0] .normal=some (frM 53 (Tm.fill ⟨5,.nil⟩ 0 [a0]) [.code (cd 53 [])] false):=by kernel_rfl
theorem w53:Wf1 53 5 T53 L53:=wf1 n53 (by decide) fun _=>rfl
noncomputable def T56:Nat→List Item:=fun i=>match i with
 | 0=>[(.code (cd 56 [1,1,0,1,0,0])),(.inLoop (cd 56 [1,1,0,1,0,0])),(.inBlock 0),(.code (cd 56 [1,1,1]))]
 | _=>[]
def L56:Nat→List Tmp:=fun i=>match i with
 | 0=>[3,6,7,8]
 | _=>[]
theorem e56 (W0:World) (m0:Inj Tryz.prog) (S:Nat→List Value→AW→Prop) (Q:Value→AW→Prop) (a0:Value) (A:AW):wpgo Tryz.prog theX W0 m0 56 T56 L56 S Q none 4000 (Tm.fill ⟨18,.nil⟩ 0 [a0]) [.code (cd 56 [])] false 0 0 0 [] A=(pureW (lenA Tryz.prog A 143 a0) fun t0=>cutW (T56 0) (T56 0) (S 0 [(.int .i64 0),a0,t0,(.int .i64 0)] A)):=by kernel_rfl
theorem l56_0 (W0:World) (m0:Inj Tryz.prog) (S:Nat→List Value→AW→Prop) (Q:Value→AW→Prop) (d:Nat→Value) (A:AW):wpgo Tryz.prog theX W0 m0 56 T56 L56 S Q none 4000 (tmOf 18 d) (T56 0) false 0 0 0 [] A=(pureW (binA Tryz.prog .lss 3 (.tmp 8) (.tmp 7) (d 8) (d 7)) fun t0=>forkW t0 (pureW (indexAddrA Tryz.prog 143 (d 6) (d 8)) fun t1=>pureW (loadP Tryz.prog A 3 t1) fun t2=>pureW (binA Tryz.prog .neq 3 (.tmp 12) (.tmp 13) t2 (d 3)) fun t3=>forkW t3 (Q t2 A) (pureW (binA Tryz.prog .add 3 (.tmp 8) (.const (.int .i64 1)) (d 8) (.int .i64 1)) fun t4=>cutW (T56 0) (T56 0) (S 0 [(d 3),(d 6),(d 7),t4] A))) (Q (d 3) A)):=by kernel_rfl
theorem n56 (a0:Value):enterA Tryz.prog 56 [a0] .normal=some (frM 56 (Tm.fill ⟨18,.nil⟩ 0 [a0]) [.code (cd 56 [])] false):=by kernel_rfl
theorem w56:Wf1 56 18 T56 L56:=wf1 n56 (by decide) fun _=>rfl
theorem c56:Cutf 56 18 T56 L56:=cutf (by decide)
noncomputable def T57:Nat→List Item:=fun i=>match i with
 | _=>[]
def L57:Nat→List Tmp:=fun i=>match i with
 | _=>[]
theorem e57 (W0:World) (m0:Inj Tryz.prog) (S:Nat→List Value→AW→Prop) (Q:Value→AW→Prop) (a0 a1:Value) (A:AW):wpgo Tryz.prog theX W0 m0 57 T57 L57 S Q none 4000 (Tm.fill ⟨20,.nil⟩ 0 [a0,a1]) [.code (cd 57 [])] false 0 0 0 [] A=(Wc Tryz.prog theX W0 m0 83 [a0] A fun t0 At0=>Wc Tryz.prog theX W0 m0 83 [a1] At0 fun t1 At1=>forkW t0 (forkW t1 (Q (.int .i64 0) At1) (Q (.int .i64 (-1)) At1)) (forkW t1 (Q (.int .i64 1) At1) (pureW (binA Tryz.prog .lss 44 (.tmp 14) (.tmp 15) a0 a1) fun t2=>forkW t2 (Q (.int .i64 (-1)) At1) (pureW (binA Tryz.prog .gtr 44 (.tmp 17) (.tmp 18) a0 a1) fun t3=>forkW t3 (Q (.int .i64 1) At1) (Q (.int .i64 0) At1))))):=by kernel_rfl
theorem n57 (a0 a1:Value):enterA Tryz.prog 57 [a0,a1] .normal=some (frM 57 (Tm.fill ⟨20,.nil⟩ 0 [a0,a1]) [.code (cd 57 [])] false):=by kernel_rfl
theorem w57:Wf2 57 20 T57 L57:=wf2 n57 (by decide) fun _ _=>rfl
noncomputable def T58:Nat→List Item:=fun i=>match i with
 | _=>[]
def L58:Nat→List Tmp:=fun i=>match i with
 | _=>[]
theorem e58 (W0:World) (m0:Inj Tryz.prog) (S:Nat→List Value→AW→Prop) (Q:Value→AW→Prop) (a0 a1:Value) (A:AW):wpgo Tryz.prog theX W0 m0 58 T58 L58 S Q none 4000 (Tm.fill ⟨8,.nil⟩ 0 [a0,a1]) [.code (cd 58 [])] false 0 0 0 [] A=(Wc Tryz.prog theX W0 m0 84 [a0,a1] A fun t0 At0=>Q t0 At0):=by kernel_rfl
theorem n58 (a0 a1:Value):enterA Tryz.prog 58 [a0,a1] .normal=some (frM 58 (Tm.fill ⟨8,.nil⟩ 0 [a0,a1]) [.code (cd 58 [])] false):=by kernel_rfl
theorem w58:Wf2 58 8 T58 L58:=wf2 n58 (by decide) fun _ _=>rfl
noncomputable def T59:Nat→List Item:=fun i=>match i with
 | _=>[]
def L59:Nat→List Tmp:=fun i=>match i with
 | _=>[]
theorem e59 (W0:World) (m0:Inj Tryz.prog) (S:Nat→List Value→AW→Prop) (Q:Value→AW→Prop) (a0 a1:Value) (A:AW):wpgo Tryz.prog theX W0 m0 59 T59 L59 S Q none 4000 (Tm.fill ⟨35,.nil⟩ 0 [a0,a1]) [.code (cd 59 [])] false 0 0 0 [] A=(bothW (newP A (Value.cells a0).toList 46) fun t0 At0=>bothW (newP At0 (Value.cells a1).toList 46) fun t1 At1=>pureW (loadP Tryz.prog At1 46 t0) fun t2=>pureW (loadP Tryz.prog At1 46 t1) fun t3=>pureW (binA Tryz.prog .eql 46 (.tmp 6) (.tmp 7) t2 t3) fun t4=>forkW t4 (Q (.int .i64 0) At1) (pureW (fieldAddrA Tryz.prog 46 t0 2) fun t5=>pureW (loadP Tryz.prog At1 9 t5) fun t6=>pureW (fieldAddrA Tryz.prog 46 t1 2) fun t7=>pureW (loadP Tryz.prog At1 9 t7) fun t8=>Wc Tryz.prog theX W0 m0 85 [t6,t8] At1 fun t9 At9=>pureW (fieldAddrA Tryz.prog 46 t0 1) fun t10=>pureW (loadP Tryz.prog At9 9 t10) fun t11=>pureW (fieldAddrA Tryz.prog 46 t1 1) fun t12=>pureW (loadP Tryz.prog At9 9 t12) fun t13=>pureW (binA Tryz.prog .neq 9 (.tmp 15) (.tmp 17) t11 t13) fun t14=>forkW t14 (pureW (fieldAddrA Tryz.prog 46 t0 1) fun t15=>pureW (loadP Tryz.prog At9 9 t15) fun t16=>pureW (fieldAddrA Tryz.prog 46 t1 1) fun t17=>pureW (loadP Tryz.prog At9 9 t17) fun t18=>Wc Tryz.prog theX W0 m0 85 [t16,t18] At9 fun t19 At19=>pureW (fieldAddrA Tryz.prog 46 t0 0) fun t20=>pureW (loadP Tryz.prog At19 44 t20) fun t21=>pureW (fieldAddrA Tryz.prog 46 t1 0) fun t22=>pureW (loadP Tryz.prog At19 44 t22) fun t23=>pureW (binA Tryz.prog .neq 44 (.tmp 25) (.tmp 27) t21 t23) fun t24=>forkW t24 (pureW (fieldAddrA Tryz.prog 46 t0 0) fun t25=>pureW (loadP Tryz.prog At19 44 t25) fun t26=>pureW (fieldAddrA Tryz.prog 46 t1 0) fun t27=>pureW (loadP Tryz.prog At19 44 t27) fun t28=>pureW (binA Tryz.prog .lss 44 (.tmp 30) (.tmp 32) t26 t28) fun t29=>forkW t29 (Q (.int .i64 (-1)) At19) (Q (.int .i64 1) At19)) (forkW t19 (Q (.int .i64 (-1)) At19) (Q (.int .i64 1) At19))) (pureW (fieldAddrA Tryz.prog 46 t0 0) fun t30=>pureW (loadP Tryz.prog At9 44 t30) fun t31=>pureW (fieldAddrA Tryz.prog 46 t1 0) fun t32=>pureW (loadP Tryz.prog At9 44 t32) fun t33=>pureW (binA Tryz.prog .neq 44 (.tmp 25) (.tmp 27) t31 t33) fun t34=>forkW t34 (pureW (fieldAddrA Tryz.prog 46 t0 0) fun t35=>pureW (loadP Tryz.prog At9 44 t35) fun t36=>pureW (fieldAddrA Tryz.prog 46 t1 0) fun t37=>pureW (loadP Tryz.prog At9 44 t37) fun t38=>pureW (binA Tryz.prog .lss 44 (.tmp 30) (.tmp 32) t36 t38) fun t39=>forkW t39 (Q (.int .i64 (-1)) At9) (Q (.int .i64 1) At9)) (forkW t9 (Q (.int .i64 (-1)) At9) (Q (.int .i64 1) At9))))):=by kernel_rfl
theorem n59 (a0 a1:Value):enterA Tryz.prog 59 [a0,a1] .normal=some (frM 59 (Tm.fill ⟨35,.nil⟩ 0 [a0,a1]) [.code (cd 59 [])] false):=by kernel_rfl
theorem w59:Wf2 59 35 T59 L59:=wf2 n59 (by decide) fun _ _=>rfl
noncomputable def T80:Nat→List Item:=fun i=>match i with
 | _=>[]
def L80:Nat→List Tmp:=fun i=>match i with
 | _=>[]
theorem e80 (W0:World) (m0:Inj Tryz.prog) (S:Nat→List Value→AW→Prop) (Q:Value→AW→Prop) (a0 a1:Value) (A:AW):wpgo Tryz.prog theX W0 m0 80 T80 L80 S Q none 4000 (Tm.fill ⟨13,.nil⟩ 0 [a0,a1]) [.code (cd 80 [])] false 0 0 0 [] A=(bothW (newP A (Value.cells a0).toList 28) fun t0 At0=>loopW At0 80 (setsT ⟨13,.nil⟩ [(0,a0),(1,a1),(2,t0),(4,(.slice none 0 0)),(6,a1)]) [7] (cd 80 [1,0,1,0,0]) (cd 80 [1,0,1,0,1]) fun Dt1 Lt1 Abt1=>dynW Tryz.prog theX W0 m0 Abt1 a1 [.func (.yield Lt1) #[] #[]] fun _ Act1=>endLoopW Act1 Lt1 (fun Adt1=>pureW (loadP Tryz.prog Adt1 28 t0) fun t2=>takeDs [Dt1] Adt1 fun At3=>Q t2 At3) (fun Aet1=>takeDs [Dt1] Aet1 fun At4=>Q (.slice none 0 0) At4)):=by kernel_rfl
theorem r80_0 (W0:World) (m0:Inj Tryz.prog) (S:Nat→List Value→AW→Prop) (Q:Value→AW→Prop) (l:Nat) (d:Nat→Value) (A:AW):wpgo Tryz.prog theX W0 m0 80 T80 L80 S Q (some l) 4000 (tmOf 13 d) [.code (cd 80 [1,0,1,0,0]),.beginRound,.code (cd 80 [1,0,1,0,1])] false 0 0 0 [] A=(bothW (allocP Tryz.prog A 46) fun t0 At0=>effW (storeP Tryz.prog At0 46 t0 (d 7)) fun At1=>beginW At1 l fun At2=>pureW (loadP Tryz.prog At2 28 (d 2)) fun t3=>pureW (loadP Tryz.prog At2 46 t0) fun t4=>bothW (buildSliceA Tryz.prog At2 28 1 [(0,t4)]) fun t5 At5=>bothW (appendA Tryz.prog At5 28 28 t3 t5) fun t6 At6=>effW (storeP Tryz.prog At6 28 (d 2) t6) fun At7=>leaveW At7 l none Q):=by kernel_rfl
theorem n80 (a0 a1:Value):enterA Tryz.prog 80 [a0,a1] .normal=some (frM 80 (Tm.fill ⟨13,.nil⟩ 0 [a0,a1]) [.code (cd 80 [])] false):=by kernel_rfl
theorem w80:Wf2 80 13 T80 L80:=wf2 n80 (by decide) fun _ _=>rfl
noncomputable def T83:Nat→List Item:=fun i=>match i with
 | _=>[]
def L83:Nat→List Tmp:=fun i=>match i with
 | _=>[]
theorem e83 (W0:World) (m0:Inj Tryz.prog) (S:Nat→List Value→AW→Prop) (Q:Value→AW→Prop) (a0:Value) (A:AW):wpgo Tryz.prog theX W0 m0 83 T83 L83 S Q none 4000 (Tm.fill ⟨6,.nil⟩ 0 [a0]) [.code (cd 83 [])] false 0 0 0 [] A=(pureW (binA Tryz.prog .neq 44 (.tmp 3) (.tmp 4) a0 a0) fun t0=>Q t0 A):=by kernel_rfl
theorem n83 (a0:Value):enterA Tryz.prog 83 [a0] .normal=some (frM 83 (Tm.fill ⟨6,.nil⟩ 0 [a0]) [.code (cd 83 [])] false):=by kernel_rfl
theorem w83:Wf1 83 6 T83 L83:=wf1 n83 (by decide) fun _=>rfl
noncomputable def T85:Nat→List Item:=fun i=>match i with
 | 0=>[(.code (cd 85 [1,0,1,0,0])),(.inLoop (cd 85 [1,0,1,0,0])),(.inBlock 0),(.code (cd 85 [1,1]))]
 | _=>[]
def L85:Nat→List Tmp:=fun i=>match i with
 | 0=>[0,1,5]
 | _=>[]
theorem e85 (W0:World) (m0:Inj Tryz.prog) (S:Nat→List Value→AW→Prop) (Q:Value→AW→Prop) (a0 a1:Value) (A:AW):wpgo Tryz.prog theX W0 m0 85 T85 L85 S Q none 4000 (Tm.fill ⟨37,.nil⟩ 0 [a0,a1]) [.code (cd 85 [])] false 0 0 0 [] A=(cutW (T85 0) (T85 0) (S 0 [a0,a1,(.int .i64 0)] A)):=by kernel_rfl
theorem l85_0 (W0:World) (m0:Inj Tryz.prog) (S:Nat→List Value→AW→Prop) (Q:Value→AW→Prop) (d:Nat→Value) (A:AW):wpgo Tryz.prog theX W0 m0 85 T85 L85 S Q none 4000 (tmOf 37 d) (T85 0) false 0 0 0 [] A=(pureW (lenA Tryz.prog A 9 (d 0)) fun t0=>pureW (binA Tryz.prog .lss 3 (.tmp 6) (.tmp 8) (d 5) t0) fun t1=>forkW t1 (pureW (lenA Tryz.prog A 9 (d 1)) fun t2=>pureW (binA Tryz.prog .lss 3 (.tmp 11) (.tmp 13) (d 5) t2) fun t3=>forkW t3 (pureW (indexA Tryz.prog 9 (d 0) (d 5)) fun t4=>pureW (indexA Tryz.prog 9 (d 1) (d 5)) fun t5=>pureW (binA Tryz.prog .neq 5 (.tmp 20) (.tmp 23) t4 t5) fun t6=>forkW t6 (pureW (indexA Tryz.prog 9 (d 0) (d 5)) fun t7=>pureW (indexA Tryz.prog 9 (d 1) (d 5)) fun t8=>pureW (binA Tryz.prog .lss 5 (.tmp 27) (.tmp 30) t7 t8) fun t9=>Q t9 A) (pureW (binA Tryz.prog .add 3 (.tmp 16) (.const (.int .i64 1)) (d 5) (.int .i64 1)) fun t10=>cutW (T85 0) (T85 0) (S 0 [(d 0),(d 1),t10] A))) (pureW (lenA Tryz.prog A 9 (d 0)) fun t11=>pureW (lenA Tryz.prog A 9 (d 1)) fun t12=>pureW (binA Tryz.prog .lss 3 (.tmp 33) (.tmp 35) t11 t12) fun t13=>Q t13 A)) (pureW (lenA Tryz.prog A 9 (d 0)) fun t14=>pureW (lenA Tryz.prog A 9 (d 1)) fun t15=>pureW (binA Tryz.prog .lss 3 (.tmp 33) (.tmp 35) t14 t15) fun t16=>Q t16 A)):=by kernel_rfl
theorem n85 (a0 a1:Value):enterA Tryz.prog 85 [a0,a1] .normal=some (frM 85 (Tm.fill ⟨37,.nil⟩ 0 [a0,a1]) [.code (cd 85 [])] false):=by kernel_rfl
theorem w85:Wf2 85 37 T85 L85:=wf2 n85 (by decide) fun _ _=>rfl
theorem c85:Cutf 85 37 T85 L85:=cutf (by decide)
noncomputable def T84:Nat→List Item:=fun i=>match i with
 | _=>[]
def L84:Nat→List Tmp:=fun i=>match i with
 | _=>[]
theorem e84 (W0:World) (m0:Inj Tryz.prog) (S:Nat→List Value→AW→Prop) (Q:Value→AW→Prop) (a0 a1:Value) (A:AW):wpgo Tryz.prog theX W0 m0 84 T84 L84 S Q none 4000 (Tm.fill ⟨8,.nil⟩ 0 [a0,a1]) [.code (cd 84 [])] false 0 0 0 [] A=(anW Tryz.prog theX W0 m0 (callFuncA Tryz.prog theX A 117 [a0,a1]) fun t0 At0=>Q t0 At0):=by kernel_rfl
theorem n84 (a0 a1:Value):enterA Tryz.prog 84 [a0,a1] .normal=some (frM 84 (Tm.fill ⟨8,.nil⟩ 0 [a0,a1]) [.code (cd 84 [])] false):=by kernel_rfl
theorem w84:Wf2 84 8 T84 L84:=wf2 n84 (by decide) fun _ _=>rfl
end Go.Proofs.YtdpdajpiadohjaaGreatDoor
namespace Go.Abs
section
variable {P:Program}
theorem quiet_fieldR {d:Nat} {xs ys:Array Value} {f:Field} {fs:List Field} {a b:Value} {r:Bool} (hn:decide (f.name≠ "_")=true) (h1:quiet P (part f.type xs f.offset)=some a) (h2:quiet P (part f.type ys f.offset)=some b) (h3:quiet P (Op.equalIn d f.type a b)=some r):
  quiet P (Op.eqFields d xs ys (f::fs))=if r=true then quiet P (Op.eqFields d xs ys fs) else some false:=by
 simp only [Op.eqFields]
 rw [if_pos (of_decide_eq_true hn)]
 show quiet P (Sem.bind _ _)=_
 rw [quiet_bind,h1]
 simp only [Option.bind_some]
 show quiet P (Sem.bind _ _)=_
 rw [quiet_bind,h2]
 simp only [Option.bind_some]
 show quiet P (Sem.bind _ _)=_
 rw [quiet_bind,h3]
 cases r <;> rfl
theorem bytes_beq (a b:ByteArray):(a==b)=(a.data.toList==b.data.toList):=by
 obtain ⟨⟨x⟩⟩:=a
 obtain ⟨⟨y⟩⟩:=b
 show ((⟨x⟩:Array UInt8)==⟨y⟩)=(x==y)
 simp
theorem quiet_eqs {d:Nat} {t:TypeId} {a b:ByteArray} (h:quiet P (underlying t)=some .string):quiet P (Op.equalIn (d+1) t (.string a) (.string b))=some (a.data.toList==b.data.toList):=by
 rw [quiet_eq_string d t a b h,bytes_beq]
end
section
variable {P:Program} {tb ts tst:TypeId}
theorem setL_mid:∀ (a mid new rest:List Value),mid.length=new.length→setL (a++(mid++rest)) a.length new=a++(new++rest)
 | a,[],[],rest,_=>by simp [setL]
 | a,m::ms,n::ns,rest,h=>by
  simp only [List.length_cons,Nat.add_right_cancel_iff] at h
  have:=setL_mid (a++[n]) ms ns rest h
  simp only [setL]
  have e:(a++(m::ms++rest)).set a.length n=(a++[n])++(ms++rest):=by simp
  rw [e]
  have e2:a.length+1=(a++[n]).length:=by simp
  rw [e2,this]
  simp
 | a,[],_::_,rest,h=>by simp at h
 | a,_::_,[],rest,h=>by simp at h
end
section
variable {P:Program} {tb ts tst:TypeId}
def appU (P:Program) (U:Nat) (w:AW) (t t2:TypeId) (s x:Value):R Value:=
 match sliceElemT P t,s with
 | some e,.slice base n cap=>
  (match szT P e,bytesT P e with
  | some 0,_=>.fail "append size 0"
  | some size,some bytes=>
   match sourceZ P w e t2 size x with
   | none=>.fail "append source"
   | some (m,new)=>
    let need:=n+m
    bif !(Nat.blt need room&&Nat.blt (need * bytes) room&&hasZero P e size) then .fail "append room" else
    match m with
    | 0=>.ok s w
    | _+1=>
     let lb:=bif Nat.ble U cap then cap - U else cap
     bif Nat.ble need lb then
      match base with
      | none=>.fail "append nil with room"
      | some a=>(match w.setCells (addA a (n * size)) new with
       | some w'=>.ok (.slice base need cap) w'
       | none=>.fail "append set")
     else bif Nat.ble U cap then
      match base with
      | none=>.fail "append nil with unknown capacity"
      | some a=>match a.spot,w.get a.block with
       | none,some (.row _ e' fam b0 false)=>
        bif !(Nat.beq e' e&&new.all oneCell) then .fail "append elements" else
        (match w.cellsAny a (n * size) with
        | none=>.fail "append old cells"
        | some old=>
         match (poisonFrom (b0+a.off+n * size) (w.members fam) w).newIn (old++new) e fam (b0+a.off) with
         | some (a',w')=>.ok (.slice (some a') need (U+need)) w'
         | none=>.fail "append new")
       | _,_=>.fail "append base row"
     else
      match (match base with | some a=>w.cellsAny a (n * size) | none=>some []) with
      | none=>.fail "append old cells"
      | some old=>(match w.new (.row (old++new) e w.next 0 false) with
       | some (b,w')=>.ok (.slice (some ⟨b,0,none⟩) need (U+need)) w'
       | none=>.fail "append new")
  | _,_=>.fail "append type")
 | _,_=>.fail "append"
theorem appU_eq (A:AW) (t t2:TypeId) (s x:Value):appendA P A t t2 s x=appU P capU A t t2 s x:=rfl
end
end Go.Abs
namespace Go.Abs
open Go.ChangeShapes Go.WideShapes Go.ChangeAt Go.RowKit
abbrev Arg:=(Nat × Nat) × Option (List Value × TypeId)
def argT (F:Nat):Nat→List Arg→Trie AO→Trie AO
 | _,[],t=>t
 | j,(_,none)::r,t=>argT F (j+1) r t
 | j,(_,some (cs,e))::r,t=>(argT F (j+1) r t).put depth j (some (.row cs e F 0 true))
def wR (n:Nat) (gl:List (Nat × List Value × TypeId)) (L:List Arg):AW:=
 ⟨argT (n+L.length) n L (rowsT gl),n+L.length+1,(Trie.nil:Trie (List Nat)).put depth (n+L.length) (some ((List.range L.length).map (n+·)))⟩
def mR (P:Program) (L:List Arg):Inj P:=mA P (L.map (·.1))
theorem argT_get (F:Nat):∀ (L:List Arg) (j:Nat) (t:Trie AO) (i:Nat),j+L.length≤maxId→(argT F j L t).get? i=if i < j then t.get? i else match L[i - j]? with
  | some (_,some (cs,e))=>some (.row cs e F 0 true)
  | _=>t.get? i
 | [],j,t,i,_=>by simp [argT]
 | (p,none)::r,j,t,i,h=>by
  simp only [List.length_cons] at h
  simp only [argT]
  rw [argT_get F r (j+1) t i (by omega)]
  by_cases h1:i < j
  ·rw [if_pos (by omega),if_pos h1]
  ·by_cases h2:i=j
   ·subst h2
    rw [if_pos (by omega),if_neg h1,Nat.sub_self]
    rfl
   ·rw [if_neg (by omega),if_neg h1,show i - j=(i - (j+1))+1 by omega,List.getElem?_cons_succ]
 | (p,some (cs,e))::r,j,t,i,h=>by
  simp only [List.length_cons] at h
  simp only [argT]
  rw [Trie.get?_put depth _ j i _ (by unfold depth maxId at *;omega),argT_get F r (j+1) t i (by omega)]
  by_cases h1:i < j
  ·rw [if_neg (by omega),if_pos (by omega),if_pos h1]
  ·by_cases h2:i=j
   ·subst h2
    rw [if_pos rfl,if_neg h1,Nat.sub_self]
    rfl
   ·rw [if_neg h2,if_neg (by omega),if_neg h1,show i - j=(i - (j+1))+1 by omega,List.getElem?_cons_succ]
section
variable {P:Program} {W:World} {gl:List (Nat × List Value × TypeId)} {L:List Arg}
theorem wR_arg {n:Nat} (hk:n+L.length≤maxId) {j:Nat} {p:Nat × Nat} {cs:List Value} {e:TypeId} (h:L[j]? =some (p,some (cs,e))):(wR n gl L).get (n+j)=some (.row cs e (n+L.length) 0 true):=by
 show (argT _ n L _).get? _=_
 rw [argT_get _ L n _ _ hk,if_neg (by omega),Nat.add_sub_cancel_left,h]
theorem wR_get {n:Nat} (hok:okG n gl=true) (hk:n+L.length≤maxId) {i:Nat} {o:AO} (h:(wR n gl L).get i=some o):
  (∃ x∈gl,x.1=i∧i < n∧o=.row x.2.1 x.2.2 i 0 true)∨∃ j p cs e,i=n+j∧L[j]? =some (p,some (cs,e))∧o=.row cs e (n+L.length) 0 true:=by
 have h:(argT (n+L.length) n L (rowsT gl)).get? i=some o:=h
 rw [argT_get _ L n _ _ hk] at h
 unfold okG at hok
 simp only [Bool.and_eq_true,List.all_eq_true] at hok
 obtain ⟨hn,hl⟩:=hok
 have hn:=ble_true.1 hn
 have glob:(rowsT gl).get? i=some o→∃ x∈gl,x.1=i∧i < n∧o=.row x.2.1 x.2.2 i 0 true:=by
  intro h
  obtain ⟨x,hx,rfl,rfl⟩:=rowsT_get gl (fun x hx=>Nat.lt_of_lt_of_le (blt_true.1 (hl x hx).1) hn) i o h
  exact ⟨x,hx,rfl,blt_true.1 (hl x hx).1,rfl⟩
 split at h
 ·exact .inl (glob h)
 ·split at h
  ·rename_i hi p cs e hq
   cases h
   exact .inr ⟨i - n,p,cs,e,by omega,hq,rfl⟩
  ·exact .inl (glob h)
theorem wR_fine {n:Nat} (hok:okG n gl=true) (hk:n+L.length+1≤maxId):Fine (wR n gl L):=by
 refine ⟨fun i hi=>?_,fun i hi=>?_⟩
 ·have hi:n+L.length+1≤i:=hi
  show ((Trie.nil:Trie (List Nat)).put depth (n+L.length) _).get? i=none
  rw [Trie.get?_put depth _ _ i _ (by unfold depth maxId at *;omega),if_neg (by omega)]
  rfl
 ·have hi:n+L.length+1≤i:=hi
  cases hq:(wR n gl L).get i with
  | none=>rfl
  | some o=>
   rcases wR_get hok (by omega) hq with ⟨x,_,_,h,_⟩ | ⟨j,p,cs,e,rfl,h,_⟩
   ·omega
   ·have:=(List.getElem?_eq_some_iff.1 h).1
    omega
def Args (P:Program) (W:World) (L:List Arg):Prop:=∀ (j:Nat) (p:Nat × Nat) (cs:List Value) (e:TypeId),L[j]? =some (p,some (cs,e))→∃ cs' fr,W.heap[p.1]? =some (.cells cs' e fr)∧p.2≤cs'.size∧
 ∀ i v,cs[i]? =some v→∃ v',cs'[p.2+i]? =some v'∧VRel (mR P L) v v'
theorem relR (hok:okG P.globals.size gl=true) (hk:P.globals.size+L.length+1≤maxId) (hW:Holds W gl) (hA:Args P W L):Rel (mR P L) (wR P.globals.size gl L) W:=by
 have hget:=fun {i:Nat} {o:AO} (h:(wR P.globals.size gl L).get i=some o)=>wR_get hok (by omega) h
 have hl:∀ x∈gl,x.2.1.all (closedV 4)=true:=by
  unfold okG at hok
  simp only [Bool.and_eq_true,List.all_eq_true] at hok
  intro x hx
  exact List.all_eq_true.2 (hok.2 x hx).2
 have hlen:(L.map (·.1)).length=L.length:=List.length_map _
 have harg:∀ {j:Nat} {p:Nat × Nat} {q:Option (List Value × TypeId)},L[j]? =some (p,q)→mR P L (P.globals.size+j)=some p:=by
  intro j p q h
  show mA P _ _=_
  rw [mA_arg,List.getElem?_map,h]
  rfl
 refine ⟨?_,?_,?_,?_,?_,hk,?_⟩
 ·intro i o c d hi hm
  rcases hget hi with ⟨x,hx,rfl,hlt,rfl⟩ | ⟨j,p,cs,e,rfl,hj,rfl⟩
  ·have hm:mA P (L.map (·.1)) x.1=some (c,d):=hm
   rw [mA_var hlt] at hm
   cases hm
   obtain ⟨fr,hc⟩:=hW x hx
   exact ⟨_,hc,_,fr,rfl,fun i v hv=>⟨v,by simpa using hv,fun _=>closedV_rel 4 v (List.all_eq_true.1 (hl x hx) v (List.mem_of_getElem? hv)),fun h=>by cases h⟩⟩
  ·rw [harg hj] at hm
   cases hm
   obtain ⟨cs',fr,h1,h2,h3⟩:=hA j _ cs e hj
   refine ⟨_,h1,cs',fr,rfl,fun i v hv=>?_⟩
   obtain ⟨v',g1,g2⟩:=h3 i v hv
   exact ⟨v',g1,fun _=>g2,fun h=>by cases h⟩
 ·intro i cs e b ro hi c d hm
  rcases hget hi with ⟨x,hx,rfl,hlt,_⟩ | ⟨j,p,cs2,e2,rfl,hj,he⟩
  ·have hm:mA P (L.map (·.1)) x.1=some (c,d):=hm
   rw [mA_var hlt] at hm
   cases hm
   rfl
  ·have:=(List.getElem?_eq_some_iff.1 hj).1
   simp only [AO.row.injEq] at he
   omega
 ·intro i j oi oj c di dj hij hi hj hmi hmj
  refine .inl ?_
  rcases hget hi with ⟨x,hx,rfl,hlt,rfl⟩ | ⟨j,p,cs2,e2,rfl,_,rfl⟩ <;> rcases hget hj with ⟨y,hy,rfl,hlt2,rfl⟩ | ⟨j2,p2,cs3,e3,rfl,_,rfl⟩ <;> exact ⟨rfl,rfl⟩
 ·intro i o f b hi hf
  have hmem:∀ f,(wR P.globals.size gl L).members f=if f=P.globals.size+L.length then (List.range L.length).map (P.globals.size+·) else [f]:=by
   intro f
   show (match ((Trie.nil:Trie (List Nat)).put depth (P.globals.size+L.length) _).get? f with | some l=>l | none=>[f])=_
   rw [Trie.get?_put depth _ _ f _ (by unfold depth maxId at *;omega)]
   by_cases h:f=P.globals.size+L.length
   ·rw [if_pos h,if_pos h]
   ·rw [if_neg h,if_neg h];rfl
  rcases hget hi with ⟨x,hx,rfl,hlt,rfl⟩ | ⟨j,p,cs2,e2,rfl,hj,rfl⟩
  ·simp only [AO.fam,Option.some.injEq,Prod.mk.injEq] at hf
   obtain ⟨rfl,rfl⟩:=hf
   rw [hmem,if_neg (by omega)]
   exact ⟨by simp,by show x.1 < P.globals.size+L.length+1;omega⟩
  ·simp only [AO.fam,Option.some.injEq,Prod.mk.injEq] at hf
   obtain ⟨rfl,rfl⟩:=hf
   have:=(List.getElem?_eq_some_iff.1 hj).1
   rw [hmem,if_pos rfl]
   exact ⟨List.mem_map.2 ⟨j,List.mem_range.2 this,rfl⟩,by show _ < P.globals.size+L.length+1;omega⟩
 ·intro i hi
  have hi:P.globals.size+L.length+1≤i:=hi
  have hf:=wR_fine (n:=P.globals.size) hok hk
  refine ⟨hf.get i hi,?_,hf.fams i hi⟩
  show (if i < P.globals.size then some (i,0) else (L.map (·.1))[i - P.globals.size]?)=none
  rw [if_neg (by omega)]
  exact List.getElem?_eq_none (by omega)
 ·intro i cs e f b ro c d hi hm
  rcases hget hi with ⟨x,hx,rfl,hlt,he⟩ | ⟨j,p,cs2,e2,rfl,hj,he⟩
  ·cases he
   have hm:mA P (L.map (·.1)) x.1=some (c,d):=hm
   rw [mA_var hlt] at hm
   cases hm
   obtain ⟨fr,hc⟩:=hW x hx
   exact ⟨fun h=>absurd rfl h,_,_,fr,hc,by show 0+0≤_;omega,fun h=>by cases h⟩
  ·cases he
   rw [harg hj] at hm
   cases hm
   obtain ⟨cs',fr,h1,h2,h3⟩:=hA j _ _ _ hj
   exact ⟨fun h=>absurd rfl h,cs',_,fr,h1,by show _+0≤_;omega,fun h=>by cases h⟩
theorem ownR (hok:okG P.globals.size gl=true) (hk:P.globals.size+L.length≤maxId) (c:Nat):¬ Own (mR P L) (wR P.globals.size gl L) c:=by
 rintro ⟨i,o,d,hi,hro,_⟩
 rcases wR_get hok hk hi with ⟨x,hx,rfl,hlt,rfl⟩ | ⟨j,p,cs2,e2,rfl,_,rfl⟩ <;> cases hro
theorem calls_trueR {X:XNames} (hP:POk P) (hok:okG P.globals.size gl=true) (hk:P.globals.size+L.length+1≤maxId) {g:FuncId} {args args':List Value}
  (hW:Holds W gl) (hA:Args P W L) (ha:VRels (mR P L) args args') (h:Wc P X W (mR P L) g args (wR P.globals.size gl L) fun v _=>v=.bool true):Calls P g ⟨args'⟩ W fun e W'=>e=.returned (.bool true)∧Below W.heap.size W W':=by
 refine (calls_of_wc hP h (relR hok hk hW hA) (fun i hi=>mA_var hi) (ownR hok (by omega)) ha).mono ?_
 rintro e w' ⟨v,v',m',A',rfl,rfl,h2,h3⟩
 cases h2
 exact ⟨rfl,below_of h3 (ownR hok (by omega))⟩
end
section
variable {H:Type} {enc:TypeId × Value→H} {P:Program}
def flat {β:Type} (f:β→List Value) (l:List β):List Value:=l.flatMap f
theorem flat_length {β:Type} {f:β→List Value} {n:Nat} (hn:∀ b,(f b).length=n):∀ l:List β,(flat f l).length=l.length * n
 | []=>by simp [flat]
 | b::r=>by
  have:=flat_length hn r
  simp only [flat,List.flatMap_cons,List.length_append,hn,List.length_cons] at *
  rw [this,Nat.succ_mul];omega
theorem flat_drop {β:Type} {f:β→List Value} {n:Nat} (hn:∀ b,(f b).length=n):∀ (l:List β) (i:Nat) (b:β),l[i]? =some b→∃ rest,(flat f l).drop (i * n)=f b++rest
 | [],i,b,h=>by simp at h
 | x::r,0,b,h=>by
  simp only [List.getElem?_cons_zero,Option.some.injEq] at h
  subst h
  exact ⟨flat f r,by simp [flat]⟩
 | x::r,i+1,b,h=>by
  simp only [List.getElem?_cons_succ] at h
  obtain ⟨rest,h2⟩:=flat_drop hn r i b h
  refine ⟨rest,?_⟩
  rw [← h2]
  simp only [flat,List.flatMap_cons]
  rw [Nat.succ_mul,Nat.add_comm,← List.drop_drop,List.drop_append,hn,Nat.sub_self]
  rw [show List.drop n (f x)=[] from List.drop_eq_nil_of_le (by rw [hn];exact Nat.le_refl _)]
  simp
theorem flat_get {β:Type} {f:β→List Value} {n:Nat} (hn:∀ b,(f b).length=n) {l:List β} {i:Nat} {b:β} (h:l[i]? =some b) {k:Nat} (hk:k < n):(flat f l)[i * n+k]? =(f b)[k]? :=by
 obtain ⟨rest,h2⟩:=flat_drop hn l i b h
 rw [← List.getElem?_drop,h2,List.getElem?_append_left (by rw [hn];exact hk)]
inductive InSlice (W:World) {β:Type} (f:β→List Value) (s:Value) (l:List β):Arg→Prop
 | nil (hl:l=[]) (hs:IsSlice s) (h0:∃ o c,s=.slice o 0 c):InSlice W f s l (placeOf s,none)
 | blk (a:Addr) (c:Nat) (cs:Array Value) (e':TypeId) (fr:Nat × Nat) (hs:s=.slice (some a) l.length c) (hc:l.length≤c) (hc2:c < capU) (hsp:a.spot=none) (hb:W.heap[a.block]? =some (.cells cs e' fr)) (ho:a.off≤cs.size)
   (hg:∀ i v,(flat f l)[i]? =some v→cs[a.off+i]? =some v):InSlice W f s l ((a.block,a.off),some (flat f l,e'))
theorem addr_add0 (a:Addr) (n:Nat) (h:a.spot=none):a.add n=⟨a.block,a.off+n,none⟩:=by
 unfold Addr.add
 split
 ·rename_i h0;subst h0;obtain ⟨b,o,s⟩:=a;simp only at h;subst h;rfl
 ·rfl
theorem read_flat {W:World} {t e:TypeId} {fuel:Nat} {cs:List Value} {x:DataW H × List MemPlace} {β:Type} {f:β→List Value} {ok:β→Prop} (b0:β) (hu:P.underlying t=some (.slice e)) (hz:0 < P.cellsOf e) (hn:∀ b,(f b).length=P.cellsOf e)
  (hel:∀ q cs y,DataW.trod enc P W 0 (fun _=>true) true q e cs=some y→∃ b,cs=f b∧ok b) (h:DataW.trod enc P W 0 (fun _=>true) true fuel t cs=some x):
  ∃ s l L,cs=[s]∧InSlice W f s l L∧(∀ b∈l,ok b):=by
 have hsl:=read_slice hu hz h
 rcases Go.Deep.open_slice hu h with ⟨rfl,_⟩ | ⟨a,n,c,m,k,D,Pl,rfl,_,hnm,hc,hm,_,hx⟩
 ·exact ⟨_,[],_,rfl,.nil rfl (.inl rfl) ⟨none,0,rfl⟩,by simp⟩
 ·obtain ⟨s',hs1,hs2⟩:=hsl
  simp only [List.cons.injEq,and_true] at hs1
  subst hs1
  have hm:m=c:=hm
  subst hm
  have hcap:m < capU:=by
   have h1:maxLen < capU:=by decide
   omega
  rcases Nat.eq_zero_or_pos n with rfl | hpos
  ·exact ⟨_,[],_,rfl,.nil rfl hs2 ⟨some a,m,rfl⟩,by simp⟩
  ·have key:∀ i,i < n→∃ b:β,ok b∧∀ j,j < P.cellsOf e→∃ v,(f b)[j]? =some v∧W.cell? ((a.add (i * P.cellsOf e)).add j)=some v:=by
    intro i hi
    obtain ⟨cs',g1,g2⟩:=hx i (by omega)
    obtain ⟨_,hl,g3⟩:=World.cells?_some g1
    obtain ⟨b,rfl,hok⟩:=hel _ _ _ g2
    refine ⟨b,hok,fun j hj=>?_⟩
    have h4:=g3 j (by omega)
    exact ⟨(f b)[j]'(by rw [hn];exact hj),List.getElem?_eq_getElem _,by rw [h4];exact List.getElem?_eq_getElem _⟩
   obtain ⟨bb,_,q⟩:=key 0 hpos
   obtain ⟨v0,_,q2⟩:=q 0 hz
   have hblk:a.spot=none∧∃ cs e' fr,W.heap[a.block]? =some (.cells cs e' fr)∧a.off≤cs.size:=by
    have:W.cell? a=some v0:=by simpa [Addr.add] using q2
    unfold World.cell? at this
    split at this
    ·rename_i cs e' fr hh
     split at this
     ·cases this
     ·rename_i hsp
      refine ⟨?_,cs,e',fr,hh,?_⟩
      ·cases hq:a.spot with
       | none=>rfl
       | some z=>exact absurd (by simp [hq]) hsp
      ·have:=(Array.getElem?_eq_some_iff.1 this).1
       omega
    ·cases this
   obtain ⟨hsp,cs,e',fr,hh,hoff⟩:=hblk
   let g:Nat→β:=fun i=>if h:i < n then Classical.choose (key i h) else b0
   have hg:∀ i (h:i < n),g i=Classical.choose (key i h):=fun i h=>dif_pos h
   have hfl:((List.range n).map g).length=n:=by simp
   refine ⟨_,(List.range n).map g,_,rfl,.blk a m cs e' fr (by rw [hfl]) (by rw [hfl];exact hnm) hcap hsp hh hoff fun i v hi=>?_,fun b hb=>?_⟩
   ·have hlt:i < n * P.cellsOf e:=by
     have:=(List.getElem?_eq_some_iff.1 hi).1
     rw [flat_length hn,hfl] at this
     exact this
    have hdiv:i / P.cellsOf e < n:=(Nat.div_lt_iff_lt_mul hz).2 hlt
    have hmod:i % P.cellsOf e < P.cellsOf e:=Nat.mod_lt _ hz
    have hie:i / P.cellsOf e * P.cellsOf e+i % P.cellsOf e=i:=by rw [Nat.mul_comm];exact Nat.div_add_mod i _
    have hget:((List.range n).map g)[i / P.cellsOf e]? =some (g (i / P.cellsOf e)):=by
     rw [List.getElem?_map,List.getElem?_range hdiv];rfl
    have:=flat_get hn hget hmod
    rw [hie,hi,hg _ hdiv] at this
    obtain ⟨_,p2⟩:=Classical.choose_spec (key _ hdiv)
    obtain ⟨v',p3,p4⟩:=p2 _ hmod
    rw [← this] at p3
    cases p3
    rw [addr_add0 a _ hsp,addr_add0 _ _ rfl] at p4
    unfold World.cell? at p4
    rw [hh] at p4
    simp only [Option.isSome_none,Bool.false_eq_true,if_false] at p4
    rw [show a.off+i / P.cellsOf e * P.cellsOf e+i % P.cellsOf e=a.off+i by omega] at p4
    simpa using p4
   ·simp only [List.mem_map,List.mem_range] at hb
    obtain ⟨i,hi,rfl⟩:=hb
    rw [hg i hi]
    exact (Classical.choose_spec (key i hi)).1
end
end Go.Abs
namespace Go.Abs
structure ET (P:Program) (ts te:TypeId) (n:Nat) {β:Type} (f:β→List Value):Prop where
 us:P.underlying ts=some (.slice te)
 sz:szT P te=some (n+1)
 ag:isAggT P te=some true
 by':∃ b,bytesT P te=some b∧b≤256
 hz:hasZero P te (n+1)=true
 len:∀ x,(f x).length=n+1
 one:∀ x,(f x).all oneCell=true
 noT:∀ x,(f x).all (fun v=>!isTuple v)=true
section
variable {P:Program} {ts te:TypeId} {n:Nat} {β:Type} {f:β→List Value}
def RdE (n:Nat) (f:β→List Value) (A:AW) (v:Value) (l:List β) (F:List Nat):Prop:=
 (l=[]∧F=[]∧∃ o c,v=.slice o 0 c)∨∃ r o c cs e g b ro,v=.slice (some ⟨r,o,none⟩) l.length c∧A.get r=some (.row cs e g b ro)∧g < A.next∧F=[g]∧∀ (i:Nat) p,l[i]? =some p→∃ rest,cs.drop (o+i * (n+1))=f p++rest
theorem RdE.keeps {A A':AW} {v:Value} {l:List β} {F S:List Nat} (h:RdE n f A v l F) (k:Keeps A A' S) (hd:∀ x∈F,x∉S):RdE n f A' v l F:=by
 rcases h with h | ⟨r,o,c,cs,e,g,b,ro,h1,h2,h3,rfl,h4⟩
 ·exact .inl h
 ·exact .inr ⟨r,o,c,cs,e,g,b,ro,h1,k.get r _ h2 h3 (hd g (by simp)),Nat.lt_of_lt_of_le h3 k.next,rfl,h4⟩
theorem RdE.slice {A:AW} {v:Value} {l:List β} {F:List Nat} (h:RdE n f A v l F):∃ o c,v=.slice o l.length c:=by
 rcases h with ⟨rfl,_,o,c,rfl⟩ | ⟨r,o,c,cs,e,g,b,ro,rfl,_⟩ <;> exact ⟨_,_,rfl⟩
theorem RdE.nil (A:AW) (o:Option Addr) (c:Nat):RdE n f A (.slice o 0 c) [] []:=.inl ⟨rfl,rfl,o,c,rfl⟩
theorem RdE.len (T:ET P ts te n f) {A B:AW} {v:Value} {l:List β} {F:List Nat} (h:RdE n f A v l F):lenA P B ts v=some (.int .i64 (l.length:Int)):=by
 obtain ⟨o,c,rfl⟩:=h.slice
 unfold lenA
 simp only [T.us]
theorem takeCells_app:∀ (a rest:List Value),a.all (fun v=>!isTuple v)=true→takeCells (a++rest) a.length=some a
 | [],rest,_=>by simp [takeCells]
 | v::a,rest,h=>by
  simp only [List.all_cons,Bool.and_eq_true,Bool.not_eq_true'] at h
  rw [List.cons_append,List.length_cons,takeCells_cons h.1,takeCells_app a rest h.2]
theorem ia_elem (T:ET P ts te n f) {b o len c i:Nat} (hi:i < len):indexAddrA P ts (.slice (some ⟨b,o,none⟩) len c) (.int .i64 (i:Int))=some (.pointer (some ⟨b,o+i * (n+1),none⟩)):=by
 show indexAddrA P ts _ (.int .i64 (.ofNat i))=_
 unfold indexAddrA
 simp only [T.us,blt_true.2 hi,cond_true,T.sz]
 unfold addA
 cases hb:Nat.beq (i * (n+1)) 0 with
 | true=>rw [cond_true,Nat.eq_of_beq_eq_true hb,Nat.add_zero]
 | false=>rfl
theorem RdE.at (T:ET P ts te n f) {A:AW} {v:Value} {l:List β} {F:List Nat} (h:RdE n f A v l F) {i:Nat} {p:β} (hi:l[i]? =some p):
  ∃ r o,indexAddrA P ts v (.int .i64 (i:Int))=some (.pointer (some ⟨r,o,none⟩))∧A.cells? ⟨r,o,none⟩ (n+1)=some (f p)∧loadP P A te (.pointer (some ⟨r,o,none⟩))=some (.agg ⟨f p⟩):=by
 rcases h with ⟨rfl,_⟩ | ⟨r,o,c,cs,e,g,b,ro,rfl,h2,h3,_,h4⟩
 ·simp at hi
 ·have hlt:i < l.length:=(List.getElem?_eq_some_iff.1 hi).1
  obtain ⟨rest,hr⟩:=h4 i p hi
  have hc:A.cells? ⟨r,o+i * (n+1),none⟩ (n+1)=some (f p):=by
   rw [cells_row h2,hr]
   have:=takeCells_app (f p) rest (T.noT p)
   rwa [T.len] at this
  refine ⟨r,o+i * (n+1),ia_elem T hlt,hc,?_⟩
  show loadVarA P A te _=_
  unfold loadVarA
  simp only [T.ag,T.sz,hc]
theorem cell_of {A:AW} {r o m:Nat} {cs:List Value} (h:A.cells? ⟨r,o,none⟩ (m+1)=some cs) {k:Nat} {v:Value} (hk:cs[k]? =some v):A.cell? ⟨r,o+k,none⟩=some v:=by
 unfold AW.cells? at h
 simp only at h
 unfold AW.cell?
 simp only
 split at h
 ·rename_i cs0 e g b ro hg
  have key:∀ (m o k:Nat) (l cs:List Value),takeCells (l.drop o) m=some cs→cs[k]? =some v→cellOf l (o+k)=some v:=by
   intro m
   induction m with
   | zero=>intro o k l cs h hk;unfold takeCells at h;simp at h;subst h;simp at hk
   | succ m ih=>
    intro o k l cs h hk
    cases hl:l.drop o with
    | nil=>rw [hl] at h;unfold takeCells at h;cases h
    | cons x r=>
     rw [hl] at h
     unfold takeCells at h
     cases hx:isTuple x with
     | true=>rw [hx] at h;cases h
     | false=>
      rw [hx,cond_false] at h
      cases hr:takeCells r m with
      | none=>rw [hr] at h;cases h
      | some q=>
       rw [hr] at h
       simp only [Option.some.injEq] at h
       subst h
       have hget:l[o]? =some x:=by
        have:(l.drop o)[0]? =some x:=by rw [hl];rfl
        rw [List.getElem?_drop,Nat.add_zero] at this
        exact this
       have hr':l.drop (o+1)=r:=by
        have:=drop_of_get hget
        rw [hl] at this
        simpa using this.symm
       cases k with
       | zero=>
        obtain rfl:x=v:=by simpa using hk
        exact cellOf_get hget hx
       | succ k=>
        have:=ih (o+1) k l q (by rw [hr'];exact hr) (by simpa using hk)
        rw [show o+(k+1)=o+1+k by omega]
        exact this
  exact key (m+1) o k cs0 cs h hk
 ·cases h
def OwnE (te:TypeId) (n:Nat) (f:β→List Value) (A:AW) (v:Value) (l:List β) (F:List Nat):Prop:=OwnG A te (n+1) v l.length (flat f l) F
theorem flat_apps (a b:List β):flat f (a++b)=flat f a++flat f b:=by simp [flat]
theorem OwnE.rd (hlen:∀ x,(f x).length=n+1) {A:AW} {v:Value} {l:List β} {F:List Nat} (h:OwnE te n f A v l F):RdE n f A v l F:=by
 rcases h with ⟨rfl,h2,_,rfl⟩ | ⟨b,g,rfl,h2,rfl⟩
 ·have:l=[]:=List.eq_nil_of_length_eq_zero h2
  subst this
  exact .nil _ _ _
 ·exact .inr ⟨b,0,_,_,_,g,0,false,rfl,h2.row,h2.ltf,rfl,fun i p hi=>by rw [Nat.zero_add];exact flat_drop hlen l i p hi⟩
theorem OwnE.keeps {A A':AW} {v:Value} {l:List β} {F S:List Nat} (h:OwnE te n f A v l F) (k:Keeps A A' S) (hd:∀ x∈F,x∉S):OwnE te n f A' v l F:=OwnG.keeps h k hd
theorem OwnE.nil (A:AW):OwnE te n f A (.slice none 0 0) [] []:=OwnG.nil _ _ _
theorem OwnE.lt {A:AW} {v:Value} {l:List β} {F:List Nat} (h:OwnE te n f A v l F):∀ x∈F,x < A.next:=OwnG.lt h
theorem OwnE.one {A:AW} {v:Value} {l:List β} {F:List Nat} (h:OwnE te n f A v l F):oneCell v=true∧isTuple v=false:=OwnG.one h
theorem src_elem (T:ET P ts te n f) {A:AW} {q:Nat} {p:β} {e:TypeId} (hq:Row1 A q (f p) e):sourceZ P A te ts (n+1) (.slice (some ⟨q,0,none⟩) 1 1)=some (0+1,f p):=by
 unfold sourceZ
 simp only [T.us]
 show sourceA A (n+1) (.slice (some ⟨q,0,none⟩) 1 1)=_
 unfold sourceA
 have:=takeCells_app (f p) [] (T.noT p)
 rw [List.append_nil,T.len] at this
 simp only [Nat.one_mul,cells_row hq.row,List.drop_zero,this]
theorem OwnE.append (T:ET P ts te n f) {A:AW} {v:Value} {l:List β} {F:List Nat} {p:β} {q:Nat} {e:TypeId} {K:Value→AW→Prop} (h:OwnE te n f A v l F) (hq:Row1 A q (f p) e) (hf:Fine A) (hA:A.next < maxId) (hl:l.length < 1000000)
  (hk:∀ v' A' F',OwnE te n f A' v' (l++[p]) F'→Keeps A A' F→(∀ x∈F',x∈F∨x=A.next)→A'.next=A.next+1→Fine A'→K v' A'):bothW (appendA P A ts ts v (.slice (some ⟨q,0,none⟩) 1 1)) K:=by
 have hroom:room=68719476736:=rfl
 obtain ⟨b,hb,hb2⟩:=T.by'
 have hse:sliceElemT P ts=some te:=by unfold sliceElemT;rw [T.us]
 have hm:(l.length+(0+1)) * b≤(l.length+(0+1)) * 256:=Nat.mul_le_mul_left _ hb2
 refine appendG (m:=0) (size:=n) hse T.sz hb T.hz (src_elem T hq) (by rw [T.len];omega) (T.one p) h hf hA (by omega) (by omega) fun v' A' F' h1 h2 h3 h4 h5=>?_
 refine hk v' A' F' ?_ h2 h3 h4 h5
 show OwnG A' te (n+1) v' (l++[p]).length (flat f (l++[p])) F'
 rw [List.length_append,flat_apps]
 have e:flat f [p]=f p:=by simp [flat]
 rw [e]
 exact h1
theorem rdE_arg (hlen:∀ x,(f x).length=n+1) {N:Nat} {gl:List (Nat × List Value × TypeId)} {L:List Arg} {j c:Nat} {l:List β} {p:Nat × Nat} {e:TypeId} (hk:N+L.length+1≤maxId) (h:L[j]? =some (p,some (flat f l,e))):
  RdE n f (wR N gl L) (.slice (some ⟨N+j,0,none⟩) l.length c) l [N+L.length]:=
 .inr ⟨N+j,0,c,flat f l,e,N+L.length,0,true,rfl,wR_arg (by omega) h,by show N+L.length < N+L.length+1;omega,rfl,fun i q hi=>by rw [Nat.zero_add];exact flat_drop hlen l i q hi⟩
end
section
variable {P:Program} {X:XNames} {W0:World} {m0:Inj P}
theorem put_obj {A:AW} {i:Nat} {o o':AO} (h:A.get i=some o) (hfam:famOf i o=i) (hlt:i < A.next) (hf:Fine A) (hA:A.next≤maxId):(A.put i o').get i=some o'∧Keeps A (A.put i o') [i]∧(A.put i o').next=A.next∧Fine (A.put i o'):=by
 have hg:∀ j,(A.put i o').get j=if j=i then some o' else A.get j:=fun j=>AW.get_put A i j _ (by omega)
 refine ⟨by rw [hg,if_pos rfl],⟨Nat.le_refl _,fun j q hj _ hn=>?_,fun f _ _=>rfl⟩,rfl,⟨hf.fams,fun j hj=>?_⟩⟩
 ·rw [hg,if_neg (fun e=>?_)]
  ·exact hj
  ·subst e
   rw [h] at hj
   cases hj
   exact hn (by rw [hfam];exact List.mem_singleton.2 rfl)
 ·have hj:A.next≤j:=hj
  rw [hg,if_neg (by omega)]
  exact hf.get j hj
structure LoopR (A:AW) (l:Nat) (r:ALoop):Prop where
 get:A.get l=some (.loop r)
 lt:l < A.next
theorem LoopR.keeps {A A':AW} {l:Nat} {r:ALoop} {S:List Nat} (h:LoopR A l r) (k:Keeps A A' S) (hn:l∉S):LoopR A' l r:=⟨k.get l _ h.get h.lt hn,Nat.lt_of_lt_of_le h.lt k.next⟩
structure DefR (A:AW) (D:Nat):Prop where
 get:A.get D=some (.deferred (some []))
 lt:D < A.next
theorem DefR.keeps {A A':AW} {D:Nat} {S:List Nat} (h:DefR A D) (k:Keeps A A' S) (hn:D∉S):DefR A' D:=⟨k.get D _ h.get h.lt hn,Nat.lt_of_lt_of_le h.lt k.next⟩
theorem loopW_made {A:AW} {fn:FuncId} {tm:Tm} {ps:List Tmp} {assign body:Code} {K:Nat→Nat→AW→Prop} (hf:Fine A) (hA:A.next+1 < maxId)
  (hk:∀ A',DefR A' A.next→LoopR A' (A.next+1) { state:=.ready,pending:=none,fn:=fn,tm:=tm,params:=ps,assign:=assign,body:=body,defers:=A.next }→Keeps A A' []→A'.next=A.next+2→Fine A'→K A.next (A.next+1) A'):
  loopW A fn tm ps assign body K:=by
 have e1:A.new (.deferred (some []))=some (A.next,A.push (.deferred (some []))):=by
  unfold AW.new
  simp only [blt_true.2 (show A.next < maxId by omega),cond_true]
  rfl
 have f1:=hf.push (.deferred (some [])) (show A.next < maxId by omega)
 have k1:=(AW.push_ext (A:=A) (.deferred (some [])) (show A.next < maxId by omega)).keeps hf
 have n1:(A.push (.deferred (some []))).next=A.next+1:=rfl
 generalize A.push (.deferred (some []))=A1 at e1 f1 k1 n1
 refine ⟨A.next,A1,A1.next,A1.push (.loop { state:=.ready,pending:=none,fn:=fn,tm:=tm,params:=ps,assign:=assign,body:=body,defers:=A.next }),e1,?_,?_⟩
 ·unfold AW.new
  simp only [blt_true.2 (show A1.next < maxId by omega),cond_true]
  rfl
 ·have k2:=(AW.push_ext (A:=A1) (.loop { state:=.ready,pending:=none,fn:=fn,tm:=tm,params:=ps,assign:=assign,body:=body,defers:=A.next }) (show A1.next < maxId by omega)).keeps f1
  have hD:DefR A1 A.next:=⟨by
   unfold AW.new at e1
   rw [blt_true.2 (show A.next < maxId by omega),cond_true,Option.some.injEq,Prod.mk.injEq] at e1
   rw [← e1.2]
   show (A.put A.next _).get A.next=_
   rw [AW.get_put A A.next A.next _ (by omega),if_pos rfl],by omega⟩
  rw [n1]
  refine hk _ (hD.keeps k2 (by simp)) ⟨?_,?_⟩ (k1.trans k2 (by simp)) ?_ (f1.push _ (by omega))
  ·rw [← n1,AW.push_get _ (by omega),if_pos rfl]
  ·rw [AW.push_next];omega
  ·rw [AW.push_next];omega
theorem beginW_made {A:AW} {l:Nat} {r:ALoop} {K:AW→Prop} (h:LoopR A l r) (hs:r.state=.ready) (hf:Fine A) (hA:A.next≤maxId) (hk:∀ A',LoopR A' l { r with state:=.busy }→Keeps A A' [l]→A'.next=A.next→Fine A'→K A'):beginW A l K:=by
 obtain ⟨h1,h2,h3,h4⟩:=put_obj (o':=.loop { r with state:=.busy }) h.get rfl h.lt hf hA
 exact ⟨r,h.get,hs,hk _ ⟨h1,h.lt⟩ h2 h3 h4⟩
theorem leaveW_made {A:AW} {l:Nat} {r:ALoop} {j:Option Code} {K:Value→AW→Prop} (h:LoopR A l r) (hf:Fine A) (hA:A.next≤maxId) (hk:∀ A',LoopR A' l { r with state:=if j.isNone then .ready else .done,pending:=j }→Keeps A A' [l]→A'.next=A.next→Fine A'→K (.bool j.isNone) A'):leaveW A l j K:=by
 obtain ⟨h1,h2,h3,h4⟩:=put_obj (o':=.loop { r with state:=if j.isNone then .ready else .done,pending:=j }) h.get rfl h.lt hf hA
 exact ⟨r,h.get,hk _ ⟨h1,h.lt⟩ h2 h3 h4⟩
theorem endLoopW_made {A:AW} {l:Nat} {r:ALoop} {p q:AW→Prop} (h:LoopR A l r) (hs:r.state≠ .busy) (hp:r.pending=none) (hf:Fine A) (hA:A.next≤maxId) (hk:∀ A',Keeps A A' [l]→A'.next=A.next→Fine A'→p A'):endLoopW A l p q:=by
 obtain ⟨h1,h2,h3,h4⟩:=put_obj (o':=.loop { r with state:=.exhausted }) h.get rfl h.lt hf hA
 exact ⟨r,h.get,hs,.inl ⟨hp,hk _ h2 h3 h4⟩⟩
theorem takeDs_one {A:AW} {D:Nat} {K:AW→Prop} (h:DefR A D) (hf:Fine A) (hA:A.next≤maxId) (hk:∀ A',Keeps A A' [D]→A'.next=A.next→Fine A'→K A'):takeDs [D] A K:=by
 obtain ⟨h1,h2,h3,h4⟩:=put_obj (o':=.deferred none) h.get rfl h.lt hf hA
 exact ⟨h.get,hk _ h2 h3 h4⟩
theorem yield_round {A:AW} {l:Nat} {r:ALoop} {args:List Value} {K:Value→AW→Prop} (h:LoopR A l r) (hn:args.length=r.params.length) (hk:RoundW P X W0 m0 l r.fn (setAll r.tm (r.params.zip args)) r.assign r.body A K):
  anW P X W0 m0 (dynA P X A (.func (.yield l) #[] #[]) args) K:=by
 refine .inr (.inr (.inl ⟨l,r.fn,setAll r.tm (r.params.zip args),r.assign,r.body,A,?_,hk⟩))
 unfold dynA invokeA
 simp only [h.get]
 rw [show (#[]:Array Value).toList++args=args from rfl]
 rw [show Nat.beq args.length r.params.length=true by rw [hn,Nat.beq_refl]]
 rfl
end
end Go.Abs
namespace Go.Abs
open Go.Sort
theorem closedV_succ:∀ (n:Nat) (v:Value),closedV n v=true→closedV (n+1) v=true:=by
 intro n
 induction n with
 | zero=>
  intro v h
  cases v with
  | pointer a=>cases a <;> simp [closedV] at h ⊢
  | slice a n c=>
   cases a with
   | some a=>simp [closedV] at h
   | none=>cases n <;> cases c <;> simp [closedV] at h ⊢
  | map r=>cases r <;> simp [closedV] at h ⊢
  | chan r=>cases r <;> simp [closedV] at h ⊢
  | _=>first | rfl | (simp [closedV] at h;done)
 | succ n ih=>
  intro v h
  cases v with
  | pointer a=>cases a <;> simp [closedV] at h ⊢
  | slice a n c=>
   cases a with
   | some a=>simp [closedV] at h
   | none=>cases n <;> cases c <;> simp [closedV] at h ⊢
  | map r=>cases r <;> simp [closedV] at h ⊢
  | chan r=>cases r <;> simp [closedV] at h ⊢
  | iface t v=>simp only [closedV] at h ⊢;exact ih v h
  | agg cs=>
   obtain ⟨l⟩:=cs
   simp only [closedV,List.all_eq_true] at h ⊢
   exact fun u hu=>ih u (h u hu)
  | tuple cs=>
   obtain ⟨l⟩:=cs
   simp only [closedV,List.all_eq_true] at h ⊢
   exact fun u hu=>ih u (h u hu)
  | func f a c=>
   obtain ⟨a⟩:=a
   obtain ⟨c⟩:=c
   simp only [closedV,Bool.and_eq_true,List.all_eq_true] at h ⊢
   exact ⟨h.1,fun u hu=>ih u (h.2.1 u hu),fun u hu=>ih u (h.2.2 u hu)⟩
  | _=>first | rfl | (simp [closedV] at h;done)
theorem low_grow {w w':World} (h:Low w w'):∃ q os,w'=grow (w.drewN q) os:=by
 obtain ⟨hp,tp,dr,o,out⟩:=w
 obtain ⟨hp',tp',dr',o',out'⟩:=w'
 obtain ⟨h1,h2,h3,h4,h5⟩:=h.below
 have hd:dr≤dr':=h.draws
 simp only at h1 h2 h3 h4 h5
 subst h1;subst h2;subst h3
 refine ⟨dr' - dr,hp'.extract hp.size hp'.size,?_⟩
 have hh:hp'=hp++hp'.extract hp.size hp'.size:=by
  apply Array.ext_getElem?
  intro i
  by_cases hi:i < hp.size
  ·rw [h5 i hi,Array.getElem?_append_left hi]
  ·rw [Array.getElem?_append_right (by omega),Array.getElem?_extract]
   by_cases hj:i < hp'.size
   ·rw [if_pos (by omega),show hp.size+(i - hp.size)=i by omega]
   ·rw [if_neg (by omega)]
    exact Array.getElem?_eq_none (by omega)
 show (⟨hp',tp',dr',o',out'⟩:World)=⟨hp++hp'.extract hp.size hp'.size,tp',dr+(dr' - dr),o',out'⟩
 rw [← hh,show dr+(dr' - dr)=dr' by omega]
section
variable {P:Program} {X:XNames} {W0:World} {m0:Inj P}
theorem cmp_lays (hP:POk P) (hn:P.globals.size≤maxId) {g:FuncId} {α:Type} [Inhabited α] {enc:α→List Value} {k:Nat} {cf:α→α→Int} (hcl:∀ x,(enc x).all (closedV 3)=true)
  (hwc:∀ (W:World) (x y:α),Wc P X W (mG P) g [.agg ⟨enc x⟩,.agg ⟨enc y⟩] (wG P.globals.size []) fun v _=>v=.int .i64 (cf x y)) (blk off size:Nat) (w:World):Go.Proofs.CmpLays P g #[] enc k cf blk off size w:=by
 intro m os dk _ x y
 have hok:okG P.globals.size []=true:=by
  unfold okG
  simp [ble_true.2 hn]
 have hc:∀ z,closedV 4 (.agg ⟨enc z⟩)=true:=fun z=>by
  simp only [closedV]
  exact hcl z
 have e:(#[.agg (enc x).toArray,.agg (enc y).toArray]++#[]:Array Value)=⟨[.agg ⟨enc x⟩,.agg ⟨enc y⟩]⟩:=by simp
 rw [e]
 refine (calls_of_wc hP (hwc _ x y) (relG hok (fun _ h=>by cases h)) gG (ownG hok) (VRels.self fun v hv=>?_)).mono ?_
 ·simp only [List.mem_cons,List.not_mem_nil,or_false] at hv
  rcases hv with rfl | rfl <;> exact closedV_rel 4 _ (hc _)
 ·rintro e w' ⟨v,v',m',A',rfl,rfl,h2,h3⟩
  cases h2
  exact ⟨rfl,low_grow (low_of h3 (ownG hok))⟩
theorem flat_flatK {α:Type} [Inhabited α] {enc:α→List Value} {k:Nat} (hk:∀ x,(enc x).length=k) (hk0:0 < k) (l:List α) {j:Nat} (hj:j < l.length * k):(flat enc l)[j]? =some ((flatK enc k l.toArray)[j]!):=by
 have hi:j / k < l.length:=(Nat.div_lt_iff_lt_mul hk0).2 hj
 have h1:=flat_get hk (List.getElem?_eq_getElem hi) (Nat.mod_lt j hk0)
 rw [Nat.div_add_mod' j k] at h1
 rw [h1,get_flatK enc k l.toArray j (by simpa using hj)]
 have e1:l.toArray[j / k]! =l[j / k]:=by
  rw [getElem!_pos l.toArray (j / k) (by simpa using hi)]
  simp
 rw [e1]
 have h2:j % k < (enc l[j / k]).length:=by rw [hk];exact Nat.mod_lt j hk0
 rw [getElem!_pos (enc l[j / k]) (j % k) h2,List.getElem?_eq_getElem h2]
theorem low_sorted {w w1:World} {blk off:Nat} {α:Type} [Inhabited α] {enc:α→List Value} {k:Nat} {cs cs2:Array Value} {e:TypeId} {fr:Nat × Nat} {l':List α} (hk:∀ x,(enc x).length=k) (hk0:0 < k) (h0:w.heap[blk]? =some (.cells cs e fr)) (hlen:off+l'.length * k≤cs.size)
  (g2:w1.heap[blk]? =some (.cells cs2 e fr)) (g3:cs2.size=cs.size) (g4:∀ j,(j < off∨off+l'.length * k≤j)→cs2[j]? =cs[j]?) (g5:∀ j,j < l'.length * k→cs2[off+j]? =(flat enc l')[j]?) (g6:∀ b,b≠blk→w1.heap[b]? =w.heap[b]?) (g7:w1.heap.size=w.heap.size)
  (g8:w1.os=w.os) (g9:w1.tape=w.tape) (g10:w1.output=w.output) (g11:w1.drawn=w.drawn) (n:Nat) (os:Array Obj):Low w1 (Go.Proofs.sortWorldK enc k w blk off n l'.toArray os):=by
 have hb:blk < w.heap.size:=(Array.getElem?_eq_some_iff.1 h0).1
 refine ⟨⟨g8.symm,g9.symm,g10.symm,?_,fun c hc=>?_⟩,?_⟩
 ·show w1.heap.size≤((w.heap.modify blk _)++os).size
  rw [g7];simp
 ·show ((w.heap.modify blk (onCells (putCells id off (flatK enc k l'.toArray))))++os)[c]? =w1.heap[c]?
  rw [Array.getElem?_append_left (by simp;omega),Array.getElem?_modify]
  by_cases hcb:blk=c
  ·subst hcb
   rw [if_pos rfl,h0,g2]
   simp only [Option.map_some,onCells,Option.some.injEq,Obj.cells.injEq,and_true]
   apply Array.ext_getElem?
   intro i
   unfold putCells
   rw [Array.getElem?_mapIdx]
   by_cases hi:off≤i∧i < off+l'.length * k
   ·have hics:i < cs.size:=by omega
    have h5:=g5 (i - off) (by omega)
    rw [show off+(i - off)=i by omega] at h5
    rw [h5,flat_flatK hk hk0 l' (by omega),Array.getElem?_eq_getElem hics]
    simp only [Option.map_some,size_flatK,List.size_toArray,id,Option.some.injEq]
    rw [if_pos hi]
   ·rw [g4 i (by omega)]
    cases hx:cs[i]? with
    | none=>rfl
    | some x=>
     simp only [Option.map_some,size_flatK,List.size_toArray,id,Option.some.injEq]
     rw [if_neg hi]
  ·rw [if_neg hcb,g6 c (fun h=>hcb h.symm)]
 ·show w1.drawn≤w.drawn+n
  omega
theorem setL_all:∀ (new:List Value) (pre cs:List Value),cs.length=new.length→setL (pre++cs) pre.length new=pre++new
 | [],pre,cs,h=>by
  have:cs=[]:=List.eq_nil_of_length_eq_zero h
  subst this;rfl
 | v::r,pre,[],h=>by simp at h
 | v::r,pre,c::cs,h=>by
  have hs:(pre++c::cs).set pre.length v=(pre++[v])++cs:=by simp
  have hl:pre.length+1=(pre++[v]).length:=by simp
  rw [setL,hs,hl,setL_all r (pre++[v]) cs (by simpa using h)]
  simp
theorem lib_sort {ρ:Go.Shelf.Ren} (L:Go.Proofs.SlLaysF0.n6 P ρ) {k:Nat} (hk0:0 < k) (aE:∀ w,(isAgg (ρ.t 24)).run P w=.ok true w) (zE:∀ w,(Go.sizeOf (ρ.t 24)).run P w=.ok k w) {α:Type} [Inhabited α] {enc:α→List Value} (hk:∀ x,(enc x).length=k)
  (h1:∀ x,∀ v∈enc x,v.oneCell'=true) (h1':∀ x,(enc x).all oneCell=true) (hcl:∀ x,(enc x).all (closedV 3)=true) {cf:α→α→Int} (hO:SWO (Go.Proofs.ltOf cf)) (hT:∀ x y,Go.Proofs.ltOf cf x y=false→Go.Proofs.ltOf cf y x=false→x=y) {g:FuncId}
  (eg:∀ args w,(callFunc g args).run P w=.ok (.enter g args) w) (hcmp:∀ blk off size w,Go.Proofs.CmpLays P g #[] enc k cf blk off size w)
  {A:AW} {e:TypeId} {v:Value} {l:List α} {F:List Nat} {K:Value→AW→Prop} (h:OwnG A e k v l.length (flat enc l) F) (hf:Fine A) (hlen:l.length < 4611686018427387904)
  (hK:∀ A',OwnG A' e k v l.length (flat enc (l.mergeSort fun x y=>!(Go.Proofs.ltOf cf y x))) F→Keeps A A' F→A'.next=A.next→Fine A'→K (.tuple #[]) A'):LibW P W0 m0 (ρ.f 6) [v,.func (.func g) #[] #[]] A K:=by
 intro m w args' r _ _ ha
 cases ha with
 | cons hv ht=>
 cases ht with
 | cons hfn ht=>
 cases ht
 have hfe:=closedV_eq 4 _ _ (show closedV 4 (.func (.func g) #[] #[])=true by rfl) hfn
 subst hfe
 have hcell:∀ x,∀ u∈enc x,closedV 3 u=true:=fun x u hu=>List.all_eq_true.1 (hcl x) u hu
 have hflat:∀ (l:List α),∀ u∈flat enc l,closedV 3 u=true:=fun l u hu=>by
  obtain ⟨b,_,hb⟩:=List.mem_flatMap.1 hu
  exact hcell b u hb
 have hone:∀ (l:List α),(flat enc l).all oneCell=true:=fun l=>by
  rw [List.all_eq_true]
  intro u hu
  obtain ⟨b,_,hb⟩:=List.mem_flatMap.1 hu
  exact List.all_eq_true.1 (h1' b) u hb
 rcases h with ⟨rfl,hn,hc,rfl⟩ | ⟨b,f,rfl,ho,rfl⟩
 ·
  have hl:l=[]:=List.eq_nil_of_length_eq_zero hn
  subst hl
  cases hv
  refine (Go.Proofs.AnyF.slices_SortFunc_none L none 0 _ w).mono ?_
  rintro e w' ⟨rfl,rfl⟩
  exact ⟨_,_,m,A,hK A (.inl ⟨rfl,rfl,by rw [List.mergeSort_nil];rfl,rfl⟩) (.refl _ _) rfl hf,rfl,.tuple .nil,.refl r _⟩
 ·
  have hpos:=ho.pos
  cases hv with
  | @slice a a' n c c' hc hn har=>
  have hc':0 < c':=by omega
  obtain ⟨_,hs',d,hm,hoff⟩:=har hc'
  obtain ⟨blk,off,sp⟩:=a'
  simp only at hs' hm hoff
  subst hs'
  have hoff:off=d:=by omega
  subst hoff
  obtain ⟨o',q1,cs',fr,rfl,hrow⟩:=r.obj b _ blk off ho.row hm
  have hlcs:(flat enc l).length=l.length * k:=flat_length hk l
  have hcells:∀ j,j < l.length * k→cs'[off+j]? =(flat enc l)[j]? ∧¬ (fr.1≤off+j∧off+j < fr.2):=by
   intro j hj
   have hjl:j < (flat enc l).length:=by omega
   obtain ⟨u,k1,k2,k3⟩:=hrow j _ (List.getElem?_eq_getElem hjl)
   have hm:=List.getElem_mem hjl
   have hcu:=hflat l _ hm
   have hcu4:closedV 4 (flat enc l)[j]=true:=closedV_succ 3 _ hcu
   have hnt:isTuple (flat enc l)[j]=false:=by
    have:=List.all_eq_true.1 (hone l) _ hm
    cases hx:(flat enc l)[j] <;> first | rfl | (rw [hx] at this;cases this)
   rw [k1,closedV_eq 4 _ _ hcu4 (k2 hnt),List.getElem?_eq_getElem hjl]
   exact ⟨rfl,k3 rfl⟩
  have hsize:off+l.length * k≤cs'.size:=by
   have:0 < l.length * k:=Nat.mul_pos hpos hk0
   have h2:=(hcells (l.length * k - 1) (by omega)).1
   rw [List.getElem?_eq_getElem (by omega:l.length * k - 1 < (flat enc l).length)] at h2
   have:=(Array.getElem?_eq_some_iff.1 h2).1
   omega
  have hH:HoldsK enc k w blk off l.toArray:=by
   intro j hj
   have hj:j < l.length * k:=by simpa using hj
   obtain ⟨h2,h3⟩:=hcells j hj
   have h4:=flat_flatK hk hk0 l hj
   refine ⟨?_,?_⟩
   ·simp only [World.cell?,q1,Option.isSome_none,Bool.false_eq_true,if_false]
    rw [h2,h4];rfl
   ·simp only [World.frozen?,q1]
    cases hx:(decide (fr.1≤off+j)&&decide (off+j < fr.2)) with
    | false=>rfl
    | true=>simp at hx;exact (h3 (by simpa using hx)).elim
  have hblk:blk < w.heap.size:=(Array.getElem?_eq_some_iff.1 q1).1
  have hcon:=Go.Proofs.AnyQ.slices_SortFunc_total L k aE zE enc hk h1 cf hO g #[] blk off c' l.toArray w eg (hcmp _ _ _ _) hH hblk (by simpa using hlen) hT
  simp only [List.size_toArray] at hcon
  refine hcon.mono ?_
  rintro e2 w' ⟨rfl,nn,os,rfl⟩
  generalize hl':(l.mergeSort fun x y=>!(Go.Proofs.ltOf cf y x))=l'
  rw [hl'] at hK
  have hl'len:l'.length=l.length:=by rw [← hl'];exact List.length_mergeSort _
  have hnl:(flat enc l').length=l.length * k:=by rw [flat_length hk,hl'len]
  have hbl:=hf.lt ho.row
  have hml:∀ i∈A.members f,i < maxId:=fun i hi=>by have:=(ho.mem i hi).2.1;have:=r.lim;omega
  obtain ⟨A',k1,k2,k3,k4,k5,k6⟩:=setCells_fam (new:=flat enc l') (off:=0) ho.row hml (by rw [hnl,hlcs];omega) (hone l') (by have:=r.lim;omega)
  have hmem:∀ g,A'.members g=A.members g:=mem_of_fams k6
  have hset:setL (flat enc l) 0 (flat enc l')=flat enc l':=setL_all (flat enc l') [] (flat enc l) (by rw [hnl,hlcs])
  rw [hset] at k2
  obtain ⟨w1,s1,s2,s3⟩:=Ev.setCells (i:=0) (a':=⟨blk,off,none⟩) r (VRels.self (m:=m) fun u hu=>closedV_rel 4 u (closedV_succ 3 _ (hflat l' u hu))) (fun _=>⟨rfl,rfl,off,hm,rfl⟩) k1
  obtain ⟨w2,cs2,g1,g2,g3,g4,g5,g6,g7,g8,g9,g10,g11⟩:=storeCells_row (P:=P) blk e fr ⟨blk,off,none⟩ rfl rfl (flat enc l') 0 cs' w q1 (by show off+0+_≤_;rw [hnl];omega)
   (fun j hj=>by rw [hnl] at hj;show ¬ (fr.1≤off+0+j∧off+0+j < fr.2);rw [Nat.add_zero];exact (hcells j hj).2) (fun u hu=>List.all_eq_true.1 (hone l') u hu)
  rw [s1] at g1
  cases g1
  have hlow:Low w1 (Go.Proofs.sortWorldK enc k w blk off nn l'.toArray os):=low_sorted hk hk0 q1 (by rw [hl'len];exact hsize) g2 g3 (fun j hj=>g4 j (by show j < off+0∨off+0+_≤j;rw [hnl];rw [hl'len] at hj;omega)) (fun j hj=>by
   have:=g5 j (by rw [hnl];rw [hl'len] at hj;exact hj)
   rw [show (⟨blk,off,none⟩:Addr).off+0+j=off+j by rfl] at this
   exact this) g6 g7 g8 g9 g10 g11 nn os
  refine ⟨_,_,m,A',hK A' (.inr ⟨b,f,rfl,⟨ho.pos,k2,by rw [hnl],Nat.zero_le _,Nat.zero_le _,by rw [k5];exact ho.ltf,fun i hi=>?_⟩,rfl⟩) ⟨by rw [k5];exact Nat.le_refl _,fun i o hi _ hn=>?_,fun g _ _=>hmem g⟩ k5 ⟨fun i hi=>?_,fun i hi=>?_⟩,rfl,.tuple .nil,(s2.low (Nat.le_refl _)).trans (EvL.grow s2.rel hlow _)⟩
  ·rw [hmem] at hi
   obtain ⟨_,h2,cs',e',b',ro',h3⟩:=ho.mem i hi
   obtain ⟨cs2,h4⟩:=k4 i _ _ _ _ _ h3
   exact ⟨Nat.zero_le _,by rw [k5];exact h2,cs2,e',b',ro',h4⟩
  ·rw [k3 i (fun e=>?_) (fun hm=>?_)]
   ·exact hi
   ·subst e
    rw [ho.row] at hi
    cases hi
    exact hn (List.mem_singleton.2 rfl)
   ·obtain ⟨_,_,cs',e',b',ro',h3⟩:=ho.mem i hm
    rw [hi] at h3
    cases h3
    exact hn (List.mem_singleton.2 rfl)
  ·rw [k6];exact hf.fams i (by rw [k5] at hi;exact hi)
  ·rw [k5] at hi
   rw [k3 i (fun e=>by omega) (fun hm=>by have:=(ho.mem i hm).2.1;omega)]
   exact hf.get i hi
end
end Go.Abs
namespace Go.Abs
structure Nm where
 f:Nat
 g:ByteArray
 b:ByteArray
instance:Inhabited Nm:=⟨⟨0,.empty,.empty⟩⟩
def Nm.cells (p:Nm):List Value:=[.int .u32 (p.f:Int),.string p.g,.string p.b]
def cmpI (a b:Int):Int:=if a < b then -1 else if b < a then 1 else 0
def orL:List Int→Int
 | []=>0
 | a::r=>if a≠0 then a else orL r
def cmpS (a b:ByteArray):Int:=Go.Lib.compareBytes a.data.toList b.data.toList
def xcmp (p q:Nm):Int:=orL [cmpI (p.f:Int) (q.f:Int),cmpS p.g q.g,cmpS p.b q.b]
theorem cb_refl:∀ a:List UInt8,Go.Lib.compareBytes a a=0
 | []=>rfl
 | a::xs=>by simp [Go.Lib.compareBytes,cb_refl xs]
theorem cb_eq:∀ {a b:List UInt8},Go.Lib.compareBytes a b=0→a=b
 | [],[],_=>rfl
 | [],_::_,h=>by simp [Go.Lib.compareBytes] at h
 | _::_,[],h=>by simp [Go.Lib.compareBytes] at h
 | a::xs,b::ys,h=>by
  simp only [Go.Lib.compareBytes] at h
  split at h
  ·simp at h
  ·split at h
   ·simp at h
   ·rename_i h1 h2
    have hab:a=b:=by
     have h1:=UInt8.not_lt.1 h1
     have h2:=UInt8.not_lt.1 h2
     exact UInt8.le_antisymm h2 h1
    rw [hab,cb_eq h]
theorem cb_swap:∀ (a b:List UInt8),Go.Lib.compareBytes a b= -Go.Lib.compareBytes b a
 | [],[]=>rfl
 | [],_::_=>rfl
 | _::_,[]=>rfl
 | a::xs,b::ys=>by
  simp only [Go.Lib.compareBytes]
  by_cases h1:a < b
  ·have h2:¬ b < a:=fun h=>UInt8.lt_irrefl a (UInt8.lt_trans h1 h)
   rw [if_pos h1,if_neg h2,if_pos h1]
  ·by_cases h2:b < a
   ·rw [if_neg h1,if_pos h2,if_pos h2];rfl
   ·rw [if_neg h1,if_neg h2,if_neg h2,if_neg h1,cb_swap xs ys]
theorem cb_trans:∀ {a b c:List UInt8},Go.Lib.compareBytes a b < 0→Go.Lib.compareBytes b c < 0→Go.Lib.compareBytes a c < 0
 | [],[],_,h,_=>by simp [Go.Lib.compareBytes] at h
 | [],_::_,[],_,h=>by simp [Go.Lib.compareBytes] at h
 | [],_::_,_::_,_,_=>by simp [Go.Lib.compareBytes]
 | _::_,[],_,h,_=>by simp [Go.Lib.compareBytes] at h
 | _::_,_::_,[],_,h=>by simp [Go.Lib.compareBytes] at h
 | a::xs,b::ys,c::zs,h1,h2=>by
  simp only [Go.Lib.compareBytes] at h1 h2 ⊢
  by_cases p1:a < b
  ·by_cases p2:b < c
   ·rw [if_pos (UInt8.lt_trans p1 p2)];decide
   ·rw [if_neg p2] at h2
    by_cases p3:c < b
    ·rw [if_pos p3] at h2;exact absurd h2 (by decide)
    ·have:b=c:=UInt8.le_antisymm (UInt8.not_lt.1 p3) (UInt8.not_lt.1 p2)
     subst this
     rw [if_pos p1];decide
  ·rw [if_neg p1] at h1
   by_cases p3:b < a
   ·rw [if_pos p3] at h1;exact absurd h1 (by decide)
   ·have:a=b:=UInt8.le_antisymm (UInt8.not_lt.1 p3) (UInt8.not_lt.1 p1)
    subst this
    rw [if_neg p3] at h1
    by_cases p2:a < c
    ·rw [if_pos p2];decide
    ·rw [if_neg p2] at h2 ⊢
     by_cases p4:c < a
     ·rw [if_pos p4] at h2;exact absurd h2 (by decide)
     ·rw [if_neg p4] at h2 ⊢
      exact cb_trans h1 h2
theorem cmpI_swap (a b:Int):cmpI a b= -cmpI b a:=by
 unfold cmpI
 split <;> split <;> first | rfl | omega
theorem cmpI_neg {a b:Int}:cmpI a b < 0↔a < b:=by
 unfold cmpI
 split
 ·omega
 ·split <;> omega
theorem cmpI_zero {a b:Int}:cmpI a b=0↔a=b:=by
 unfold cmpI
 split
 ·omega
 ·split <;> omega
theorem ba_eq {a b:ByteArray} (h:a.data.toList=b.data.toList):a=b:=by
 obtain ⟨⟨x⟩⟩:=a
 obtain ⟨⟨y⟩⟩:=b
 have h:x=y:=h
 rw [h]
theorem cmpS_zero {a b:ByteArray}:cmpS a b=0↔a=b:=⟨fun h=>ba_eq (cb_eq h),fun h=>by subst h;exact cb_refl _⟩
theorem cmpS_swap (a b:ByteArray):cmpS a b= -cmpS b a:=cb_swap _ _
theorem cmpS_trans {a b c:ByteArray} (h1:cmpS a b < 0) (h2:cmpS b c < 0):cmpS a c < 0:=cb_trans h1 h2
theorem xcmp_def (p q:Nm):xcmp p q=if cmpI (p.f:Int) (q.f:Int)≠0 then cmpI (p.f:Int) (q.f:Int) else if cmpS p.g q.g≠0 then cmpS p.g q.g else cmpS p.b q.b:=by
 unfold xcmp
 simp only [orL]
 split
 ·rfl
 ·split
  ·rfl
  ·split
   ·rfl
   ·rename_i h;exact (Classical.not_not.1 h).symm
theorem xcmp_zero {p q:Nm}:xcmp p q=0↔p=q:=by
 rw [xcmp_def]
 constructor
 ·intro h
  split at h
  ·exact absurd h (by assumption)
  ·split at h
   ·exact absurd h (by assumption)
   ·rename_i h1 h2
    have k1:=cmpI_zero.1 (Classical.not_not.1 h1)
    have k2:=cmpS_zero.1 (Classical.not_not.1 h2)
    have k3:=cmpS_zero.1 h
    clear h h1 h2
    obtain ⟨f,g,b⟩:=p
    obtain ⟨f',g',b'⟩:=q
    simp only at k1 k2 k3
    have k1:f=f':=by omega
    subst k1;subst k2;subst k3;rfl
 ·rintro rfl
  rw [if_neg (by rw [cmpI_zero.2 rfl];simp),if_neg (by rw [cmpS_zero.2 rfl];simp)]
  exact cmpS_zero.2 rfl
theorem xcmp_swap (p q:Nm):xcmp p q= -xcmp q p:=by
 rw [xcmp_def,xcmp_def,cmpI_swap (p.f:Int),cmpS_swap p.g,cmpS_swap p.b]
 generalize cmpI (q.f:Int) (p.f:Int)=x
 generalize cmpS q.g p.g=y
 by_cases h1:x=0 <;> by_cases h2:y=0 <;> simp [h1,h2]
theorem xcmp_neg {p q:Nm}:xcmp p q < 0↔(p.f < q.f∨(p.f=q.f∧(cmpS p.g q.g < 0∨(p.g=q.g∧cmpS p.b q.b < 0)))):=by
 rw [xcmp_def]
 by_cases h1:(p.f:Int)=q.f
 ·rw [if_neg (by rw [cmpI_zero.2 h1];simp)]
  have h1':p.f=q.f:=by omega
  by_cases h2:p.g=q.g
  ·rw [if_neg (by rw [cmpS_zero.2 h2];simp)]
   constructor
   ·exact fun h=>.inr ⟨h1',.inr ⟨h2,h⟩⟩
   ·rintro (h | ⟨_,h | ⟨_,h⟩⟩)
    ·omega
    ·rw [cmpS_zero.2 h2] at h;omega
    ·exact h
  ·have h2':cmpS p.g q.g≠0:=fun h=>h2 (cmpS_zero.1 h)
   rw [if_pos h2']
   constructor
   ·exact fun h=>.inr ⟨h1',.inl h⟩
   ·rintro (h | ⟨_,h | ⟨h,_⟩⟩)
    ·omega
    ·exact h
    ·exact absurd h h2
 ·rw [if_pos (fun h=>h1 (cmpI_zero.1 h)),cmpI_neg]
  constructor
  ·exact fun h=>.inl (by omega)
  ·rintro (h | ⟨h,_⟩) <;> omega
theorem xcmp_trans {p q r:Nm} (h1:xcmp p q < 0) (h2:xcmp q r < 0):xcmp p r < 0:=by
 rw [xcmp_neg] at *
 rcases h1 with h1 | ⟨e1,h1⟩
 ·rcases h2 with h2 | ⟨e2,_⟩ <;> exact .inl (by omega)
 ·rcases h2 with h2 | ⟨e2,h2⟩
  ·exact .inl (by omega)
  ·refine .inr ⟨by omega,?_⟩
   rcases h1 with h1 | ⟨g1,h1⟩
   ·rcases h2 with h2 | ⟨g2,_⟩
    ·exact .inl (cmpS_trans h1 h2)
    ·exact .inl (by rw [← g2];exact h1)
   ·rcases h2 with h2 | ⟨g2,h2⟩
    ·exact .inl (by rw [g1];exact h2)
    ·exact .inr ⟨g1.trans g2,cmpS_trans h1 h2⟩
theorem lt_iff {p q:Nm}:Go.Proofs.ltOf xcmp p q=true↔xcmp p q < 0:=by unfold Go.Proofs.ltOf;simp
theorem lt_not {p q:Nm}:Go.Proofs.ltOf xcmp p q=false↔0≤xcmp p q:=by unfold Go.Proofs.ltOf;simp
theorem xcmp_swo:Go.Sort.SWO (Go.Proofs.ltOf xcmp) where
 irrefl x:=by rw [lt_not,xcmp_zero.2 rfl];exact Int.le_refl _
 trans x y z h1 h2:=lt_iff.2 (xcmp_trans (lt_iff.1 h1) (lt_iff.1 h2))
 ntrans x y z h1 h2:=by
  rw [lt_not] at *
  rw [xcmp_swap] at h1 h2 ⊢
  by_cases e1:xcmp y x=0
  ·have:=xcmp_zero.1 e1;subst this;exact h2
  ·by_cases e2:xcmp z y=0
   ·have:=xcmp_zero.1 e2;subst this;exact h1
   ·have:=xcmp_trans (show xcmp z y < 0 by omega) (show xcmp y x < 0 by omega)
    omega
theorem xcmp_total (x y:Nm) (h1:Go.Proofs.ltOf xcmp x y=false) (h2:Go.Proofs.ltOf xcmp y x=false):x=y:=by
 rw [lt_not] at h1 h2
 rw [xcmp_swap] at h2
 exact xcmp_zero.1 (by omega)
def srt (l:List Nm):List Nm:=l.mergeSort fun x y=>!(Go.Proofs.ltOf xcmp y x)
theorem le_not {x y:Nm}:(!(Go.Proofs.ltOf xcmp y x))=true↔xcmp x y≤0:=by
 rw [Bool.not_eq_true',lt_not,xcmp_swap]
 omega
theorem srt_pairwise (l:List Nm):(srt l).Pairwise fun x y=>xcmp x y≤0:=by
 have h:=List.pairwise_mergeSort (le:=fun x y:Nm=>!(Go.Proofs.ltOf xcmp y x)) (fun a b c h1 h2=>?_) (fun a b=>?_) l
 ·exact h.imp fun h=>le_not.1 h
 ·rw [le_not] at *
  by_cases e1:xcmp a b=0
  ·have:=xcmp_zero.1 e1;subst this;exact h2
  ·by_cases e2:xcmp b c=0
   ·have:=xcmp_zero.1 e2;subst this;exact h1
   ·have:=xcmp_trans (show xcmp a b < 0 by omega) (show xcmp b c < 0 by omega)
    omega
 ·rw [Bool.or_eq_true,le_not,le_not,xcmp_swap b a]
  omega
theorem asc_ext:∀ {a b:List Nm},a.Pairwise (fun x y=>xcmp x y < 0)→b.Pairwise (fun x y=>xcmp x y < 0)→(∀ k,k∈a↔k∈b)→a=b
 | [],[],_,_,_=>rfl
 | [],y::b,_,_,h=>by have:=(h y).2 List.mem_cons_self;cases this
 | x::a,[],_,_,h=>by have:=(h x).1 List.mem_cons_self;cases this
 | x::a,y::b,ha,hb,h=>by
  rw [List.pairwise_cons] at ha hb
  have irr:∀ z:Nm,¬ xcmp z z < 0:=fun z=>by rw [xcmp_zero.2 rfl];exact Int.lt_irrefl 0
  have hxy:x=y:=by
   rcases List.mem_cons.1 ((h x).1 List.mem_cons_self) with h1 | h1
   ·exact h1
   ·rcases List.mem_cons.1 ((h y).2 List.mem_cons_self) with h2 | h2
    ·exact h2.symm
    ·exact absurd (xcmp_trans (hb.1 x h1) (ha.1 y h2)) (irr y)
  subst hxy
  rw [asc_ext ha.2 hb.2 fun k=>?_]
  constructor
  ·intro hk
   rcases List.mem_cons.1 ((h k).1 (List.mem_cons_of_mem _ hk)) with h1 | h1
   ·subst h1;exact absurd (ha.1 k hk) (irr k)
   ·exact h1
  ·intro hk
   rcases List.mem_cons.1 ((h k).2 (List.mem_cons_of_mem _ hk)) with h1 | h1
   ·subst h1;exact absurd (hb.1 k hk) (irr k)
   ·exact h1
theorem mem_srt {l:List Nm} {k:Nm}:k∈srt l↔k∈l:=(List.mergeSort_perm l _).mem_iff
def gl (p:Nm):Nm:=⟨p.f,p.g,⟨⟨[]⟩⟩⟩
def ahead:List Nm→Nm→Nat
 | [],_=>0
 | y::a,x=>if xcmp y x < 0 then ahead a x+1 else 0
noncomputable def addN (a:List Nm) (x:Nm):List Nm:=@ite _ (a[ahead a x]? =some x) (Classical.propDecidable _) a (a.take (ahead a x)++x::a.drop (ahead a x))
theorem ahead_le:∀ (a:List Nm) (x:Nm),ahead a x≤a.length
 | [],_=>Nat.le_refl _
 | y::a,x=>by
  unfold ahead
  split
  ·have:=ahead_le a x
   rw [List.length_cons]
   omega
  ·exact Nat.zero_le _
theorem ahead_lt:∀ {a:List Nm} {x y:Nm} {i:Nat},i < ahead a x→a[i]? =some y→xcmp y x < 0
 | [],x,y,i,hi,_=>by unfold ahead at hi;omega
 | z::a,x,y,i,hi,hy=>by
  unfold ahead at hi
  split at hi
  ·rename_i hz
   cases i with
   | zero=>
    obtain rfl:z=y:=by simpa using hy
    exact hz
   | succ i=>exact ahead_lt (a:=a) (i:=i) (by omega) (by simpa using hy)
  ·omega
theorem ahead_at:∀ {a:List Nm} {x y:Nm},a[ahead a x]? =some y→¬ xcmp y x < 0
 | [],x,y,hy=>by cases hy
 | z::a,x,y,hy=>by
  unfold ahead at hy
  split at hy
  ·exact ahead_at (a:=a) (by simpa using hy)
  ·rename_i hz
   obtain rfl:z=y:=by simpa using hy
   exact hz
theorem ahead_take {a:List Nm} {x y:Nm} (hy:y∈a.take (ahead a x)):xcmp y x < 0:=by
 obtain ⟨i,hi⟩:=List.mem_iff_getElem?.1 hy
 rw [List.getElem?_take] at hi
 split at hi
 ·rename_i h
  exact ahead_lt h hi
 ·cases hi
theorem ahead_is {a:List Nm} {x:Nm} {n:Nat} (hn:n≤a.length) (h1:∀ i y,i < n→a[i]? =some y→xcmp y x < 0) (h2:∀ y,a[n]? =some y→¬ xcmp y x < 0):n=ahead a x:=by
 have h3:=ahead_le a x
 rcases Nat.lt_trichotomy n (ahead a x) with h | h | h
 ·obtain ⟨y,hy⟩:∃ y,a[n]? =some y:=⟨_,List.getElem?_eq_getElem (by omega)⟩
  exact absurd (ahead_lt h hy) (h2 y hy)
 ·exact h
 ·obtain ⟨y,hy⟩:∃ y,a[ahead a x]? =some y:=⟨_,List.getElem?_eq_getElem (by omega)⟩
  exact absurd (h1 _ y h hy) (ahead_at hy)
theorem addN_asc {a:List Nm} {x:Nm} (h:a.Pairwise fun x y=>xcmp x y < 0):(addN a x).Pairwise (fun x y=>xcmp x y < 0)∧∀ k,k∈addN a x↔k∈a∨k=x:=by
 unfold addN
 by_cases hat:a[ahead a x]? =some x
 ·rw [if_pos hat]
  refine ⟨h,fun k=>⟨.inl,fun hk=>?_⟩⟩
  rcases hk with hk | rfl
  ·exact hk
  ·exact List.mem_of_getElem? hat
 ·rw [if_neg hat]
  have hsplit:a=a.take (ahead a x)++a.drop (ahead a x):=(List.take_append_drop _ _).symm
  have hpw:=h
  rw [hsplit,List.pairwise_append] at hpw
  obtain ⟨p1,p2,p3⟩:=hpw
  have lo:∀ y∈a.take (ahead a x),xcmp y x < 0:=fun y hy=>ahead_take hy
  have hi:∀ y∈a.drop (ahead a x),xcmp x y < 0:=fun y hy=>by
   cases hd:a.drop (ahead a x) with
   | nil=>rw [hd] at hy;cases hy
   | cons z r=>
    have hz:a[ahead a x]? =some z:=by
     have:(a.drop (ahead a x))[0]? =some z:=by rw [hd];rfl
     rw [List.getElem?_drop,Nat.add_zero] at this
     exact this
    have hzx:xcmp x z < 0:=by
     have h1:=ahead_at hz
     have h2:xcmp z x≠0:=fun e=>hat (by rw [hz,xcmp_zero.1 e])
     have h3:=xcmp_swap x z
     omega
    rw [hd] at hy p2
    rcases List.mem_cons.1 hy with rfl | hy
    ·exact hzx
    ·exact xcmp_trans hzx ((List.pairwise_cons.1 p2).1 y hy)
  refine ⟨?_,fun k=>?_⟩
  ·rw [List.pairwise_append,List.pairwise_cons]
   refine ⟨p1,⟨hi,p2⟩,fun y hy z hz=>?_⟩
   rcases List.mem_cons.1 hz with rfl | hz
   ·exact lo y hy
   ·exact p3 y hy z hz
  ·rw [List.mem_append,List.mem_cons]
   conv=>rhs;rw [hsplit,List.mem_append]
   constructor
   ·rintro (h | h | h)
    ·exact .inl (.inl h)
    ·exact .inr h
    ·exact .inl (.inr h)
   ·rintro ((h | h) | h)
    ·exact .inl h
    ·exact .inr (.inr h)
    ·exact .inr (.inl h)
noncomputable def keqN (a b:Nm):Bool:=@decide (a=b) (Classical.propDecidable _)
theorem keqN_iff {a b:Nm}:keqN a b=true↔a=b:=by unfold keqN;exact @decide_eq_true_iff _ (Classical.propDecidable _)
end Go.Abs
namespace Go.Proofs.YtdpdajpiadohjaaGreatDoor
open Go.Abs
theorem fa_46_0 (b o:Nat):fieldAddrA Tryz.prog 46 (.pointer (some ⟨b,o,none⟩)) 0=some (.pointer (some ⟨b,o,none⟩)):=by kernel_rfl
theorem fa_46_1 (b o:Nat):fieldAddrA Tryz.prog 46 (.pointer (some ⟨b,o,none⟩)) 1=some (.pointer (some ⟨b,o+1,none⟩)):=by kernel_rfl
theorem fa_46_2 (b o:Nat):fieldAddrA Tryz.prog 46 (.pointer (some ⟨b,o,none⟩)) 2=some (.pointer (some ⟨b,o+2,none⟩)):=by kernel_rfl
theorem ld_3 (A:AW) (a:Addr):loadP Tryz.prog A 3 (.pointer (some a))=A.cell? a:=by kernel_rfl
theorem ld_9 (A:AW) (a:Addr):loadP Tryz.prog A 9 (.pointer (some a))=A.cell? a:=by kernel_rfl
theorem ld_28 (A:AW) (a:Addr):loadP Tryz.prog A 28 (.pointer (some a))=A.cell? a:=by kernel_rfl
theorem ld_44 (A:AW) (a:Addr):loadP Tryz.prog A 44 (.pointer (some a))=A.cell? a:=by kernel_rfl
theorem ld_46 (A:AW) (a:Addr):loadP Tryz.prog A 46 (.pointer (some a))=(match A.cells? a 3 with | some l=>some (.agg ⟨l⟩) | none=>none):=by kernel_rfl
theorem st_9 (A:AW) (a:Addr) (v:Value):storeP Tryz.prog A 9 (.pointer (some a)) v=(bif Nat.beq v.cells.toList.length 1 then A.setCells a v.cells.toList else none):=by kernel_rfl
theorem st_28 (A:AW) (a:Addr) (v:Value):storeP Tryz.prog A 28 (.pointer (some a)) v=(bif Nat.beq v.cells.toList.length 1 then A.setCells a v.cells.toList else none):=by kernel_rfl
theorem st_46 (A:AW) (a:Addr) (v:Value):storeP Tryz.prog A 46 (.pointer (some a)) v=(bif Nat.beq v.cells.toList.length 3 then A.setCells a v.cells.toList else none):=by kernel_rfl
theorem ia_143 (b o n c i:Nat) (k:IntKind):indexAddrA Tryz.prog 143 (.slice (some ⟨b,o,none⟩) n c) (.int k (.ofNat i))=(bif Nat.blt i n then some (.pointer (some (addA ⟨b,o,none⟩ (i * 1)))) else none):=by kernel_rfl
theorem ln_9 (A:AW) (s:ByteArray):lenA Tryz.prog A 9 (.string s)=some (.int .i64 s.data.toList.length):=by kernel_rfl
theorem ln_28 (A:AW) (a:Option Addr) (n c:Nat):lenA Tryz.prog A 28 (.slice a n c)=some (.int .i64 n):=by kernel_rfl
theorem ln_143 (A:AW) (a:Option Addr) (n c:Nat):lenA Tryz.prog A 143 (.slice a n c)=some (.int .i64 n):=by kernel_rfl
theorem ust9:Tryz.prog.underlying 9=some .string:=by kernel_rfl
theorem zero46:zeroT Tryz.prog 46=some (.agg #[.int .u32 0,.string .empty,.string .empty]):=by kernel_rfl
theorem bs143 (A:AW) (a b c:Int):buildSliceA Tryz.prog A 143 3 [(0,.int .i64 a),(1,.int .i64 b),(2,.int .i64 c)]=(match A.newRow [.int .i64 a,.int .i64 b,.int .i64 c] 3 with | some (a,w')=>.ok (.slice (some a) 3 3) w' | none=>.fail "buildSlice new"):=by kernel_rfl
theorem bs28 (A:AW) (f:Int) (g b:ByteArray):buildSliceA Tryz.prog A 28 1 [(0,.agg ⟨[.int .u32 f,.string g,.string b]⟩)]=(match A.newRow [.int .u32 f,.string g,.string b] 46 with | some (a,w')=>.ok (.slice (some a) 1 1) w' | none=>.fail "buildSlice new"):=by kernel_rfl
theorem fresh143 (a b c:Int):freshOf Tryz.prog (evalT (Tm.fill ⟨3,.nil⟩ 0 [.int .i64 a,.int .i64 b,.int .i64 c])) (.buildSlice 143 3 #[(0,.tmp 0),(1,.tmp 1),(2,.tmp 2)])=some (.slice [.int .i64 a,.int .i64 b,.int .i64 c] 3 3):=by kernel_rfl
theorem ba46_2 (f:Int) (g:ByteArray):buildA Tryz.prog 46 [(0,.int .u32 f),(1,.string g)]=some (.agg ⟨[.int .u32 f,.string g,.string ⟨⟨[]⟩⟩]⟩):=by kernel_rfl
theorem ft46:quiet Tryz.prog (underlying 46)=some (.struct (Tryz.prog.fieldsOf 46)):=by kernel_rfl
noncomputable def F46 (i:Nat):Field:=(Tryz.prog.fieldsOf 46).toList.getD i default
theorem fs46:(Tryz.prog.fieldsOf 46).toList=[F46 0,F46 1,F46 2]:=by kernel_rfl
theorem pt46_0 (f:Int) (g b:ByteArray):quiet Tryz.prog (part (F46 0).type ⟨[.int .u32 f,.string g,.string b]⟩ (F46 0).offset)=some (.int .u32 f):=by kernel_rfl
theorem pt46_1 (f:Int) (g b:ByteArray):quiet Tryz.prog (part (F46 1).type ⟨[.int .u32 f,.string g,.string b]⟩ (F46 1).offset)=some (.string g):=by kernel_rfl
theorem pt46_2 (f:Int) (g b:ByteArray):quiet Tryz.prog (part (F46 2).type ⟨[.int .u32 f,.string g,.string b]⟩ (F46 2).offset)=some (.string b):=by kernel_rfl
theorem ty46_0:(F46 0).type=44:=by kernel_rfl
theorem ty46_1:(F46 1).type=9:=by kernel_rfl
theorem ty46_2:(F46 2).type=9:=by kernel_rfl
theorem ut9:quiet Tryz.prog (underlying 9)=some .string:=by kernel_rfl
theorem ut44:quiet Tryz.prog (underlying 44)=some (.int .u32):=by kernel_rfl
def sameX (f f':Int) (g g' b b':ByteArray):Bool:=f==f'&&(g.data.toList==g'.data.toList&&b.data.toList==b'.data.toList)
theorem quiet46 (n:Nat) (f f':Int) (g g' b b':ByteArray):quiet Tryz.prog (Op.equalIn (n+1+1) 46 (.agg ⟨[.int .u32 f,.string g,.string b]⟩) (.agg ⟨[.int .u32 f',.string g',.string b']⟩))=some (sameX f f' g g' b b'):=by
 rw [quiet_struct (n+1) 46 _ _ ft46 (by kernel_rfl),fs46]
 rw [quiet_fieldR (by kernel_rfl) (pt46_0 f g b) (pt46_0 f' g' b') (by rw [ty46_0];exact quiet_eq_int n 44 _ _ _ _ ut44)]
 rw [quiet_fieldR (by kernel_rfl) (pt46_1 f g b) (pt46_1 f' g' b') (by rw [ty46_1];exact quiet_eqs ut9)]
 rw [quiet_fieldR (by kernel_rfl) (pt46_2 f g b) (pt46_2 f' g' b') (by rw [ty46_2];exact quiet_eqs ut9)]
 unfold sameX
 cases f==f' <;> cases g.data.toList==g'.data.toList <;> cases b.data.toList==b'.data.toList <;> rfl
theorem sameX_iff {p q:Nm}:sameX (p.f:Int) (q.f:Int) p.g q.g p.b q.b=true↔p=q:=by
 unfold sameX
 simp only [Bool.and_eq_true,beq_iff_eq]
 constructor
 ·rintro ⟨h1,h2,h3⟩
  have h2:=ba_eq h2
  have h3:=ba_eq h3
  obtain ⟨f,g,b⟩:=p
  obtain ⟨f',g',b'⟩:=q
  simp only at h1 h2 h3
  have:f=f':=by omega
  rw [this,h2,h3]
 ·rintro rfl
  exact ⟨rfl,rfl,rfl⟩
theorem sameX_kq (p q:Nm):sameX (p.f:Int) (q.f:Int) p.g q.g p.b q.b=keqN p q:=by
 rw [Bool.eq_iff_iff,sameX_iff,keqN_iff]
def kN (p:Nm):Value:=.agg ⟨p.cells⟩
theorem eqAN (p q:Nm):eqA Tryz.prog 46 (kN p) (kN q)=some (keqN p q):=by
 unfold eqA
 have hc:(closedV 4 (kN p)&&closedV 4 (kN q))=true:=rfl
 rw [hc,cond_true,← sameX_kq]
 exact quiet46 9998 _ _ _ _ _ _
theorem eqN (p q:Nm) (xo yo:Operand):binA Tryz.prog .eql 46 xo yo (.agg ⟨p.cells⟩) (.agg ⟨q.cells⟩)=some (.bool (keqN p q)):=by
 have hg:eqGuardA Tryz.prog 46 xo yo (kN p) (kN q)=true:=by
  show (!Tryz.prog.eqGuardType Tryz.prog.depth 46)=true
  kernel_rfl
 show (bif eqGuardA Tryz.prog 46 xo yo (kN p) (kN q) then (match eqA Tryz.prog 46 (kN p) (kN q) with | some b=>some (Value.bool b) | none=>none) else none)=_
 rw [hg,cond_true,eqAN]
theorem neqN (p q:Nm) (xo yo:Operand):binA Tryz.prog .neq 46 xo yo (.agg ⟨p.cells⟩) (.agg ⟨q.cells⟩)=some (.bool !(keqN p q)):=by
 have hg:eqGuardA Tryz.prog 46 xo yo (kN p) (kN q)=true:=by
  show (!Tryz.prog.eqGuardType Tryz.prog.depth 46)=true
  kernel_rfl
 show (bif eqGuardA Tryz.prog 46 xo yo (kN p) (kN q) then (match eqA Tryz.prog 46 (kN p) (kN q) with | some b=>some (Value.bool !b) | none=>none) else none)=_
 rw [hg,cond_true,eqAN]
theorem etN:ET Tryz.prog 28 46 2 Nm.cells:=⟨by kernel_rfl,by kernel_rfl,by kernel_rfl,⟨40,by kernel_rfl,by decide⟩,by kernel_rfl,fun _=>rfl,fun _=>rfl,fun _=>rfl⟩
structure Grow (A A':AW) (n:Nat):Prop where
 keeps:Keeps A A' []
 fine:Fine A'
 next:A'.next≤A.next+n
theorem Grow.le {A A':AW} {n:Nat} (h:Grow A A' n):A.next≤A'.next:=h.keeps.next
theorem Grow.refl {A:AW} (hf:Fine A):Grow A A 0:=⟨.refl _ _,hf,Nat.le_refl _⟩
theorem Grow.trans {A B C:AW} {n m:Nat} (h:Grow A B n) (k:Grow B C m):Grow A C (n+m):=⟨h.keeps.trans k.keeps (by simp),k.fine,by have:=h.next;have:=k.next;omega⟩
theorem Grow.more {A B:AW} {n m:Nat} (h:Grow A B n) (hm:n≤m):Grow A B m:=⟨h.keeps,h.fine,by have:=h.next;omega⟩
theorem Grow.made {A A':AW} {cs:List Value} {e:TypeId} (m:Made A A' cs e) (hf:Fine A):Grow A A' 1:=⟨m.keeps hf,m.fine,by rw [m.next];omega⟩
theorem Grow.own {A B C:AW} {n m:Nat} {F:List Nat} (h:Grow A B n) (k:Keeps B C F) (hF:∀ x∈F,A.next≤x) (hc:C.next≤B.next+m) (hf:Fine C):Grow A C (n+m):=
 ⟨h.keeps.trans k (fun x hx=>.inr (hF x hx)),hf,by have:=h.next;omega⟩
theorem ext117 (a b:ByteArray):quiet Tryz.prog (callFunc 117 ⟨[.string a,.string b]⟩)=some (.value (.int .i64 (Go.Extern.BytealgCompare.cmp a b))):=by kernel_rfl
section
variable {W0:World} {m0:Inj Tryz.prog}
theorem wc84 {a b:ByteArray} {A:AW} {K:Value→AW→Prop} (hk:K (.int .i64 (cmpS a b)) A):Wc Tryz.prog theX W0 m0 84 [.string a,.string b] A K:=by
 refine w84 _ _ _ (cuts_none (S:=fun _ _ _=>False) fun _ _ _ h=>h) ?_
 rw [e84]
 have hb:hasBody Tryz.prog 117=false:=by kernel_rfl
 have hcf:callFuncA Tryz.prog theX A 117 [.string a,.string b]=.ok (.value (.int .i64 (cmpS a b))) A:=by
  unfold callFuncA
  have hc:([Value.string a,.string b].all (closedV 4))=true:=rfl
  simp only [hb,cond_false,theX,memN,hc,cond_true,ext117,Go.Lib.cmp_eq]
  rfl
 exact .inl ⟨_,_,hcf,hk⟩
theorem wc58 {a b:ByteArray} {A:AW} {K:Value→AW→Prop} (hk:K (.int .i64 (cmpS a b)) A):Wc Tryz.prog theX W0 m0 58 [.string a,.string b] A K:=by
 refine w58 _ _ _ (cuts_none (S:=fun _ _ _=>False) fun _ _ _ h=>h) ?_
 rw [e58]
 exact wc84 hk
theorem wc83 {n:Int} {A:AW} {K:Value→AW→Prop} (hk:K (.bool false) A):Wc Tryz.prog theX W0 m0 83 [.int .u32 n] A K:=by
 refine w83 _ _ (cuts_none (S:=fun _ _ _=>False) fun _ _ _ h=>h) ?_
 rw [e83]
 have:(n != n)=false:=by simp
 simp only [bin_neq,pureW_some,this]
 exact hk
theorem wc57 {n m:Int} {A:AW} {K:Value→AW→Prop} (hk:K (.int .i64 (cmpI n m)) A):Wc Tryz.prog theX W0 m0 57 [.int .u32 n,.int .u32 m] A K:=by
 refine w57 _ _ _ (cuts_none (S:=fun _ _ _=>False) fun _ _ _ h=>h) ?_
 rw [e57]
 refine wc83 (wc83 ?_)
 refine forkW_bool.2 ⟨fun h=>by simp at h,fun _=>forkW_bool.2 ⟨fun h=>by simp at h,fun _=>?_⟩⟩
 simp only [bin_lss,bin_gtr,pureW_some,forkW_dec]
 unfold cmpI at hk
 refine ⟨fun h=>?_,fun h=>⟨fun h2=>?_,fun h2=>?_⟩⟩
 ·rw [if_pos h] at hk;exact hk
 ·rw [if_neg h,if_pos h2] at hk;exact hk
 ·rw [if_neg h,if_neg h2] at hk;exact hk
theorem ia143 {q n i:Nat} (hi:i < n):indexAddrA Tryz.prog 143 (.slice (some ⟨q,0,none⟩) n n) (.int .i64 (i:Int))=some (.pointer (some ⟨q,i,none⟩)):=by
 show indexAddrA Tryz.prog 143 _ (.int .i64 (.ofNat i))=_
 rw [ia_143,blt_true.2 hi,cond_true]
 unfold addA
 cases hb:Nat.beq (i * 1) 0 with
 | true=>rw [cond_true];have:=Nat.eq_of_beq_eq_true hb;rw [Nat.mul_one] at this;rw [this]
 | false=>rw [cond_false,Nat.mul_one,Nat.zero_add]
theorem wc56 {q:Nat} {a b c:Int} {A:AW} {K:Value→AW→Prop} (hr:Go.Abs.Row1 A q [.int .i64 a,.int .i64 b,.int .i64 c] 3) (hk:K (.int .i64 (orL [a,b,c])) A):Wc Tryz.prog theX W0 m0 56 [.slice (some ⟨q,0,none⟩) 3 3] A K:=by
 let I:Nat→Nat→List Value→AW→Prop:=fun g id vals A'=>id=0∧A'=A∧∃ i:Nat,vals=[.int .i64 0,.slice (some ⟨q,0,none⟩) 3 3,.int .i64 3,.int .i64 (i:Int)]∧g=3 - i∧i≤3∧orL [a,b,c]=orL ([a,b,c].drop i)
 refine w56 _ _ (c56 (I:=I) ?_) ?_
 ·rintro g id vals A' d ⟨rfl,rfl,i,rfl,rfl,hi,ho⟩ hd
  rw [l56_0]
  simp only [L56,List.map_cons,List.map_nil,List.cons.injEq,and_true] at hd
  obtain ⟨h3,h6,h7,h8⟩:=hd
  simp only [h3,h6,h7,h8,bin_lss,pureW_some,forkW_dec]
  have hcase:i=0∨i=1∨i=2∨i=3:=by omega
  have fin:∀ {x:Int} {r:List Int},[a,b,c].drop i=x::r→loadP Tryz.prog A' 3 (.pointer (some ⟨q,i,none⟩))=some (.int .i64 x)→i < 3→
    pureW (loadP Tryz.prog A' 3 (.pointer (some ⟨q,i,none⟩))) fun t2=>pureW (binA Tryz.prog .neq 3 (.tmp 12) (.tmp 13) t2 (.int .i64 0)) fun t3=>forkW t3 (K t2 A') (pureW (binA Tryz.prog .add 3 (.tmp 8) (.const (.int .i64 1)) (.int .i64 (i:Int)) (.int .i64 1)) fun t4=>cutW (T56 0) (T56 0) (∃ g',g' < 3 - i∧I g' 0 [.int .i64 0,.slice (some ⟨q,0,none⟩) 3 3,.int .i64 3,t4] A')):=by
   intro x r hdr hld hlt
   rw [hld]
   simp only [pureW_some,bin_neq,forkW_bne,bin_add]
   rw [hdr] at ho
   refine ⟨fun hx=>?_,fun hx=>?_⟩
   ·rw [ho] at hk
    simp only [orL] at hk
    rw [if_pos hx] at hk
    exact hk
   ·rw [wrap_i64 (by omega) (by omega)]
    refine cutW_self.2 ⟨3 - (i+1),by omega,rfl,rfl,i+1,rfl,rfl,by omega,?_⟩
    have:[a,b,c].drop (i+1)=r:=by rw [← List.drop_drop,hdr];rfl
    rw [this,ho]
    simp only [orL]
    rw [if_neg (by simp [hx])]
  rcases hcase with rfl | rfl | rfl | rfl
  ·refine ⟨fun _=>?_,fun h=>absurd (by decide) h⟩
   rw [ia143 (by decide)]
   simp only [pureW_some]
   exact fin rfl (by rw [ld_3,cell_row hr.row];rfl) (by decide)
  ·refine ⟨fun _=>?_,fun h=>absurd (by decide) h⟩
   rw [ia143 (by decide)]
   simp only [pureW_some]
   exact fin rfl (by rw [ld_3,cell_row hr.row];rfl) (by decide)
  ·refine ⟨fun _=>?_,fun h=>absurd (by decide) h⟩
   rw [ia143 (by decide)]
   simp only [pureW_some]
   exact fin rfl (by rw [ld_3,cell_row hr.row];rfl) (by decide)
  ·refine ⟨fun h=>absurd h (by decide),fun _=>?_⟩
   rw [ho] at hk
   exact hk
 ·rw [e56]
  simp only [ln_143,pureW_some]
  exact cutW_self.2 ⟨3,rfl,rfl,0,rfl,rfl,by decide,rfl⟩
theorem newSlice3 {A:AW} {a b c:Int} {K:Value→AW→Prop} (hf:Fine A) (h:A.next < maxId) (hk:∀ A',Made A A' [.int .i64 a,.int .i64 b,.int .i64 c] 3→K (.slice (some ⟨A.next,0,none⟩) 3 3) A'):bothW (buildSliceA Tryz.prog A 143 3 [(0,.int .i64 a),(1,.int .i64 b),(2,.int .i64 c)]) K:=by
 rw [bs143]
 unfold AW.newRow AW.new
 have hc:([Value.int .i64 a,.int .i64 b,.int .i64 c].all oneCell)=true:=rfl
 simp only [hc,cond_true,blt_true.2 h]
 exact bothW_ok.2 (hk (A.push (.row [.int .i64 a,.int .i64 b,.int .i64 c] 3 A.next 0 false)) ⟨AW.push_ext _ h,rfl,by rw [AW.push_get _ h,if_pos rfl],hf.alone (Nat.le_refl _),hf.push _ h⟩)
theorem freshW_143 {a b c:Int} {A:AW} {q:Nat} {p:Prop} (h:A.get q=some (.row [.int .i64 a,.int .i64 b,.int .i64 c] 3 q 0 false)) (hp:p):freshW (freshOf Tryz.prog (evalT (Tm.fill ⟨3,.nil⟩ 0 [.int .i64 a,.int .i64 b,.int .i64 c])) (.buildSlice 143 3 #[(0,.tmp 0),(1,.tmp 1),(2,.tmp 2)])) A (.slice (some ⟨q,0,none⟩) 3 3) p:=by
 refine ⟨⟨_,fresh143 a b c,?_⟩,hp⟩
 simp only [stillFresh,rowHas,h,sameL,same_int,Bool.and_self,Option.isNone_none,Bool.true_and,Nat.beq_refl]
theorem wc27 {p q:Nm} {A:AW} {K:Value→AW→Prop} (hf:Fine A) (hA:A.next+5 < maxId) (hk:∀ A',Grow A A' 3→K (.int .i64 (xcmp p q)) A'):Wc Tryz.prog theX W0 m0 27 [.agg ⟨p.cells⟩,.agg ⟨q.cells⟩] A K:=by
 refine w27 _ _ _ (cuts_none (S:=fun _ _ _=>False) fun _ _ _ h=>h) ?_
 rw [e27]
 refine newP_made (cs:=p.cells) hf (by omega) rfl fun A1 m1=>?_
 have n1:=m1.next
 refine newP_made (cs:=q.cells) m1.fine (by omega) rfl fun A2 m2=>?_
 have n2:=m2.next
 have g2:=(Grow.made m1 hf).trans (.made m2 m1.fine)
 have r1:Go.Abs.Row1 A2 A.next [.int .u32 (p.f:Int),.string p.g,.string p.b] 46:=(m1.row1).keeps (m2.keeps m1.fine) (by simp)
 have r2:Go.Abs.Row1 A2 A1.next [.int .u32 (q.f:Int),.string q.g,.string q.b] 46:=m2.row1
 simp only [fa_46_0,fa_46_1,fa_46_2,ld_44,ld_9,cell_row r1.row,cell_row r2.row,cellOf,isTuple,cond_false,pureW_some,Nat.zero_add]
 refine wc57 ?_
 simp only [cell_row r1.row,cell_row r2.row,cellOf,isTuple,cond_false,pureW_some,eqW_self]
 refine wc58 ?_
 simp only [cell_row r1.row,cell_row r2.row,cellOf,isTuple,cond_false,pureW_some,eqW_self]
 refine wc58 ?_
 refine newSlice3 m2.fine (by omega) fun A3 m3=>?_
 have n3:=m3.next
 have q1:=r1.keeps (m3.keeps m2.fine) (by simp)
 have q2:=r2.keeps (m3.keeps m2.fine) (by simp)
 refine freshW_143 m3.row ?_
 simp only [cell_row q1.row,cell_row q2.row,cellOf,isTuple,cond_false,pureW_some,eqW_self]
 exact wc56 m3.row1 (hk A3 (g2.trans (.made m3 m2.fine)))
end
end Go.Proofs.YtdpdajpiadohjaaGreatDoor
namespace Go.Proofs.YtdpdajpiadohjaaGreatDoor
open Go.Abs Go.Sort
def sortR:Go.Shelf.Ren:=⟨fun | 6=>54 | 15=>82 | 14=>81 | 28=>115 | 29=>116 | 20=>107 | 21=>108 | 22=>109 | 23=>110 | 24=>111 | 25=>112 | 26=>113 | 27=>114 | 46=>129 | 47=>130 | 48=>131 | 49=>132 | 50=>133 | 57=>149 | n=>n,fun | 22=>28 | 24=>46 | 25=>68 | 3=>3 | 39=>142 | 0=>0 | 53=>44 | 55=>32 | 4=>4 | 46=>169 | 45=>168 | 50=>123 | 5=>5 | 9=>9 | 66=>187 | 70=>191 | 76=>207 | 77=>208 | n=>n,fun n=>n⟩
theorem sortX:Go.Proofs.SlLaysF0.n6 Tryz.prog sortR where
 mixed:=by kernel_rfl
 f6:=⟨Tryz.f54.name,by decide,Tryz.func54.trans (congrArg some (by kernel_rfl))⟩
 f14:=⟨Tryz.f81.name,by decide,Tryz.func81.trans (congrArg some (by kernel_rfl))⟩
 f15:=Tryz.func82.trans (congrArg some (by kernel_rfl))
 f20:=⟨Tryz.f107.name,by decide,Tryz.func107.trans (congrArg some (by kernel_rfl))⟩
 f21:=⟨Tryz.f108.name,by decide,Tryz.func108.trans (congrArg some (by kernel_rfl))⟩
 f22:=⟨Tryz.f109.name,by decide,Tryz.func109.trans (congrArg some (by kernel_rfl))⟩
 f23:=⟨Tryz.f110.name,by decide,Tryz.func110.trans (congrArg some (by kernel_rfl))⟩
 f24:=⟨Tryz.f111.name,by decide,Tryz.func111.trans (congrArg some (by kernel_rfl))⟩
 f25:=⟨Tryz.f112.name,by decide,Tryz.func112.trans (congrArg some (by kernel_rfl))⟩
 f26:=⟨Tryz.f113.name,by decide,Tryz.func113.trans (congrArg some (by kernel_rfl))⟩
 f27:=⟨Tryz.f114.name,by decide,Tryz.func114.trans (congrArg some (by kernel_rfl))⟩
 f28:=Tryz.func115.trans (congrArg some (by kernel_rfl))
 f29:=Tryz.func116.trans (congrArg some (by kernel_rfl))
 f46:=⟨Tryz.f129.name,by decide,Tryz.func129.trans (congrArg some (by kernel_rfl))⟩
 f47:=Tryz.func130.trans (congrArg some (by kernel_rfl))
 f48:=Tryz.func131.trans (congrArg some (by kernel_rfl))
 f49:=⟨Tryz.f132.name,by decide,Tryz.func132.trans (congrArg some (by kernel_rfl))⟩
 f50:=⟨Tryz.f133.name,by decide,Tryz.func133.trans (congrArg some (by kernel_rfl))⟩
 f57:=⟨Tryz.f149.name,by decide,Tryz.func149.trans (congrArg some (by kernel_rfl))⟩
 t0:=Tryz.underlying0
 a0:=Tryz.isAgg0
 z0:=Tryz.sizeOf0
 v0:=Tryz.zeroValue0
 t3:=Tryz.underlying3
 a3:=Tryz.isAgg3
 z3:=Tryz.sizeOf3
 v3:=Tryz.zeroValue3
 t4:=Tryz.underlying4
 a4:=Tryz.isAgg4
 z4:=Tryz.sizeOf4
 v4:=Tryz.zeroValue4
 t5:=Tryz.underlying5
 a5:=Tryz.isAgg5
 z5:=Tryz.sizeOf5
 v5:=Tryz.zeroValue5
 t9:=Tryz.underlying9
 a9:=Tryz.isAgg9
 z9:=Tryz.sizeOf9
 v9:=Tryz.zeroValue9
 t22:=Tryz.underlying28
 a22:=Tryz.isAgg28
 z22:=Tryz.sizeOf28
 v22:=Tryz.zeroValue28
 t25:=Tryz.underlying68
 a25:=Tryz.isAgg68
 z25:=Tryz.sizeOf68
 v25:=Tryz.zeroValue68
 t39:=Tryz.underlying142
 a39:=Tryz.isAgg142
 z39:=Tryz.sizeOf142
 v39:=Tryz.zeroValue142
 t45:=Tryz.underlying168
 a45:=Tryz.isAgg168
 z45:=Tryz.sizeOf168
 v45:=Tryz.zeroValue168
 t46:=Tryz.underlying169
 a46:=Tryz.isAgg169
 z46:=Tryz.sizeOf169
 v46:=Tryz.zeroValue169
 t50:=Tryz.underlying123
 a50:=Tryz.isAgg123
 z50:=Tryz.sizeOf123
 v50:=Tryz.zeroValue123
 t53:=Tryz.underlying44
 a53:=Tryz.isAgg44
 z53:=Tryz.sizeOf44
 v53:=Tryz.zeroValue44
 t55:=Tryz.underlying32
 a55:=Tryz.isAgg32
 z55:=Tryz.sizeOf32
 v55:=Tryz.zeroValue32
 t66:=Tryz.underlying187
 a66:=Tryz.isAgg187
 z66:=Tryz.sizeOf187
 v66:=Tryz.zeroValue187
 t70:=Tryz.underlying191
 a70:=Tryz.isAgg191
 z70:=Tryz.sizeOf191
 v70:=Tryz.zeroValue191
 t76:=Tryz.underlying207
 a76:=Tryz.isAgg207
 z76:=Tryz.sizeOf207
 v76:=Tryz.zeroValue207
 t77:=Tryz.underlying208
 a77:=Tryz.isAgg208
 z77:=Tryz.sizeOf208
 v77:=Tryz.zeroValue208
section
variable {W0:World} {m0:Inj Tryz.prog}
theorem nm_closed (x:Nm):x.cells.all (closedV 3)=true:=rfl
theorem nm_one (x:Nm):x.cells.all oneCell=true:=rfl
theorem cmp27 (W:World) (x y:Nm):Wc Tryz.prog theX W (mG Tryz.prog) 27 [.agg ⟨x.cells⟩,.agg ⟨y.cells⟩] (wG Tryz.prog.globals.size []) fun v _=>v=.int .i64 (xcmp x y):=
 wc27 ⟨fun _ _=>rfl,fun _ _=>rfl⟩ (of_decide_eq_true (by kernel_rfl)) fun _ _=>rfl
theorem sort_names {v:Value} {l:List Nm} {F:List Nat} {A:AW} {K:Value→AW→Prop} (h:OwnE 46 2 Nm.cells A v l F) (hf:Fine A) (hl:l.length < 1000000)
  (hk:∀ A',OwnE 46 2 Nm.cells A' v (l.mergeSort fun x y=>!(Go.Proofs.ltOf xcmp y x)) F→Keeps A A' F→A'.next=A.next→Fine A'→K (.tuple #[]) A'):knW Tryz.prog W0 m0 54 [v,.func (.func 27) #[] #[]] A K:=by
 refine .inr (lib_sort (P:=Tryz.prog) (ρ:=sortR) sortX (k:=3) (by decide) Tryz.isAgg46 Tryz.sizeOf46 (enc:=Nm.cells) (fun _=>rfl) (fun x u hu=>?_) nm_one nm_closed xcmp_swo xcmp_total (g:=27) ?_ (cmp_lays gP ?_ nm_closed cmp27) h hf (by omega) fun A' h1 k1 n1 f1=>hk A' ?_ k1 n1 f1)
 ·simp only [Nm.cells,List.mem_cons,List.not_mem_nil,or_false] at hu
  rcases hu with rfl | rfl | rfl <;> rfl
 ·exact enters_of Tryz.func27 (by kernel_rfl) rfl
 ·exact of_decide_eq_true (by kernel_rfl)
 ·unfold OwnE
  rw [List.length_mergeSort]
  exact h1
end
end Go.Proofs.YtdpdajpiadohjaaGreatDoor
namespace Go.Proofs.YtdpdajpiadohjaaGreatDoor
open Go.Abs
def slen (s:ByteArray):Nat:=s.data.toList.length
theorem cb_at:∀ (i:Nat) (a b:List UInt8),a.take i=b.take i→i≤a.length→i≤b.length→Go.Lib.compareBytes a b=Go.Lib.compareBytes (a.drop i) (b.drop i)
 | 0,a,b,_,_,_=>rfl
 | i+1,[],b,_,h,_=>by simp at h
 | i+1,_::_,[],_,_,h=>by simp at h
 | i+1,a::xs,b::ys,h,h1,h2=>by
  simp only [List.take_succ_cons,List.cons.injEq] at h
  obtain ⟨rfl,h⟩:=h
  simp only [Go.Lib.compareBytes,UInt8.lt_irrefl,if_false,List.drop_succ_cons]
  exact cb_at i xs ys h (by simpa using h1) (by simpa using h2)
theorem cb_neq {a b:UInt8} {xs ys:List UInt8} (h:(a.toNat:Int)≠(b.toNat:Int)):(a.toNat:Int) < (b.toNat:Int)↔Go.Lib.compareBytes (a::xs) (b::ys) < 0:=by
 simp only [Go.Lib.compareBytes]
 by_cases h1:a < b
 ·have:=UInt8.lt_iff_toNat_lt.1 h1
  rw [if_pos h1]
  omega
 ·have hn:¬ a.toNat < b.toNat:=fun h=>h1 (UInt8.lt_iff_toNat_lt.2 h)
  have h2:b < a:=UInt8.lt_iff_toNat_lt.2 (by omega)
  rw [if_neg h1,if_pos h2]
  omega
theorem cb_nil {a b:List UInt8} (h:a=[]∨b=[]):Go.Lib.compareBytes a b < 0↔a.length < b.length:=by
 cases a with
 | nil=>cases b <;> simp [Go.Lib.compareBytes]
 | cons x a=>
  cases b with
  | nil=>simp [Go.Lib.compareBytes]
  | cons y b=>simp at h
theorem idx9 {s:ByteArray} {i:Nat} {c:UInt8} (h:s.data.toList[i]? =some c):indexA Tryz.prog 9 (.string s) (.int .i64 (i:Int))=some (.int .u8 (c.toNat:Int)):=by
 show indexA Tryz.prog 9 (.string s) (.int .i64 (.ofNat i))=some (.int .u8 (c.toNat:Int))
 unfold indexA
 simp only [ust9]
 rw [h]
theorem keqN_not {p q:Nm}:keqN p q=false↔p≠q:=by
 rw [← Bool.not_eq_true,keqN_iff]
theorem load46 {A:AW} {b:Nat} {p:Nm} {e:TypeId} (h:Go.Abs.Row1 A b p.cells e):loadP Tryz.prog A 46 (.pointer (some ⟨b,0,none⟩))=some (.agg ⟨p.cells⟩):=by
 rw [ld_46,cells_row h.row];rfl
section
variable {W0:World} {m0:Inj Tryz.prog}
theorem wc85 {A:AW} {a b:ByteArray} {K:Value→AW→Prop} (ha:slen a < 9223372036854775808) (hk:K (.bool (decide (cmpS a b < 0))) A):Wc Tryz.prog theX W0 m0 85 [.string a,.string b] A K:=by
 let I:Nat→Nat→List Value→AW→Prop:=fun g id vals A'=>id=0∧A'=A∧∃ i:Nat,vals=[.string a,.string b,.int .i64 (i:Int)]∧i≤slen a∧i≤slen b∧a.data.toList.take i=b.data.toList.take i∧g=slen a - i
 have hsa:a.data.toList.length=slen a:=rfl
 have hsb:b.data.toList.length=slen b:=rfl
 refine w85 _ _ _ (c85 (I:=I) ?_) ?_
 ·rintro g id vals A' d ⟨rfl,rfl,i,rfl,hi,hi2,ht,rfl⟩ hd
  rw [l85_0]
  simp only [L85,List.map_cons,List.map_nil,List.cons.injEq,and_true] at hd
  obtain ⟨h0,h1,h5⟩:=hd
  have hat:=cb_at i a.data.toList b.data.toList ht (by omega) (by omega)
  simp only [h0,h1,h5,ln_9,hsa,hsb,bin_lss,pureW_some,forkW_dec]
  have hend:(i=slen a∨i=slen b)→K (.bool (decide ((slen a:Int) < (slen b:Int)))) A':=fun h=>by
   have e:decide (cmpS a b < 0)=decide ((slen a:Int) < (slen b:Int)):=by
    apply decide_eq_decide.2
    unfold cmpS
    rw [hat,cb_nil]
    ·rw [List.length_drop,List.length_drop,hsa,hsb]
     omega
    ·rcases h with h | h
     ·exact .inl (List.drop_eq_nil_of_le (by omega))
     ·exact .inr (List.drop_eq_nil_of_le (by omega))
   rw [e] at hk
   exact hk
  refine ⟨fun hlt=>⟨fun hlt2=>?_,fun h=>hend (.inr (by omega))⟩,fun h=>hend (.inl (by omega))⟩
  have g1:i < a.data.toList.length:=by omega
  have g2:i < b.data.toList.length:=by omega
  have e1:=idx9 (List.getElem?_eq_getElem g1)
  have e2:=idx9 (List.getElem?_eq_getElem g2)
  simp only [e1,e2,bin_neq,bin_lss,bin_add,pureW_some,forkW_bne]
  refine ⟨fun hne=>?_,fun heq=>?_⟩
  ·have e:decide (cmpS a b < 0)=decide ((a.data.toList[i].toNat:Int) < (b.data.toList[i].toNat:Int)):=by
    apply decide_eq_decide.2
    unfold cmpS
    rw [cb_neq (xs:=a.data.toList.drop (i+1)) (ys:=b.data.toList.drop (i+1)) hne,← List.drop_eq_getElem_cons,← List.drop_eq_getElem_cons,← hat]
   rw [e] at hk
   exact hk
  ·rw [wrap_i64 (by omega) (by omega)]
   refine cutW_self.2 ⟨slen a - (i+1),by omega,rfl,rfl,i+1,rfl,by omega,by omega,?_,rfl⟩
   have hc:a.data.toList[i]=b.data.toList[i]:=by
    apply UInt8.toNat_inj.1
    omega
   rw [List.take_add_one,List.take_add_one,ht,List.getElem?_eq_getElem g1,List.getElem?_eq_getElem g2,hc]
 ·rw [e85]
  exact cutW_self.2 ⟨_,rfl,rfl,0,rfl,by omega,by omega,by simp,rfl⟩
theorem wc59 {A:AW} {p q:Nm} {K:Value→AW→Prop} (hf:Fine A) (hA:A.next+4 < maxId) (h1:slen p.g < 9223372036854775808) (h2:slen p.b < 9223372036854775808) (hk:∀ A' r,Grow A A' 2→(r < 0↔xcmp p q < 0)→K (.int .i64 r) A'):Wc Tryz.prog theX W0 m0 59 [.agg ⟨p.cells⟩,.agg ⟨q.cells⟩] A K:=by
 refine w59 _ _ _ (cuts_none (S:=fun _ _ _=>False) fun _ _ _ h=>h) ?_
 rw [e59]
 refine newP_made (cs:=p.cells) hf (by omega) rfl fun A1 m1=>?_
 have n1:=m1.next
 refine newP_made (cs:=q.cells) m1.fine (by omega) rfl fun A2 m2=>?_
 have gr:=(Grow.made m1 hf).trans (.made m2 m1.fine)
 have r1:Go.Abs.Row1 A2 A.next p.cells 46:=m1.row1.keeps (m2.keeps m1.fine) (by simp)
 have r2:Go.Abs.Row1 A2 A1.next q.cells 46:=m2.row1
 have t1:=load46 r1
 have t2:=load46 r2
 have r1:Go.Abs.Row1 A2 A.next [.int .u32 (p.f:Int),.string p.g,.string p.b] 46:=r1
 have r2:Go.Abs.Row1 A2 A1.next [.int .u32 (q.f:Int),.string q.g,.string q.b] 46:=r2
 simp only [t1,t2,eqN,pureW_some]
 have hlt {r:Int} (hr:r < 0↔xcmp p q < 0):K (.int .i64 r) A2:=hk A2 r gr hr
 have hcs:∀ x y:ByteArray,(!(x.data.toList==y.data.toList))=true↔x≠y:=fun x y=>by
  rw [Bool.not_eq_true',beq_eq_false_iff_ne]
  exact ⟨fun h e=>h (by rw [e]),fun h e=>h (ba_eq e)⟩
 have hcs0:∀ x y:ByteArray,(!(x.data.toList==y.data.toList))=false↔x=y:=fun x y=>by
  rw [Bool.not_eq_false',beq_iff_eq]
  exact ⟨fun h=>ba_eq h,fun h=>by rw [h]⟩
 refine forkW_bool.2 ⟨fun h=>?_,fun h=>?_⟩
 ·have:=keqN_iff.1 h
  subst this
  exact hlt (by rw [xcmp_zero.2 rfl])
 have hne:=keqN_not.1 h
 have hcz:∀ {x y:ByteArray},x≠y→cmpS x y≠0:=fun h e=>h (cmpS_zero.1 e)
 simp only [fa_46_0,fa_46_1,fa_46_2,ld_9,cell_row r1.row,cell_row r2.row,cellOf,isT_int,isT_string,cond_false,pureW_some,Nat.zero_add]
 refine wc85 h2 ?_
 simp only [fa_46_0,fa_46_1,fa_46_2,ld_9,ld_44,cell_row r1.row,cell_row r2.row,cellOf,isT_int,isT_string,cond_false,bin_strneq,bin_neq,bin_lss,pureW_some,forkW_bne,forkW_dec,Nat.zero_add]
 refine forkW_bool.2 ⟨fun hg=>?_,fun hg=>⟨fun hff=>⟨fun h3=>hlt ?_,fun h3=>hlt ?_⟩,fun hff=>⟨fun h3=>hlt ?_,fun h3=>hlt ?_⟩⟩⟩
 ·have hg:=(hcs _ _).1 hg
  refine wc85 h1 ?_
  simp only [fa_46_0,ld_44,cell_row r1.row,cell_row r2.row,cellOf,isT_int,isT_string,cond_false,bin_neq,bin_lss,pureW_some,forkW_bne,forkW_dec,Nat.zero_add]
  refine ⟨fun hff=>⟨fun h3=>hlt ?_,fun h3=>hlt ?_⟩,fun hff=>⟨fun h3=>hlt ?_,fun h3=>hlt ?_⟩⟩ <;> rw [xcmp_neg]
  ·exact ⟨fun _=>.inl (by omega),fun _=>by decide⟩
  ·refine ⟨fun h=>absurd h (by decide),fun h=>?_⟩
   rcases h with h | ⟨h,_⟩ <;> omega
  ·exact ⟨fun _=>.inr ⟨by omega,.inl h3⟩,fun _=>by decide⟩
  ·refine ⟨fun h=>absurd h (by decide),fun h=>?_⟩
   rcases h with h | ⟨h,h4 | ⟨h4,_⟩⟩
   ·omega
   ·exact absurd h4 h3
   ·exact absurd h4 hg
 all_goals have hg:=(hcs0 _ _).1 hg
 all_goals rw [xcmp_neg]
 ·exact ⟨fun _=>.inl (by omega),fun _=>by decide⟩
 ·refine ⟨fun h=>absurd h (by decide),fun h=>?_⟩
  rcases h with h | ⟨h,_⟩ <;> omega
 ·exact ⟨fun _=>.inr ⟨by omega,.inr ⟨hg,h3⟩⟩,fun _=>by decide⟩
 ·refine ⟨fun h=>absurd h (by decide),fun h=>?_⟩
  rcases h with h | ⟨h,h4 | ⟨_,h4⟩⟩
  ·omega
  ·exact absurd h4 (by rw [hg,cmpS_zero.2 rfl];decide)
  ·exact absurd h4 h3
end
theorem ex_pair0 (a b:Value):extractP (.tuple #[a,b]) 0=some a:=rfl
theorem ex_tri0 (a b c:Value):extractP (.tuple #[a,b,c]) 0=some a:=rfl
theorem ex_one0 (a:Value):extractP (.tuple #[a]) 0=some a:=rfl
theorem newNm1 {A:AW} {p:Nm} {K:Value→AW→Prop} (hf:Fine A) (h:A.next < maxId) (hk:∀ A',Made A A' p.cells 46→K (.slice (some ⟨A.next,0,none⟩) 1 1) A'):bothW (buildSliceA Tryz.prog A 28 1 [(0,.agg ⟨p.cells⟩)]) K:=by
 show bothW (buildSliceA Tryz.prog A 28 1 [(0,.agg ⟨[.int .u32 (p.f:Int),.string p.g,.string p.b]⟩)]) K
 rw [bs28]
 unfold AW.newRow AW.new
 have hc:([Value.int .u32 (p.f:Int),.string p.g,.string p.b].all oneCell)=true:=rfl
 simp only [hc,cond_true,blt_true.2 h]
 exact bothW_ok.2 (hk (A.push (.row p.cells 46 A.next 0 false)) ⟨AW.push_ext _ h,rfl,by rw [AW.push_get _ h,if_pos rfl],hf.alone (Nat.le_refl _),hf.push _ h⟩)
theorem putNm {A:AW} {p:Nm} {q:Nat} {cs:List Value} {e:TypeId} {K:AW→Prop} (h:Go.Abs.Row1 A q cs e) (hl:cs.length=3) (hf:Fine A) (hb:A.next≤maxId) (hk:∀ A',Go.Abs.Row1 A' q p.cells e→Keeps A A' [q]→A'.next=A.next→Fine A'→K A'):
  effW (storeP Tryz.prog A 46 (.pointer (some ⟨q,0,none⟩)) (.agg ⟨p.cells⟩)) K:=by
 refine h.store hf hb (st_46 _ _ _) rfl (by omega) rfl fun A' h1 k1 n1 f1=>hk A' ?_ k1 n1 f1
 match cs,hl with
 | [_,_,_],_=>exact h1
section
variable {W0:World} {m0:Inj Tryz.prog} {β:Type} {ve:β→Value}
abbrev loopC (tm:Tm) (D:Nat) (ac bd:Code):ALoop:={ state:=.ready,pending:=none,fn:=80,tm:=tm,params:=[7],assign:=ac,body:=bd,defers:=D }
end
section
variable {W0:World} {m0:Inj Tryz.prog}
theorem wc23 {p:Nm} {A:AW} {K:Value→AW→Prop} (hf:Fine A) (hA:A.next+5 < maxId) (hk:∀ A',Grow A A' 2→K (.agg ⟨(gl p).cells⟩) A'):Wc Tryz.prog theX W0 m0 23 [.agg ⟨p.cells⟩] A K:=by
 refine w23 _ _ (cuts_none (S:=fun _ _ _=>False) fun _ _ _ h=>h) ?_
 rw [e23]
 refine newP_made (cs:=p.cells) hf (by omega) rfl fun A1 m1=>?_
 have n1:=m1.next
 have k1:=m1.keeps hf
 refine allocP_made zero46 m1.fine (by omega) rfl fun A2 m2=>?_
 have n2:=m2.next
 have k2:=m2.keeps m1.fine
 simp only [fa_46_2,pureW_some,Nat.zero_add]
 have r1:Go.Abs.Row1 A2 A.next p.cells 46:=m1.row1.keeps k2 (by simp)
 refine r1.store m2.fine (by omega) (st_9 _ _ _) rfl (by simp [Nm.cells]) rfl fun A3 r3 k3 n3 f3=>?_
 have r3:Go.Abs.Row1 A3 A.next (gl p).cells 46:=r3
 simp only [load46 r3,pureW_some]
 refine putNm (p:=gl p) (m2.row1.keeps k3 (by simp;omega)) rfl f3 (by omega) fun A4 r4 k4 n4 f4=>?_
 simp only [load46 r4,pureW_some]
 refine hk A4 ⟨(((k1.trans k2 (by simp)).trans k3 (by simp)).trans k4 (by simp;omega)),f4,by omega⟩
theorem wc29 {p:Nm} {A:AW} {K:Value→AW→Prop} (hf:Fine A) (hA:A.next+5 < maxId) (hk:∀ A',Grow A A' 2→K (.agg ⟨(gl p).cells⟩) A'):Wc Tryz.prog theX W0 m0 29 [.agg ⟨p.cells⟩] A K:=by
 refine w29 _ _ (cuts_none (S:=fun _ _ _=>False) fun _ _ _ h=>h) ?_
 rw [e29]
 refine newP_made (cs:=p.cells) hf (by omega) rfl fun A1 m1=>?_
 have n1:=m1.next
 have k1:=m1.keeps hf
 refine allocP_made zero46 m1.fine (by omega) rfl fun A2 m2=>?_
 have n2:=m2.next
 have k2:=m2.keeps m1.fine
 have r1:Go.Abs.Row1 A2 A.next [.int .u32 (p.f:Int),.string p.g,.string p.b] 46:=m1.row1.keeps k2 (by simp)
 simp only [fa_46_0,fa_46_1,ld_44,ld_9,cell_row r1.row,cellOf,isT_int,isT_string,cond_false,pureW_some,Nat.zero_add,ba46_2]
 refine putNm (p:=gl p) m2.row1 rfl m2.fine (by omega) fun A4 r4 k4 n4 f4=>?_
 simp only [load46 r4,pureW_some]
 exact hk A4 ⟨(k1.trans k2 (by simp)).trans k4 (by simp;omega),f4,by omega⟩
end
noncomputable def eqL (a b:List Nm):Bool:=@decide (a=b) (Classical.propDecidable _)
theorem eqL_true {a b:List Nm} (h:a=b):eqL a b=true:=by unfold eqL;exact @decide_eq_true _ (Classical.propDecidable _) h
theorem eqL_false {a b:List Nm} (h:¬ a=b):eqL a b=false:=by unfold eqL;exact @decide_eq_false _ (Classical.propDecidable _) h
section
variable {W0:World} {m0:Inj Tryz.prog}
theorem wc11 {v1 v2:Value} {l1 l2:List Nm} {F1 F2:List Nat} {A:AW} {K:Value→AW→Prop} (h1:RdE 2 Nm.cells A v1 l1 F1) (h2:RdE 2 Nm.cells A v2 l2 F2) (hl:l1.length < 1000000) (hk:K (.bool (eqL l1 l2)) A):Wc Tryz.prog theX W0 m0 11 [v1,v2] A K:=by
 let I:Nat→Nat→List Value→AW→Prop:=fun g id vals A'=>id=0∧A'=A∧∃ i:Nat,vals=[v1,v2,.int .i64 (i:Int)]∧g=l1.length - i∧i≤l1.length∧l1.length=l2.length∧∀ j,j < i→l1[j]? =l2[j]?
 refine w11 _ _ _ (c11 (I:=I) ?_) ?_
 ·rintro g id vals A' d ⟨rfl,rfl,i,rfl,rfl,hi,hlen,hs⟩ hd
  rw [l11_0]
  simp only [L11,List.map_cons,List.map_nil,List.cons.injEq,and_true] at hd
  obtain ⟨h0,h1',h5⟩:=hd
  simp only [h0,h1',h5,h1.len etN,bin_lss,pureW_some,forkW_dec]
  refine ⟨fun hlt=>?_,fun hge=>?_⟩
  ·have hlt:i < l1.length:=by omega
   have hp:=List.getElem?_eq_getElem hlt
   have hq:=List.getElem?_eq_getElem (show i < l2.length by omega)
   obtain ⟨r,o,a1,_,a2⟩:=h1.at etN hp
   obtain ⟨r',o',b1,_,b2⟩:=h2.at etN hq
   simp only [a1,b1,a2,b2,pureW_some,neqN,bin_add]
   rw [wrap_i64 (by omega) (by omega)]
   refine forkW_bool.2 ⟨fun h=>?_,fun h=>?_⟩
   ·have hne:l1[i]≠l2[i]'(by omega):=keqN_not.1 (by simpa using h)
    rw [eqL_false (fun e=>hne (by simp [e]))] at hk
    exact hk
   ·have he:l1[i]=l2[i]'(by omega):=keqN_iff.1 (by simpa using h)
    refine cutW_self.2 ⟨l1.length - (i+1),by omega,rfl,rfl,i+1,rfl,rfl,by omega,hlen,fun j hj=>?_⟩
    by_cases hji:j=i
    ·subst hji;rw [hp,hq,he]
    ·exact hs j (by omega)
  ·have:l1=l2:=List.ext_getElem? fun j=>by
    by_cases hj:j < i
    ·exact hs j hj
    ·rw [List.getElem?_eq_none (by omega),List.getElem?_eq_none (by omega)]
   rw [eqL_true this] at hk
   exact hk
 ·rw [e11]
  simp only [h1.len etN,h2.len etN,bin_neq,pureW_some,forkW_bne]
  refine ⟨fun hne=>?_,fun he=>?_⟩
  ·rw [eqL_false (fun e=>hne (by rw [e]))] at hk
   exact hk
  ·exact cutW_self.2 ⟨l1.length,rfl,rfl,0,rfl,rfl,by omega,by omega,fun j hj=>by omega⟩
end
end Go.Proofs.YtdpdajpiadohjaaGreatDoor
namespace Go.Abs
section
variable {P:Program} {ts te:TypeId} {n:Nat} {β:Type} {f:β→List Value}
theorem flat_of (hlen:∀ x,(f x).length=n+1) {cs:List Value}:∀ (l:List β) (o:Nat),(∀ (i:Nat) p,l[i]? =some p→∃ rest,cs.drop (o+i * (n+1))=f p++rest)→∃ rest,cs.drop o=flat f l++rest
 | [],o,_=>⟨cs.drop o,by simp [flat]⟩
 | p::r,o,h=>by
  obtain ⟨rest0,h0⟩:=h 0 p rfl
  obtain ⟨rest,h1⟩:=flat_of hlen r (o+(n+1)) fun i q hq=>by
   have:=h (i+1) q (by simpa using hq)
   rwa [Nat.succ_mul,show o+(i * (n+1)+(n+1))=o+(n+1)+i * (n+1) by omega] at this
  refine ⟨rest,?_⟩
  rw [Nat.zero_mul,Nat.add_zero] at h0
  have h2:cs.drop (o+(n+1))=rest0:=by
   rw [← List.drop_drop,h0,← hlen p,List.drop_left]
  rw [h2] at h1
  rw [h0,h1]
  simp [flat]
theorem flat_noT (h:∀ x,(f x).all (fun v=>!isTuple v)=true) (l:List β):(flat f l).all (fun v=>!isTuple v)=true:=by
 rw [List.all_eq_true]
 intro v hv
 obtain ⟨b,_,hb⟩:=List.mem_flatMap.1 hv
 exact List.all_eq_true.1 (h b) v hb
theorem flat_one (h:∀ x,(f x).all oneCell=true) (l:List β):(flat f l).all oneCell=true:=by
 rw [List.all_eq_true]
 intro v hv
 obtain ⟨b,_,hb⟩:=List.mem_flatMap.1 hv
 exact List.all_eq_true.1 (h b) v hb
theorem RdE.src (T:ET P ts te n f) {A:AW} {x:Value} {l:List β} {F:List Nat} (h:RdE n f A x l F):sourceZ P A te ts (n+1) x=some (l.length,flat f l):=by
 unfold sourceZ
 simp only [T.us]
 rcases h with ⟨rfl,_,o,c,rfl⟩ | ⟨r,o,c,cs,e,g,b,ro,rfl,h2,h3,_,h4⟩
 ·cases o with
  | none=>rfl
  | some a=>
   unfold sourceA
   simp only [Nat.zero_mul]
   rfl
 ·show sourceA A (n+1) _=_
  unfold sourceA
  obtain ⟨rest,hr⟩:=flat_of T.len l o h4
  have:=takeCells_app (flat f l) rest (flat_noT T.noT l)
  rw [flat_length T.len] at this
  simp only [cells_row h2,hr,this]
theorem OwnE.appendL (T:ET P ts te n f) {A:AW} {v x:Value} {l l2:List β} {F F2:List Nat} {K:Value→AW→Prop} (h:OwnE te n f A v l F) (hx:RdE n f A x l2 F2) (hf:Fine A) (hA:A.next < maxId) (hl:l.length < 1000000) (hl2:l2.length < 1000000)
  (hk:∀ v' A' F',OwnE te n f A' v' (l++l2) F'→Keeps A A' F→(∀ x∈F',x∈F∨x=A.next)→A'.next≤A.next+1→Fine A'→K v' A'):bothW (appendA P A ts ts v x) K:=by
 have hroom:room=68719476736:=rfl
 obtain ⟨b,hb,hb2⟩:=T.by'
 have hse:sliceElemT P ts=some te:=by unfold sliceElemT;rw [T.us]
 have hsrc:=hx.src T
 cases l2 with
 | nil=>
  have hv:∃ o m c,v=.slice o m c∧m=l.length:=by
   rcases h with ⟨rfl,h2,_⟩ | ⟨b',g,rfl,_⟩
   ·exact ⟨_,_,_,rfl,h2.symm⟩
   ·exact ⟨_,_,_,rfl,rfl⟩
  obtain ⟨o,m,c,rfl,rfl⟩:=hv
  have hm:(l.length+0) * b≤(l.length+0) * 256:=Nat.mul_le_mul_left _ hb2
  have e:appendA P A ts ts (.slice o l.length c) x=.ok (.slice o l.length c) A:=by
   have hsrc:sourceZ P A te ts (n+1) x=some (0,[]):=hsrc
   unfold appendA
   simp only [hse,T.sz,hb,hsrc]
   rw [blt_true.2 (show l.length+0 < room by omega),blt_true.2 (show (l.length+0) * b < room by omega),T.hz]
   rfl
  rw [e]
  refine bothW_ok.2 (hk _ A F ?_ (.refl _ _) (fun x hx=>.inl hx) (by omega) hf)
  rw [List.append_nil]
  exact h
 | cons p r=>
  rw [List.length_cons] at hl2
  have hm:(l.length+(r.length+1)) * b≤(l.length+(r.length+1)) * 256:=Nat.mul_le_mul_left _ hb2
  refine appendG (m:=r.length) (size:=n) hse T.sz hb T.hz hsrc (flat_length T.len _) (flat_one T.one _) h hf hA (by omega) (by omega) fun v' A' F' h1 h2 h3 h4 h5=>?_
  refine hk v' A' F' ?_ h2 h3 (by omega) h5
  show OwnG A' te (n+1) v' (l++p::r).length (flat f (l++p::r)) F'
  rw [List.length_append,flat_apps]
  exact h1
end
section
variable {P:Program} {ts te:TypeId} {n:Nat} {β:Type} {f:β→List Value}
theorem slice_fromE (T:ET P ts te n f) {A:AW} {b m i:Nat} {cs:List Value} {g b0:Nat} {ro:Bool} (hr:A.get b=some (.row cs te g b0 ro)) (hi:i≤m):sliceA P A ts (.slice (some ⟨b,0,none⟩) m (capU+m)) (some (.int .i64 (i:Int))) none none=some (.slice (some ⟨b,i * (n+1),none⟩) (m - i) (capU+(m - i))):=by
 show sliceA P A ts _ (some (.int .i64 (.ofNat i))) none none=_
 have hrow:rowIs A (some ⟨b,0,none⟩) te=true:=by unfold rowIs;simp only [hr];exact beq_true.2 rfl
 have hm:moved (some ⟨b,0,none⟩) (i * (n+1))=some ⟨b,i * (n+1),none⟩:=by
  show some (bif Nat.beq (i * (n+1)) 0 then (⟨b,0,none⟩:Addr) else ⟨b,0+i * (n+1),none⟩)=_
  cases hb:Nat.beq (i * (n+1)) 0 with
  | true=>rw [cond_true,Nat.eq_of_beq_eq_true hb]
  | false=>rw [cond_false,Nat.zero_add]
 unfold sliceA
 simp only [T.us,T.sz,ble_true.2 (show capU≤capU+m by omega),cond_true,bounds,okMax,boundA,Nat.add_sub_cancel_left,ble_true.2 hi,ble_true.2 (Nat.le_refl m),Option.isSome_none,Bool.not_false,Bool.or_true,hrow,Bool.and_self,hm]
theorem slice_toE (T:ET P ts te n f) {A:AW} {b m i:Nat} {cs:List Value} {g b0:Nat} {ro:Bool} (hr:A.get b=some (.row cs te g b0 ro)) (hi:i≤m):sliceA P A ts (.slice (some ⟨b,0,none⟩) m (capU+m)) none (some (.int .i64 (i:Int))) none=some (.slice (some ⟨b,0,none⟩) i (capU+m)):=by
 show sliceA P A ts _ none (some (.int .i64 (.ofNat i))) none=_
 have hrow:rowIs A (some ⟨b,0,none⟩) te=true:=by unfold rowIs;simp only [hr];exact beq_true.2 rfl
 have hm:moved (some ⟨b,0,none⟩) (0 * (n+1))=some ⟨b,0,none⟩:=by rw [Nat.zero_mul];rfl
 unfold sliceA
 simp only [T.us,T.sz,ble_true.2 (show capU≤capU+m by omega),cond_true,bounds,okMax,boundA,Nat.add_sub_cancel_left,ble_true.2 hi,Nat.sub_zero,Option.isSome_some,Option.isSome_none,Bool.not_false,Bool.or_true,hrow,Bool.and_self,hm]
theorem RdE.some (hlen:∀ x,(f x).length=n+1) {A:AW} {b g o c:Nat} {l:List β} {cs:List Value} {e:TypeId} {ro:Bool} {b0:Nat} (hr:A.get b=.some (.row cs e g b0 ro)) (hg:g < A.next) (hc:∀ (i:Nat) p,l[i]? =.some p→∃ rest,cs.drop (o+i * (n+1))=f p++rest):∃ F,RdE n f A (.slice (.some ⟨b,o,none⟩) l.length c) l F∧∀ x∈F,x=g:=
 ⟨[g],.inr ⟨b,o,c,cs,e,g,b0,ro,rfl,hr,hg,rfl,hc⟩,by simp⟩
theorem OwnE.to (T:ET P ts te n f) {A:AW} {v:Value} {l:List β} {F:List Nat} (h:OwnE te n f A v l F) {i:Nat} (hi:i≤l.length) (hnil:sliceA P A ts (.slice none 0 0) none (.some (.int .i64 0)) none=.some (.slice none 0 0)):
  ∃ v' F',sliceA P A ts v none (.some (.int .i64 (i:Int))) none=.some v'∧RdE n f A v' (l.take i) F'∧∀ x∈F',x∈F:=by
 rcases h with ⟨rfl,h2,_,rfl⟩ | ⟨b,g,rfl,h2,rfl⟩
 ·have:l=[]:=List.eq_nil_of_length_eq_zero h2
  subst this
  obtain rfl:i=0:=by simpa using hi
  exact ⟨_,[],hnil,.nil _ _ _,by simp⟩
 ·obtain ⟨F',h3,h4⟩:=RdE.some (l:=l.take i) (o:=0) (c:=capU+l.length) T.len h2.row h2.ltf (fun j p hj=>by
   rw [Nat.zero_add]
   rw [List.getElem?_take] at hj
   split at hj
   ·exact flat_drop T.len l j p hj
   ·cases hj)
  rw [List.length_take,Nat.min_eq_left hi] at h3
  exact ⟨_,F',slice_toE T h2.row hi,h3,fun x hx=>by simp [h4 x hx]⟩
theorem OwnE.from (T:ET P ts te n f) {A:AW} {v:Value} {l:List β} {F:List Nat} (h:OwnE te n f A v l F) {i:Nat} (hi:i≤l.length) (hnil:sliceA P A ts (.slice none 0 0) (.some (.int .i64 0)) none none=.some (.slice none 0 0)):
  ∃ v' F',sliceA P A ts v (.some (.int .i64 (i:Int))) none none=.some v'∧RdE n f A v' (l.drop i) F'∧∀ x∈F',x∈F:=by
 rcases h with ⟨rfl,h2,_,rfl⟩ | ⟨b,g,rfl,h2,rfl⟩
 ·have:l=[]:=List.eq_nil_of_length_eq_zero h2
  subst this
  obtain rfl:i=0:=by simpa using hi
  exact ⟨_,[],hnil,.nil _ _ _,by simp⟩
 ·obtain ⟨F',h3,h4⟩:=RdE.some (l:=l.drop i) (o:=i * (n+1)) (c:=capU+(l.length - i)) T.len h2.row h2.ltf (fun j p hj=>by
   rw [← Nat.add_mul]
   exact flat_drop T.len l (i+j) p (by rw [List.getElem?_drop] at hj;exact hj))
  rw [List.length_drop] at h3
  exact ⟨_,F',slice_fromE T h2.row hi,h3,fun x hx=>by simp [h4 x hx]⟩
end
end Go.Abs
namespace Go.Proofs.YtdpdajpiadohjaaGreatDoor
open Go.Abs
theorem sl_nil_to (A:AW):sliceA Tryz.prog A 28 (.slice none 0 0) none (some (.int .i64 0)) none=some (.slice none 0 0):=by kernel_rfl
theorem sl_nil_from (A:AW):sliceA Tryz.prog A 28 (.slice none 0 0) (some (.int .i64 0)) none none=some (.slice none 0 0):=by kernel_rfl
theorem addTail {v:Value} {l:List Nm} {F:List Nat} {p:Nm} {q i:Nat} {A:AW} {K:Value→AW→Prop} (h:OwnE 46 2 Nm.cells A v l F) (hq:Go.Abs.Row1 A q p.cells 46) (hi:i≤l.length) (hl:l.length < 10000) (hf:Fine A) (hA:A.next+10 < maxId)
  (hk:∀ A' v' F',OwnE 46 2 Nm.cells A' v' (l.take i++p::l.drop i) F'→(∀ x∈F',A.next≤x)→Grow A A' 4→K v' A'):
  pureW (sliceA Tryz.prog A 28 v none (some (.int .i64 (i:Int))) none) fun t14=>bothW (appendA Tryz.prog A 28 28 (.slice none 0 0) t14) fun t15 A1=>pureW (loadP Tryz.prog A1 46 (.pointer (some ⟨q,0,none⟩))) fun t16=>bothW (buildSliceA Tryz.prog A1 28 1 [(0,t16)]) fun t17 A2=>
   bothW (appendA Tryz.prog A2 28 28 t15 t17) fun t18 A3=>pureW (sliceA Tryz.prog A3 28 v (some (.int .i64 (i:Int))) none none) fun t19=>bothW (appendA Tryz.prog A3 28 28 t18 t19) fun t20 A4=>K t20 A4:=by
 obtain ⟨v1,F1,e1,r1,s1⟩:=h.to etN hi (sl_nil_to A)
 simp only [e1,pureW_some]
 have h0:OwnE 46 2 Nm.cells A (.slice none 0 0) [] []:=.nil A
 refine h0.appendL etN r1 hf (by omega) (by simp) (by rw [List.length_take];omega) fun o1 A1 G1 ho1 k1 hG1 n1 f1=>?_
 have hG1:∀ x∈G1,A.next≤x:=fun x hx=>by
  rcases hG1 x hx with h | h
  ·cases h
  ·omega
 simp only [load46 (hq.keeps k1 (by simp)),pureW_some]
 refine newNm1 f1 (by omega) fun A2 m2=>?_
 have n2:=m2.next
 have k2:=m2.keeps f1
 have l1:=k1.next
 refine OwnE.append etN (ho1.keeps k2 (by simp)) m2.row1 m2.fine (by omega) (by rw [List.nil_append,List.length_take];omega) fun o3 A3 G3 ho3 k3 hG3 n3 f3=>?_
 have K3:Keeps A A3 []:=(k1.trans k2 (by simp)).trans k3 (fun x hx=>.inr (hG1 x hx))
 have hG3:∀ x∈G3,A.next≤x:=fun x hx=>by
  rcases hG3 x hx with h | h
  ·exact hG1 x h
  ·omega
 obtain ⟨v4,F4,e4,r4,s4⟩:=(h.keeps K3 (by simp)).from etN hi (sl_nil_from A3)
 simp only [e4,pureW_some]
 refine ho3.appendL etN r4 f3 (by omega) (by simp only [List.nil_append,List.length_append,List.length_take,List.length_cons,List.length_nil];omega) (by rw [List.length_drop];omega) fun o5 A5 G5 ho5 k5 hG5 n5 f5=>?_
 refine hk A5 o5 G5 ?_ (fun x hx=>?_) ⟨K3.trans k5 (fun x hx=>.inr (hG3 x hx)),f5,by omega⟩
 ·simpa using ho5
 ·have l3:=K3.next
  rcases hG5 x hx with h | h
  ·exact hG3 x h
  ·omega
theorem addN_yes {l:List Nm} {p:Nm} (h:l[Go.Abs.ahead l p]? =some p):addN l p=l:=if_pos h
theorem addN_no {l:List Nm} {p:Nm} (h:¬ l[Go.Abs.ahead l p]? =some p):addN l p=l.take (Go.Abs.ahead l p)++p::l.drop (Go.Abs.ahead l p):=if_neg h
section
variable {W0:World} {m0:Inj Tryz.prog}
theorem wc28 {v:Value} {l:List Nm} {F:List Nat} {p:Nm} {A:AW} {K:Value→AW→Prop} (h:OwnE 46 2 Nm.cells A v l F) (hl:l.length < 10000) (hs:∀ q∈l,slen q.g < 9223372036854775808∧slen q.b < 9223372036854775808) (hf:Fine A) (hA:A.next+30+2 * l.length < maxId)
  (hk:∀ A' v' F',OwnE 46 2 Nm.cells A' v' (addN l p) F'→(∀ x∈F',x∈F∨A.next≤x)→Grow A A' (10+2 * l.length)→K v' A'):Wc Tryz.prog theX W0 m0 28 [v,.agg ⟨p.cells⟩] A K:=by
 let I:Nat→Nat→List Value→AW→Prop:=fun g id vals A'=>id=0∧∃ i:Nat,vals=[v,.pointer (some ⟨A.next,0,none⟩),.int .i64 (i:Int)]∧i≤l.length∧(∀ j y,j < i→l[j]? =some y→xcmp y p < 0)∧Go.Abs.Row1 A' A.next p.cells 46∧Grow A A' (1+2 * i)∧g=l.length - i
 refine w28 _ _ _ (c28 (I:=I) ?_) ?_
 ·rintro g id vals A' d ⟨rfl,i,rfl,hi,hlo,hr,gr,rfl⟩ hd
  rw [l28_0]
  simp only [L28,List.map_cons,List.map_nil,List.cons.injEq,and_true] at hd
  obtain ⟨d0,d3,d5⟩:=hd
  have nx:=gr.next
  have le:=gr.le
  have h':=h.keeps gr.keeps (by simp)
  have rd':=h'.rd etN.len
  simp only [d0,d3,d5,rd'.len etN,bin_lss,pureW_some,forkW_dec]
  refine ⟨fun hlt=>?_,fun hge=>⟨fun h2=>absurd h2 hge,fun _=>?_⟩⟩
  ·have hlt:i < l.length:=by omega
   have hp:=List.getElem?_eq_getElem hlt
   generalize hpp:l[i]=y at hp
   obtain ⟨r,o,a1,_,a2⟩:=rd'.at etN hp
   have hy:=hs y (List.mem_of_getElem? hp)
   simp only [a1,a2,load46 hr,pureW_some]
   refine wc59 gr.fine (by omega) hy.1 hy.2 fun A2 c g2 hc=>?_
   have n2:=g2.next
   have l2:=g2.le
   have hr2:=hr.keeps g2.keeps (by simp)
   have h2:=h'.keeps g2.keeps (by simp)
   have rd2:=h2.rd etN.len
   have G2:=gr.trans g2
   simp only [rd2.len etN,bin_lss,pureW_some,forkW_dec,bin_add]
   refine ⟨fun hneg=>?_,fun hneg=>⟨fun _=>?_,fun h3=>absurd hlt (by omega)⟩⟩
   ·rw [wrap_i64 (by omega) (by omega)]
    refine cutW_self.2 ⟨l.length - (i+1),by omega,rfl,i+1,rfl,by omega,fun j z hj hz=>?_,hr2,G2.more (by omega),rfl⟩
    by_cases hji:j=i
    ·subst hji
     rw [hp,Option.some.injEq] at hz
     rw [← hz];exact hc.1 hneg
    ·exact hlo j z (by omega) hz
   ·have hah:i=Go.Abs.ahead l p:=ahead_is (by omega) hlo fun z hz=>by
     rw [hp,Option.some.injEq] at hz
     rw [← hz];exact fun hh=>hneg (hc.2 hh)
    obtain ⟨r',o',b1,_,b2⟩:=rd2.at etN hp
    have e:=b1.symm.trans a1
    simp only [Option.some.injEq,Value.pointer.injEq,Addr.mk.injEq,and_true] at e
    obtain ⟨rfl,rfl⟩:=e
    simp only [a1,b2,load46 hr2,pureW_some,eqN]
    refine forkW_bool.2 ⟨fun he=>?_,fun he=>?_⟩
    ·refine hk A2 v F ?_ (fun x hx=>.inl hx) (G2.more (by omega))
     rw [addN_yes (by rw [← hah,hp,keqN_iff.1 he])]
     exact h2
    ·refine addTail h2 hr2 hi hl G2.fine (by omega) fun A' v' F' ho hF g4=>hk A' v' F' ?_ (fun x hx=>.inr (by have:=hF x hx;omega)) ((G2.trans g4).more (by omega))
     rw [addN_no (by rw [← hah,hp];exact fun e=>keqN_not.1 he (Option.some.inj e)),← hah]
     exact ho
  ·have hil:i=l.length:=by omega
   have hah:i=Go.Abs.ahead l p:=ahead_is hi hlo fun z hz=>by
    rw [hil,List.getElem?_eq_none (Nat.le_refl _)] at hz;cases hz
   refine addTail h' hr hi hl gr.fine (by omega) fun A' v' F' ho hF g4=>hk A' v' F' ?_ (fun x hx=>.inr (by have:=hF x hx;omega)) ((gr.trans g4).more (by omega))
   rw [addN_no (by rw [← hah,hil,List.getElem?_eq_none (Nat.le_refl _)];exact fun e=>by cases e),← hah]
   exact ho
 ·rw [e28]
  refine newP_made (cs:=p.cells) hf (by omega) rfl fun A1 m1=>?_
  exact cutW_self.2 ⟨l.length,rfl,0,rfl,by omega,fun j y hj=>by omega,m1.row1,(Grow.made m1 hf).more (by omega),by simp⟩
end
end Go.Proofs.YtdpdajpiadohjaaGreatDoor
