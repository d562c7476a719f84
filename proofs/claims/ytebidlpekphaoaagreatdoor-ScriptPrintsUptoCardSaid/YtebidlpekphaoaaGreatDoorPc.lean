/-
  Part 3 of 6: the abstract machine, then what the program does, then the statement. Printed short by a program of ours. Conditions: those of each theorem.
-/
import Derived.Test.YtebidlpekphaoaaGreatDoorPb
import Derived.KernelRfl
import Derived.Laws.StructEq
import Derived.Lib.TrimUEq
import Derived.Shelf.Strconv.Itoa3
import Derived.Test.YtebidlpekphaoaaGreatDoorProg
set_option maxRecDepth 100000
namespace Go.Abs
section
variable {P:Program} {X:Bl} {W0:World} {m0:Inj P}
structure Plain (X:Bl):Prop where
 forks:X.forks=[]
 asks:X.asks=[]
 says:X.says=[]
abbrev frC (fn:FuncId) (tm:Tm) (todo:List Item) (dr:Bool) (ro:Option Nat) (ds:List Nat):AFr:=⟨fn,tm,todo,ds.map fun D=>{ target:=.collected D,args:=#[] },.run,.normal,ro,dr⟩
abbrev frM (fn:FuncId) (tm:Tm) (todo:List Item) (dr:Bool):AFr:=⟨fn,tm,todo,[],.run,.normal,none,dr⟩
def Kn (kt kf ku:Nat) (tm:Tm):Prop:=∀ t,(kt.testBit t=true→tm.get t=.bool true)∧(kf.testBit t=true→tm.get t=.bool false)∧(ku.testBit t=true→tm.get t=undef)
theorem EI {kt kf ku:Nat} {tm:Tm} (h:Kn kt kf ku tm) {x:Operand} {b:Bool} (hx:Jn kt kf x=some b):By tm x=.bool b:=by
 cases x with
 | const v=>
  cases v <;> simp only [Jn] at hx <;> first | (cases hx;done) | (cases hx;rfl)
 | tmp t=>
  simp only [Jn] at hx
  cases h1:kt.testBit t with
  | true=>
   rw [h1,cond_true,Option.some.injEq] at hx
   subst hx
   exact (h t).1 h1
  | false=>
   rw [h1,cond_false] at hx
   cases h2:kf.testBit t with
   | true=>
    rw [h2,cond_true,Option.some.injEq] at hx
    subst hx
    exact (h t).2.1 h2
   | false=>rw [h2] at hx;cases hx
 | _=>cases hx
theorem Dd (k d t:Nat):(Mq k d).testBit t=(k.testBit t || d==t):=by
 unfold Mq
 cases h:k.testBit d with
 | true=>
  simp only [cond_true]
  by_cases e:d=t
  ·subst e;simp [h]
  ·simp [e]
 | false=>
  simp only [cond_false,Nat.testBit_xor,Nat.one_shiftLeft,Nat.testBit_two_pow]
  by_cases e:d=t
  ·subst e;simp [h]
  ·simp [e]
theorem CX (k d t:Nat):(clr k d).testBit t=(k.testBit t&&!(d==t)):=by
 unfold clr
 cases h:k.testBit d with
 | false=>
  simp only [cond_false]
  by_cases e:d=t
  ·subst e;simp [h]
  ·simp [e]
 | true=>
  simp only [cond_true,Nat.testBit_xor,Nat.one_shiftLeft,Nat.testBit_two_pow]
  by_cases e:d=t
  ·subst e;simp [h]
  ·simp [e]
theorem Kn.set {kt kf ku:Nat} {tm:Tm} (h:Kn kt kf ku tm) (hs:tm.sz < Al) {d:Nat} (hd:d < tm.sz) {v:Value} {r:Option Bool} {sk:Bool} (hr:∀ b,r=some b→v=.bool b) (hu:sk=true→v=undef):Kn (knT kt d r) (knF kf d r) (knU ku d sk) (tm.set d v):=by
 intro t
 rw [Tm.E1 tm hs d t v]
 by_cases e:t=d
 ·subst e
  rw [if_pos ⟨rfl,hd⟩]
  refine ⟨?_,?_,?_⟩
  ·cases r with
   | none=>simp [knT,CX]
   | some b=>cases b <;> simp [knT,CX,Dd,hr]
  ·cases r with
   | none=>simp [knF,CX]
   | some b=>cases b <;> simp [knF,CX,Dd,hr]
  ·cases sk with
   | false=>simp [knU,CX]
   | true=>simp [knU,Dd,hu]
 ·rw [if_neg (by simp [e])]
  have hne:(d==t)=false:=by simp [Ne.symm e]
  refine ⟨?_,?_,?_⟩
  ·cases r with
   | none=>simpa [knT,CX,hne] using (h t).1
   | some b=>cases b <;> simpa [knT,CX,Dd,hne] using (h t).1
  ·cases r with
   | none=>simpa [knF,CX,hne] using (h t).2.1
   | some b=>cases b <;> simpa [knF,CX,Dd,hne] using (h t).2.1
  ·cases sk <;> simpa [knU,CX,Dd,hne] using (h t).2.2
theorem Kn.true {kt kf ku:Nat} {tm:Tm} (h:Kn kt kf ku tm) {d:Nat} (hv:tm.get d=.bool true):Kn (Mq kt d) kf ku tm:=by
 intro t
 rw [Dd]
 refine ⟨fun ht=>?_,(h t).2⟩
 simp only [Bool.or_eq_true,beq_iff_eq] at ht
 rcases ht with ht | rfl
 ·exact (h t).1 ht
 ·exact hv
theorem Kn.false {kt kf ku:Nat} {tm:Tm} (h:Kn kt kf ku tm) {d:Nat} (hv:tm.get d=.bool false):Kn kt (Mq kf d) ku tm:=by
 intro t
 rw [Dd]
 refine ⟨(h t).1,fun ht=>?_,(h t).2.2⟩
 simp only [Bool.or_eq_true,beq_iff_eq] at ht
 rcases ht with ht | rfl
 ·exact (h t).2.1 ht
 ·exact hv
theorem Cf (hX:XOk P X) (hP:POk P) {s s':ASt} {Q:Value→AW→Prop} (h:Bb P X s=.next s') (h':WP P X W0 m0 s' Q):WP P X W0 m0 s Q:=(Sf hX hP h).wp1 h'
theorem finish_at {fn:FuncId} {tm:Tm} {ops:Array Oper} {i:Nat} {rest:List Nat} {k:List Item} {dr:Bool} {ro:Option Nat} {ds:List Nat} {o:Oper} (ho:ops.toList[i]? =some o) (v:Value):
  (frC fn tm (.inRegion ops (i::rest)::k) dr ro ds).finish v=frC fn (match o.dst with | some d=>tm.set d v | none=>tm) (.inRegion ops rest::k) dr ro ds:=by
 unfold AFr.finish
 simp only [ho]
 rfl
theorem OM (hp:Plain X) {fn:FuncId} {tm:Tm} {ops:Array Oper} {i:Nat} {rest:List Nat} {k:List Item} {dr:Bool} {ro:Option Nat} {ds:List Nat} {cs:List AFr} {A:AW} {o:Oper} (ho:ops.toList[i]? =some o) (hi:(dr&&!Nat.blt i ops.toList.length)=false) (h1:Ex P X ⟨frC fn tm (.inRegion ops (i::rest)::k) dr ro ds,cs,A⟩ ops i=none):
  Bb P X ⟨frC fn tm (.inRegion ops (i::rest)::k) dr ro ds,cs,A⟩=
   (bif AP ops tm o then AX P (frC fn tm (.inRegion ops (i::rest)::k) dr ro ds) cs false (AF P X (By tm) o A) else .next ⟨(frC fn tm (.inRegion ops (i::rest)::k) dr ro ds).finish undef,cs,A⟩):=by
 have e:Bb P X ⟨frC fn tm (.inRegion ops (i::rest)::k) dr ro ds,cs,A⟩=(bif dr&&!Nat.blt i ops.toList.length then
   (match N4 P X ⟨frC fn tm (.inRegion ops (i::rest)::k) dr ro ds,cs,A⟩ ops (i - ops.toList.length) with
   | some (v,v')=>.asks v v' ⟨frC fn tm (.inRegion ops rest::k) dr ro ds,cs,A⟩
   | none=>bif Gr P X (frC fn tm (.inRegion ops (i::rest)::k) dr ro ds) A ops (i - ops.toList.length) then .next ⟨frC fn tm (.inRegion ops rest::k) dr ro ds,cs,A⟩ else .fail "recheck")
  else (match Ex P X ⟨frC fn tm (.inRegion ops (i::rest)::k) dr ro ds,cs,A⟩ ops i with
   | some (f,args,w)=>.calls f args ⟨frC fn tm (.inRegion ops (i::rest)::k) dr ro ds,cs,w⟩
   | none=>(match KI P X ⟨frC fn tm (.inRegion ops (i::rest)::k) dr ro ds,cs,A⟩ ops i with
    | some w=>.branch [⟨(frC fn tm (.inRegion ops (i::rest)::k) dr ro ds).finish (.bool true),cs,w⟩,⟨(frC fn tm (.inRegion ops (i::rest)::k) dr ro ds).finish (.bool false),cs,w⟩]
    | none=>(match Kl P X ⟨frC fn tm (.inRegion ops (i::rest)::k) dr ro ds,cs,A⟩ ops i with
     | some (v,v',w)=>.asks v v' ⟨(frC fn tm (.inRegion ops (i::rest)::k) dr ro ds).finish v',cs,w⟩
     | none=>(match ops.toList[i]? with
      | some o=>bif AP ops tm o then AX P (frC fn tm (.inRegion ops (i::rest)::k) dr ro ds) cs false (AF P X (frC fn tm (.inRegion ops (i::rest)::k) dr ro ds).eval o A) else .next ⟨(frC fn tm (.inRegion ops (i::rest)::k) dr ro ds).finish undef,cs,A⟩
      | none=>.fail "no operation"))))):=rfl
 rw [e,hi,cond_false]
 have h2:KI P X ⟨frC fn tm (.inRegion ops (i::rest)::k) dr ro ds,cs,A⟩ ops i=none:=by unfold KI;rw [hp.forks]
 have h3:Kl P X ⟨frC fn tm (.inRegion ops (i::rest)::k) dr ro ds,cs,A⟩ ops i=none:=by unfold Kl;rw [hp.says]
 rw [h1,h2,h3]
 simp only [ho]
 rw [Cc]
theorem Ia {g:FuncId} {args:List Value} {kd:CallKind} {fr:AFr} (h:E3 P g args kd=some fr):fr.kind=kd∧fr.roundOf=none:=by
 unfold E3 at h
 split at h
 ·split at h
  ·simp only at h
   generalize (bif Nat.ble _ _ then _ else _)=n at h
   cases hn:Nat.blt n Al with
   | false=>rw [hn] at h;cases h
   | true=>
    rw [hn,cond_true,Option.some.injEq] at h
    subst h
    exact ⟨rfl,rfl⟩
  ·cases h
 ·cases h
theorem Pr (hX:XOk P X) (hP:POk P) (hp:Plain X) {fn:FuncId} {tm:Tm} {ops:Array Oper} {i:Nat} {rest:List Nat} {k:List Item} {dr:Bool} {ro:Option Nat} {ds:List Nat} {cs:List AFr} {A:AW} {o:Oper} {K Q:Value→AW→Prop} (ho:ops.toList[i]? =some o)
  (hi:(dr&&!Nat.blt i ops.toList.length)=false) (hw:AP ops tm o=true) (h:Qn P X W0 m0 (AF P X (By tm) o A) K)
  (h':∀ v A',K v A'→WP P X W0 m0 ⟨frC fn (match o.dst with | some d=>tm.set d v | none=>tm) (.inRegion ops rest::k) dr ro ds,cs,A'⟩ Q):WP P X W0 m0 ⟨frC fn tm (.inRegion ops (i::rest)::k) dr ro ds,cs,A⟩ Q:=by
 have e:=fun h=>OM (P:=P) (fn:=fn) (tm:=tm) (rest:=rest) (k:=k) (ro:=ro) (ds:=ds) (cs:=cs) (A:=A) hp ho hi h
 rw [hw,cond_true] at e
 have notk:∀ {r:R AN},AF P X (By tm) o A=r→(∀ g args A',r=.ok (.enter g args) A'→Ew g X.known=false)→Ex P X ⟨frC fn tm (.inRegion ops (i::rest)::k) dr ro ds,cs,A⟩ ops i=none:=by
  intro r hr hn
  unfold Ex
  split
  ·rfl
  ·simp only [ho,hw,cond_true]
   rw [Cc]
   show (match AF P X (By tm) o A with | .ok (.enter f args) w=>bif Ew f X.known then some (f,args,w) else none | _=>none)=none
   rw [hr]
   split
   ·rename_i g args A' he
    rw [hn _ _ _ rfl,cond_false]
   ·rfl
 rcases h with ⟨v,A',hx,hk⟩ | ⟨A',hx,hk⟩ | ⟨g,args,A',hx,hk⟩ | ⟨l,fn',tm',assign,body,A',hx,hk⟩ | ⟨it,A',hx,m,since,seen,last,es,clock,ro',hg1,hg2,hg3,hk⟩
 ·rw [hx] at e
  refine Cf hX hP (e (notk hx (fun _ _ _ h=>by cases h))) ?_
  rw [finish_at ho]
  exact h' v A' hk
 ·rw [hx] at e
  refine Cf hX hP (e (notk hx (fun _ _ _ h=>by cases h))) ?_
  rw [finish_at ho]
  exact h' undef A' hk
 ·unfold toW at hk
  cases hkn:Ew g X.known with
  | true=>
   rw [hkn,cond_true] at hk
   have e3:Bb P X ⟨frC fn tm (.inRegion ops (i::rest)::k) dr ro ds,cs,A⟩=.calls g args ⟨frC fn tm (.inRegion ops (i::rest)::k) dr ro ds,cs,A'⟩:=by
    have h1:Ex P X ⟨frC fn tm (.inRegion ops (i::rest)::k) dr ro ds,cs,A⟩ ops i=some (g,args,A'):=by
     unfold Ex
     split
     ·rename_i hnil;rw [hnil] at hkn;cases hkn
     ·simp only [ho,hw,cond_true]
      rw [Cc]
      show (match AF P X (By tm) o A with | .ok (.enter f args) w=>bif Ew f X.known then some (f,args,w) else none | _=>none)=_
      rw [hx]
      simp only [hkn,cond_true]
    have e4:Bb P X ⟨frC fn tm (.inRegion ops (i::rest)::k) dr ro ds,cs,A⟩=(bif dr&&!Nat.blt i ops.toList.length then
      (match N4 P X ⟨frC fn tm (.inRegion ops (i::rest)::k) dr ro ds,cs,A⟩ ops (i - ops.toList.length) with
      | some (v,v')=>.asks v v' ⟨frC fn tm (.inRegion ops rest::k) dr ro ds,cs,A⟩
      | none=>bif Gr P X (frC fn tm (.inRegion ops (i::rest)::k) dr ro ds) A ops (i - ops.toList.length) then .next ⟨frC fn tm (.inRegion ops rest::k) dr ro ds,cs,A⟩ else .fail "recheck")
     else (match Ex P X ⟨frC fn tm (.inRegion ops (i::rest)::k) dr ro ds,cs,A⟩ ops i with
      | some (f,args,w)=>.calls f args ⟨frC fn tm (.inRegion ops (i::rest)::k) dr ro ds,cs,w⟩
      | none=>(match KI P X ⟨frC fn tm (.inRegion ops (i::rest)::k) dr ro ds,cs,A⟩ ops i with
       | some w=>.branch [⟨(frC fn tm (.inRegion ops (i::rest)::k) dr ro ds).finish (.bool true),cs,w⟩,⟨(frC fn tm (.inRegion ops (i::rest)::k) dr ro ds).finish (.bool false),cs,w⟩]
       | none=>(match Kl P X ⟨frC fn tm (.inRegion ops (i::rest)::k) dr ro ds,cs,A⟩ ops i with
        | some (v,v',w)=>.asks v v' ⟨(frC fn tm (.inRegion ops (i::rest)::k) dr ro ds).finish v',cs,w⟩
        | none=>DW P X ⟨frC fn tm (.inRegion ops (i::rest)::k) dr ro ds,cs,A⟩)))):=rfl
    rw [e4,hi,cond_false,h1]
   rcases hk with ⟨vals,hg,hK,hc,hq⟩ | hl
   ·refine (QS hX hP e3 hg hK hc).wp fun x hx=>?_
    obtain ⟨v,hv,rfl⟩:=List.mem_map.1 hx
    show WP P X W0 m0 ⟨(frC fn tm (.inRegion ops (i::rest)::k) dr ro ds).finish v,cs,A'⟩ Q
    rw [finish_at ho]
    exact h' v A' (hq v hv)
   ·refine YI hX hP e3 hl fun v A2 hq=>?_
    show WP P X W0 m0 ⟨(frC fn tm (.inRegion ops (i::rest)::k) dr ro ds).finish v,cs,A2⟩ Q
    rw [finish_at ho]
    exact h' v A2 hq
  | false=>
  rw [hkn,cond_false] at hk
  rw [hx] at e
  have e:=e (notk hx (fun _ _ _ h=>by cases h;exact hkn))
  obtain ⟨fr',he⟩:=Option.isSome_iff_exists.1 hk.1
  have h2:=hk.2
  unfold Wq at h2
  rw [he] at h2
  simp only [AX,cond_false,he] at e
  refine Cf hX hP e (Vk ?_ ?_ h2 fun v A2 hk2=>?_)
  ·exact (Ia he).1
  ·exact (Ia he).2
  ·rw [finish_at ho]
   exact h' v A2 hk2
 ·rw [hx] at e
  refine Cf hX hP (e (notk hx (fun _ _ _ h=>by cases h))) (hk _ _ _ fun v A2 hk2=>?_)
  rw [finish_at ho]
  exact h' v A2 hk2
 ·rw [hx] at e
  have e:=e (notk hx (fun _ _ _ h=>by cases h))
  have e2:AX P (frC fn tm (.inRegion ops (i::rest)::k) dr ro ds) cs false (.ok (.rangeNext it) A')=.branch ((Qa es since seen).map fun c=>match c with
     | some e=>⟨(frC fn tm (.inRegion ops (i::rest)::k) dr ro ds).finish (.tuple #[.bool true,e.key,e.val]),cs,A'.put it (.mit (some m) since (seen++[e.born]) clock)⟩
     | none=>⟨(frC fn tm (.inRegion ops (i::rest)::k) dr ro ds).finish (.tuple #[.bool false]),cs,A'⟩):=by
   unfold AX
   simp only [hg1,hg2,hg3,cond_false]
   rfl
  rw [e2] at e
  refine (PC hX hP e).wp fun x hx=>?_
  obtain ⟨c,hc,rfl⟩:=List.mem_map.1 hx
  have hk:=hk c hc
  cases c with
  | none=>
   simp only at hk ⊢
   rw [finish_at ho]
   exact h' _ _ hk
  | some e=>
   simp only at hk ⊢
   rw [finish_at ho]
   exact h' _ _ hk
theorem wp_skip (hX:XOk P X) (hP:POk P) (hp:Plain X) {fn:FuncId} {tm:Tm} {ops:Array Oper} {i:Nat} {rest:List Nat} {k:List Item} {dr:Bool} {ro:Option Nat} {ds:List Nat} {cs:List AFr} {A:AW} {o:Oper} {Q:Value→AW→Prop} (ho:ops.toList[i]? =some o)
  (hi:(dr&&!Nat.blt i ops.toList.length)=false) (hw:AP ops tm o=false)
  (h':WP P X W0 m0 ⟨frC fn (match o.dst with | some d=>tm.set d undef | none=>tm) (.inRegion ops rest::k) dr ro ds,cs,A⟩ Q):WP P X W0 m0 ⟨frC fn tm (.inRegion ops (i::rest)::k) dr ro ds,cs,A⟩ Q:=by
 have hkn:Ex P X ⟨frC fn tm (.inRegion ops (i::rest)::k) dr ro ds,cs,A⟩ ops i=none:=by
  unfold Ex
  split
  ·rfl
  ·simp only [ho,hw,cond_false]
 have e:=OM (P:=P) (fn:=fn) (tm:=tm) (rest:=rest) (k:=k) (ro:=ro) (ds:=ds) (cs:=cs) (A:=A) hp ho hi hkn
 rw [hw,cond_false] at e
 refine Cf hX hP e ?_
 rw [finish_at ho]
 exact h'
theorem HS {fn:FuncId} {tm:Tm} {ops:Array Oper} {i:Nat} {rest:List Nat} {k:List Item} {ro:Option Nat} {ds:List Nat} {cs:List AFr} {A:AW} {Q:Value→AW→Prop} (hi:ops.toList.length≤i) (hv:Valid P X A ops tm (i - ops.toList.length))
  (h':WP P X W0 m0 ⟨frC fn tm (.inRegion ops rest::k) true ro ds,cs,A⟩ Q):WP P X W0 m0 ⟨frC fn tm (.inRegion ops (i::rest)::k) true ro ds,cs,A⟩ Q:=by
 have hr:Reach P X W0 m0 ⟨frC fn tm (.inRegion ops (i::rest)::k) true ro ds,cs,A⟩ [⟨frC fn tm (.inRegion ops rest::k) true ro ds,cs,A⟩]:=by
  intro f0 base lo cs0 m f csW w h _
  exact ⟨_,by simp,LO h rfl rfl rfl hi hv⟩
 exact hr.wp1 h'
def Xv (P:Program) (A:AW) (tm:Tm) (r:ResultVar):Option Value:=match r with | .tmp t=>some (tm.get t) | .cell a t=>Au P A t (tm.get a)
theorem PA {A:AW} {f:Func} {tm:Tm}:CK P A f tm=(match CK.go (Xv P A tm) f.results.toList with | some [v]=>some v | some l=>some (.tuple ⟨l⟩) | none=>none):=rfl
theorem JV {A:AW} {tm:Tm} {Q:Value→AW→Prop}:∀ (l:List ResultVar) (acc:List Value),QN P A tm Q l acc→∃ vs,CK.go (Xv P A tm) l=some vs∧Q (oneOf (acc.reverse++vs)) A
 | [],acc,h=>⟨[],rfl,by simpa [QN] using h⟩
 | .tmp t::l,acc,h=>by
  obtain ⟨vs,h1,h2⟩:=JV l _ h
  refine ⟨tm.get t::vs,?_,by simpa using h2⟩
  simp only [CK.go,h1,Xv]
 | .cell a t::l,acc,h=>by
  obtain ⟨v,h0,hv⟩:=h
  obtain ⟨vs,h1,h2⟩:=JV l _ hv
  refine ⟨v::vs,?_,by simpa using h2⟩
  simp only [CK.go,h1,Xv,h0]
theorem Un {fn:FuncId} {f:Func} (hf:P.funcs[fn]? =some f) {A:AW} {tm:Tm} {Q:Value→AW→Prop} (h:Pz P fn A tm Q):∃ v,CK P A f tm=some v∧Q v A:=by
 unfold Pz at h
 rw [hf] at h
 obtain ⟨vs,h1,h2⟩:=JV _ _ h
 rw [PA,h1]
 match vs,h2 with
 | [],h2=>exact ⟨_,rfl,h2⟩
 | [v],h2=>exact ⟨_,rfl,h2⟩
 | a::b::r,h2=>exact ⟨_,rfl,h2⟩
theorem Ke (hX:XOk P X) (hP:POk P) {fn:FuncId} {tm:Tm} {todo:List Item} {Q:Value→AW→Prop}:∀ (ds:List Nat) (A:AW),KV ds A (fun A=>Pz P fn A tm Q)→WP P X W0 m0 ⟨{ (frC fn tm todo false none ds) with mode:=.returning },[],A⟩ Q
 | [],A,h=>by
  have h:Pz P fn A tm Q:=h
  cases hf:P.funcs[fn]? with
  | none=>unfold Pz at h;rw [hf] at h;exact h.elim
  | some f=>
   obtain ⟨v,h1,h2⟩:=Un hf h
   have e2:Bb P X ⟨{ (frC fn tm todo false none []) with mode:=.returning },[],A⟩=.done v A:=by
    have:Bb P X ⟨{ (frC fn tm todo false none []) with mode:=.returning },[],A⟩=(match P.funcs[fn]? with
     | none=>.fail "unwind fn"
     | some fn=>(match CK P A fn tm with
      | some v=>.done v A
      | none=>.fail "results")):=by
     rfl
    rw [this,hf]
    simp only
    rw [h1]
   exact (VH hX hP e2).wp fun x hx=>by simp at hx;subst hx;exact h2
 | D::ds,A,h=>by
  obtain ⟨h1,h2⟩:=h
  have e:Bb P X ⟨{ (frC fn tm todo false none (D::ds)) with mode:=.returning },[],A⟩=.next ⟨{ (frC fn tm todo false none ds) with mode:=.returning },[],A.put D (.deferred none)⟩:=by
   have:Bb P X ⟨{ (frC fn tm todo false none (D::ds)) with mode:=.returning },[],A⟩=(match A.get D with
    | some (.deferred (some calls))=>.next ⟨{ (frC fn tm todo false none ds) with mode:=.returning,defers:=calls++ds.map fun D=>{ target:=.collected D,args:=#[] } },[],A.put D (.deferred none)⟩
    | _=>.fail "takeDeferred"):=by
    rfl
   rw [this,h1]
   rfl
  exact Cf hX hP e (Ke hX hP ds _ h2)
theorem Qq (hX:XOk P X) (hP:POk P) {fn:FuncId} {tm:Tm} {todo:List Item} {ds:List Nat} {A:AW} {Q:Value→AW→Prop} (ht:todo=[]∨∃ k,todo=.code .ret::k) (h:KV ds A fun A=>Pz P fn A tm Q):WP P X W0 m0 ⟨frC fn tm todo false none ds,[],A⟩ Q:=by
 have e:Bb P X ⟨frC fn tm todo false none ds,[],A⟩=.next ⟨{ (frC fn tm todo false none ds) with mode:=.returning },[],A⟩:=by
  rcases ht with rfl | ⟨k,rfl⟩ <;> rfl
 exact Cf hX hP e (Ke hX hP ds A h)
inductive Leaves:List Item→Option Code→Prop
 | off:Leaves [] none
 | ret (k:List Item):Leaves (.code .ret::k) (some .ret)
 | exit (id:Nat) (k:List Item) (h:Hd id k=none):Leaves (.code (.exit id)::k) (some (.exit id))
theorem OD (hX:XOk P X) (hP:POk P) {fn:FuncId} {tm:Tm} {todo:List Item} {ds:List Nat} {A:AW} {Q:Value→AW→Prop} {j:Option Code} (hj:Leaves todo j) (h:Lj P fn none ds A tm Q j):WP P X W0 m0 ⟨frC fn tm todo false none ds,[],A⟩ Q:=by
 cases hj with
 | off=>exact Qq hX hP (.inl rfl) h
 | ret k=>exact Qq hX hP (.inr ⟨k,rfl⟩) h
 | exit id k hx=>exact h.elim
end
section
variable {P:Program} {X:Bl} {W0:World} {m0:Inj P}
theorem Tm.Zb (tm:Tm) (d:Nat) (v:Value):(tm.set d v).sz=tm.sz:=by
 unfold Tm.set
 cases Nat.blt d tm.sz <;> rfl
theorem JP {kt kf ku:Nat} {tm:Tm} (h:Kn kt kf ku tm) {ops:Array Oper} {o:Oper} {b:Bool} (hw:Vo kt kf ku ops o=some b):AP ops tm o=b:=by
 unfold Vo at hw
 unfold AP
 split at hw
 ·rename_i hg
  rw [hg]
  cases hw
  rfl
 ·rename_i j want hg
  rw [hg]
  simp only
  unfold JR at hw
  split at hw
  ·cases hw
  ·rename_i d hd
   split at hd
   ·rename_i o' ho'
    cases hu:ku.testBit d with
    | true=>
     rw [hu,cond_true] at hw
     cases hw
     have hv:tm.get d=undef:=(h d).2.2 hu
     unfold EO
     simp only [ho',hd,hv]
     rfl
    | false=>
     rw [hu,cond_false] at hw
     split at hw
     ·rename_i c hc
      cases hw
      have hv:tm.get d=.bool c:=EI h hc
      unfold EO
      simp only [ho',hd,hv]
     ·cases hw
   ·cases hd
theorem OF {tm:Tm} {ops:Array Oper} {o:Oper} {j:Nat} {want b:Bool} {d:Tmp} (hg:o.guard=some (j,want)) (hs:JR ops j=some d) (hv:tm.get d=.bool b):AP ops tm o=(b==want):=by
 unfold AP EO
 unfold JR at hs
 split at hs
 ·rename_i o' ho'
  simp only [hg,ho',hs,hv]
 ·cases hs
theorem Qz {tm:Tm} {ops:Array Oper} {o:Oper} {j:Nat} {want:Bool} {d:Tmp} (hg:o.guard=some (j,want)) (hs:JR ops j=some d) (hv:tm.get d=undef):AP ops tm o=false:=by
 unfold AP EO
 unfold JR at hs
 split at hs
 ·rename_i o' ho'
  simp only [hg,ho',hs,hv]
  rfl
 ·cases hs
theorem O7 {kt kf ku:Nat} {op:Op} {x:Operand} (h:J0 kt kf op=some x) {tm:Tm} (hk:Kn kt kf ku tm) (P:Program) (X:Bl) {o:Oper} (ho:o.op=op) (A:AW):AF P X (By tm) o A=.ok (.value (By tm x)) A:=by
 cases op <;> simp only [J0] at h <;> try (cases h;done)
 rename_i c a b
 split at h
 ·rename_i hc
  cases h
  have:=EI hk hc
  unfold AF
  simp only [ho,this]
 ·rename_i hc
  cases h
  have:=EI hk hc
  unfold AF
  simp only [ho,this]
 ·cases h
theorem UG {kt kf:Nat} {op:Op} {b:Bool} (hp:J0 kt kf op=none) (h:UH kt kf op=some b):∃ x,(op=.move x∨op=.assign x)∧Jn kt kf x=some b:=by
 cases op <;> simp only [UH] at h <;> try (cases h;done)
 ·exact ⟨_,.inl rfl,h⟩
 ·exact ⟨_,.inr rfl,h⟩
 ·simp only [J0] at hp
  split at h <;> first | (cases h;done) | skip
  ·rename_i hc;rw [hc] at hp;cases hp
  ·rename_i hc;rw [hc] at hp;cases hp
theorem Ux {ρ:Operand→Value} {o:Oper} {x:Operand} (hx:o.op=.move x∨o.op=.assign x) {A:AW} {K:Value→AW→Prop} (h:opW P X W0 m0 ρ o A K):AF P X ρ o A=.ok (.value (ρ x)) A∧K (ρ x) A:=by
 unfold opW at h
 unfold AF
 rcases hx with hx | hx
 ·rw [hx] at h ⊢
  exact ⟨rfl,h⟩
 ·rw [hx] at h ⊢
  exact ⟨rfl,h⟩
variable {fn:FuncId} {T:Nat→List Item} {L:Nat→List Tmp} {S:Nat→List Value→AW→Prop} {Q:Value→AW→Prop} {sz:Nat}
def N9 (P:Program) (X:Bl) (W0:World) (m0:Inj P) (fn:FuncId) (T:Nat→List Item) (L:Nat→List Tmp) (S:Nat→List Value→AW→Prop) (Q:Value→AW→Prop) (sz:Nat):Prop:=
 ∀ id vals A tm,S id vals A→tm.sz=sz→(L id).map tm.get=vals→WP P X W0 m0 ⟨frM fn tm (T id) false,[],A⟩ Q
theorem LD (hX:XOk P X) (hP:POk P) (hp:Plain X) (hsz:sz < Al) {ro:Option Nat} {cs:List AFr} {Q0:Value→AW→Prop}
  (hl:∀ todo tm ds A j,Leaves todo j→Lj P fn ro ds A tm Q j→WP P X W0 m0 ⟨frC fn tm todo false ro ds,cs,A⟩ Q0)
  (hcut:∀ id vals A tm,S id vals A→tm.sz=sz→(L id).map tm.get=vals→WP P X W0 m0 ⟨frC fn tm (T id) false ro [],cs,A⟩ Q0):
  ∀ (n:Nat) (tm:Tm) (todo:List Item) (dr:Bool) (kt kf ku:Nat) (ds:List Nat) (A:AW),tm.sz=sz→Kn kt kf ku tm→AR P X W0 m0 fn T L S Q ro n tm todo dr kt kf ku ds A→WP P X W0 m0 ⟨frC fn tm todo dr ro ds,cs,A⟩ Q0:=by
 intro n
 induction n with
 | zero=>intro tm todo dr kt kf ku ds A _ _ h;exact h.elim
 | succ n ih=>
  intro tm todo dr kt kf ku ds A hs hk h
  unfold AR at h
  split at h
  ·cases dr with
   | true=>exact h.elim
   | false=>exact hl _ _ _ _ _ .off h
  ·cases dr with
   | true=>exact h.elim
   | false=>exact hl _ _ _ _ _ (.ret _) h
  ·
   rename_i k
   cases dr with
   | true=>exact h.elim
   | false=>
    cases ro with
    | none=>exact h.elim
    | some l=>
     obtain ⟨r,h1,h2,h3⟩:=h
     have e:Bb P X ⟨frC fn tm (.beginRound::k) false (some l) ds,cs,A⟩=.next ⟨frC fn tm k false (some l) ds,cs,A.put l (.loop { r with state:=.busy })⟩:=by
      have:Bb P X ⟨frC fn tm (.beginRound::k) false (some l) ds,cs,A⟩=(match A.get l with
       | some (.loop r)=>(match r.state with
        | .ready=>.next ⟨frC fn tm k false (some l) ds,cs,A.put l (.loop { r with state:=.busy })⟩
        | _=>.fail "beginRound")
       | _=>.fail "beginRound"):=by rfl
      rw [this,h1]
      simp only [h2]
     exact Cf hX hP e (ih _ _ _ _ _ _ _ _ hs hk h3)
  ·
   rename_i f ps assign body k
   cases dr with
   | true=>exact h.elim
   | false=>
    cases ro with
    | some l=>exact h.elim
    | none=>
     obtain ⟨D,A1,l,A2,hn1,hn2,g,aS,A3,hdy,hwc⟩:=h
     have e:Bb P X ⟨frC fn tm (.code (.rangeFunc f ps assign body)::k) false none ds,cs,A⟩=(match By tm f with
       | .func fn' first captured=>AX P (frC fn tm (.inRangeFunc l::k) false none (D::ds)) cs false (Ch P X A2 (.fn fn' captured) (first.toList++[.func (.yield l) #[] #[]]))
       | _=>.fail "rangeFunc"):=by
      have:Bb P X ⟨frC fn tm (.code (.rangeFunc f ps assign body)::k) false none ds,cs,A⟩=(match (match A.new (.deferred (some [])) with | some (r,w')=>some (r,([{ target:=.collected r,args:=#[] }]:List Deferred),w') | none=>none) with
       | none=>.fail "enterLoop"
       | some (d,mark,w)=>(match w.new (.loop { state:=.ready,pending:=none,fn:=fn,tm:=tm,params:=ps.toList,assign,body,defers:=d }) with
        | none=>.fail "enterLoop"
        | some (l,w)=>(match (frC fn tm (.code (.rangeFunc f ps assign body)::k) false none ds).eval f with
         | .func fn' first captured=>AX P ({ fn:=fn,tm:=tm,todo:=.inRangeFunc l::k,defers:=mark++(ds.map fun D=>{ target:=.collected D,args:=#[] }),mode:=.run,kind:=.normal,roundOf:=none,dr:=false }:AFr) cs false (Ch P X w (.fn fn' captured) (first.toList++[.func (.yield l) #[] #[]]))
         | _=>.fail "rangeFunc"))):=by rfl
      rw [this,hn1]
      simp only [hn2]
      rw [Cc]
      rfl
     unfold Fo at hdy
     cases hf:By tm f with
     | func fn' first captured=>
      rw [hf] at e hdy
      simp only at e hdy
      rw [hdy] at e
      obtain ⟨fr',he⟩:=Option.isSome_iff_exists.1 hwc.1
      have h2:=hwc.2
      unfold Wq at h2
      rw [he] at h2
      simp only [AX,cond_false,he] at e
      refine Cf hX hP e (Vk (Ia he).1 (Ia he).2 h2 fun v A4 hk2=>?_)
      obtain ⟨r,g1,g2,g3⟩:=hk2
      have e5:Bb P X ⟨(frC fn tm (.inRangeFunc l::k) false none (D::ds)).finish v,cs,A4⟩=.next ⟨frC fn tm (match r.pending with | some c=>.code c::k | none=>k) false none (D::ds),cs,A4.put l (.loop { r with state:=.exhausted })⟩:=by
       have:Bb P X ⟨(frC fn tm (.inRangeFunc l::k) false none (D::ds)).finish v,cs,A4⟩=(match A4.get l with
        | some (.loop r)=>(match r.state with
         | .busy=>.fail "endLoop"
         | _=>.next ⟨frC fn tm (match r.pending with | some c=>.code c::k | none=>k) false none (D::ds),cs,A4.put l (.loop { r with state:=.exhausted })⟩)
        | _=>.fail "endLoop"):=by rfl
       rw [this,g1]
       simp only
      refine Cf hX hP e5 ?_
      rcases g3 with ⟨gp,g3⟩ | ⟨gp,g3⟩
      ·rw [show (match r.pending with | some c=>.code c::k | none=>k)=k by rw [gp]]
       exact ih _ _ _ _ _ _ _ _ hs hk g3
      ·rw [show (match r.pending with | some c=>.code c::k | none=>k)=.code .ret::k by rw [gp]]
       exact hl _ _ _ _ _ (.ret _) g3
     | _=>rw [hf] at hdy;cases hdy
  ·exact Cf hX hP rfl (ih _ _ _ _ _ _ _ _ hs hk h)
  ·exact Cf hX hP rfl (ih _ _ _ _ _ _ _ _ hs hk h)
  ·exact Cf hX hP rfl (ih _ _ _ _ _ _ _ _ hs hk h)
  ·exact Cf hX hP rfl (ih _ _ _ _ _ _ _ _ hs hk h)
  ·exact Cf hX hP rfl (ih _ _ _ _ _ _ _ _ hs hk h)
  ·
   rename_i c a b k
   have e:∀ t,By tm c=.bool t→Bb P X ⟨frC fn tm (.code (.cond c a b)::k) dr ro ds,cs,A⟩=.next ⟨frC fn tm (.code (bif t then a else b)::k) dr ro ds,cs,A⟩:=by
    intro t ht
    have:Bb P X ⟨frC fn tm (.code (.cond c a b)::k) dr ro ds,cs,A⟩=(bif Ew fn X.forks then (match (frC fn tm (.code (.cond c a b)::k) dr ro ds).eval c with
     | .bool _=>.branch [⟨frC fn tm (.code a::k) dr ro ds,cs,A⟩,⟨frC fn tm (.code b::k) dr ro ds,cs,A⟩]
     | _=>.fail "cond") else (match (frC fn tm (.code (.cond c a b)::k) dr ro ds).eval c with | .bool t=>.next ⟨frC fn tm (.code (bif t then a else b)::k) dr ro ds,cs,A⟩ | _=>.fail "cond")):=rfl
    rw [this,hp.forks,Cc]
    simp only [Ew,cond_false,ht]
   split at h
   ·rename_i hc
    exact Cf hX hP (e true (EI hk hc)) (ih _ _ _ _ _ _ _ _ hs hk h)
   ·rename_i hc
    exact Cf hX hP (e false (EI hk hc)) (ih _ _ _ _ _ _ _ _ hs hk h)
   ·obtain ⟨⟨t,ht⟩,h1,h2⟩:=h
    cases t with
    | true=>
     refine Cf hX hP (e true ht) (ih _ _ _ _ _ _ _ _ hs ?_ (h1 ht))
     cases c with
     | tmp t=>exact hk.true ht
     | _=>exact hk
    | false=>
     refine Cf hX hP (e false ht) (ih _ _ _ _ _ _ _ _ hs ?_ (h2 ht))
     cases c with
     | tmp t=>exact hk.false ht
     | _=>exact hk
  ·exact Cf hX hP rfl (ih _ _ _ _ _ _ _ _ hs hk h)
  ·exact Cf hX hP rfl (ih _ _ _ _ _ _ _ _ hs hk h)
  ·
   cases dr with
   | true=>exact h.elim
   | false=>
    cases ds with
    | cons D ds=>exact h.elim
    | nil=>
    obtain ⟨h1,h2⟩:=h
    refine Cf hX hP rfl ?_
    have:=hcut _ _ A tm h2 hs rfl
    rw [← h1] at this
    exact this
  ·cases dr with
   | true=>exact h.elim
   | false=>
    cases ds with
    | cons D ds=>exact h.elim
    | nil=>
    obtain ⟨h1,h2⟩:=h
    refine Cf hX hP rfl ?_
    have:=hcut _ _ A tm h2 hs rfl
    rw [← h1] at this
    exact this
  ·
   rename_i id k
   split at h
   ·rename_i k' hk'
    have e:Bb P X ⟨frC fn tm (.code (.exit id)::k) dr ro ds,cs,A⟩=.next ⟨frC fn tm k' dr ro ds,cs,A⟩:=by
     unfold Bb DW
     simp only [hk']
    exact Cf hX hP e (ih _ _ _ _ _ _ _ _ hs hk h)
   ·rename_i hx
    cases dr with
    | true=>exact h.elim
    | false=>exact hl _ _ _ _ _ (.exit _ _ hx) h
  ·exact Cf hX hP rfl (ih _ _ _ _ _ _ _ _ hs hk h)
  ·
   rename_i id ops k
   cases hin:IX tm.sz ops.toList with
   | false=>rw [hin] at h;exact h.elim
   | true=>
    rw [hin,cond_true] at h
    split at h
    ·rename_i p hpl
     have e:Bb P X ⟨frC fn tm (.code (.region id ops true)::k) dr ro ds,cs,A⟩=.next ⟨frC fn tm (.inRegion ops p::k) true ro ds,cs,A⟩:=by
      unfold Bb
      simp only [hin,cond_true,hpl]
     exact Cf hX hP e (ih _ _ _ _ _ _ _ _ hs hk h)
    ·exact h.elim
  ·exact Cf hX hP rfl (ih _ _ _ _ _ _ _ _ hs hk h)
  ·
   rename_i ops i rest k
   cases hb:(dr&&!Nat.blt i ops.toList.length) with
   | true=>
    rw [hb,cond_true] at h
    simp only [Bool.and_eq_true,Bool.not_eq_true'] at hb
    obtain ⟨rfl,hb⟩:=hb
    have hge:=EK.1 hb
    split at h
    ·exact h.elim
    ·rename_i o ho
     split at h
     ·rename_i d hd hw
      obtain ⟨h1,h2⟩:=h
      refine HS hge ?_ (ih _ _ _ _ _ _ _ _ hs hk h2)
      intro o' d' ho' hd'
      rw [ho] at ho'
      cases ho'
      rw [hd] at hd'
      cases hd'
      exact ⟨fun _=>h1.symm,fun hw'=>absurd hw' (by rw [JP hk hw];exact Bool.noConfusion)⟩
     ·rename_i d hd hw
      cases hq:Cs P o.op with
      | false=>
       rw [hq,cond_false] at h
       obtain ⟨⟨c,h1,h3⟩,h2⟩:=h
       refine HS hge ?_ (ih _ _ _ _ _ _ _ _ hs hk h2)
       intro o' d' ho' hd'
       rw [ho] at ho'
       cases ho'
       rw [hd] at hd'
       cases hd'
       exact ⟨fun hw'=>absurd hw' (by rw [JP hk hw];exact Bool.noConfusion),fun _=>⟨fun hq'=>absurd hq' (by rw [hq];exact Bool.noConfusion),fun _=>⟨c,h1,h3⟩⟩⟩
      | true=>
       rw [hq,cond_true] at h
       have fin:∀ A',AF P X (By tm) o A=.ok (.value (tm.get d)) A'→Valid P X A ops tm (i - ops.toList.length):=by
        intro A' he o' d' ho' hd'
        rw [ho] at ho'
        cases ho'
        rw [hd] at hd'
        cases hd'
        exact ⟨fun hw'=>absurd hw' (by rw [JP hk hw];exact Bool.noConfusion),fun _=>⟨fun _=>⟨A',he⟩,fun hq'=>absurd hq' (by rw [hq];exact Bool.noConfusion)⟩⟩
       split at h
       ·rename_i x hpk
        obtain ⟨h1,h2⟩:=h
        refine HS hge (fin A ?_) (ih _ _ _ _ _ _ _ _ hs hk h2)
        rw [← h1]
        exact O7 hpk hk P X rfl A
       ·rcases Q4 (P:=P) (X:=X) (fun f=>rfl) h with ⟨v,A',he,h1,h2⟩ | ⟨A',he,_⟩ | ⟨g,args,A',he,_⟩ | ⟨l,fn',tm',a,b,A',he,_⟩ | ⟨it,A',he,_⟩
        ·refine HS hge (fin A' ?_) (ih _ _ _ _ _ _ _ _ hs hk h2)
         rw [← h1]
         exact he
        ·obtain ⟨_,v,hv⟩:=Eu hq he
         cases hv
        ·obtain ⟨_,v,hv⟩:=Eu hq he
         cases hv
        ·obtain ⟨_,v,hv⟩:=Eu hq he
         cases hv
        ·obtain ⟨_,v,hv⟩:=Eu hq he
         cases hv
     ·exact h.elim
   | false=>
    rw [hb,cond_false] at h
    split at h
    ·exact h.elim
    ·rename_i o ho
     simp only at h
     have fin:∀ {kt' kf':Nat} {r:Option Bool} {sk:Bool} {v:Value} {A':AW},Kn kt' kf' ku tm→(∀ b,r=some b→v=.bool b)→(sk=true→v=undef)→(match o.dst with
       | some d=>bif Nat.blt d tm.sz then AR P X W0 m0 fn T L S Q ro n (tm.set d v) (.inRegion ops rest::k) dr (knT kt' d r) (knF kf' d r) (knU ku d sk) ds A' else False
       | none=>AR P X W0 m0 fn T L S Q ro n tm (.inRegion ops rest::k) dr kt' kf' ku ds A')→
       WP P X W0 m0 ⟨frC fn (match o.dst with | some d=>tm.set d v | none=>tm) (.inRegion ops rest::k) dr ro ds,cs,A'⟩ Q0:=by
      intro kt' kf' r sk v A' hk' hr hu hh
      cases hd:o.dst with
      | none=>
       rw [hd] at hh
       exact ih _ _ _ _ _ _ _ _ hs hk' hh
      | some d=>
       rw [hd] at hh
       simp only at hh ⊢
       cases hlt:Nat.blt d tm.sz with
       | false=>rw [hlt] at hh;exact hh.elim
       | true=>
        rw [hlt,cond_true] at hh
        exact ih _ _ _ _ _ _ _ _ (by rw [Tm.Zb];exact hs) (hk'.set (by omega) (AA.1 hlt) hr hu) hh
     have nf:∀ {v:Value},false=true→v=undef:=fun h=>Bool.noConfusion h
     have nn:∀ {v:Value} (b:Bool),(none:Option Bool)=some b→v=.bool b:=fun b h=>by cases h
     have go:∀ {kt' kf':Nat},Kn kt' kf' ku tm→AP ops tm o=true→(match J0 kt' kf' o.op with
       | some x=>(match o.dst with
        | some d=>bif Nat.blt d tm.sz then AR P X W0 m0 fn T L S Q ro n (tm.set d (By tm x)) (.inRegion ops rest::k) dr (knT kt' d (Jn kt' kf' x)) (knF kf' d (Jn kt' kf' x)) (knU ku d false) ds A else False
        | none=>AR P X W0 m0 fn T L S Q ro n tm (.inRegion ops rest::k) dr kt' kf' ku ds A)
       | none=>opW P X W0 m0 (By tm) o A fun v A'=>(match o.dst with
        | some d=>bif Nat.blt d tm.sz then AR P X W0 m0 fn T L S Q ro n (tm.set d v) (.inRegion ops rest::k) dr (knT kt' d (UH kt' kf' o.op)) (knF kf' d (UH kt' kf' o.op)) (knU ku d false) ds A' else False
        | none=>AR P X W0 m0 fn T L S Q ro n tm (.inRegion ops rest::k) dr kt' kf' ku ds A'))→
       WP P X W0 m0 ⟨frC fn tm (.inRegion ops (i::rest)::k) dr ro ds,cs,A⟩ Q0:=by
      intro kt' kf' hk' hw hh
      split at hh
      ·rename_i x hpk
       exact Pr hX hP hp ho hb hw (K:=fun v A'=>v=By tm x∧A'=A) (.inl ⟨_,A,O7 hpk hk' P X rfl A,(⟨rfl,rfl⟩:_∧_)⟩) fun v A' hvA=>by
        obtain ⟨rfl,rfl⟩:=hvA
        exact fin (sk:=false) hk' (fun b hb=>EI hk' hb) nf hh
      ·rename_i hpk
       cases hkn:UH kt' kf' o.op with
       | none=>
        rw [hkn] at hh
        exact Pr hX hP hp ho hb hw (Q4 (fun f=>rfl) hh) fun v A' hv=>fin (r:=none) (sk:=false) hk' nn nf hv
       | some b=>
        obtain ⟨x,hx,hxb⟩:=UG hpk hkn
        rw [hkn] at hh
        have hb2:=EI hk' hxb
        obtain ⟨h3,h4⟩:=Ux (W0:=W0) (m0:=m0) (X:=X) hx hh
        rw [hb2] at h3 h4
        exact Pr hX hP hp ho hb hw (K:=fun v A'=>v=.bool b∧A'=A) (.inl ⟨_,A,h3,(⟨rfl,rfl⟩:_∧_)⟩) fun v A' hvA=>by
         obtain ⟨rfl,rfl⟩:=hvA
         exact fin (r:=some b) (sk:=false) hk' (fun b' hb'=>by cases hb';rfl) nf h4
     split at h
     ·rename_i hg
      exact go hk (by unfold AP;rw [hg]) h
     ·rename_i j want hg
      split at h
      ·exact h.elim
      ·rename_i d hsl
       have ff:∀ {kt' kf':Nat},Kn kt' kf' ku tm→AP ops tm o=false→(match o.dst with
         | some d=>bif Nat.blt d tm.sz then AR P X W0 m0 fn T L S Q ro n (tm.set d undef) (.inRegion ops rest::k) dr (knT kt' d none) (knF kf' d none) (knU ku d true) ds A else False
         | none=>AR P X W0 m0 fn T L S Q ro n tm (.inRegion ops rest::k) dr kt' kf' ku ds A)→WP P X W0 m0 ⟨frC fn tm (.inRegion ops (i::rest)::k) dr ro ds,cs,A⟩ Q0:=
        fun hk' hw hh=>wp_skip hX hP hp ho hb hw (fin (r:=none) (sk:=true) hk' nn (fun _=>rfl) hh)
       cases hu:ku.testBit d with
       | true=>
        rw [hu,cond_true] at h
        exact ff hk (Qz hg hsl ((hk d).2.2 hu)) h
       | false=>
        rw [hu,cond_false] at h
        split at h
        ·rename_i b hkb
         have hv:tm.get d=.bool b:=EI hk hkb
         have hw:=OF hg hsl hv
         cases hbw:(b==want) with
         | true=>
          rw [hbw,cond_true] at h
          exact go hk (hw.trans hbw) h
         | false=>
          rw [hbw,cond_false] at h
          exact ff hk (hw.trans hbw) h
        ·obtain ⟨⟨b,hv⟩,h1,h2⟩:=h
         have hw:=OF hg hsl hv
         cases b with
         | true=>
          have h1:=h1 hv
          cases want with
          | true=>exact go (hk.true hv) hw h1
          | false=>exact ff (hk.true hv) hw h1
         | false=>
          have h2:=h2 hv
          cases want with
          | true=>exact ff (hk.false hv) hw h2
          | false=>exact go (hk.false hv) hw h2
  ·exact h.elim
theorem RX (hX:XOk P X) (hP:POk P) (hp:Plain X) (hsz:sz < Al) (hcut:N9 P X W0 m0 fn T L S Q sz) (n:Nat) (tm:Tm) (todo:List Item) (dr:Bool) (kt kf ku:Nat) (A:AW) (hs:tm.sz=sz) (hk:Kn kt kf ku tm)
  (h:AR P X W0 m0 fn T L S Q none n tm todo dr kt kf ku [] A):WP P X W0 m0 ⟨frM fn tm todo dr,[],A⟩ Q:=
 LD hX hP hp hsz (ro:=none) (cs:=[]) (Q0:=Q) (fun _ _ _ _ _ hj h=>OD hX hP hj h) hcut n tm todo dr kt kf ku [] A hs hk h
end
def NM (d:Nat→Value):Nat→Trie Value→Trie Value
 | 0,t=>t
 | n+1,t=>NM d n (t.put depth n (some (d n)))
def DR (sz:Nat) (d:Nat→Value):Tm:=⟨sz,NM d sz .nil⟩
theorem Pg (d:Nat→Value):∀ (n:Nat) (t:Trie Value) (i:Nat),n≤Al→i < Al→(NM d n t).get? i=if i < n then some (d i) else t.get? i
 | 0,t,i,_,_=>by simp [NM]
 | n+1,t,i,hn,hi=>by
  unfold NM
  rw [Pg d n _ i (by omega) hi,Trie.get?_put depth t n i (some (d n)) (by unfold depth Al at *;omega)]
  by_cases h1:i < n
  ·rw [if_pos h1,if_pos (by omega)]
  ·rw [if_neg h1]
   by_cases h2:n=i
   ·subst h2;rw [if_pos rfl,if_pos (by omega)]
   ·rw [if_neg (fun e=>h2 e.symm),if_neg (by omega)]
section
variable {P:Program} {X:Bl} {W0:World} {m0:Inj P}
theorem Vz {sz:Nat} (hs:sz < Al) (d:Nat→Value) (i:Nat):(DR sz d).get i=if i < sz then d i else undef:=by
 unfold DR Tm.get
 simp only
 by_cases hm:i < Al
 ·rw [Pg d sz .nil i (by omega) hm]
  by_cases hi:i < sz
  ·rw [if_pos hi,if_pos hi]
  ·rw [if_neg hi,if_neg hi];rfl
 ·have key:∀ (n:Nat) (t:Trie Value),n≤Al→t.get? i=none→(NM d n t).get? i=none:=by
   intro n
   induction n with
   | zero=>intro t _ ht;exact ht
   | succ n ih=>
    intro t hn ht
    unfold NM
    refine ih _ (by omega) ?_
    rw [Trie.get?_put depth t n i _ (by unfold depth Al at *;omega),if_neg (by omega)]
    exact ht
  rw [key sz .nil (by omega) rfl,if_neg (by omega)]
theorem Vy {m:Inj P} {tm:Tm} {t':Array Value} (h:Dz m tm t'):Dz m (DR tm.sz tm.get) t':=by
 refine ⟨h.size,h.small,fun i=>?_⟩
 rw [Vz h.small]
 by_cases hi:i < tm.sz
 ·rw [if_pos hi]
  exact h.val i
 ·have hv:t'.getD i undef=undef:=by
   have:t'.size≤i:=by rw [h.size];omega
   simp [Array.getD,Nat.not_lt.2 this]
  rw [if_neg hi,hv]
  exact Ee m
theorem YH {fn:FuncId} {tm:Tm} {todo:List Item} {ro:Option Nat} {ds:List Nat} {cs:List AFr} {A:AW} {Q:Value→AW→Prop} (h:WP P X W0 m0 ⟨frC fn (DR tm.sz tm.get) todo false ro ds,cs,A⟩ Q):WP P X W0 m0 ⟨frC fn tm todo false ro ds,cs,A⟩ Q:=by
 intro f0 base lo cs0 m f csW w hr ho
 refine h f0 base lo cs0 m f csW w ⟨hr.rel,hr.glob,hr.below,⟨⟨hr.top.core.fn,hr.top.core.kind,hr.top.core.kindOk,hr.top.core.mode,hr.top.core.round,hr.top.core.defers⟩,?_⟩,hr.stk,hr.bot.top rfl rfl rfl⟩ ho
 cases hr.top.body with
 | plain hd tm' todo'=>exact .plain rfl (Vy tm') todo'
 | draw ops S C rl pl rest k k' hd=>cases hd
variable {fn:FuncId} {T:Nat→List Item} {L:Nat→List Tmp} {Q:Value→AW→Prop} {sz N:Nat}
theorem WL (hX:XOk P X) (hP:POk P) (hp:Plain X) (hsz:sz < Al) {ro:Option Nat} {cs:List AFr} {Q0:Value→AW→Prop}
  (hl:∀ todo tm ds A j,Leaves todo j→Lj P fn ro ds A tm Q j→WP P X W0 m0 ⟨frC fn tm todo false ro ds,cs,A⟩ Q0) {I:Nat→Nat→List Value→AW→Prop}
  (hbody:∀ g id vals A d,I g id vals A→(L id).map d=vals→AR P X W0 m0 fn T L (fun id' v' A'=>∃ g',g' < g∧I g' id' v' A') Q ro N (DR sz d) (T id) false 0 0 0 [] A):
  ∀ id vals A tm,(∃ g,I g id vals A)→tm.sz=sz→(L id).map tm.get=vals→WP P X W0 m0 ⟨frC fn tm (T id) false ro [],cs,A⟩ Q0:=by
 have key:∀ g,∀ id vals A tm,I g id vals A→tm.sz=sz→(L id).map tm.get=vals→WP P X W0 m0 ⟨frC fn tm (T id) false ro [],cs,A⟩ Q0:=by
  intro g
  induction g using Nat.strongRecOn with
  | _ g ih=>
   intro id vals A tm hI hs hv
   have hb:=hbody g id vals A tm.get hI hv
   rw [← hs] at hb
   refine YH (LD hX hP hp hsz (S:=fun id' v' A'=>∃ g',g' < g∧I g' id' v' A') hl ?_ N _ _ _ _ _ _ _ _ hs (fun t=>by simp) hb)
   rintro id' v' A' tm' ⟨g',hg,hI'⟩ hs' hv'
   exact ih g' hg id' v' A' tm' hI' hs' hv'
 rintro id vals A tm ⟨g,hI⟩ hs hv
 exact key g id vals A tm hI hs hv
theorem XO (hX:XOk P X) (hP:POk P) (hp:Plain X) (hsz:sz < Al) {I:Nat→Nat→List Value→AW→Prop}
  (hbody:∀ g id vals A d,I g id vals A→(L id).map d=vals→AR P X W0 m0 fn T L (fun id' v' A'=>∃ g',g' < g∧I g' id' v' A') Q none N (DR sz d) (T id) false 0 0 0 [] A):
  N9 P X W0 m0 fn T L (fun id v A=>∃ g,I g id v A) Q sz:=
 WL hX hP hp hsz (ro:=none) (cs:=[]) (Q0:=Q) (fun _ _ _ _ _ hj h=>OD hX hP hj h) hbody
theorem OE (hX:XOk P X) (hP:POk P) (hp:Plain X) (hsz:sz < Al) {S:Nat→List Value→AW→Prop} (hcut:N9 P X W0 m0 fn T L S Q sz) {args:List Value} {tm:Tm} {todo:List Item} {A:AW}
  (he:E3 P fn args .normal=some (frM fn tm todo false)) (hs:tm.sz=sz) (h:AR P X W0 m0 fn T L S Q none N tm todo false 0 0 0 [] A):Wc P X W0 m0 fn args A Q:=by
 refine ⟨by rw [he];rfl,?_⟩
 unfold Wq
 rw [he]
 exact RX hX hP hp hsz hcut N _ _ _ _ _ _ _ hs (fun t=>by simp) h
theorem At {S:Nat→List Value→AW→Prop} (h:∀ id v A,¬ S id v A):N9 P X W0 m0 fn T L S Q sz:=fun id v A _ hs=>absurd hs (h id v A)
end
section
variable {P:Program}
theorem Ad {v:Value} {K:Value→Prop}:Ab (some v) K↔K v:=⟨fun ⟨_,h,hk⟩=>by cases h;exact hk,fun h=>⟨v,rfl,h⟩⟩
theorem Lu {A:AW} {K:AW→Prop}:Bp (some A) K↔K A:=⟨fun ⟨_,h,hk⟩=>by cases h;exact hk,fun h=>⟨A,rfl,h⟩⟩
theorem Bi {v:Value} {A:AW} {K:Value→AW→Prop}:Ap (.ok v A) K↔K v A:=⟨fun ⟨_,_,h,hk⟩=>by cases h;exact hk,fun h=>⟨v,A,rfl,h⟩⟩
theorem Aa {r:Option Value} {v:Value} {K:Value→Prop} (h:r=some v) (hk:K v):Ab r K:=⟨v,h,hk⟩
theorem Ak {b:Bool} {p q:Prop}:Af (.bool b) p q↔(b=true→p)∧(b=false→q):=
 ⟨fun h=>⟨fun e=>h.2.1 (by rw [e]),fun e=>h.2.2 (by rw [e])⟩,fun h=>⟨⟨b,rfl⟩,fun e=>h.1 (by cases e;rfl),fun e=>h.2 (by cases e;rfl)⟩⟩
theorem Av {c:Prop} [Decidable c] {p q:Prop}:Af (.bool (decide c)) p q↔(c→p)∧(¬ c→q):=by
 rw [Ak];simp
theorem Ae {a b:Int} {p q:Prop}:Af (.bool (a==b)) p q↔(a=b→p)∧(a≠b→q):=by
 rw [Ak];simp
theorem BO {a b:Int} {p q:Prop}:Af (.bool (a != b)) p q↔(a≠b→p)∧(a=b→q):=by
 rw [Ak];simp
theorem Aq {a:List Item} {p:Prop}:BA a a p↔p:=⟨fun h=>h.2,fun h=>⟨rfl,h⟩⟩
theorem Am {a:Value} {p:Prop}:eqW a a p↔p:=⟨fun h=>h.2,fun h=>⟨rfl,h⟩⟩
section
variable {t:TypeId} {xo yo:Operand} {k:IntKind} {a b:Int}
theorem BD:Ag P .lss t xo yo (.int k a) (.int k b)=some (.bool (decide (a < b))):=by simp [Ag,binOp,Op.intCmp,quiet,Dl,AB,pure]
theorem D3:Ag P .leq t xo yo (.int k a) (.int k b)=some (.bool (decide (a≤b))):=by simp [Ag,binOp,Op.intCmp,quiet,Dl,AB,pure]
theorem Ej:Ag P .gtr t xo yo (.int k a) (.int k b)=some (.bool (decide (b < a))):=by simp [Ag,binOp,Op.intCmp,quiet,Dl,AB,pure]
theorem FD:Ag P .geq t xo yo (.int k a) (.int k b)=some (.bool (decide (b≤a))):=by simp [Ag,binOp,Op.intCmp,quiet,Dl,AB,pure]
theorem Ah:Ag P .eql t xo yo (.int k a) (.int k b)=some (.bool (a==b)):=by simp [Ag,binOp,Op.intCmp,quiet,Dl,AB,pure]
theorem Cm:Ag P .neq t xo yo (.int k a) (.int k b)=some (.bool (a != b)):=by simp [Ag,binOp,Op.intCmp,quiet,Dl,AB,pure]
theorem AU:Ag P .add t xo yo (.int k a) (.int k b)=some (.int k (k.wrap (a+b))):=by simp [Ag,binOp,Op.intArith,quiet,Dl,AB,pure]
theorem Hf:Ag P .sub t xo yo (.int k a) (.int k b)=some (.int k (k.wrap (a - b))):=by simp [Ag,binOp,Op.intArith,quiet,Dl,AB,pure]
theorem EP {x:Bool}:unA P .not (.bool x)=some (.bool (!x)):=by simp [unA,AB,Op.unary,quiet,Dl,pure]
theorem B4 {x y:ByteArray}:Ag P .eql t xo yo (.string x) (.string y)=some (.bool (x.data.toList==y.data.toList)):=rfl
theorem Ed {x y:ByteArray}:Ag P .neq t xo yo (.string x) (.string y)=some (.bool !(x.data.toList==y.data.toList)):=rfl
end
theorem wrap_i64 {n:Int} (h1: -9223372036854775808≤n) (h2:n < 9223372036854775808):IntKind.i64.wrap n=n:=by
 unfold IntKind.wrap
 have e:(2 ^ IntKind.i64.bits:Int)=18446744073709551616:=by decide
 have e2:(2 ^ (IntKind.i64.bits - 1):Int)=9223372036854775808:=by decide
 have e3:IntKind.i64.signed=true:=rfl
 simp only [e,e2,e3,Bool.true_and,decide_eq_true_eq]
 split <;> omega
theorem Gq:∀ l:List UInt8,EG l l=true
 | []=>rfl
 | a::r=>by simp [EG,Gq r]
theorem Py:∀ a:Int,Km a a=true
 | .ofNat a=>Nat.beq_refl a
 | .negSucc a=>Nat.beq_refl a
theorem QI {n:Nat} {k:IntKind} {a:Int}:FT (n+1) (.int k a) (.int k a)=true:=by simp [FT,Py]
theorem GW {n:Nat} {s:ByteArray}:FT (n+1) (.string s) (.string s)=true:=by simp only [FT,Gq]
structure Ext (A A':AW):Prop where
 next:A.next≤A'.next
 get:∀ i,i < A.next→A'.get i=A.get i
 mem:∀ i,i < A.next→A'.members i=A.members i
def AW.push (A:AW) (o:AO):AW:={ (A.put A.next o) with next:=A.next+1 }
theorem AW.Cz {A:AW} (o:AO) {j:Nat} (h:A.next < Al):(A.push o).get j=if j=A.next then some o else A.get j:=AW.Dr A A.next j o h
theorem AW.CC (A:AW) (o:AO):(A.push o).next=A.next+1:=rfl
theorem AW.Df {A:AW} (o:AO) (h:A.next < Al):Ext A (A.push o):=
 ⟨Nat.le_succ _,fun i hi=>by rw [AW.Cz o h,if_neg (by omega)],fun i _=>rfl⟩
theorem Xw {A:AW} {cs:List Value} {e:TypeId} (h:A.next < Al) (hc:cs.all AL=true):Ep A cs e=.ok (.pointer (some ⟨A.next,0,none⟩)) (A.push (.row cs e A.next 0 false)):=by
 unfold Ep AW.newRow AW.new
 simp only [hc,cond_true,AA.2 h]
 rfl
theorem TO {k:IntKind} {n:Int}:isTuple (.int k n)=false:=rfl
theorem Rl {b:Bool}:isTuple (.bool b)=false:=rfl
theorem NA {b:ByteArray}:isTuple (.string b)=false:=rfl
theorem TF {k:IntKind} {n:Int}:AL (.int k n)=true:=rfl
theorem Nn {b:Bool}:AL (.bool b)=true:=rfl
theorem Nl {b:ByteArray}:AL (.string b)=true:=rfl
theorem Ay {A:AW} {b off:Nat} {cs:List Value} {e f b0:Nat} {ro:Bool} (h:A.get b=some (.row cs e f b0 ro)):A.cell? ⟨b,off,none⟩=cellOf cs off:=by
 unfold AW.cell?
 simp only [h]
theorem CD {A:AW} {b off n:Nat} {cs:List Value} {e f b0:Nat} {ro:Bool} (h:A.get b=some (.row cs e f b0 ro)):A.cells? ⟨b,off,none⟩ n=Cg (cs.drop off) n:=by
 unfold AW.cells?
 cases n with
 | zero=>simp [Cg]
 | succ n=>simp only [h]
theorem Cd:∀ {cs:List Value} {i:Nat} {v:Value},cs[i]? =some v→isTuple v=false→cellOf cs i=some v
 | [],i,v,h,_=>by simp at h
 | x::r,0,v,h,ht=>by
  simp only [List.getElem?_cons_zero,Option.some.injEq] at h
  subst h
  simp [cellOf,ht]
 | x::r,i+1,v,h,ht=>by
  simp only [List.getElem?_cons_succ] at h
  simp only [cellOf]
  exact Cd h ht
end
section
variable {P:Program}
structure AJ (A:AW):Prop where
 fams:∀ i,A.next≤i→A.fams.get? i=none
 get:∀ i,A.next≤i→A.get i=none
theorem AJ.lt {A:AW} (h:AJ A) {i:Nat} {o:AO} (hi:A.get i=some o):i < A.next:=by
 rcases Nat.lt_or_ge i A.next with h1 | h1
 ·exact h1
 ·rw [h.get i h1] at hi;cases hi
theorem AJ.alone {A:AW} (h:AJ A) {i:Nat} (hi:A.next≤i):A.members i=[i]:=by
 unfold AW.members
 rw [h.fams i hi]
theorem AJ.push {A:AW} (h:AJ A) (o:AO) (hn:A.next < Al):AJ (A.push o):=
 ⟨fun i hi=>h.fams i (by rw [AW.CC] at hi;omega),fun i hi=>by rw [AW.CC] at hi;rw [AW.Cz o hn,if_neg (by omega)];exact h.get i (by omega)⟩
structure Made (A A':AW) (cs:List Value) (e:TypeId):Prop where
 ext:Ext A A'
 next:A'.next=A.next+1
 row:A'.get A.next=some (.row cs e A.next 0 false)
 mem:A'.members A.next=[A.next]
 AG:AJ A'
theorem BI {A:AW} {cs:List Value} {e:TypeId} {K:Value→AW→Prop} (hf:AJ A) (h:A.next < Al) (hc:cs.all AL=true) (hk:∀ A',Made A A' cs e→K (.pointer (some ⟨A.next,0,none⟩)) A'):Ap (Ep A cs e) K:=by
 rw [Xw h hc]
 exact Bi.2 (hk _ ⟨AW.Df _ h,rfl,by rw [AW.Cz _ h,if_pos rfl],hf.alone (Nat.le_refl _),hf.push _ h⟩)
theorem AV {A:AW} {z:Value} {e:TypeId} {K:Value→AW→Prop} (hz:Dv P e=some z) (hf:AJ A) (h:A.next < Al) (hc:z.cells.toList.all AL=true)
  (hk:∀ A',Made A A' z.cells.toList e→K (.pointer (some ⟨A.next,0,none⟩)) A'):Ap (B5 P A e) K:=by
 unfold B5
 rw [hz]
 exact BI hf h hc hk
theorem MX {v:Value} {l:List Value} {n:Nat} (h:isTuple v=false):Cg (v::l) (n+1)=(match Cg l n with | some r=>some (v::r) | none=>none):=by
 simp only [Cg,h,cond_false]
 rfl
def Ip:List Value→Nat→List Value→List Value
 | cs,_,[]=>cs
 | cs,o,v::r=>Ip (cs.set o v) (o+1) r
structure Mg (A A':AW) (b:Nat) (o:AO):Prop where
 row:A'.get b=some o
 get:∀ i,i≠b→A'.get i=A.get i
 next:A'.next=A.next
 fams:A'.fams=A.fams
theorem Mg.AG {A A':AW} {b:Nat} {o o':AO} (h:Mg A A' b o) (hf:AJ A) (hb:A.get b=some o'):AJ A':=
 ⟨fun i hi=>by rw [h.fams];exact hf.fams i (by rw [h.next] at hi;exact hi),fun i hi=>by
  rw [h.next] at hi
  have hb:=hf.lt hb
  rw [h.get i (by omega)]
  exact hf.get i hi⟩
theorem Mg.mem {A A':AW} {b:Nat} {o:AO} (h:Mg A A' b o) (f:Nat):A'.members f=A.members f:=by unfold AW.members;rw [h.fams]
theorem Eg:∀ {new:List Value} {A:AW} {b off:Nat} {cs:List Value} {e f b0:Nat},A.get b=some (.row cs e f b0 false)→A.members f=[b]→off+new.length≤cs.length→new.all AL=true→b < Al→
  ∃ A',A.setCells ⟨b,off,none⟩ new=some A'∧Mg A A' b (.row (Ip cs off new) e f b0 false)
 | [],A,b,off,cs,e,f,b0,hg,hm,hl,ho,hb=>⟨A,rfl,hg,fun _ _=>rfl,rfl,rfl⟩
 | v::r,A,b,off,cs,e,f,b0,hg,hm,hl,ho,hb=>by
  simp only [List.all_cons,Bool.and_eq_true] at ho
  simp only [List.length_cons] at hl
  have hble:Nat.ble cs.length off=false:=BU.2 (by omega)
  have h1:A.setCell ⟨b,off,none⟩ v=some (A.put b (.row (cs.set off v) e f b0 false)):=by
   unfold AW.setCell
   simp only [hg,ho.1,Bool.not_true,Bool.false_or,hble,cond_false,hm,Dg,Nat.beq_refl,cond_true]
  have hg':(A.put b (.row (cs.set off v) e f b0 false)).get b=some (.row (cs.set off v) e f b0 false):=by rw [AW.Dr A b b _ hb,if_pos rfl]
  obtain ⟨A',h2,h3⟩:=Eg (new:=r) (A:=A.put b (.row (cs.set off v) e f b0 false)) (off:=off+1) hg' hm (by simp;omega) ho.2 hb
  refine ⟨A',?_,h3.row,fun i hi=>?_,h3.next,h3.fams⟩
  ·simp only [AW.setCells,h1]
   exact h2
  ·rw [h3.get i hi,AW.Dr A b i _ hb,if_neg hi]
theorem S6 {A:AW} {b off n:Nat} {v:Value} {cs:List Value} {e f b0:Nat} {r:Option AW} {K:AW→Prop} (hr:r=(bif Nat.beq v.cells.toList.length n then A.setCells ⟨b,off,none⟩ v.cells.toList else none))
  (hv:v.cells.toList.length=n) (hg:A.get b=some (.row cs e f b0 false)) (hm:A.members f=[b]) (hl:off+n≤cs.length) (ho:v.cells.toList.all AL=true) (hb:b < Al)
  (hk:∀ A',Mg A A' b (.row (Ip cs off v.cells.toList) e f b0 false)→K A'):Bp r K:=by
 obtain ⟨A',h1,h2⟩:=Eg (new:=v.cells.toList) (off:=off) hg hm (by omega) ho hb
 rw [hr,hv,Nat.beq_refl,cond_true,h1]
 exact Lu.2 (hk A' h2)
end
section
variable {P:Program}
structure Mi (lo:Nat) (A:AW) (e:TypeId) (size:Nat) (n:Nat) (cs:List Value) (b f:Nat):Prop where
 pos:0 < n
 row:A.get b=some (.row cs e f 0 false)
 len:cs.length=n * size
 lob:lo≤b
 lof:lo≤f
 ltf:f < A.next
 mem:∀ i∈A.members f,lo≤i∧i < A.next∧∃ cs' e' b' ro',A.get i=some (.row cs' e' f b' ro')
def W3 (lo:Nat) (A:AW) (e:TypeId) (size:Nat) (v:Value) (n:Nat) (cs:List Value):Prop:=
 (v=.slice none 0 0∧n=0∧cs=[])∨∃ b f,v=.slice (some ⟨b,0,none⟩) n (Bu+n)∧Mi lo A e size n cs b f
theorem W3.one {lo:Nat} {A:AW} {e:TypeId} {size:Nat} {v:Value} {n:Nat} {cs:List Value} (h:W3 lo A e size v n cs):AL v=true∧isTuple v=false:=by
 rcases h with ⟨rfl,_⟩ | ⟨b,f,rfl,_⟩ <;> exact ⟨rfl,rfl⟩
theorem Gu (coord:Nat):∀ (l:List Nat) (A:AW),(∀ i∈l,i < Al)→(∀ i,i∉l→(BR coord l A).get i=A.get i)∧(BR coord l A).next=A.next∧(BR coord l A).fams=A.fams
 | [],A,_=>⟨fun _ _=>rfl,rfl,rfl⟩
 | x::r,A,hl=>by
  unfold BR
  split
  ·rename_i cs e fam base ro hx
   obtain ⟨h1,h2,h3⟩:=Gu coord r (A.put x (.row (BW cs (coord - base)) e fam base ro)) fun i hi=>hl i (by simp [hi])
   refine ⟨fun i hi=>?_,h2,h3⟩
   simp only [List.mem_cons,not_or] at hi
   rw [h1 i hi.2,AW.Dr A x i _ (hl x (by simp)),if_neg hi.1]
  ·obtain ⟨h1,h2,h3⟩:=Gu coord r A fun i hi=>hl i (by simp [hi])
   exact ⟨fun i hi=>h1 i (fun h=>hi (by simp [h])),h2,h3⟩
theorem LI:∀ (l:List Value),Ef l l.length=some l
 | []=>rfl
 | v::r=>by simp [Ef,LI r]
structure Xa (lo:Nat) (A A':AW) (e:TypeId) (size:Nat) (v v':Value) (n m:Nat) (cs new:List Value):Prop where
 own:W3 lo A' e size v' (n+m) (cs++new)
 next:A'.next=A.next+1
 AG:AJ A'
 get:∀ i,i < A.next→(∀ b f,v=.slice (some ⟨b,0,none⟩) n (Bu+n)→Mi lo A e size n cs b f→i∉A.members f)→A'.get i=A.get i
 mem:∀ g,g < A.next→(∀ b f,v=.slice (some ⟨b,0,none⟩) n (Bu+n)→Mi lo A e size n cs b f→g≠f)→A'.members g=A.members g
 fam:∀ b' f',v'=.slice (some ⟨b',0,none⟩) (n+m) (Bu+(n+m))→Mi lo A' e size (n+m) (cs++new) b' f'→f'=A.next∨∃ b,v=.slice (some ⟨b,0,none⟩) n (Bu+n)∧Mi lo A e size n cs b f'
theorem Mf {A:AW} {t t2 e:TypeId} {size bytes:Nat} {x:Value} {m:Nat} {new:List Value} (ht:BF P t=some e) (hs:szT P e=some (size+1)) (hb:Ft P e=some bytes)
  (hx:B6 P A e t2 (size+1) x=some (m+1,new)) (hroom:(Nat.blt (0+(m+1)) room&&Nat.blt ((0+(m+1)) * bytes) room&&Dq P e (size+1))=true) (hmax:A.next < Al):
  Bh P A t t2 (.slice none 0 0) x=.ok (.slice (some ⟨A.next,0,none⟩) (0+(m+1)) (Bu+(0+(m+1)))) (A.push (.row new e A.next 0 false)):=by
 unfold Bh
 simp only [ht,hs,hb,hx]
 rw [hroom]
 simp only [Bool.not_true,cond_false]
 have h1:Nat.ble Bu 0=false:=rfl
 have h2:Nat.ble (0+(m+1)) 0=false:=BU.2 (by omega)
 simp only [h1,cond_false,h2,List.nil_append]
 unfold AW.new
 simp only [AA.2 hmax,cond_true]
 rfl
theorem Qj {A B:AW} {t t2 e:TypeId} {size bytes:Nat} {x:Value} {n m c b f:Nat} {cs new:List Value} {a':Addr} (ht:BF P t=some e) (hs:szT P e=some (size+1)) (hb:Ft P e=some bytes)
  (hx:B6 P A e t2 (size+1) x=some (m+1,new)) (hroom:(Nat.blt (n+(m+1)) room&&Nat.blt ((n+(m+1)) * bytes) room&&Dq P e (size+1))=true) (h1:Nat.ble Bu c=true) (h2:Nat.ble (n+(m+1)) (c - Bu)=false)
  (hrow:A.get b=some (.row cs e f 0 false)) (hone:new.all AL=true) (hold:A.C6 ⟨b,0,none⟩ (n * (size+1))=some cs)
  (hni:(BR (n * (size+1)) (A.members f) A).IH (cs++new) e f 0=some (a',B)):
  Bh P A t t2 (.slice (some ⟨b,0,none⟩) n c) x=.ok (.slice (some a') (n+(m+1)) (Bu+(n+(m+1)))) B:=by
 unfold Bh
 simp only [ht,hs,hb,hx]
 rw [hroom]
 simp only [Bool.not_true,cond_false]
 generalize hlb:(bif Nat.ble Bu c then c - Bu else c)=lb
 have hz:Nat.ble (n+(m+1)) lb=false:=by
  rw [h1,cond_true] at hlb
  rw [← hlb]
  exact h2
 clear hlb h2
 have hbe:Nat.beq e e=true:=Nat.beq_refl e
 simp only [hz,h1,cond_false,cond_true,hrow,hbe,hone,Bool.and_self,Bool.not_true]
 rw [hold]
 have hc:(0+0+n * (size+1))=n * (size+1):=by omega
 simp only [hc,Nat.add_zero,hni]
theorem Tj {lo:Nat} {A:AW} {t t2 e:TypeId} {size bytes:Nat} {v x:Value} {n m:Nat} {cs new:List Value} (ht:BF P t=some e) (hs:szT P e=some (size+1)) (hb:Ft P e=some bytes)
  (hz:Dq P e (size+1)=true) (hx:B6 P A e t2 (size+1) x=some (m+1,new)) (hnew:new.length=(m+1) * (size+1)) (hone:new.all AL=true) (h:W3 lo A e (size+1) v n cs) (hf:AJ A) (hlo:lo≤A.next)
  (hmax:A.next < Al) (hr1:n+(m+1) < room) (hr2:(n+(m+1)) * bytes < room):∃ v' A',Bh P A t t2 v x=.ok v' A'∧Xa lo A A' e (size+1) v v' n (m+1) cs new:=by
 have hroom:(Nat.blt (n+(m+1)) room&&Nat.blt ((n+(m+1)) * bytes) room&&Dq P e (size+1))=true:=by rw [AA.2 hr1,AA.2 hr2,hz];rfl
 rcases h with ⟨rfl,rfl,rfl⟩ | ⟨b,f,rfl,h⟩
 ·refine ⟨.slice (some ⟨A.next,0,none⟩) (0+(m+1)) (Bu+(0+(m+1))),A.push (.row new e A.next 0 false),?_,?_⟩
  ·exact Mf ht hs hb hx hroom hmax
  ·have hfp:=hf.push (.row new e A.next 0 false) hmax
   have hrow:(A.push (.row new e A.next 0 false)).get A.next=some (.row new e A.next 0 false):=by rw [AW.Cz _ hmax,if_pos rfl]
   refine ⟨.inr ⟨A.next,A.next,rfl,by omega,by rw [hrow];rfl,by simp only [List.nil_append,hnew,Nat.zero_add],hlo,hlo,by rw [AW.CC];omega,fun i hi=>?_⟩,rfl,hfp,fun i hi _=>by rw [AW.Cz _ hmax,if_neg (by omega)],fun g hg _=>rfl,fun b' f' hv ho=>?_⟩
   ·have:(A.push (.row new e A.next 0 false)).members A.next=[A.next]:=hf.alone (Nat.le_refl _)
    rw [this] at hi
    obtain rfl:i=A.next:=by simpa using hi
    exact ⟨hlo,by rw [AW.CC];omega,_,_,_,_,hrow⟩
   ·simp only [Value.slice.injEq,Option.some.injEq,Addr.mk.injEq] at hv
    obtain ⟨⟨rfl,_⟩,_⟩:=hv
    have:=ho.row
    rw [hrow] at this
    simp only [Option.some.injEq,AO.row.injEq] at this
    exact .inl this.2.2.1.symm
 ·have hmemlt:∀ i∈A.members f,i < Al:=fun i hi=>by have:=(h.mem i hi).2.1;omega
  obtain ⟨p1,p2,p3⟩:=Gu (n * (size+1)) (A.members f) A hmemlt
  let A1:=BR (n * (size+1)) (A.members f) A
  have hA1:A1.next=A.next:=p2
  let A2:AW:={ (A1.push (.row (cs++new) e f 0 false)) with fams:=(A1.push (.row (cs++new) e f 0 false)).fams.put depth f (some (A1.next::A1.members f)) }
  have hm1:∀ g,A1.members g=A.members g:=fun g=>by unfold AW.members;rw [show A1.fams=A.fams from p3]
  have hget2:∀ i,A2.get i=if i=A.next then some (.row (cs++new) e f 0 false) else A1.get i:=by
   intro i
   show (A1.push _).get i=_
   rw [AW.Cz _ (by rw [hA1];exact hmax),hA1]
  have hltf:=h.ltf
  have hmem2:∀ g,g < Al→A2.members g=if g=f then A.next::A.members f else A.members g:=by
   intro g hg
   show (match ((A1.push (.row (cs++new) e f 0 false)).fams.put depth f (some (A1.next::A1.members f))).get? g with | some l=>l | none=>[g])=_
   rw [Trie.get?_put depth _ f g _ (by unfold depth Al at *;omega)]
   by_cases hgf:g=f
   ·rw [if_pos hgf,if_pos hgf,hm1,hA1]
   ·rw [if_neg hgf,if_neg hgf,← hm1 g];rfl
  have hnext2:A2.next=A.next+1:=by show A1.next+1=_;rw [hA1]
  refine ⟨.slice (some ⟨A.next,0,none⟩) (n+(m+1)) (Bu+(n+(m+1))),A2,?_,?_⟩
  ·have hold:A.C6 ⟨b,0,none⟩ (n * (size+1))=some cs:=by
    unfold AW.C6
    obtain ⟨k,hk⟩:∃ k,n * (size+1)=k+1:=⟨n * (size+1) - 1,by have:0 < n * (size+1):=Nat.mul_pos h.pos (by omega);omega⟩
    rw [hk]
    simp only [h.row,List.drop_zero]
    rw [← hk,← h.len]
    exact LI cs
   have hni:(BR (n * (size+1)) (A.members f) A).IH (cs++new) e f 0=some (⟨A1.next,0,none⟩,A2):=by
    unfold AW.IH AW.new
    have:Nat.blt (BR (n * (size+1)) (A.members f) A).next Al=true:=AA.2 (by rw [p2];exact hmax)
    simp only [this,cond_true]
    rfl
   rw [hA1] at hni
   exact Qj ht hs hb hx hroom (Bo.2 (Nat.le_add_right _ _)) (BU.2 (by rw [Nat.add_sub_cancel_left];omega)) h.row hone hold hni
  ·have hnot:A.next∉A.members f:=fun hi=>by have:=(h.mem _ hi).2.1;omega
   have hrow:A2.get A.next=some (.row (cs++new) e f 0 false):=by rw [hget2,if_pos rfl]
   have hfam:∀ i∈A.members f,∃ cs' e' b' ro',A1.get i=some (.row cs' e' f b' ro'):=by
    have key:∀ (l:List Nat) (B:AW),(∀ i∈l,i < Al)→∀ i,(∃ cs' e' b' ro',B.get i=some (.row cs' e' f b' ro'))→∃ cs' e' b' ro',(BR (n * (size+1)) l B).get i=some (.row cs' e' f b' ro'):=by
     intro l
     induction l with
     | nil=>intro B _ i hi;exact hi
     | cons x r ih=>
      intro B hl i hi
      unfold BR
      refine ih _ (fun j hj=>hl j (by simp [hj])) i ?_
      split
      ·rename_i cs2 e2 f2 b2 ro2 hx2
       rw [AW.Dr B x i _ (hl x (by simp))]
       by_cases hix:i=x
       ·subst hix
        obtain ⟨cs',e',b',ro',hi⟩:=hi
        rw [hx2] at hi
        simp only [Option.some.injEq,AO.row.injEq] at hi
        rw [if_pos rfl]
        exact ⟨_,_,_,_,by rw [hi.2.2.1]⟩
       ·rw [if_neg hix];exact hi
      ·exact hi
    intro i hi
    obtain ⟨_,_,h3⟩:=h.mem i hi
    exact key _ _ hmemlt i h3
   refine ⟨.inr ⟨A.next,f,rfl,by omega,hrow,by rw [List.length_append,h.len,hnew,← Nat.add_mul],hlo,h.lof,by rw [hnext2];omega,fun i hi=>?_⟩,hnext2,⟨fun i hi=>?_,fun i hi=>?_⟩,fun i hi hnf=>?_,fun g hg hgf=>?_,fun b' f' hv ho=>?_⟩
   ·rw [hmem2 f (by omega),if_pos rfl,List.mem_cons] at hi
    rcases hi with rfl | hi
    ·exact ⟨hlo,by rw [hnext2];omega,_,_,_,_,hrow⟩
    ·obtain ⟨g1,g2,_⟩:=h.mem i hi
     obtain ⟨cs',e',b',ro',g3⟩:=hfam i hi
     exact ⟨g1,by rw [hnext2];omega,cs',e',b',ro',by rw [hget2,if_neg (by omega)];exact g3⟩
   ·rw [hnext2] at hi
    show ((A1.push (.row (cs++new) e f 0 false)).fams.put depth f (some (A1.next::A1.members f))).get? i=none
    rw [Trie.get?_put depth _ f i _ (by unfold depth Al at *;omega),if_neg (by omega)]
    show A1.fams.get? i=none
    rw [show A1.fams=A.fams from p3]
    exact hf.fams i (by omega)
   ·rw [hnext2] at hi
    rw [hget2,if_neg (by omega)]
    show (BR _ _ A).get i=none
    rw [p1 i (fun hm=>by have:=(h.mem i hm).2.1;omega)]
    exact hf.get i (by omega)
   ·rw [hget2,if_neg (by omega)]
    exact p1 i (hnf b f rfl h)
   ·rw [hmem2 g (by omega),if_neg (hgf b f rfl h)]
   ·simp only [Value.slice.injEq,Option.some.injEq,Addr.mk.injEq] at hv
    obtain ⟨⟨rfl,_⟩,_⟩:=hv
    have:=ho.row
    rw [hrow] at this
    simp only [Option.some.injEq,AO.row.injEq] at this
    obtain ⟨_,_,rfl,_⟩:=this
    exact .inr ⟨b,rfl,h⟩
end
section
variable {P:Program}
theorem Dm {α β:Type} (k:α→Sem β):∀ s:Sem α,quiet P (s.bind k)=(quiet P s).bind fun a=>quiet P (k a)
 | .pure a=>rfl
 | .program f=>Dm k (f P)
 | .mark _ f=>by
  show quiet P (f.bind k)=_
  exact Dm k f
 | .load .. =>rfl
 | .store .. =>rfl
 | .new .. =>rfl
 | .shape .. =>rfl
 | .freeze .. =>rfl
 | .frozen .. =>rfl
 | .getObj .. =>rfl
 | .setObj .. =>rfl
 | .choose .. =>rfl
 | .sys .. =>rfl
 | .halt _=>rfl
theorem LP {α β:Type} (s:Sem α) (k:α→Sem β):quiet P (s >>=k)=(quiet P s).bind fun a=>quiet P (k a):=Dm k s
theorem Ks (d:Nat) (t:TypeId) (xs ys:Array Value) (ht:quiet P (underlying t)=some (.struct (P.fieldsOf t))) (hp:P.stoodInHeld t=false):
  quiet P (Op.equalIn (d+1) t (.agg xs) (.agg ys))=quiet P (Op.eqFields d xs ys (P.fieldsOf t).toList):=by
 simp only [Op.equalIn]
 show quiet P (Sem.bind _ _)=_
 rw [Dm,ht]
 simp only [Option.bind_some]
 show quiet P (Sem.bind _ _)=_
 rw [Dm]
 show (some P).bind _=_
 simp only [Option.bind_some,hp,Bool.false_eq_true,if_false]
 rw [← Array.forIn_toList]
 generalize (P.fieldsOf t).toList=fs
 clear ht
 induction fs with
 | nil=>simp [Op.eqFields]
 | cons f fs ih=>
  simp only [List.forIn_cons,Op.eqFields]
  split
  ·simp only [LP,Option.bind_assoc] at ih ⊢
   congr 1
   funext a
   congr 1
   funext b
   congr 1
   funext r
   cases r
   ·rfl
   ·exact ih
  ·exact ih
theorem Kt (d:Nat) (t:TypeId) (k k':IntKind) (a b:Int) (h:quiet P (underlying t)=some (.int k')):quiet P (Op.equalIn (d+1) t (.int k a) (.int k b))=some (a==b):=by
 simp only [Op.equalIn]
 show quiet P (Sem.bind _ _)=_
 rw [Dm,h]
 simp only [Option.bind_some,if_true]
 rfl
theorem Mr (d:Nat) (t:TypeId) (a b:ByteArray) (h:quiet P (underlying t)=some .string):quiet P (Op.equalIn (d+1) t (.string a) (.string b))=some (a==b):=by
 simp only [Op.equalIn]
 show quiet P (Sem.bind _ _)=_
 rw [Dm,h]
 rfl
end
section
variable {P:Program}
def TT (i:Nat):AO→Nat
 | .row _ _ f _ _=>f
 | _=>i
structure Aw (A A':AW) (S:List Nat):Prop where
 next:A.next≤A'.next
 get:∀ i o,A.get i=some o→TT i o < A.next→TT i o∉S→A'.get i=some o
 mem:∀ f,f < A.next→f∉S→A'.members f=A.members f
theorem Aw.refl (A:AW) (S:List Nat):Aw A A S:=⟨Nat.le_refl _,fun _ _ h _ _=>h,fun _ _ _=>rfl⟩
theorem Aw.trans {A B C:AW} {S T:List Nat} (h:Aw A B S) (k:Aw B C T) (hT:∀ x∈T,x∈S∨A.next≤x):Aw A C S:=
 ⟨Nat.le_trans h.next k.next,fun i o hi hlt hn=>k.get i o (h.get i o hi hlt hn) (Nat.lt_of_lt_of_le hlt h.next) (fun hm=>by
  rcases hT _ hm with h1 | h1
  ·exact hn h1
  ·omega),fun f hf hn=>by
  rw [k.mem f (Nat.lt_of_lt_of_le hf h.next) (fun hm=>by
   rcases hT _ hm with h1 | h1
   ·exact hn h1
   ·omega),h.mem f hf hn]⟩
theorem Aw.more {A B:AW} {S T:List Nat} (h:Aw A B S) (hs:∀ x∈S,x∈T∨A.next≤x):Aw A B T:=
 ⟨h.next,fun i o hi hlt hn=>h.get i o hi hlt (fun hm=>by
  rcases hs _ hm with h1 | h1
  ·exact hn h1
  ·omega),fun f hf hn=>h.mem f hf (fun hm=>by
  rcases hs _ hm with h1 | h1
  ·exact hn h1
  ·omega)⟩
theorem Ext.keeps {A A':AW} (h:Ext A A') (hf:AJ A):Aw A A' []:=
 ⟨h.next,fun i o hi _ _=>by rw [h.get i (hf.lt hi)];exact hi,fun f hf _=>h.mem f hf⟩
theorem Made.keeps {A A':AW} {cs:List Value} {e:TypeId} (m:Made A A' cs e) (hf:AJ A):Aw A A' []:=m.ext.keeps hf
structure AQ (A:AW) (b:Nat) (cs:List Value) (e:TypeId):Prop where
 row:A.get b=some (.row cs e b 0 false)
 mem:A.members b=[b]
 lt:b < A.next
theorem Made.B7 {A A':AW} {cs:List Value} {e:TypeId} (m:Made A A' cs e):AQ A' A.next cs e:=⟨m.row,m.mem,by rw [m.next];omega⟩
theorem AQ.keeps {A A':AW} {b:Nat} {cs:List Value} {e:TypeId} {S:List Nat} (h:AQ A b cs e) (k:Aw A A' S) (hn:b∉S):AQ A' b cs e:=
 ⟨k.get b _ h.row h.lt hn,by rw [k.mem b h.lt hn];exact h.mem,Nat.lt_of_lt_of_le h.lt k.next⟩
theorem Mg.keeps {A A':AW} {b f:Nat} {o:AO} {cs:List Value} {e b0:Nat} {ro:Bool} (w:Mg A A' b o) (h:A.get b=some (.row cs e f b0 ro)):Aw A A' [f]:=
 ⟨by rw [w.next];exact Nat.le_refl _,fun i o hi _ hn=>by
  by_cases hib:i=b
  ·subst hib
   rw [h] at hi
   cases hi
   exact absurd (List.mem_singleton.2 rfl) hn
  ·rw [w.get i hib];exact hi,fun f _ _=>w.mem f⟩
theorem AQ.store {A:AW} {b off n:Nat} {v:Value} {cs:List Value} {e:TypeId} {r:Option AW} {K:AW→Prop} (h:AQ A b cs e) (hf:AJ A) (hb:A.next≤Al)
  (hr:r=(bif Nat.beq v.cells.toList.length n then A.setCells ⟨b,off,none⟩ v.cells.toList else none)) (hv:v.cells.toList.length=n) (hl:off+n≤cs.length) (ho:v.cells.toList.all AL=true)
  (hk:∀ A',AQ A' b (Ip cs off v.cells.toList) e→Aw A A' [b]→A'.next=A.next→AJ A'→K A'):Bp r K:=by
 have hlt:=h.lt
 refine S6 hr hv h.row h.mem hl ho (by omega) fun A' w=>?_
 exact hk A' ⟨w.row,by rw [w.mem];exact h.mem,by rw [w.next];exact h.lt⟩ (w.keeps h.row) w.next (w.AG hf h.row)
def Ig (A:AW) (e:TypeId) (size:Nat) (v:Value) (n:Nat) (cs:List Value) (F:List Nat):Prop:=
 (v=.slice none 0 0∧n=0∧cs=[]∧F=[])∨∃ b f,v=.slice (some ⟨b,0,none⟩) n (Bu+n)∧Mi 0 A e size n cs b f∧F=[f]
theorem Ig.nil (A:AW) (e:TypeId) (size:Nat):Ig A e size (.slice none 0 0) 0 [] []:=.inl ⟨rfl,rfl,rfl,rfl⟩
theorem Ig.AaK {A:AW} {e:TypeId} {size:Nat} {v:Value} {n:Nat} {cs:List Value} {F:List Nat} (h:Ig A e size v n cs F):W3 0 A e size v n cs:=by
 rcases h with ⟨h1,h2,h3,_⟩ | ⟨b,f,h1,h2,_⟩
 ·exact .inl ⟨h1,h2,h3⟩
 ·exact .inr ⟨b,f,h1,h2⟩
theorem Ig.one {A:AW} {e:TypeId} {size:Nat} {v:Value} {n:Nat} {cs:List Value} {F:List Nat} (h:Ig A e size v n cs F):AL v=true∧isTuple v=false:=h.AaK.one
theorem Ig.keeps {A A':AW} {e:TypeId} {size:Nat} {v:Value} {n:Nat} {cs:List Value} {F S:List Nat} (h:Ig A e size v n cs F) (k:Aw A A' S) (hd:∀ x∈F,x∉S):Ig A' e size v n cs F:=by
 rcases h with h | ⟨b,f,rfl,h,rfl⟩
 ·exact .inl h
 ·have hfs:f∉S:=hd f (by simp)
  refine .inr ⟨b,f,rfl,⟨h.pos,k.get b _ h.row h.ltf hfs,h.len,Nat.zero_le _,Nat.zero_le _,Nat.lt_of_lt_of_le h.ltf k.next,fun i hi=>?_⟩,rfl⟩
  rw [k.mem f h.ltf hfs] at hi
  obtain ⟨_,h2,cs',e',b',ro',h3⟩:=h.mem i hi
  exact ⟨Nat.zero_le _,Nat.lt_of_lt_of_le h2 k.next,cs',e',b',ro',k.get i _ h3 h.ltf hfs⟩
theorem MO {A:AW} {t t2 e:TypeId} {size bytes:Nat} {v x:Value} {n m:Nat} {cs new:List Value} {F:List Nat} (ht:BF P t=some e) (hs:szT P e=some (size+1)) (hb:Ft P e=some bytes)
  (hz:Dq P e (size+1)=true) (hx:B6 P A e t2 (size+1) x=some (m+1,new)) (hnew:new.length=(m+1) * (size+1)) (hone:new.all AL=true) (h:Ig A e (size+1) v n cs F) (hf:AJ A)
  (hmax:A.next < Al) (hr1:n+(m+1) < room) (hr2:(n+(m+1)) * bytes < room) {K:Value→AW→Prop}
  (hk:∀ v' A' F',Ig A' e (size+1) v' (n+(m+1)) (cs++new) F'→Aw A A' F→(∀ x∈F',x∈F∨x=A.next)→A'.next=A.next+1→AJ A'→K v' A'):Ap (Bh P A t t2 v x) K:=by
 obtain ⟨v',A',h1,a⟩:=Tj (P:=P) ht hs hb hz hx hnew hone h.AaK hf (Nat.zero_le _) hmax hr1 hr2
 rw [h1]
 refine Bi.2 ?_
 have hfam:∀ b f,v=.slice (some ⟨b,0,none⟩) n (Bu+n)→Mi 0 A e (size+1) n cs b f→f∈F:=by
  intro b f hv ho
  rcases h with ⟨h1,_⟩ | ⟨b',f',h1,h2,rfl⟩
  ·rw [h1] at hv;cases hv
  ·rw [h1] at hv
   simp only [Value.slice.injEq,Option.some.injEq,Addr.mk.injEq] at hv
   obtain ⟨⟨rfl,_⟩,_⟩:=hv
   have:=ho.row
   rw [h2.row] at this
   simp only [Option.some.injEq,AO.row.injEq] at this
   simp [this.2.2.1]
 have hkeep:Aw A A' F:=⟨by rw [a.next];omega,fun i o hi hlt hn=>by
   rw [a.get i (hf.lt hi) (fun b f hv ho him=>?_)]
   ·exact hi
   ·obtain ⟨_,_,cs',e',b',ro',h3⟩:=ho.mem i him
    rw [hi] at h3
    cases h3
    exact hn (hfam b f hv ho),fun g hg hn=>a.mem g hg fun b f hv ho hgf=>hn (hgf▸hfam b f hv ho)⟩
 rcases a.own with ⟨_,h2,_⟩ | ⟨b,f,h2,h3⟩
 ·omega
 ·refine hk v' A' [f] (.inr ⟨b,f,h2,h3,rfl⟩) hkeep (fun x hx=>?_) a.next a.AG
  obtain rfl:x=f:=by simpa using hx
  rcases a.fam b x h2 h3 with h4 | ⟨b',h4,h5⟩
  ·exact .inr h4
  ·exact .inl (hfam b' x h4 h5)
structure RR (A:AW) (r:Nat) (es:List MapEntry) (c:Nat):Prop where
 row:A.get r=some (.map es c false)
 lt:r < A.next
theorem RR.keeps {A A':AW} {r:Nat} {es:List MapEntry} {c:Nat} {S:List Nat} (h:RR A r es c) (k:Aw A A' S) (hn:r∉S):RR A' r es c:=
 ⟨k.get r _ h.row h.lt hn,Nat.lt_of_lt_of_le h.lt k.next⟩
theorem RR.put {A:AW} {r:Nat} {es es':List MapEntry} {c c':Nat} (h:RR A r es c) (hf:AJ A) (hb:A.next≤Al):RR (A.put r (.map es' c' false)) r es' c'∧Aw A (A.put r (.map es' c' false)) [r]∧(A.put r (.map es' c' false)).next=A.next∧AJ (A.put r (.map es' c' false)):=by
 have hlt:=h.lt
 have hg:∀ i,(A.put r (.map es' c' false)).get i=if i=r then some (.map es' c' false) else A.get i:=fun i=>AW.Dr A r i _ (by omega)
 refine ⟨⟨by rw [hg,if_pos rfl],hlt⟩,⟨Nat.le_refl _,fun i o hi _ hn=>?_,fun f _ _=>rfl⟩,rfl,⟨hf.fams,fun i hi=>?_⟩⟩
 ·rw [hg,if_neg (fun e=>?_)]
  ·exact hi
  ·subst e
   rw [h.row] at hi
   cases hi
   exact hn (List.mem_singleton.2 rfl)
 ·have hi:A.next≤i:=hi
  rw [hg,if_neg (by omega)]
  exact hf.get i hi
theorem Zo {A:AW} {K:Value→AW→Prop} (hf:AJ A) (h:A.next < Al) (hk:∀ A',RR A' A.next [] 0→Aw A A' []→A'.next=A.next+1→AJ A'→K (.map (some A.next)) A'):Ap (GZ A) K:=by
 have e:GZ A=.ok (.map (some A.next)) (A.push (.map [] 0 false)):=by
  unfold GZ AW.new
  simp only [AA.2 h,cond_true]
  rfl
 rw [e]
 exact Bi.2 (hk _ ⟨by rw [AW.Cz _ h,if_pos rfl],by rw [AW.CC];omega⟩ ((AW.Df _ h).keeps hf) rfl (hf.push _ h))
end
def S4 (w:AW) (it:Value):R AN:=match Ls w it with | some v=>.ok (.value v) w | none=>.fail "entry"
def JX (P:Program) (w:AW) (t:TypeId) (x:Value):R AN:=match P.underlying t,x with
  | some .string,.string s=>(match w.new (.sit s 0) with | some (b,w)=>.ok (.value (.pointer (some ⟨b,0,none⟩))) w | none=>.fail "range")
  | some (.map _ _),.map none=>(match w.new (.mit none 0 [] 0) with | some (b,w)=>.ok (.value (.pointer (some ⟨b,0,none⟩))) w | none=>.fail "range")
  | some (.map _ _),.map (some m)=>(match w.get m with
   | some (.map _ clock _)=>(match w.new (.mit (some m) clock [] clock) with | some (b,w)=>.ok (.value (.pointer (some ⟨b,0,none⟩))) w | none=>.fail "range")
   | _=>.fail "range")
  | _,_=>.fail "range"
def Sq (w:AW) (x:Value):R AN:=match x with | .iface t v=>.panic (.iface t v) w | _=>.fail "panic"
end Go.Abs
namespace Go.Proofs.YtebidlpekphaoaaGreatDoor
open Go.Abs
noncomputable abbrev Tp:Program:=Tryz.prog
def Tz:Nat→List Item:=fun _=>[]
def Lz:Nat→List Tmp:=fun _=>[]
def Ai:Bl:={ clone:=[],noEscape:=[80],noZero:=[116],known:=[7,103,104,112,125] }
def sub:Code→List Nat→Code
 | c,[]=>c
 | .seq a _,0::p=>sub a p
 | .seq _ b,_::p=>sub b p
 | .cond _ a _,0::p=>sub a p
 | .cond _ _ b,_::p=>sub b p
 | .block _ b,_::p=>sub b p
 | .loop b,_::p=>sub b p
 | .rangeFunc _ _ a _,0::p=>sub a p
 | .rangeFunc _ _ _ b,_::p=>sub b p
 | .scope b,_::p=>sub b p
 | c,_=>c
noncomputable def cd (f:FuncId) (p:List Nat):Code:=match Tp.funcs[f]? with
 | some fn=>(match fn.body with | some c=>sub c p | none=>.skip)
 | none=>.skip
theorem gX:XOk Tp Ai:=by
 refine ⟨fun f h=>by simp [Ai,Ew] at h,fun f h=>?_,fun f h=>?_⟩
 ·obtain rfl:f=80:=by simpa [Ai] using Nr h
  exact ⟨Tryz.f80,Tryz.func80,by kernel_rfl,by kernel_rfl,by kernel_rfl,by kernel_rfl⟩
 ·obtain rfl:f=116:=by simpa [Ai] using Nr h
  exact ⟨Tryz.f116,Tryz.func116,by kernel_rfl,by kernel_rfl,by kernel_rfl,by kernel_rfl,by kernel_rfl⟩
theorem gP:POk Tp:=Zj (by kernel_rfl) (by kernel_rfl)
theorem J7:Plain Ai:=⟨rfl,rfl,rfl⟩
def Wf0 (f sz:Nat) (T:Nat→List Item) (L:Nat→List Tmp):Prop:=∀ {W0:World} {m0:Inj Tp} {S:Nat→List Value→AW→Prop} {Q:Value→AW→Prop} (A:AW),N9 Tp Ai W0 m0 f T L S Q sz→AR Tp Ai W0 m0 f T L S Q none 4000 (Tm.fill ⟨sz,.nil⟩ 0 []) [.code (cd f [])] false 0 0 0 [] A→Wc Tp Ai W0 m0 f [] A Q
theorem wf0 {f sz:Nat} {T:Nat→List Item} {L:Nat→List Tmp} (n:E3 Tp f [] .normal=some (frM f (Tm.fill ⟨sz,.nil⟩ 0 []) [.code (cd f [])] false)) (hs:sz < Al) (hz:(Tm.fill ⟨sz,.nil⟩ 0 []).sz=sz):Wf0 f sz T L:=fun _ hc h=>OE gX gP J7 hs hc (n) (hz) h
def Wf1 (f sz:Nat) (T:Nat→List Item) (L:Nat→List Tmp):Prop:=∀ {W0:World} {m0:Inj Tp} {S:Nat→List Value→AW→Prop} {Q:Value→AW→Prop} (a0:Value) (A:AW),N9 Tp Ai W0 m0 f T L S Q sz→AR Tp Ai W0 m0 f T L S Q none 4000 (Tm.fill ⟨sz,.nil⟩ 0 [a0]) [.code (cd f [])] false 0 0 0 [] A→Wc Tp Ai W0 m0 f [a0] A Q
theorem wf1 {f sz:Nat} {T:Nat→List Item} {L:Nat→List Tmp} (n:∀ (a0:Value),E3 Tp f [a0] .normal=some (frM f (Tm.fill ⟨sz,.nil⟩ 0 [a0]) [.code (cd f [])] false)) (hs:sz < Al) (hz:∀ (a0:Value),(Tm.fill ⟨sz,.nil⟩ 0 [a0]).sz=sz):Wf1 f sz T L:=fun a0 _ hc h=>OE gX gP J7 hs hc (n a0) (hz a0) h
def Wf2 (f sz:Nat) (T:Nat→List Item) (L:Nat→List Tmp):Prop:=∀ {W0:World} {m0:Inj Tp} {S:Nat→List Value→AW→Prop} {Q:Value→AW→Prop} (a0 a1:Value) (A:AW),N9 Tp Ai W0 m0 f T L S Q sz→AR Tp Ai W0 m0 f T L S Q none 4000 (Tm.fill ⟨sz,.nil⟩ 0 [a0,a1]) [.code (cd f [])] false 0 0 0 [] A→Wc Tp Ai W0 m0 f [a0,a1] A Q
theorem wf2 {f sz:Nat} {T:Nat→List Item} {L:Nat→List Tmp} (n:∀ (a0 a1:Value),E3 Tp f [a0,a1] .normal=some (frM f (Tm.fill ⟨sz,.nil⟩ 0 [a0,a1]) [.code (cd f [])] false)) (hs:sz < Al) (hz:∀ (a0 a1:Value),(Tm.fill ⟨sz,.nil⟩ 0 [a0,a1]).sz=sz):Wf2 f sz T L:=fun a0 a1 _ hc h=>OE gX gP J7 hs hc (n a0 a1) (hz a0 a1) h
def Wf3 (f sz:Nat) (T:Nat→List Item) (L:Nat→List Tmp):Prop:=∀ {W0:World} {m0:Inj Tp} {S:Nat→List Value→AW→Prop} {Q:Value→AW→Prop} (a0 a1 a2:Value) (A:AW),N9 Tp Ai W0 m0 f T L S Q sz→AR Tp Ai W0 m0 f T L S Q none 4000 (Tm.fill ⟨sz,.nil⟩ 0 [a0,a1,a2]) [.code (cd f [])] false 0 0 0 [] A→Wc Tp Ai W0 m0 f [a0,a1,a2] A Q
theorem wf3 {f sz:Nat} {T:Nat→List Item} {L:Nat→List Tmp} (n:∀ (a0 a1 a2:Value),E3 Tp f [a0,a1,a2] .normal=some (frM f (Tm.fill ⟨sz,.nil⟩ 0 [a0,a1,a2]) [.code (cd f [])] false)) (hs:sz < Al) (hz:∀ (a0 a1 a2:Value),(Tm.fill ⟨sz,.nil⟩ 0 [a0,a1,a2]).sz=sz):Wf3 f sz T L:=fun a0 a1 a2 _ hc h=>OE gX gP J7 hs hc (n a0 a1 a2) (hz a0 a1 a2) h
def Wf4 (f sz:Nat) (T:Nat→List Item) (L:Nat→List Tmp):Prop:=∀ {W0:World} {m0:Inj Tp} {S:Nat→List Value→AW→Prop} {Q:Value→AW→Prop} (a0 a1 a2 a3:Value) (A:AW),N9 Tp Ai W0 m0 f T L S Q sz→AR Tp Ai W0 m0 f T L S Q none 4000 (Tm.fill ⟨sz,.nil⟩ 0 [a0,a1,a2,a3]) [.code (cd f [])] false 0 0 0 [] A→Wc Tp Ai W0 m0 f [a0,a1,a2,a3] A Q
theorem wf4 {f sz:Nat} {T:Nat→List Item} {L:Nat→List Tmp} (n:∀ (a0 a1 a2 a3:Value),E3 Tp f [a0,a1,a2,a3] .normal=some (frM f (Tm.fill ⟨sz,.nil⟩ 0 [a0,a1,a2,a3]) [.code (cd f [])] false)) (hs:sz < Al) (hz:∀ (a0 a1 a2 a3:Value),(Tm.fill ⟨sz,.nil⟩ 0 [a0,a1,a2,a3]).sz=sz):Wf4 f sz T L:=fun a0 a1 a2 a3 _ hc h=>OE gX gP J7 hs hc (n a0 a1 a2 a3) (hz a0 a1 a2 a3) h
def Wf5 (f sz:Nat) (T:Nat→List Item) (L:Nat→List Tmp):Prop:=∀ {W0:World} {m0:Inj Tp} {S:Nat→List Value→AW→Prop} {Q:Value→AW→Prop} (a0 a1 a2 a3 a4:Value) (A:AW),N9 Tp Ai W0 m0 f T L S Q sz→AR Tp Ai W0 m0 f T L S Q none 4000 (Tm.fill ⟨sz,.nil⟩ 0 [a0,a1,a2,a3,a4]) [.code (cd f [])] false 0 0 0 [] A→Wc Tp Ai W0 m0 f [a0,a1,a2,a3,a4] A Q
theorem wf5 {f sz:Nat} {T:Nat→List Item} {L:Nat→List Tmp} (n:∀ (a0 a1 a2 a3 a4:Value),E3 Tp f [a0,a1,a2,a3,a4] .normal=some (frM f (Tm.fill ⟨sz,.nil⟩ 0 [a0,a1,a2,a3,a4]) [.code (cd f [])] false)) (hs:sz < Al) (hz:∀ (a0 a1 a2 a3 a4:Value),(Tm.fill ⟨sz,.nil⟩ 0 [a0,a1,a2,a3,a4]).sz=sz):Wf5 f sz T L:=fun a0 a1 a2 a3 a4 _ hc h=>OE gX gP J7 hs hc (n a0 a1 a2 a3 a4) (hz a0 a1 a2 a3 a4) h
def Ge (f sz:Nat) (T:Nat→List Item) (L:Nat→List Tmp):Prop:=∀ {W0:World} {m0:Inj Tp} {Q:Value→AW→Prop} {I:Nat→Nat→List Value→AW→Prop},(∀ g id vals A d,I g id vals A→(L id).map d=vals→AR Tp Ai W0 m0 f T L (fun id v A=>∃ g2,g2 < g∧I g2 id v A) Q none 4000 (DR sz d) (T id) false 0 0 0 [] A)→N9 Tp Ai W0 m0 f T L (fun id v A=>∃ g,I g id v A) Q sz
theorem GF {f sz:Nat} {T:Nat→List Item} {L:Nat→List Tmp} (hs:sz < Al):Ge f sz T L:=fun h=>XO gX gP J7 hs h
noncomputable def T3:Nat→List Item:=fun i=>match i with
 | _=>[]
noncomputable def T8:Nat→List Item:=fun i=>match i with
 | 0=>[(.code (cd 8 [1,1,1,1,1,0,1,0,0])),(.inLoop (cd 8 [1,1,1,1,1,0,1,0,0])),(.inBlock 0),(.code (cd 8 [1,1,1,1,1,1]))]
 | _=>[]
def L8:Nat→List Tmp:=fun i=>match i with
 | 0=>[1,3,4,5,12]
 | _=>[]
theorem e8 (W0:World) (m0:Inj Tp) (S:Nat→List Value→AW→Prop) (Q:Value→AW→Prop) (a0:Value) (A:AW):AR Tp Ai W0 m0 8 T8 L8 S Q none 4000 (Tm.fill ⟨43,.nil⟩ 0 [a0]) [.code (cd 8 [])] false 0 0 0 [] A=(Ap (Ep A (Value.cells a0).toList 9) fun t0 At0=>Ab (Au Tp At0 9 t0) fun t1=>Ab (Ag Tp .eql 9 (.tmp 8) (.const (.string ⟨⟨[]⟩⟩)) t1 (.string ⟨⟨[]⟩⟩)) fun t2=>Af t2 (Q (.string ⟨⟨[37]⟩⟩) At0) (Ap (B5 Tp At0 70) fun t3 At3=>Ap (B5 Tp At3 3) fun t4 At4=>Bp (AZ Tp At4 3 t4 (.int .i64 0)) fun At5=>Ab (Au Tp At5 9 t0) fun t6=>anW Tp Ai W0 m0 (JX Tp At5 9 t6) fun t7 At7=>BA (T8 0) (T8 0) (S 0 [t0,t3,t4,(.func (.func 20) ⟨[]⟩ ⟨[t0,t4,t3]⟩),t7] At7))):=by kernel_rfl
theorem AcX (W0:World) (m0:Inj Tp) (S:Nat→List Value→AW→Prop) (Q:Value→AW→Prop) (d:Nat→Value) (A:AW):AR Tp Ai W0 m0 8 T8 L8 S Q none 4000 (DR 43 d) (T8 0) false 0 0 0 [] A=(anW Tp Ai W0 m0 (Ik A (d 12) true) fun t0 At0=>Ab (Bt t0 0) fun t1=>Af t1 (Ab (Bt t0 1) fun t2=>Ab (Bt t0 2) fun t3=>anW Tp Ai W0 m0 (Fo Tp Ai At0 (d 5) [t2]) fun t4 At4=>Ab (Ag Tp .gtr 21 (.tmp 20) (.const (.int .i32 32)) t3 (.int .i32 32)) fun t5=>Af t5 (Ab (Ag Tp .lss 21 (.tmp 23) (.const (.int .i32 127)) t3 (.int .i32 127)) fun t6=>Af t6 (Ab (Ag Tp .neq 21 (.tmp 27) (.const (.int .i32 37)) t3 (.int .i32 37)) fun t7=>Af t7 (Ab (Ag Tp .neq 21 (.tmp 31) (.const (.int .i32 58)) t3 (.int .i32 58)) fun t8=>Af t8 (Wc Tp Ai W0 m0 22 [(d 3),t3] At4 fun t9 At9=>Ab (Ag Tp .add 3 (.tmp 36) (.const (.int .i64 1)) t2 (.int .i64 1)) fun t10=>Bp (AZ Tp At9 3 (d 4) t10) fun At11=>BA (T8 0) (T8 0) (S 0 [(d 1),(d 3),(d 4),(d 5),(d 12)] At11)) (BA (T8 0) (T8 0) (S 0 [(d 1),(d 3),(d 4),(d 5),(d 12)] At4))) (BA (T8 0) (T8 0) (S 0 [(d 1),(d 3),(d 4),(d 5),(d 12)] At4))) (BA (T8 0) (T8 0) (S 0 [(d 1),(d 3),(d 4),(d 5),(d 12)] At4))) (BA (T8 0) (T8 0) (S 0 [(d 1),(d 3),(d 4),(d 5),(d 12)] At4))) (Ab (Au Tp At0 9 (d 1)) fun t12=>Ab (Bm Tp At0 9 t12) fun t13=>anW Tp Ai W0 m0 (Fo Tp Ai At0 (d 5) [t13]) fun t14 At14=>Wc Tp Ai W0 m0 23 [(d 3)] At14 fun t15 At15=>Q t15 At15)):=by kernel_rfl
theorem w8:Wf1 8 43 T8 L8:=wf1 (fun _=>by kernel_rfl) (by decide) fun _=>rfl
theorem c8:Ge 8 43 T8 L8:=GF (by decide)
noncomputable def T9:Nat→List Item:=fun i=>match i with
 | 0=>[(.code (cd 9 [1,1,1,0,1,0,0])),(.inLoop (cd 9 [1,1,1,0,1,0,0])),(.inBlock 0),(.code (cd 9 [1,1,1,1]))]
 | _=>[]
def L9:Nat→List Tmp:=fun i=>match i with
 | 0=>[0,4,5]
 | _=>[]
theorem e9 (W0:World) (m0:Inj Tp) (S:Nat→List Value→AW→Prop) (Q:Value→AW→Prop) (a0:Value) (A:AW):AR Tp Ai W0 m0 9 T9 L9 S Q none 4000 (Tm.fill ⟨54,.nil⟩ 0 [a0]) [.code (cd 9 [])] false 0 0 0 [] A=(Ab (Ag Tp .eql 9 (.tmp 6) (.const (.string ⟨⟨[37]⟩⟩)) a0 (.string ⟨⟨[37]⟩⟩)) fun t0=>Af t0 (Q (.tuple ⟨[(.string ⟨⟨[]⟩⟩),(.int .i64 0)]⟩) A) (BA (T9 0) (T9 0) (S 0 [a0,(.slice none 0 0),(.int .i64 0)] A))):=by kernel_rfl
theorem AcW (W0:World) (m0:Inj Tp) (S:Nat→List Value→AW→Prop) (Q:Value→AW→Prop) (d:Nat→Value) (A:AW):AR Tp Ai W0 m0 9 T9 L9 S Q none 4000 (DR 54 d) (T9 0) false 0 0 0 [] A=(Ab (Bm Tp A 9 (d 0)) fun t0=>Ab (Ag Tp .lss 3 (.tmp 8) (.tmp 10) (d 5) t0) fun t1=>Af t1 (Ab (BK Tp 9 (d 0) (d 5)) fun t2=>Ab (Ag Tp .neq 5 (.tmp 16) (.const (.int .u8 37)) t2 (.int .u8 37)) fun t3=>Af t3 (Ab (BK Tp 9 (d 0) (d 5)) fun t4=>Ap (Ar Tp A 33 1 [(0,t4)]) fun t5 At5=>Ap (Bh Tp At5 33 33 (d 4) t5) fun t6 At6=>Ab (Ag Tp .add 3 (.tmp 12) (.const (.int .i64 1)) (d 5) (.int .i64 1)) fun t7=>BA (T9 0) (T9 0) (S 0 [(d 0),t6,t7] At6)) (Ab (Ag Tp .add 3 (.tmp 24) (.const (.int .i64 2)) (d 5) (.int .i64 2)) fun t8=>Ab (Bm Tp A 9 (d 0)) fun t9=>Ab (Ag Tp .geq 3 (.tmp 25) (.tmp 27) t8 t9) fun t10=>Af t10 (Q (.tuple ⟨[(.string ⟨⟨[]⟩⟩),(.int .i64 310)]⟩) A) (Ab (Ag Tp .add 3 (.tmp 31) (.const (.int .i64 1)) (d 5) (.int .i64 1)) fun t11=>Ab (BK Tp 9 (d 0) t11) fun t12=>Ab (Ag Tp .add 3 (.tmp 37) (.const (.int .i64 2)) (d 5) (.int .i64 2)) fun t13=>Ab (BK Tp 9 (d 0) t13) fun t14=>Wc Tp Ai W0 m0 24 [(.string ⟨⟨[48,49,50,51,52,53,54,55,56,57,97,98,99,100,101,102]⟩⟩),t12] A fun t15 At15=>Ab (BK Tp 9 (d 0) t13) fun t16=>eqW t16 t14 (Ab (Ag Tp .add 3 (.tmp 37) (.const (.int .i64 2)) (d 5) (.int .i64 2)) fun t17=>eqW t17 t13 (eqW (d 5) (d 5) (eqW (d 0) (d 0) (eqW (d 4) (d 4) (Ab (Ag Tp .shl 3 (.tmp 34) (.const (.int .u64 4)) t15 (.int .u64 4)) fun t18=>Wc Tp Ai W0 m0 24 [(.string ⟨⟨[48,49,50,51,52,53,54,55,56,57,97,98,99,100,101,102]⟩⟩),t14] At15 fun t19 At19=>Ab (Ag Tp .shl 3 (.tmp 34) (.const (.int .u64 4)) t15 (.int .u64 4)) fun t20=>eqW t20 t18 (eqW (d 4) (d 4) (Ab (Ag Tp .add 3 (.tmp 35) (.tmp 40) t18 t19) fun t21=>Ap (AD Tp At19 3 5 t21) fun t22 At22=>Ap (Ar Tp At22 33 1 [(0,t22)]) fun t23 At23=>Bz (AT Tp (By (Tm.fill ⟨1,.nil⟩ 0 [t22])) (.buildSlice 33 1 #[(0,.tmp 0)])) At23 t23 (Ap (AD Tp At23 3 5 t21) fun t24 _=>eqW t24 t22 (Ab (Ag Tp .add 3 (.tmp 35) (.tmp 40) t18 t19) fun t25=>eqW t25 t21 (Ab (BK Tp 9 (d 0) t13) fun t26=>eqW t26 t14 (Ab (Ag Tp .add 3 (.tmp 37) (.const (.int .i64 2)) (d 5) (.int .i64 2)) fun t27=>eqW t27 t13 (eqW (d 5) (d 5) (eqW (d 0) (d 0) (Ab (Ag Tp .shl 3 (.tmp 34) (.const (.int .u64 4)) t15 (.int .u64 4)) fun t28=>eqW t28 t18 (Ab (BK Tp 9 (d 0) t11) fun t29=>eqW t29 t12 (Ab (Ag Tp .add 3 (.tmp 31) (.const (.int .i64 1)) (d 5) (.int .i64 1)) fun t30=>eqW t30 t11 (eqW (d 5) (d 5) (eqW (d 0) (d 0) (eqW (d 4) (d 4) (Ap (Bh Tp At23 33 33 (d 4) t23) fun t31 At31=>Ab (Ag Tp .add 3 (.tmp 45) (.const (.int .i64 2)) (d 5) (.int .i64 2)) fun t32=>Ab (Ag Tp .add 3 (.tmp 12) (.const (.int .i64 1)) t32 (.int .i64 1)) fun t33=>BA (T9 0) (T9 0) (S 0 [(d 0),t31,t33] At31)))))))))))))))))))))))) (Ap (AD Tp A 33 9 (d 4)) fun t34 At34=>Wc Tp Ai W0 m0 8 [t34] At34 fun t35 At35=>Ab (Ag Tp .neq 9 (.tmp 49) (.tmp 50) t35 (d 0)) fun t36=>Af t36 (Q (.tuple ⟨[(.string ⟨⟨[]⟩⟩),(.int .i64 310)]⟩) At35) (Ap (AD Tp At35 33 9 (d 4)) fun t37 At37=>Q (.tuple ⟨[t37,(.int .i64 0)]⟩) At37))):=by kernel_rfl
theorem w9:Wf1 9 54 T9 L9:=wf1 (fun _=>by kernel_rfl) (by decide) fun _=>rfl
theorem c9:Ge 9 54 T9 L9:=GF (by decide)
noncomputable def T11:Nat→List Item:=fun i=>match i with
 | 0=>[(.code (cd 11 [1,1,1,0,1,0,0])),(.inLoop (cd 11 [1,1,1,0,1,0,0])),(.inBlock 0),(.code (cd 11 [1,1,1,1]))]
 | _=>[]
def L11:Nat→List Tmp:=fun i=>match i with
 | 0=>[0,3,4]
 | _=>[]
theorem e11 (W0:World) (m0:Inj Tp) (S:Nat→List Value→AW→Prop) (Q:Value→AW→Prop) (a0:Value) (A:AW):AR Tp Ai W0 m0 11 T11 L11 S Q none 4000 (Tm.fill ⟨50,.nil⟩ 0 [a0]) [.code (cd 11 [])] false 0 0 0 [] A=(Ab (Ag Tp .eql 9 (.tmp 5) (.const (.string ⟨⟨[]⟩⟩)) a0 (.string ⟨⟨[]⟩⟩)) fun t0=>Af t0 (Q (.string ⟨⟨[37]⟩⟩) A) (BA (T11 0) (T11 0) (S 0 [a0,(.string ⟨⟨[]⟩⟩),(.int .i64 0)] A))):=by kernel_rfl
theorem Abn (W0:World) (m0:Inj Tp) (S:Nat→List Value→AW→Prop) (Q:Value→AW→Prop) (d:Nat→Value) (A:AW):AR Tp Ai W0 m0 11 T11 L11 S Q none 4000 (DR 50 d) (T11 0) false 0 0 0 [] A=(Ab (Bm Tp A 9 (d 0)) fun t0=>Ab (Ag Tp .lss 3 (.tmp 7) (.tmp 9) (d 4) t0) fun t1=>Af t1 (Ab (BK Tp 9 (d 0) (d 4)) fun t2=>Ab (Ag Tp .geq 5 (.tmp 15) (.const (.int .u8 33)) t2 (.int .u8 33)) fun t3=>Af t3 (Ab (BK Tp 9 (d 0) (d 4)) fun t4=>Ab (Ag Tp .leq 5 (.tmp 20) (.const (.int .u8 126)) t4 (.int .u8 126)) fun t5=>Af t5 (Ab (BK Tp 9 (d 0) (d 4)) fun t6=>Ab (Ag Tp .neq 5 (.tmp 26) (.const (.int .u8 37)) t6 (.int .u8 37)) fun t7=>Af t7 (Ab (BK Tp 9 (d 0) (d 4)) fun t8=>Ab (Ag Tp .neq 5 (.tmp 32) (.const (.int .u8 58)) t8 (.int .u8 58)) fun t9=>Af t9 (Ab (Ag Tp .add 3 (.tmp 38) (.const (.int .i64 1)) (d 4) (.int .i64 1)) fun t10=>Ab (BM Tp A 9 (d 0) (some (d 4)) (some t10) none) fun t11=>Ab (Ag Tp .add 9 (.tmp 35) (.tmp 40) (d 3) t11) fun t12=>Ab (Ag Tp .add 3 (.tmp 11) (.const (.int .i64 1)) (d 4) (.int .i64 1)) fun t13=>BA (T11 0) (T11 0) (S 0 [(d 0),t12,t13] A)) (Ab (Ag Tp .add 9 (.tmp 42) (.const (.string ⟨⟨[37]⟩⟩)) (d 3) (.string ⟨⟨[37]⟩⟩)) fun t14=>Ab (BK Tp 9 (d 0) (d 4)) fun t15=>Wc Tp Ai W0 m0 26 [t15] A fun t16 At16=>Ab (Ag Tp .add 9 (.tmp 43) (.tmp 47) t14 t16) fun t17=>Ab (Ag Tp .add 3 (.tmp 11) (.const (.int .i64 1)) (d 4) (.int .i64 1)) fun t18=>BA (T11 0) (T11 0) (S 0 [(d 0),t17,t18] At16))) (Ab (Ag Tp .add 9 (.tmp 42) (.const (.string ⟨⟨[37]⟩⟩)) (d 3) (.string ⟨⟨[37]⟩⟩)) fun t19=>Ab (BK Tp 9 (d 0) (d 4)) fun t20=>Wc Tp Ai W0 m0 26 [t20] A fun t21 At21=>Ab (Ag Tp .add 9 (.tmp 43) (.tmp 47) t19 t21) fun t22=>Ab (Ag Tp .add 3 (.tmp 11) (.const (.int .i64 1)) (d 4) (.int .i64 1)) fun t23=>BA (T11 0) (T11 0) (S 0 [(d 0),t22,t23] At21))) (Ab (Ag Tp .add 9 (.tmp 42) (.const (.string ⟨⟨[37]⟩⟩)) (d 3) (.string ⟨⟨[37]⟩⟩)) fun t24=>Ab (BK Tp 9 (d 0) (d 4)) fun t25=>Wc Tp Ai W0 m0 26 [t25] A fun t26 At26=>Ab (Ag Tp .add 9 (.tmp 43) (.tmp 47) t24 t26) fun t27=>Ab (Ag Tp .add 3 (.tmp 11) (.const (.int .i64 1)) (d 4) (.int .i64 1)) fun t28=>BA (T11 0) (T11 0) (S 0 [(d 0),t27,t28] At26))) (Ab (Ag Tp .add 9 (.tmp 42) (.const (.string ⟨⟨[37]⟩⟩)) (d 3) (.string ⟨⟨[37]⟩⟩)) fun t29=>Ab (BK Tp 9 (d 0) (d 4)) fun t30=>Wc Tp Ai W0 m0 26 [t30] A fun t31 At31=>Ab (Ag Tp .add 9 (.tmp 43) (.tmp 47) t29 t31) fun t32=>Ab (Ag Tp .add 3 (.tmp 11) (.const (.int .i64 1)) (d 4) (.int .i64 1)) fun t33=>BA (T11 0) (T11 0) (S 0 [(d 0),t32,t33] At31))) (Q (d 3) A)):=by kernel_rfl
theorem w11:Wf1 11 50 T11 L11:=wf1 (fun _=>by kernel_rfl) (by decide) fun _=>rfl
theorem c11:Ge 11 50 T11 L11:=GF (by decide)
noncomputable def T20:Nat→List Item:=fun i=>match i with
 | 0=>[(.code (cd 20 [0,1,0,0])),(.inLoop (cd 20 [0,1,0,0])),(.inBlock 0),(.code (cd 20 [1]))]
 | _=>[]
def L20:Nat→List Tmp:=fun i=>match i with
 | 0=>[0,2,3,11,12,13]
 | _=>[]
theorem e20 (W0:World) (m0:Inj Tp) (S:Nat→List Value→AW→Prop) (Q:Value→AW→Prop) (a0 a1 a2 a3:Value) (A:AW):AR Tp Ai W0 m0 20 T20 L20 S Q none 4000 (Tm.fill ⟨28,.nil⟩ 0 [a0,a1,a2,a3]) [.code (cd 20 [])] false 0 0 0 [] A=(Ab (Au Tp A 9 a1) fun t0=>Ab (Au Tp A 3 a2) fun t1=>Ab (BM Tp A 9 t0 (some t1) (some a0) none) fun t2=>Ap (AD Tp A 9 33 t2) fun t3 At3=>Ab (Bm Tp At3 33 t3) fun t4=>BA (T20 0) (T20 0) (S 0 [a0,a2,a3,t3,t4,(.int .i64 0)] At3)):=by kernel_rfl
theorem Abg (W0:World) (m0:Inj Tp) (S:Nat→List Value→AW→Prop) (Q:Value→AW→Prop) (d:Nat→Value) (A:AW):AR Tp Ai W0 m0 20 T20 L20 S Q none 4000 (DR 28 d) (T20 0) false 0 0 0 [] A=(Ab (Ag Tp .lss 3 (.tmp 13) (.tmp 12) (d 13) (d 12)) fun t0=>Af t0 (Ab (Ao Tp 33 (d 11) (d 13)) fun t1=>Ab (Au Tp A 5 t1) fun t2=>Wc Tp Ai W0 m0 21 [(d 3),(.int .u8 37)] A fun t3 At3=>Ab (Ag Tp .shr 5 (.tmp 18) (.const (.int .u64 4)) t2 (.int .u64 4)) fun t4=>Ab (BK Tp 9 (.string ⟨⟨[48,49,50,51,52,53,54,55,56,57,97,98,99,100,101,102]⟩⟩) t4) fun t5=>Wc Tp Ai W0 m0 21 [(d 3),t5] At3 fun t6 At6=>Ab (Ag Tp .and 5 (.tmp 22) (.const (.int .u8 15)) t2 (.int .u8 15)) fun t7=>Ab (BK Tp 9 (.string ⟨⟨[48,49,50,51,52,53,54,55,56,57,97,98,99,100,101,102]⟩⟩) t7) fun t8=>Wc Tp Ai W0 m0 21 [(d 3),t8] At6 fun t9 At9=>Ab (Ag Tp .add 3 (.tmp 13) (.const (.int .i64 1)) (d 13) (.int .i64 1)) fun t10=>BA (T20 0) (T20 0) (S 0 [(d 0),(d 2),(d 3),(d 11),(d 12),t10] At9)) (Bp (AZ Tp A 3 (d 2) (d 0)) fun At11=>Q (.tuple ⟨[]⟩) At11)):=by kernel_rfl
theorem w20:Wf4 20 28 T20 L20:=wf4 (fun _ _ _ _=>by kernel_rfl) (by decide) fun _ _ _ _=>rfl
theorem c20:Ge 20 28 T20 L20:=GF (by decide)
theorem e21 (W0:World) (m0:Inj Tp) (S:Nat→List Value→AW→Prop) (Q:Value→AW→Prop) (a0 a1:Value) (A:AW):AR Tp Ai W0 m0 21 Tz Lz S Q none 4000 (Tm.fill ⟨17,.nil⟩ 0 [a0,a1]) [.code (cd 21 [])] false 0 0 0 [] A=(Wc Tp Ai W0 m0 50 [a0] A fun t0 At0=>Ab (Ca a0) fun t1=>Ab (Ac Tp 70 t1 1) fun t2=>Ab (Au Tp At0 33 t2) fun t3=>Ap (Ar Tp At0 33 1 [(0,a1)]) fun t4 At4=>Ap (Bh Tp At4 33 33 t3 t4) fun t5 At5=>Ab (Ca a0) fun t6=>Ab (Ac Tp 70 t6 1) fun t7=>Bp (AZ Tp At5 33 t7 t5) fun At8=>Q .nilIface At8):=by kernel_rfl
theorem w21:Wf2 21 17 Tz Lz:=wf2 (fun _ _=>by kernel_rfl) (by decide) fun _ _=>rfl
theorem e22 (W0:World) (m0:Inj Tp) (S:Nat→List Value→AW→Prop) (Q:Value→AW→Prop) (a0 a1:Value) (A:AW):AR Tp Ai W0 m0 22 Tz Lz S Q none 4000 (Tm.fill ⟨30,.nil⟩ 0 [a0,a1]) [.code (cd 22 [])] false 0 0 0 [] A=(Wc Tp Ai W0 m0 50 [a0] A fun t0 At0=>Ab (Ca a0) fun t1=>Ab (Ac Tp 70 t1 1) fun t2=>Ab (Au Tp At0 33 t2) fun t3=>Ab (Bm Tp At0 33 t3) fun t4=>Ab (Ca a0) fun t5=>Ab (Ac Tp 70 t5 1) fun t6=>Ab (Au Tp At0 33 t6) fun t7=>Wc Tp Ai W0 m0 51 [t7,a1] At0 fun t8 At8=>Ab (Ca a0) fun t9=>Ab (Ac Tp 70 t9 1) fun t10=>Bp (AZ Tp At8 33 t10 t8) fun At11=>Ab (Ca a0) fun t12=>Ab (Ac Tp 70 t12 1) fun t13=>Ab (Au Tp At11 33 t13) fun t14=>Ab (Bm Tp At11 33 t14) fun t15=>Ab (Ag Tp .sub 3 (.tmp 27) (.tmp 28) t15 t4) fun t16=>Q (.tuple ⟨[t16,.nilIface]⟩) At11):=by kernel_rfl
theorem w22:Wf2 22 30 Tz Lz:=wf2 (fun _ _=>by kernel_rfl) (by decide) fun _ _=>rfl
theorem e23 (W0:World) (m0:Inj Tp) (S:Nat→List Value→AW→Prop) (Q:Value→AW→Prop) (a0:Value) (A:AW):AR Tp Ai W0 m0 23 Tz Lz S Q none 4000 (Tm.fill ⟨14,.nil⟩ 0 [a0]) [.code (cd 23 [])] false 0 0 0 [] A=(Ab (Ca a0) fun t0=>Ab (Ac Tp 70 t0 1) fun t1=>Ab (Au Tp A 33 t1) fun t2=>anW Tp Ai W0 m0 (B3 Tp A .unsafeSliceData [33] 107 [t2]) fun t3 At3=>Ab (Ca a0) fun t4=>Ab (Ac Tp 70 t4 1) fun t5=>Ab (Au Tp At3 33 t5) fun t6=>Ab (Bm Tp At3 33 t6) fun t7=>anW Tp Ai W0 m0 (B3 Tp At3 .unsafeString [107,3] 9 [t3,t7]) fun t8 At8=>Q t8 At8):=by kernel_rfl
theorem w23:Wf1 23 14 Tz Lz:=wf1 (fun _=>by kernel_rfl) (by decide) fun _=>rfl
theorem e24 (W0:World) (m0:Inj Tp) (S:Nat→List Value→AW→Prop) (Q:Value→AW→Prop) (a0 a1:Value) (A:AW):AR Tp Ai W0 m0 24 Tz Lz S Q none 4000 (Tm.fill ⟨8,.nil⟩ 0 [a0,a1]) [.code (cd 24 [])] false 0 0 0 [] A=(Wc Tp Ai W0 m0 52 [a0,a1] A fun t0 At0=>Q t0 At0):=by kernel_rfl
theorem w24:Wf2 24 8 Tz Lz:=wf2 (fun _ _=>by kernel_rfl) (by decide) fun _ _=>rfl
theorem e26 (W0:World) (m0:Inj Tp) (S:Nat→List Value→AW→Prop) (Q:Value→AW→Prop) (a0:Value) (A:AW):AR Tp Ai W0 m0 26 Tz Lz S Q none 4000 (Tm.fill ⟨14,.nil⟩ 0 [a0]) [.code (cd 26 [])] false 0 0 0 [] A=(Ab (Ag Tp .quo 5 (.tmp 5) (.const (.int .u8 16)) a0 (.int .u8 16)) fun t0=>Ab (BK Tp 9 (.string ⟨⟨[48,49,50,51,52,53,54,55,56,57,97,98,99,100,101,102]⟩⟩) t0) fun t1=>Ab (Ag Tp .rem 5 (.tmp 9) (.const (.int .u8 16)) a0 (.int .u8 16)) fun t2=>Ab (BK Tp 9 (.string ⟨⟨[48,49,50,51,52,53,54,55,56,57,97,98,99,100,101,102]⟩⟩) t2) fun t3=>Ap (Ar Tp A 33 2 [(0,t1),(1,t3)]) fun t4 At4=>Bz (AT Tp (By (Tm.fill ⟨2,.nil⟩ 0 [t1,t3])) (.buildSlice 33 2 #[(0,.tmp 0),(1,.tmp 1)])) At4 t4 (Ab (BK Tp 9 (.string ⟨⟨[48,49,50,51,52,53,54,55,56,57,97,98,99,100,101,102]⟩⟩) t2) fun t5=>eqW t5 t3 (Ab (Ag Tp .rem 5 (.tmp 9) (.const (.int .u8 16)) a0 (.int .u8 16)) fun t6=>eqW t6 t2 (eqW a0 a0 (eqW (.string ⟨⟨[48,49,50,51,52,53,54,55,56,57,97,98,99,100,101,102]⟩⟩) (.string ⟨⟨[48,49,50,51,52,53,54,55,56,57,97,98,99,100,101,102]⟩⟩) (Ab (BK Tp 9 (.string ⟨⟨[48,49,50,51,52,53,54,55,56,57,97,98,99,100,101,102]⟩⟩) t0) fun t7=>eqW t7 t1 (Ab (Ag Tp .quo 5 (.tmp 5) (.const (.int .u8 16)) a0 (.int .u8 16)) fun t8=>eqW t8 t0 (eqW a0 a0 (eqW (.string ⟨⟨[48,49,50,51,52,53,54,55,56,57,97,98,99,100,101,102]⟩⟩) (.string ⟨⟨[48,49,50,51,52,53,54,55,56,57,97,98,99,100,101,102]⟩⟩) (Ap (AD Tp At4 33 9 t4) fun t9 At9=>Q t9 At9)))))))))):=by kernel_rfl
theorem w26:Wf1 26 14 Tz Lz:=wf1 (fun _=>by kernel_rfl) (by decide) fun _=>rfl
theorem e50 (W0:World) (m0:Inj Tp) (S:Nat→List Value→AW→Prop) (Q:Value→AW→Prop) (a0:Value) (A:AW):AR Tp Ai W0 m0 50 Tz Lz S Q none 4000 (Tm.fill ⟨20,.nil⟩ 0 [a0]) [.code (cd 50 [])] false 0 0 0 [] A=(Ab (Ca a0) fun t0=>Ab (Ac Tp 70 t0 0) fun t1=>Ab (Au Tp A 68 t1) fun t2=>Ab (Ag Tp .eql 68 (.tmp 5) (.const (.pointer none)) t2 (.pointer none)) fun t3=>Af t3 (Ap (AD Tp A 68 132 a0) fun t4 At4=>anW Tp Ai W0 m0 (BJ Tp Ai At4 80 [t4]) fun t5 At5=>Ap (AD Tp At5 132 68 t5) fun t6 At6=>Ab (Ca a0) fun t7=>Ab (Ac Tp 70 t7 0) fun t8=>Bp (AZ Tp At6 68 t8 t6) fun At9=>Q (.tuple ⟨[]⟩) At9) (Ab (Ca a0) fun t10=>Ab (Ac Tp 70 t10 0) fun t11=>Ab (Au Tp A 68 t11) fun t12=>Ab (Ag Tp .neq 68 (.tmp 17) (.tmp 18) t12 a0) fun t13=>Af t13 (False) (Q (.tuple ⟨[]⟩) A))):=by kernel_rfl
theorem w50:Wf1 50 20 Tz Lz:=wf1 (fun _=>by kernel_rfl) (by decide) fun _=>rfl
theorem e51 (W0:World) (m0:Inj Tp) (S:Nat→List Value→AW→Prop) (Q:Value→AW→Prop) (a0 a1:Value) (A:AW):AR Tp Ai W0 m0 51 Tz Lz S Q none 4000 (Tm.fill ⟨16,.nil⟩ 0 [a0,a1]) [.code (cd 51 [])] false 0 0 0 [] A=(Ap (AD Tp A 21 30 a1) fun t0 At0=>Ab (Ag Tp .leq 30 (.tmp 6) (.const (.int .u32 127)) t0 (.int .u32 127)) fun t1=>Af t1 (Ap (AD Tp At0 21 5 a1) fun t2 At2=>Ap (Ar Tp At2 33 1 [(0,t2)]) fun t3 At3=>Ap (Bh Tp At3 33 33 a0 t3) fun t4 At4=>Q t4 At4) (Wc Tp Ai W0 m0 81 [a0,a1] At0 fun t5 At5=>Q t5 At5)):=by kernel_rfl
theorem w51:Wf2 51 16 Tz Lz:=wf2 (fun _ _=>by kernel_rfl) (by decide) fun _ _=>rfl
theorem e52 (W0:World) (m0:Inj Tp) (S:Nat→List Value→AW→Prop) (Q:Value→AW→Prop) (a0 a1:Value) (A:AW):AR Tp Ai W0 m0 52 Tz Lz S Q none 4000 (Tm.fill ⟨8,.nil⟩ 0 [a0,a1]) [.code (cd 52 [])] false 0 0 0 [] A=(anW Tp Ai W0 m0 (BJ Tp Ai A 82 [a0,a1]) fun t0 At0=>Q t0 At0):=by kernel_rfl
theorem w52:Wf2 52 8 Tz Lz:=wf2 (fun _ _=>by kernel_rfl) (by decide) fun _ _=>rfl
noncomputable def T53:Nat→List Item:=fun i=>match i with
 | 0=>[(.code (cd 53 [1,0,1,0,0])),(.inLoop (cd 53 [1,0,1,0,0])),(.inBlock 0),(.code (cd 53 [1,1]))]
 | _=>[]
def L53:Nat→List Tmp:=fun i=>match i with
 | 0=>[1,8]
 | _=>[]
theorem e53 (W0:World) (m0:Inj Tp) (S:Nat→List Value→AW→Prop) (Q:Value→AW→Prop) (a0 a1:Value) (A:AW):AR Tp Ai W0 m0 53 T53 L53 S Q none 4000 (Tm.fill ⟨18,.nil⟩ 0 [a0,a1]) [.code (cd 53 [])] false 0 0 0 [] A=(anW Tp Ai W0 m0 (JX Tp A 109 a0) fun t0 At0=>BA (T53 0) (T53 0) (S 0 [a1,t0] At0)):=by kernel_rfl
theorem Aa8 (W0:World) (m0:Inj Tp) (S:Nat→List Value→AW→Prop) (Q:Value→AW→Prop) (d:Nat→Value) (A:AW):AR Tp Ai W0 m0 53 T53 L53 S Q none 4000 (DR 18 d) (T53 0) false 0 0 0 [] A=(anW Tp Ai W0 m0 (Ik A (d 8) false) fun t0 At0=>Ab (Bt t0 0) fun t1=>Af t1 (anW Tp Ai W0 m0 (S4 At0 (d 8)) fun t2 At2=>Ab (Bt t2 0) fun t3=>Ab (Bt t2 1) fun t4=>Ab (Ag Tp .eql 5 (.tmp 14) (.tmp 15) t4 (d 1)) fun t5=>Af t5 (Q t3 At2) (BA (T53 0) (T53 0) (S 0 [(d 1),(d 8)] At2))) (Q (.string ⟨⟨[]⟩⟩) At0)):=by kernel_rfl
theorem w53:Wf2 53 18 T53 L53:=wf2 (fun _ _=>by kernel_rfl) (by decide) fun _ _=>rfl
theorem c53:Ge 53 18 T53 L53:=GF (by decide)
end Go.Proofs.YtebidlpekphaoaaGreatDoor
namespace Go.Abs
section
variable {P:Program}
theorem EW {d:Nat} {xs ys:Array Value} {f:Field} {fs:List Field} {a b:Value} {r:Bool} (hn:decide (f.name≠ "_")=true) (h1:quiet P (part f.type xs f.offset)=some a) (h2:quiet P (part f.type ys f.offset)=some b) (h3:quiet P (Op.equalIn d f.type a b)=some r):
  quiet P (Op.eqFields d xs ys (f::fs))=if r=true then quiet P (Op.eqFields d xs ys fs) else some false:=by
 simp only [Op.eqFields]
 rw [if_pos (of_decide_eq_true hn)]
 show quiet P (Sem.bind _ _)=_
 rw [Dm,h1]
 simp only [Option.bind_some]
 show quiet P (Sem.bind _ _)=_
 rw [Dm,h2]
 simp only [Option.bind_some]
 show quiet P (Sem.bind _ _)=_
 rw [Dm,h3]
 cases r <;> rfl
theorem bytes_beq (a b:ByteArray):(a==b)=(a.data.toList==b.data.toList):=by
 obtain ⟨⟨x⟩⟩:=a
 obtain ⟨⟨y⟩⟩:=b
 show ((⟨x⟩:Array UInt8)==⟨y⟩)=(x==y)
 simp
theorem Jb {d:Nat} {t:TypeId} {a b:ByteArray} (h:quiet P (underlying t)=some .string):quiet P (Op.equalIn (d+1) t (.string a) (.string b))=some (a.data.toList==b.data.toList):=by
 rw [Mr d t a b h,bytes_beq]
end
def AI (l:List UInt8):List Value:=l.map fun b=>.int .u8 b.toNat
theorem FC (a b:List UInt8):AI (a++b)=AI a++AI b:=List.map_append
theorem Bd (a:List UInt8):(AI a).length=a.length:=List.length_map _
theorem GI (a:List UInt8):(AI a).all AL=true:=by
 rw [List.all_eq_true]
 intro x hx
 obtain ⟨b,_,rfl⟩:=List.mem_map.1 hx
 rfl
theorem Fs (a:List UInt8):(AI a).all (fun v=>!isTuple v)=true:=by
 rw [List.all_eq_true]
 intro x hx
 obtain ⟨b,_,rfl⟩:=List.mem_map.1 hx
 rfl
theorem Tf {a:List UInt8} {i:Nat} {b:UInt8} (h:a[i]? =some b):(AI a)[i]? =some (.int .u8 b.toNat):=by
 unfold AI
 rw [List.getElem?_map,h];rfl
theorem GJ:∀ l:List UInt8,BG (AI l)=some l
 | []=>rfl
 | b::r=>by
  show (match BG (AI r) with | some l=>some (UInt8.ofNat ((b.toNat:Int)).toNat::l) | none=>none)=_
  rw [GJ r]
  simp
theorem CI:∀ (l rest:List Value),l.all (fun v=>!isTuple v)=true→Cg (l++rest) l.length=some l
 | [],_,_=>by simp [Cg]
 | v::r,rest,h=>by
  simp only [List.all_cons,Bool.and_eq_true,Bool.not_eq_true'] at h
  simp [Cg,h.1,CI r rest h.2]
theorem Iy:∀ (l rest:List Value),Ef (l++rest) l.length=some l
 | [],_=>by simp [Ef]
 | v::r,rest=>by simp [Ef,Iy r rest]
def RdB (A:AW) (v:Value) (l:List UInt8) (F:List Nat):Prop:=
 (l=[]∧F=[]∧∃ o c,v=.slice o 0 c)∨∃ r o c cs e f b ro rest,v=.slice (some ⟨r,o,none⟩) l.length c∧A.get r=some (.row cs e f b ro)∧f < A.next∧F=[f]∧cs.drop o=AI l++rest
theorem RdB.keeps {A A':AW} {v:Value} {l:List UInt8} {F S:List Nat} (h:RdB A v l F) (k:Aw A A' S) (hd:∀ x∈F,x∉S):RdB A' v l F:=by
 rcases h with h | ⟨r,o,c,cs,e,f,b,ro,rest,h1,h2,h3,rfl,h4⟩
 ·exact .inl h
 ·exact .inr ⟨r,o,c,cs,e,f,b,ro,rest,h1,k.get r _ h2 h3 (hd f (by simp)),Nat.lt_of_lt_of_le h3 k.next,rfl,h4⟩
theorem RdB.one {A:AW} {v:Value} {l:List UInt8} {F:List Nat} (h:RdB A v l F):AL v=true∧isTuple v=false:=by
 rcases h with ⟨_,_,o,c,rfl⟩ | ⟨r,o,c,cs,e,f,b,ro,rest,rfl,_⟩ <;> exact ⟨rfl,rfl⟩
theorem RdB.lt {A:AW} {v:Value} {l:List UInt8} {F:List Nat} (h:RdB A v l F):∀ x∈F,x < A.next:=by
 rcases h with ⟨_,rfl,_⟩ | ⟨r,o,c,cs,e,f,b,ro,rest,_,_,h3,rfl,_⟩
 ·simp
 ·simpa using h3
theorem RdB.slice {A:AW} {v:Value} {l:List UInt8} {F:List Nat} (h:RdB A v l F):∃ a c,v=.slice a l.length c:=by
 rcases h with ⟨rfl,_,o,c,rfl⟩ | ⟨r,o,c,cs,e,f,b,ro,rest,rfl,_⟩ <;> exact ⟨_,_,rfl⟩
theorem RdB.src {A:AW} {v:Value} {l:List UInt8} {F:List Nat} (h:RdB A v l F):Er A 1 v=some (l.length,AI l):=by
 rcases h with ⟨rfl,_,o,c,rfl⟩ | ⟨r,o,c,cs,e,f,b,ro,rest,rfl,h2,_,_,h4⟩
 ·cases o <;> rfl
 ·unfold Er
  simp only [Nat.mul_one,CD h2,h4]
  have:=CI (AI l) rest (Fs l)
  rw [Bd] at this
  rw [this]
theorem RdB.cell {A:AW} {l:List UInt8} {F:List Nat} {r o c i:Nat} {b:UInt8} (h:RdB A (.slice (some ⟨r,o,none⟩) l.length c) l F) (hi:l[i]? =some b):A.cell? ⟨r,o+i,none⟩=some (.int .u8 b.toNat):=by
 rcases h with ⟨rfl,_⟩ | ⟨r',o',c',cs,e,f,b',ro,rest,hv,h2,_,_,h4⟩
 ·simp at hi
 ·simp only [Value.slice.injEq,Option.some.injEq,Addr.mk.injEq,and_true] at hv
  obtain ⟨⟨rfl,rfl⟩,_⟩:=hv
  rw [Ay h2]
  refine Cd ?_ rfl
  rw [← List.getElem?_drop,h4,List.getElem?_append_left (by rw [Bd];exact (List.getElem?_eq_some_iff.1 hi).1)]
  exact Tf hi
structure BT (P:Program) (tb ts tst:TypeId):Prop where
 sl:BF P ts=some tb
 sz:szT P tb=some 1
 by_:Ft P tb=some 1
 hz:Dq P tb 1=true
 us:P.underlying ts=some (.slice tb)
 ub:P.underlying tb=some (.int .u8)
 ust:P.underlying tst=some .string
 zt:Dv P tb=some (.int .u8 0)
 ln:∀ A a n c,Bm P A ts (.slice a n c)=some (.int .i64 (n:Nat))
 ia:∀ b o n c i k,Ao P ts (.slice (some ⟨b,o,none⟩) n c) (.int k (.ofNat i))=(bif Nat.blt i n then some (.pointer (some (EC ⟨b,o,none⟩ (i * 1)))) else none)
 ld:∀ A a,Au P A tb (.pointer (some a))=A.cell? a
 st:∀ A a v,AZ P A tb (.pointer (some a)) v=(bif Nat.beq v.cells.toList.length 1 then A.setCells a v.cells.toList else none)
section
variable {P:Program} {tb ts tst:TypeId}
theorem RdB.len {A:AW} {v:Value} {l:List UInt8} {F:List Nat} (T:BT P tb ts tst) (h:RdB A v l F):Bm P A ts v=some (.int .i64 (l.length:Nat)):=by
 obtain ⟨a,c,rfl⟩:=h.slice
 exact T.ln _ _ _ _
theorem RdB.str {A:AW} {v:Value} {l:List UInt8} {F:List Nat} (T:BT P tb ts tst) (h:RdB A v l F):AD P A ts tst v=.ok (.string ⟨⟨l⟩⟩) A:=by
 rcases h with ⟨rfl,_,o,c,rfl⟩ | ⟨r,o,c,cs,e,f,b,ro,rest,rfl,h2,_,_,h4⟩
 ·unfold AD
  cases o with
  | none=>simp only [T.us,T.ust,T.ub];rfl
  | some a=>simp only [T.us,T.ust,T.ub,AW.cells?,BG]
 ·unfold AD
  simp only [T.us,T.ust,T.ub,CD h2,h4]
  have:=CI (AI l) rest (Fs l)
  rw [Bd] at this
  simp only [this,GJ]
theorem RdB.at {A:AW} {v:Value} {l:List UInt8} {F:List Nat} (T:BT P tb ts tst) (h:RdB A v l F) {i:Nat} {b:UInt8} (hi:l[i]? =some b):
  ∃ a,Ao P ts v (.int .i64 (i:Int))=some (.pointer (some a))∧Au P A tb (.pointer (some a))=some (.int .u8 b.toNat):=by
 have h0:=h
 rcases h with ⟨rfl,_⟩ | ⟨r,o,c,cs,e,f,b',ro,rest,rfl,h2,h3,h5,h4⟩
 ·simp at hi
 ·have hlt:i < l.length:=(List.getElem?_eq_some_iff.1 hi).1
  refine ⟨EC ⟨r,o,none⟩ (i * 1),?_,?_⟩
  ·show Ao P ts _ (.int .i64 (.ofNat i))=_
   rw [T.ia,AA.2 hlt,cond_true]
  ·have e:EC ⟨r,o,none⟩ (i * 1)=⟨r,o+i,none⟩:=by
    unfold EC
    cases hb:Nat.beq (i * 1) 0 with
    | true=>rw [cond_true];have:=Nat.eq_of_beq_eq_true hb;rw [Nat.mul_one] at this;rw [this];rfl
    | false=>rw [cond_false,Nat.mul_one]
   rw [T.ld,e]
   exact h0.cell hi
theorem Gg {A:AW} {v:Value} {l:List UInt8} {F:List Nat} (T:BT P tb ts tst) (h:RdB A v l F):B6 P A tb ts 1 v=some (l.length,AI l):=by
 unfold B6
 rw [T.us]
 exact h.src
theorem VD {A:AW} {s:ByteArray} (T:BT P tb ts tst):B6 P A tb tst 1 (.string s)=some (s.data.toList.length,AI s.data.toList):=by
 unfold B6
 rw [T.ust]
 rfl
def Buf (tb:TypeId) (A:AW) (v:Value) (l:List UInt8) (F:List Nat):Prop:=
 (v=.slice none 0 0∧l=[]∧F=[])∨(∃ b f,v=.slice (some ⟨b,0,none⟩) l.length (Bu+l.length)∧Mi 0 A tb 1 l.length (AI l) b f∧F=[f])∨
 ∃ b c pad,v=.slice (some ⟨b,0,none⟩) l.length c∧c < room∧AQ A b (AI l++pad) tb∧l.length+pad.length=c∧pad.all AL=true∧F=[b]
theorem Buf.nil (tb:TypeId) (A:AW):Buf tb A (.slice none 0 0) [] []:=.inl ⟨rfl,rfl,rfl⟩
theorem Buf.keeps {A A':AW} {v:Value} {l:List UInt8} {F S:List Nat} (h:Buf tb A v l F) (k:Aw A A' S) (hd:∀ x∈F,x∉S):Buf tb A' v l F:=by
 rcases h with h | ⟨b,f,rfl,h,rfl⟩ | ⟨b,c,pad,h1,h2,h3,h4,h5,rfl⟩
 ·exact .inl h
 ·have:=Ig.keeps (v:=.slice (some ⟨b,0,none⟩) l.length (Bu+l.length)) (.inr ⟨b,f,rfl,h,rfl⟩) k hd
  rcases this with ⟨h1,_⟩ | ⟨b',f',h1,h2,h3⟩
  ·cases h1
  ·exact .inr (.inl ⟨b',f',h1,h2,h3⟩)
 ·exact .inr (.inr ⟨b,c,pad,h1,h2,h3.keeps k (hd b (by simp)),h4,h5,rfl⟩)
theorem Buf.rd {A:AW} {v:Value} {l:List UInt8} {F:List Nat} (h:Buf tb A v l F):RdB A v l F:=by
 rcases h with ⟨rfl,rfl,rfl⟩ | ⟨b,f,rfl,h,rfl⟩ | ⟨b,c,pad,rfl,h2,h3,h4,h5,rfl⟩
 ·exact .inl ⟨rfl,rfl,none,0,rfl⟩
 ·exact .inr ⟨b,0,_,_,_,f,0,false,[],rfl,h.row,h.ltf,rfl,by simp⟩
 ·exact .inr ⟨b,0,_,_,_,b,0,false,pad,rfl,h3.row,h3.lt,rfl,by simp⟩
theorem Buf.lt {A:AW} {v:Value} {l:List UInt8} {F:List Nat} (h:Buf tb A v l F):∀ x∈F,x < A.next:=h.rd.lt
theorem HC:∀ (a mid new rest:List Value),mid.length=new.length→Ip (a++(mid++rest)) a.length new=a++(new++rest)
 | a,[],[],rest,_=>by simp [Ip]
 | a,m::ms,n::ns,rest,h=>by
  simp only [List.length_cons,Nat.add_right_cancel_iff] at h
  have:=HC (a++[n]) ms ns rest h
  simp only [Ip]
  have e:(a++(m::ms++rest)).set a.length n=(a++[n])++(ms++rest):=by simp
  rw [e]
  have e2:a.length+1=(a++[n]).length:=by simp
  rw [e2,this]
  simp
 | a,[],_::_,rest,h=>by simp at h
 | a,_::_,[],rest,h=>by simp at h
theorem Gk {A:AW} {t2:TypeId} {v x:Value} {l new:List UInt8} {F:List Nat} {K:Value→AW→Prop} (T:BT P tb ts tst) (h:Buf tb A v l F) (hx:B6 P A tb t2 1 x=some (new.length,AI new)) (hf:AJ A) (hmax:A.next < Al) (hr:l.length+new.length < room)
  (hk:∀ v' A' F',Buf tb A' v' (l++new) F'→Aw A A' F→(∀ x∈F',x∈F∨A.next≤x)→A'.next≤A.next+1→AJ A'→K v' A'):Ap (Bh P A ts t2 v x) K:=by
 have hroom:(Nat.blt (l.length+new.length) room&&Nat.blt ((l.length+new.length) * 1) room&&Dq P tb 1)=true:=by rw [Nat.mul_one,AA.2 hr,T.hz];rfl
 rcases Nat.eq_zero_or_pos new.length with h0 | hpos
 ·have hnew:new=[]:=List.eq_nil_of_length_eq_zero h0
  subst hnew
  obtain ⟨a,c,rfl⟩:=h.rd.slice
  have e:Bh P A ts t2 (.slice a l.length c) x=.ok (.slice a l.length c) A:=by
   unfold Bh
   simp only [T.sl,T.sz,T.by_,hx]
   simp only [List.length_nil] at hroom ⊢
   rw [hroom]
   rfl
  rw [e]
  refine Bi.2 (hk _ A F (by rw [List.append_nil];exact h) (.refl _ _) (fun x hx=>.inl hx) (by omega) hf)
 ·obtain ⟨m,hm⟩:∃ m,new.length=m+1:=⟨new.length - 1,by omega⟩
  rcases h with ⟨rfl,rfl,rfl⟩ | ⟨b,f,rfl,ho,rfl⟩ | ⟨b,c,pad,rfl,hc,h3,h4,h5,rfl⟩
  ·have hx':B6 P A tb t2 (0+1) x=some (m+1,AI new):=by rw [← hm];exact hx
   rw [hm] at hroom
   rw [Mf T.sl T.sz T.by_ hx' hroom hmax]
   have hfp:=hf.push (.row (AI new) tb A.next 0 false) hmax
   have hrow:(A.push (.row (AI new) tb A.next 0 false)).get A.next=some (.row (AI new) tb A.next 0 false):=by rw [AW.Cz _ hmax,if_pos rfl]
   refine Bi.2 (hk _ _ [A.next] (.inr (.inl ⟨A.next,A.next,by simp [hm],?_,rfl⟩)) ((AW.Df _ hmax).keeps hf) (fun x hx=>.inr (by simp at hx;omega)) (by rw [AW.CC];omega) hfp)
   refine ⟨by simp [hm],by rw [hrow];rfl,by simp [Bd],Nat.zero_le _,Nat.zero_le _,by rw [AW.CC];omega,fun i hi=>?_⟩
   have:(A.push (.row (AI new) tb A.next 0 false)).members A.next=[A.next]:=hf.alone (Nat.le_refl _)
   rw [this] at hi
   obtain rfl:i=A.next:=by simpa using hi
   exact ⟨Nat.zero_le _,by rw [AW.CC];omega,_,_,_,_,hrow⟩
  ·have hx':B6 P A tb t2 (0+1) x=some (m+1,AI new):=by rw [← hm];exact hx
   refine MO (P:=P) (size:=0) T.sl T.sz T.by_ T.hz hx' (by rw [Bd,hm];omega) (GI new) (.inr ⟨b,f,rfl,ho,rfl⟩) hf hmax (by omega) (by omega) fun v' A' F' hv hk' hF' hn hf'=>?_
   refine hk v' A' F' ?_ hk' (fun x hx=>?_) (by omega) hf'
   ·rcases hv with ⟨_,hz,_⟩ | ⟨b',f',h1,h2,h3⟩
    ·omega
    ·refine .inr (.inl ⟨b',f',?_,?_,h3⟩)
     ·rw [h1,List.length_append,hm]
     ·rw [List.length_append,hm,FC];exact h2
   ·rcases hF' x hx with h | h
    ·exact .inl h
    ·exact .inr (by omega)
  ·have hlen:(AI l++pad).length=c:=by rw [List.length_append,Bd];exact h4
   have hcu:Nat.ble Bu c=false:=BU.2 (by unfold room at hc;unfold Bu;omega)
   by_cases hfit:l.length+new.length≤c
   ·
    have hb:=h3.lt
    obtain ⟨A',h1,w⟩:=Eg (new:=AI new) (off:=l.length) h3.row h3.mem (by rw [hlen,Bd];exact hfit) (GI new) (by omega)
    have e:Bh P A ts t2 (.slice (some ⟨b,0,none⟩) l.length c) x=.ok (.slice (some ⟨b,0,none⟩) (l.length+new.length) c) A':=by
     unfold Bh
     simp only [T.sl,T.sz,T.by_,hx]
     rw [hroom]
     rw [hm]
     have ha:EC ⟨b,0,none⟩ (l.length * 1)=⟨b,l.length,none⟩:=by
      unfold EC
      cases hb:Nat.beq (l.length * 1) 0 with
      | true=>rw [cond_true];have:=Nat.eq_of_beq_eq_true hb;rw [Nat.mul_one] at this;rw [this]
      | false=>rw [cond_false,Nat.mul_one,Nat.zero_add]
     have hfit':Nat.ble (l.length+(m+1)) c=true:=Bo.2 (by omega)
     simp only [hcu,cond_false,hfit',cond_true,ha,h1,Bool.not_true]
    rw [e]
    have hcs:Ip (AI l++pad) l.length (AI new)=AI (l++new)++pad.drop new.length:=by
     have hp:pad=pad.take new.length++pad.drop new.length:=(List.take_append_drop _ _).symm
     conv=>lhs;rw [hp]
     have hl2:l.length=(AI l).length:=(Bd l).symm
     conv=>lhs;arg 2;rw [hl2]
     rw [HC (AI l) (pad.take new.length) (AI new) (pad.drop new.length) (by rw [List.length_take,Bd];omega),FC,List.append_assoc]
    refine Bi.2 (hk _ A' [b] (.inr (.inr ⟨b,c,pad.drop new.length,by rw [List.length_append],hc,?_,by rw [List.length_append,List.length_drop];omega,?_,rfl⟩)) (w.keeps h3.row) (fun x hx=>.inl hx) (by rw [w.next];omega) (w.AG hf h3.row))
    ·rw [← hcs]
     exact ⟨w.row,by rw [w.mem];exact h3.mem,by rw [w.next];exact h3.lt⟩
    ·rw [List.all_eq_true] at h5 ⊢
     exact fun x hx=>h5 x (List.mem_of_mem_drop hx)
   ·
    have hold:(match (some ⟨b,0,none⟩:Option Addr) with | some a=>A.C6 a (l.length * 1) | none=>some [])=some (AI l):=by
     show A.C6 ⟨b,0,none⟩ (l.length * 1)=_
     rw [Nat.mul_one]
     unfold AW.C6
     cases hl:l.length with
     | zero=>
      have:l=[]:=List.eq_nil_of_length_eq_zero hl
      subst this;rfl
     | succ k=>
      simp only [h3.row,List.drop_zero]
      have:=Iy (AI l) pad
      rw [Bd,hl] at this
      exact this
    have hnew:A.new (.row (AI l++AI new) tb A.next 0 false)=some (A.next,A.push (.row (AI l++AI new) tb A.next 0 false)):=by
     unfold AW.new
     simp only [AA.2 hmax,cond_true]
     rfl
    have e:Bh P A ts t2 (.slice (some ⟨b,0,none⟩) l.length c) x=.ok (.slice (some ⟨A.next,0,none⟩) (l.length+new.length) (Bu+(l.length+new.length))) (A.push (.row (AI l++AI new) tb A.next 0 false)):=by
     unfold Bh
     simp only [T.sl,T.sz,T.by_,hx]
     rw [hroom]
     rw [hm]
     have hfit':Nat.ble (l.length+(m+1)) c=false:=BU.2 (by omega)
     simp only [hcu,cond_false,hfit',Bool.not_true]
     simp only at hold
     rw [hold]
     simp only [hnew]
    rw [e]
    have hfp:=hf.push (.row (AI l++AI new) tb A.next 0 false) hmax
    have hrow:(A.push (.row (AI l++AI new) tb A.next 0 false)).get A.next=some (.row (AI l++AI new) tb A.next 0 false):=by rw [AW.Cz _ hmax,if_pos rfl]
    refine Bi.2 (hk _ _ [A.next] (.inr (.inl ⟨A.next,A.next,by rw [List.length_append],?_,rfl⟩)) (((AW.Df _ hmax).keeps hf).more (by simp)) (fun x hx=>.inr (by simp at hx;omega)) (by rw [AW.CC];omega) hfp)
    refine ⟨by rw [List.length_append];omega,by rw [hrow,FC],by rw [Bd,Nat.mul_one],Nat.zero_le _,Nat.zero_le _,by rw [AW.CC];omega,fun i hi=>?_⟩
    have:(A.push (.row (AI l++AI new) tb A.next 0 false)).members A.next=[A.next]:=hf.alone (Nat.le_refl _)
    rw [this] at hi
    obtain rfl:i=A.next:=by simpa using hi
    exact ⟨Nat.zero_le _,by rw [AW.CC];omega,_,_,_,_,hrow⟩
theorem JO (v:Value):∀ n,D5 [v] n=List.replicate n v
 | 0=>rfl
 | n+1=>by rw [D5,JO v n];rfl
theorem UB {A:AW} {k k2:IntKind} {n c:Nat} {K:Value→AW→Prop} (T:BT P tb ts tst) (hf:AJ A) (hmax:A.next < Al) (hn:n≤c) (hc:c < room)
  (hk:∀ A',Made A A' (List.replicate c (.int .u8 0)) tb→K (.slice (some ⟨A.next,0,none⟩) n c) A'):Ap (Cq P A ts (.int k (n:Int)) (.int k2 (c:Int))) K:=by
 have hz:FO P tb 1 c=some (List.replicate c (.int .u8 0)):=by
  unfold FO
  rw [T.zt]
  cases c with
  | zero=>rfl
  | succ c=>
   have:Nat.beq ((c+1) * 1) 0=false:=beq_false.2 (by omega)
   simp only [this,cond_false]
   show (bif Nat.beq 1 1 then some (D5 [.int .u8 0] (c+1)) else none)=_
   rw [JO];rfl
 have hnr:A.newRow (List.replicate c (.int .u8 0)) tb=some (⟨A.next,0,none⟩,A.push (.row (List.replicate c (.int .u8 0)) tb A.next 0 false)):=by
  unfold AW.newRow AW.new
  have:(List.replicate c (Value.int .u8 0)).all AL=true:=by
   rw [List.all_eq_true];intro x hx;rw [List.eq_of_mem_replicate hx];rfl
  simp only [this,cond_true,AA.2 hmax]
  rfl
 have e:Cq P A ts (.int k (n:Int)) (.int k2 (c:Int))=.ok (.slice (some ⟨A.next,0,none⟩) n c) (A.push (.row (List.replicate c (.int .u8 0)) tb A.next 0 false)):=by
  show Cq P A ts (.int k (.ofNat n)) (.int k2 (.ofNat c))=_
  unfold Cq
  simp only [T.sl,T.sz,T.by_,Nat.mul_one,Bo.2 hn,AA.2 hc,Bool.and_self,cond_true,hz,hnr]
 rw [e]
 exact Bi.2 (hk _ ⟨AW.Df _ hmax,rfl,by rw [AW.Cz _ hmax,if_pos rfl],hf.alone (Nat.le_refl _),hf.push _ hmax⟩)
end
section
variable {P:Program} {tb ts tst:TypeId}
theorem Wb (r o n:Nat):Ky (some ⟨r,o,none⟩) (n * 1)=some ⟨r,o+n,none⟩:=by
 show some (bif Nat.beq (n * 1) 0 then (⟨r,o,none⟩:Addr) else ⟨r,o+n * 1,none⟩)=_
 rw [Nat.mul_one]
 cases n <;> rfl
theorem RJ (l:List UInt8) (n:Nat):AI (l.take n)=(AI l).take n:=List.map_take
theorem RK (l:List UInt8) (n:Nat):AI (l.drop n)=(AI l).drop n:=List.map_drop
theorem R9 {A:AW} (T:BT P tb ts tst) {a:Option Addr} {len c n:Nat} (hr:LM A a tb=true) (hn:n≤c):BM P A ts (.slice a len (Bu+c)) none (some (.int .i64 (.ofNat n))) none=some (.slice (Ky a (0 * 1)) n (Bu+c)):=by
 unfold BM
 simp only [T.us,T.sz,Bo.2 (show Bu≤Bu+c from Nat.le_add_right _ _),cond_true,bounds,IF,E8,Nat.add_sub_cancel_left,Bo.2 hn,Nat.sub_zero,Option.isSome_some,Option.isSome_none,Bool.not_false,Bool.or_true,hr,Bool.and_self]
end
section
variable {P:Program} {tb ts tst:TypeId}
theorem O5 (a b:Nat):least a b=min a b:=Rf a b
theorem ZO (A:AW) (a:Addr):A.cells? a 0=some []:=by unfold AW.cells?;rfl
theorem RdB.copy {A:AW} {v:Value} {l:List UInt8} {F:List Nat} (h:RdB A v l F) {n:Nat} (hn:n≤l.length):Gj A 1 n v=some (AI (l.take n)):=by
 rcases h with ⟨rfl,_,o,c,rfl⟩ | ⟨r,o,c,cs,e,f,b,ro,rest,rfl,h2,_,_,h4⟩
 ·obtain rfl:n=0:=by simpa using hn
  cases o with
  | none=>rfl
  | some a=>exact ZO A a
 ·unfold Gj
  simp only [Nat.mul_one,CD h2,h4]
  have e:AI l++rest=AI (l.take n)++(AI (l.drop n)++rest):=by rw [RJ,RK,← List.append_assoc,List.take_append_drop]
  have:=CI (AI (l.take n)) (AI (l.drop n)++rest) (Fs _)
  rw [Bd,List.length_take,Nat.min_eq_left hn] at this
  rw [e,this]
theorem RdB.Nx {A:AW} {v:Value} {l:List UInt8} {F:List Nat} (h:RdB A v l F):Nx v=some l.length:=by
 obtain ⟨a,c,rfl⟩:=h.slice
 rfl
theorem XQ {A:AW} {b dl dc:Nat} {cs:List Value} {x:Value} {l:List UInt8} {F:List Nat} {K:Value→AW→Prop} (T:BT P tb ts tst) (hd:AQ A b cs tb) (h:RdB A x l F) (hf:AJ A) (hA:A.next≤Al) (hcs:min l.length dl≤cs.length)
  (hk:∀ A' v,AQ A' b (Ip cs 0 (AI (l.take (min l.length dl)))) tb→Aw A A' [b]→A'.next=A.next→AJ A'→K v A'):Ap (Io P A ts (.slice (some ⟨b,0,none⟩) dl dc) x) K:=by
 have hlt:=hd.lt
 obtain ⟨A',h1,w⟩:=Eg (new:=AI (l.take (min l.length dl))) (off:=0) hd.row hd.mem (by rw [Bd,List.length_take];omega) (GI _) (by omega)
 have e:Io P A ts (.slice (some ⟨b,0,none⟩) dl dc) x=.ok (.int .i64 (min l.length dl:Nat)) A':=by
  unfold Io
  simp only [T.sl,T.sz,h.Nx,O5,h.copy (show min l.length dl≤l.length by omega),h1]
 rw [e]
 exact Bi.2 (hk A' _ ⟨w.row,by rw [w.mem];exact hd.mem,by rw [w.next];exact hd.lt⟩ (w.keeps hd.row) w.next (w.AG hf hd.row))
def ZW (P:Program) (U:Nat) (w:AW) (t t2:TypeId) (s x:Value):R Value:=
 match BF P t,s with
 | some e,.slice base n cap=>
  (match szT P e,Ft P e with
  | some 0,_=>.fail "append size 0"
  | some size,some bytes=>
   match B6 P w e t2 size x with
   | none=>.fail "append source"
   | some (m,new)=>
    let need:=n+m
    bif !(Nat.blt need room&&Nat.blt (need * bytes) room&&Dq P e size) then .fail "append room" else
    match m with
    | 0=>.ok s w
    | _+1=>
     let lb:=bif Nat.ble U cap then cap - U else cap
     bif Nat.ble need lb then
      match base with
      | none=>.fail "append nil with room"
      | some a=>(match w.setCells (EC a (n * size)) new with
       | some w'=>.ok (.slice base need cap) w'
       | none=>.fail "append set")
     else bif Nat.ble U cap then
      match base with
      | none=>.fail "append nil with unknown capacity"
      | some a=>match a.spot,w.get a.block with
       | none,some (.row _ e' fam b0 false)=>
        bif !(Nat.beq e' e&&new.all AL) then .fail "append elements" else
        (match w.C6 a (n * size) with
        | none=>.fail "append old cells"
        | some old=>
         match (BR (b0+a.off+n * size) (w.members fam) w).IH (old++new) e fam (b0+a.off) with
         | some (a',w')=>.ok (.slice (some a') need (U+need)) w'
         | none=>.fail "append new")
       | _,_=>.fail "append base row"
     else
      match (match base with | some a=>w.C6 a (n * size) | none=>some []) with
      | none=>.fail "append old cells"
      | some old=>(match w.new (.row (old++new) e w.next 0 false) with
       | some (b,w')=>.ok (.slice (some ⟨b,0,none⟩) need (U+need)) w'
       | none=>.fail "append new")
  | _,_=>.fail "append type")
 | _,_=>.fail "append"
theorem XX (A:AW) (t t2:TypeId) (s x:Value):Bh P A t t2 s x=ZW P Bu A t t2 s x:=rfl
theorem XV {A A':AW} {t2:TypeId} {x:Value} {U n cap b m:Nat} {new:List Value} (T:BT P tb ts tst) (hx:B6 P A tb t2 1 x=some (m+1,new)) (hroom:(Nat.blt (n+(m+1)) Go.Abs.room&&Nat.blt ((n+(m+1)) * 1) Go.Abs.room&&Dq P tb 1)=true)
  (hcap:Nat.ble U cap=true) (hfit:Nat.ble (n+(m+1)) (cap - U)=true) (h1:A.setCells ⟨b,n,none⟩ new=some A'):
  ZW P U A ts t2 (.slice (some ⟨b,0,none⟩) n cap) x=.ok (.slice (some ⟨b,0,none⟩) (n+(m+1)) cap) A':=by
 have ha:EC ⟨b,0,none⟩ (n * 1)=⟨b,n,none⟩:=by
  unfold EC
  cases hb:Nat.beq (n * 1) 0 with
  | true=>rw [cond_true];have:=Nat.eq_of_beq_eq_true hb;rw [Nat.mul_one] at this;rw [this]
  | false=>rw [cond_false,Nat.mul_one,Nat.zero_add]
 unfold ZW
 simp only [T.sl,T.sz,T.by_,hx]
 rw [hroom]
 simp only [hcap,cond_true,hfit,ha,h1,Bool.not_true,cond_false]
theorem Tk {A A':AW} {t2:TypeId} {x:Value} {n cap b m:Nat} {new:List Value} (T:BT P tb ts tst) (hx:B6 P A tb t2 1 x=some (m+1,new)) (hroom:(Nat.blt (n+(m+1)) Go.Abs.room&&Nat.blt ((n+(m+1)) * 1) Go.Abs.room&&Dq P tb 1)=true)
  (hcap:Nat.ble Bu cap=true) (hfit:Nat.ble (n+(m+1)) (cap - Bu)=true) (h1:A.setCells ⟨b,n,none⟩ new=some A'):
  Bh P A ts t2 (.slice (some ⟨b,0,none⟩) n cap) x=.ok (.slice (some ⟨b,0,none⟩) (n+(m+1)) cap) A':=
 (XX A ts t2 (.slice (some ⟨b,0,none⟩) n cap) x).trans (XV T hx hroom hcap hfit h1)
end
end Go.Abs
namespace Go.Abs
open Go.ChangeShapes Go.WideShapes Go.ChangeAt Go.RowKit
abbrev Arg:=(Nat × Nat) × Option (List Value × TypeId)
def N5 (F:Nat):Nat→List Arg→Trie AO→Trie AO
 | _,[],t=>t
 | j,(_,none)::r,t=>N5 F (j+1) r t
 | j,(_,some (cs,e))::r,t=>(N5 F (j+1) r t).put depth j (some (.row cs e F 0 true))
def wR (n:Nat) (gl:List (Nat × List Value × TypeId)) (L:List Arg):AW:=
 ⟨N5 (n+L.length) n L (Na gl),n+L.length+1,(Trie.nil:Trie (List Nat)).put depth (n+L.length) (some ((List.range L.length).map (n+·)))⟩
def mR (P:Program) (L:List Arg):Inj P:=mA P (L.map (·.1))
theorem HO (F:Nat):∀ (L:List Arg) (j:Nat) (t:Trie AO) (i:Nat),j+L.length≤Al→(N5 F j L t).get? i=if i < j then t.get? i else match L[i - j]? with
  | some (_,some (cs,e))=>some (.row cs e F 0 true)
  | _=>t.get? i
 | [],j,t,i,_=>by simp [N5]
 | (p,none)::r,j,t,i,h=>by
  simp only [List.length_cons] at h
  simp only [N5]
  rw [HO F r (j+1) t i (by omega)]
  by_cases h1:i < j
  ·rw [if_pos (by omega),if_pos h1]
  ·by_cases h2:i=j
   ·subst h2
    rw [if_pos (by omega),if_neg h1,Nat.sub_self]
    rfl
   ·rw [if_neg (by omega),if_neg h1,show i - j=(i - (j+1))+1 by omega,List.getElem?_cons_succ]
 | (p,some (cs,e))::r,j,t,i,h=>by
  simp only [List.length_cons] at h
  simp only [N5]
  rw [Trie.get?_put depth _ j i _ (by unfold depth Al at *;omega),HO F r (j+1) t i (by omega)]
  by_cases h1:i < j
  ·rw [if_neg (by omega),if_pos (by omega),if_pos h1]
  ·by_cases h2:i=j
   ·subst h2
    rw [if_pos rfl,if_neg h1,Nat.sub_self]
    rfl
   ·rw [if_neg h2,if_neg (by omega),if_neg h1,show i - j=(i - (j+1))+1 by omega,List.getElem?_cons_succ]
section
variable {P:Program} {W:World} {gl:List (Nat × List Value × TypeId)} {L:List Arg}
theorem YU {n:Nat} (hk:n+L.length≤Al) {j:Nat} {p:Nat × Nat} {cs:List Value} {e:TypeId} (h:L[j]? =some (p,some (cs,e))):(wR n gl L).get (n+j)=some (.row cs e (n+L.length) 0 true):=by
 show (N5 _ n L _).get? _=_
 rw [HO _ L n _ _ hk,if_neg (by omega),Nat.add_sub_cancel_left,h]
def AbR (P:Program) (W:World) (L:List Arg):Prop:=∀ (j:Nat) (p:Nat × Nat) (cs:List Value) (e:TypeId),L[j]? =some (p,some (cs,e))→∃ cs' fr,W.heap[p.1]? =some (.cells cs' e fr)∧p.2≤cs'.size∧
 ∀ i v,cs[i]? =some v→∃ v',cs'[p.2+i]? =some v'∧Az (mR P L) v v'
end
section
variable {H:Type} {enc:TypeId × Value→H} {P:Program}
def flat {β:Type} (f:β→List Value) (l:List β):List Value:=l.flatMap f
theorem EJ {β:Type} {f:β→List Value} {n:Nat} (hn:∀ b,(f b).length=n):∀ l:List β,(flat f l).length=l.length * n
 | []=>by simp [flat]
 | b::r=>by
  have:=EJ hn r
  simp only [flat,List.flatMap_cons,List.length_append,hn,List.length_cons] at *
  rw [this,Nat.succ_mul];omega
theorem Fm {β:Type} {f:β→List Value} {n:Nat} (hn:∀ b,(f b).length=n):∀ (l:List β) (i:Nat) (b:β),l[i]? =some b→∃ rest,(flat f l).drop (i * n)=f b++rest
 | [],i,b,h=>by simp at h
 | x::r,0,b,h=>by
  simp only [List.getElem?_cons_zero,Option.some.injEq] at h
  subst h
  exact ⟨flat f r,by simp [flat]⟩
 | x::r,i+1,b,h=>by
  simp only [List.getElem?_cons_succ] at h
  obtain ⟨rest,h2⟩:=Fm hn r i b h
  refine ⟨rest,?_⟩
  rw [← h2]
  simp only [flat,List.flatMap_cons]
  rw [Nat.succ_mul,Nat.add_comm,← List.drop_drop,List.drop_append,hn,Nat.sub_self]
  rw [show List.drop n (f x)=[] from List.drop_eq_nil_of_le (by rw [hn];exact Nat.le_refl _)]
  simp
theorem Wt {β:Type} {f:β→List Value} {n:Nat} (hn:∀ b,(f b).length=n) {l:List β} {i:Nat} {b:β} (h:l[i]? =some b) {k:Nat} (hk:k < n):(flat f l)[i * n+k]? =(f b)[k]? :=by
 obtain ⟨rest,h2⟩:=Fm hn l i b h
 rw [← List.getElem?_drop,h2,List.getElem?_append_left (by rw [hn];exact hk)]
inductive D4 (W:World) {β:Type} (f:β→List Value) (s:Value) (l:List β):Arg→Prop
 | nil (hl:l=[]) (hs:MP s) (h0:∃ o c,s=.slice o 0 c):D4 W f s l (placeOf s,none)
 | blk (a:Addr) (c:Nat) (cs:Array Value) (e':TypeId) (fr:Nat × Nat) (hs:s=.slice (some a) l.length c) (hc:l.length≤c) (hc2:c < Bu) (hsp:a.spot=none) (hb:W.heap[a.block]? =some (.cells cs e' fr)) (ho:a.off≤cs.size)
   (hg:∀ i v,(flat f l)[i]? =some v→cs[a.off+i]? =some v):D4 W f s l ((a.block,a.off),some (flat f l,e'))
theorem Pp (a:Addr) (n:Nat) (h:a.spot=none):a.add n=⟨a.block,a.off+n,none⟩:=by
 unfold Addr.add
 split
 ·rename_i h0;subst h0;obtain ⟨b,o,s⟩:=a;simp only at h;subst h;rfl
 ·rfl
theorem D4.rel {W:World} {β:Type} {f:β→List Value} {s:Value} {l:List β} {La:Arg} (h:D4 W f s l La) {L:List Arg} {j:Nat} (hL:L[j]? =some La):
  ∃ s',Az (mR P L) s' s∧((l=[]∧∃ o c,s'=.slice o 0 c)∨∃ c p e,s'=.slice (some ⟨P.globals.size+j,0,none⟩) l.length c∧L[j]? =some (p,some (flat f l,e))):=by
 cases h with
 | nil hl hs h0=>
  have:(L.map (·.1))[j]? =some (placeOf s):=by rw [List.getElem?_map,hL];rfl
  obtain ⟨o,n2,c2,hv⟩:=hs.rel (P:=P) (l:=L.map (·.1)) j this
  obtain ⟨o',c',rfl⟩:=h0
  have hn2:n2=0:=by cases hv <;> rfl
  subst hn2
  exact ⟨_,hv,.inl ⟨hl,_,_,rfl⟩⟩
 | blk a c cs e' fr hs hc hc2 hsp hb ho hg=>
  subst hs
  refine ⟨_,?_,.inr ⟨c,_,_,rfl,hL⟩⟩
  refine .slice (.inl ⟨hc2,rfl⟩) hc fun _=>⟨rfl,hsp,a.off,?_,rfl⟩
  show mA P _ _=_
  rw [Nu,List.getElem?_map,hL]
  rfl
theorem D4.args {W:World} {β:Type} {f:β→List Value} {s:Value} {l:List β} {La:Arg} (h:D4 W f s l La) (hf:∀ b,(f b).all (AB 4)=true) {p:Nat × Nat} {cs:List Value} {e:TypeId} (hq:La=(p,some (cs,e))) {L:List Arg}:
  ∃ cs' fr,W.heap[p.1]? =some (.cells cs' e fr)∧p.2≤cs'.size∧∀ i v,cs[i]? =some v→∃ v',cs'[p.2+i]? =some v'∧Az (mR P L) v v':=by
 cases h with
 | nil hl hs h0=>simp at hq
 | blk a c cs2 e' fr hs hc hc2 hsp hb ho hg=>
  simp only [Prod.mk.injEq,Option.some.injEq] at hq
  obtain ⟨rfl,rfl,rfl⟩:=hq
  refine ⟨cs2,fr,hb,ho,fun i v hv=>⟨v,hg i v hv,BX 4 v ?_⟩⟩
  have hm:=List.mem_of_getElem? hv
  unfold flat at hm
  obtain ⟨b,_,hb2⟩:=List.mem_flatMap.1 hm
  exact List.all_eq_true.1 (hf b) v hb2
end
end Go.Abs
namespace Go.Abs
structure ET (P:Program) (ts te:TypeId) (n:Nat) {β:Type} (f:β→List Value):Prop where
 us:P.underlying ts=some (.slice te)
 sz:szT P te=some (n+1)
 ag:NB P te=some true
 by':∃ b,Ft P te=some b∧b≤256
 hz:Dq P te (n+1)=true
 len:∀ x,(f x).length=n+1
 one:∀ x,(f x).all AL=true
 noT:∀ x,(f x).all (fun v=>!isTuple v)=true
section
variable {P:Program} {ts te:TypeId} {n:Nat} {β:Type} {f:β→List Value}
def RdE (n:Nat) (f:β→List Value) (A:AW) (v:Value) (l:List β) (F:List Nat):Prop:=
 (l=[]∧F=[]∧∃ o c,v=.slice o 0 c)∨∃ r o c cs e g b ro,v=.slice (some ⟨r,o,none⟩) l.length c∧A.get r=some (.row cs e g b ro)∧g < A.next∧F=[g]∧∀ (i:Nat) p,l[i]? =some p→∃ rest,cs.drop (o+i * (n+1))=f p++rest
theorem RdE.keeps {A A':AW} {v:Value} {l:List β} {F S:List Nat} (h:RdE n f A v l F) (k:Aw A A' S) (hd:∀ x∈F,x∉S):RdE n f A' v l F:=by
 rcases h with h | ⟨r,o,c,cs,e,g,b,ro,h1,h2,h3,rfl,h4⟩
 ·exact .inl h
 ·exact .inr ⟨r,o,c,cs,e,g,b,ro,h1,k.get r _ h2 h3 (hd g (by simp)),Nat.lt_of_lt_of_le h3 k.next,rfl,h4⟩
theorem RdE.one {A:AW} {v:Value} {l:List β} {F:List Nat} (h:RdE n f A v l F):AL v=true∧isTuple v=false:=by
 rcases h with ⟨_,_,o,c,rfl⟩ | ⟨r,o,c,cs,e,g,b,ro,rfl,_⟩ <;> exact ⟨rfl,rfl⟩
theorem RdE.slice {A:AW} {v:Value} {l:List β} {F:List Nat} (h:RdE n f A v l F):∃ o c,v=.slice o l.length c:=by
 rcases h with ⟨rfl,_,o,c,rfl⟩ | ⟨r,o,c,cs,e,g,b,ro,rfl,_⟩ <;> exact ⟨_,_,rfl⟩
theorem RdE.fam {A:AW} {v:Value} {l:List β} {F:List Nat} (h:RdE n f A v l F):∀ x∈F,x < A.next:=by
 rcases h with ⟨_,rfl,_⟩ | ⟨r,o,c,cs,e,g,b,ro,_,_,h3,rfl,_⟩
 ·simp
 ·simpa using h3
theorem RdE.nil (A:AW) (o:Option Addr) (c:Nat):RdE n f A (.slice o 0 c) [] []:=.inl ⟨rfl,rfl,o,c,rfl⟩
theorem RdE.len (T:ET P ts te n f) {A B:AW} {v:Value} {l:List β} {F:List Nat} (h:RdE n f A v l F):Bm P B ts v=some (.int .i64 (l.length:Int)):=by
 obtain ⟨o,c,rfl⟩:=h.slice
 unfold Bm
 simp only [T.us]
theorem El:∀ (a rest:List Value),a.all (fun v=>!isTuple v)=true→Cg (a++rest) a.length=some a
 | [],rest,_=>by simp [Cg]
 | v::a,rest,h=>by
  simp only [List.all_cons,Bool.and_eq_true,Bool.not_eq_true'] at h
  rw [List.cons_append,List.length_cons,MX h.1,El a rest h.2]
theorem TP (T:ET P ts te n f) {b o len c i:Nat} (hi:i < len):Ao P ts (.slice (some ⟨b,o,none⟩) len c) (.int .i64 (i:Int))=some (.pointer (some ⟨b,o+i * (n+1),none⟩)):=by
 show Ao P ts _ (.int .i64 (.ofNat i))=_
 unfold Ao
 simp only [T.us,AA.2 hi,cond_true,T.sz]
 unfold EC
 cases hb:Nat.beq (i * (n+1)) 0 with
 | true=>rw [cond_true,Nat.eq_of_beq_eq_true hb,Nat.add_zero]
 | false=>rfl
theorem RdE.at (T:ET P ts te n f) {A:AW} {v:Value} {l:List β} {F:List Nat} (h:RdE n f A v l F) {i:Nat} {p:β} (hi:l[i]? =some p):
  ∃ r o,Ao P ts v (.int .i64 (i:Int))=some (.pointer (some ⟨r,o,none⟩))∧A.cells? ⟨r,o,none⟩ (n+1)=some (f p)∧Au P A te (.pointer (some ⟨r,o,none⟩))=some (.agg ⟨f p⟩):=by
 rcases h with ⟨rfl,_⟩ | ⟨r,o,c,cs,e,g,b,ro,rfl,h2,h3,_,h4⟩
 ·simp at hi
 ·have hlt:i < l.length:=(List.getElem?_eq_some_iff.1 hi).1
  obtain ⟨rest,hr⟩:=h4 i p hi
  have hc:A.cells? ⟨r,o+i * (n+1),none⟩ (n+1)=some (f p):=by
   rw [CD h2,hr]
   have:=El (f p) rest (T.noT p)
   rwa [T.len] at this
  refine ⟨r,o+i * (n+1),TP T hlt,hc,?_⟩
  show CS P A te _=_
  unfold CS
  simp only [T.ag,T.sz,hc]
def EN (te:TypeId) (n:Nat) (f:β→List Value) (A:AW) (v:Value) (l:List β) (F:List Nat):Prop:=Ig A te (n+1) v l.length (flat f l) F
theorem Jh (a b:List β):flat f (a++b)=flat f a++flat f b:=by simp [flat]
theorem EN.rd (hlen:∀ x,(f x).length=n+1) {A:AW} {v:Value} {l:List β} {F:List Nat} (h:EN te n f A v l F):RdE n f A v l F:=by
 rcases h with ⟨rfl,h2,_,rfl⟩ | ⟨b,g,rfl,h2,rfl⟩
 ·have:l=[]:=List.eq_nil_of_length_eq_zero h2
  subst this
  exact .nil _ _ _
 ·exact .inr ⟨b,0,_,_,_,g,0,false,rfl,h2.row,h2.ltf,rfl,fun i p hi=>by rw [Nat.zero_add];exact Fm hlen l i p hi⟩
theorem EN.keeps {A A':AW} {v:Value} {l:List β} {F S:List Nat} (h:EN te n f A v l F) (k:Aw A A' S) (hd:∀ x∈F,x∉S):EN te n f A' v l F:=Ig.keeps h k hd
theorem EN.nil (A:AW):EN te n f A (.slice none 0 0) [] []:=Ig.nil _ _ _
theorem EN.one {A:AW} {v:Value} {l:List β} {F:List Nat} (h:EN te n f A v l F):AL v=true∧isTuple v=false:=Ig.one h
theorem VE (T:ET P ts te n f) {A:AW} {q:Nat} {p:β} {e:TypeId} (hq:AQ A q (f p) e):B6 P A te ts (n+1) (.slice (some ⟨q,0,none⟩) 1 1)=some (0+1,f p):=by
 unfold B6
 simp only [T.us]
 show Er A (n+1) (.slice (some ⟨q,0,none⟩) 1 1)=_
 unfold Er
 have:=El (f p) [] (T.noT p)
 rw [List.append_nil,T.len] at this
 simp only [Nat.one_mul,CD hq.row,List.drop_zero,this]
theorem EN.append (T:ET P ts te n f) {A:AW} {v:Value} {l:List β} {F:List Nat} {p:β} {q:Nat} {e:TypeId} {K:Value→AW→Prop} (h:EN te n f A v l F) (hq:AQ A q (f p) e) (hf:AJ A) (hA:A.next < Al) (hl:l.length < 100000000)
  (hk:∀ v' A' F',EN te n f A' v' (l++[p]) F'→Aw A A' F→(∀ x∈F',x∈F∨x=A.next)→A'.next=A.next+1→AJ A'→K v' A'):Ap (Bh P A ts ts v (.slice (some ⟨q,0,none⟩) 1 1)) K:=by
 have hroom:room=68719476736:=rfl
 obtain ⟨b,hb,hb2⟩:=T.by'
 have hse:BF P ts=some te:=by unfold BF;rw [T.us]
 have hm:(l.length+(0+1)) * b≤(l.length+(0+1)) * 256:=Nat.mul_le_mul_left _ hb2
 refine MO (m:=0) (size:=n) hse T.sz hb T.hz (VE T hq) (by rw [T.len];omega) (T.one p) h hf hA (by omega) (by omega) fun v' A' F' h1 h2 h3 h4 h5=>?_
 refine hk v' A' F' ?_ h2 h3 h4 h5
 show Ig A' te (n+1) v' (l++[p]).length (flat f (l++[p])) F'
 rw [List.length_append,Jh]
 have e:flat f [p]=f p:=by simp [flat]
 rw [e]
 exact h1
theorem Xr (hlen:∀ x,(f x).length=n+1) {N:Nat} {gl:List (Nat × List Value × TypeId)} {L:List Arg} {j c:Nat} {l:List β} {p:Nat × Nat} {e:TypeId} (hk:N+L.length+1≤Al) (h:L[j]? =some (p,some (flat f l,e))):
  RdE n f (wR N gl L) (.slice (some ⟨N+j,0,none⟩) l.length c) l [N+L.length]:=
 .inr ⟨N+j,0,c,flat f l,e,N+L.length,0,true,rfl,YU (by omega) h,by show N+L.length < N+L.length+1;omega,rfl,fun i q hi=>by rw [Nat.zero_add];exact Fm hlen l i q hi⟩
end
structure En (α β:Type) where
 k:α
 v:β
 b:Nat
section
variable {α β:Type} (ke:α→Value) (ve:β→Value)
def En.entry (e:En α β):MapEntry:={ key:=ke e.k,val:=ve e.v,born:=e.b }
structure MT (P:Program) (t kt et:TypeId) (ke:α→Value) (keq:α→α→Bool):Prop where
 ty:P.underlying t=some (.map kt et)
 eq:∀ a b,eqA P kt (ke a) (ke b)=some (keq a b)
 dec:∀ {a b},keq a b=true↔a=b
 q:∀ e a,Jo P e kt (ke a)=true
 same:∀ a,(AB 4 (ke a)&&Instr.sameBits 10000 (ke a) (ke a))=true
structure Ie (A:AW) (r:Nat) (es:List (En α β)) (c:Nat):Prop where
 row:RR A r (es.map (En.entry ke ve)) c
 lt:∀ e∈es,e.b < c
 nb:(es.map En.b).Nodup
 nk:(es.map En.k).Nodup
end
section
variable {P:Program} {X:Bl} {W0:World} {m0:Inj P} {α β:Type} {ke:α→Value} {ve:β→Value} {keq:α→α→Bool} {t kt et:TypeId}
theorem Ie.keeps {A A':AW} {r:Nat} {es:List (En α β)} {c:Nat} {S:List Nat} (h:Ie ke ve A r es c) (k:Aw A A' S) (hn:r∉S):Ie ke ve A' r es c:=⟨h.row.keeps k hn,h.lt,h.nb,h.nk⟩
theorem Ie.ltA {A:AW} {r:Nat} {es:List (En α β)} {c:Nat} (h:Ie ke ve A r es c):r < A.next:=h.row.lt
theorem AaP {A:AW} {K:Value→AW→Prop} (hf:AJ A) (h:A.next < Al) (hk:∀ A',Ie (α:=α) (β:=β) ke ve A' A.next [] 0→Aw A A' []→A'.next=A.next+1→AJ A'→K (.map (some A.next)) A'):Ap (GZ A) K:=
 Zo hf h fun A' h1 h2 h3 h4=>hk A' ⟨h1,by simp,by simp,by simp⟩ h2 h3 h4
def G0 (keq:α→α→Bool):List (En α β)→α→Option β
 | [],_=>none
 | e::es,k=>if keq k e.k=true then some e.v else G0 keq es k
def atE (keq:α→α→Bool):List (En α β)→α→Nat→Option Nat
 | [],_,_=>none
 | e::es,k,i=>if keq k e.k=true then some i else atE keq es k (i+1)
theorem PW (T:MT P t kt et ke keq) (k:α):∀ (es:List (En α β)) (i:Nat),Hb P kt (ke k) (es.map (En.entry ke ve)) i=some (atE keq es k i)
 | [],i=>rfl
 | e::es,i=>by
  show (match eqA P kt (ke k) (ke e.k) with | some true=>some (some i) | some false=>Hb P kt (ke k) (es.map (En.entry ke ve)) (i+1) | none=>none)=_
  rw [T.eq]
  unfold atE
  cases h:keq k e.k with
  | true=>simp
  | false=>
   simp only [Bool.false_eq_true,if_false]
   exact PW T k es (i+1)
theorem Qg {es:List (En α β)} {k:α} {i j:Nat} (h:atE keq es k i=some j):i≤j∧j - i < es.length∧∃ e,es[j - i]? =some e∧keq k e.k=true∧G0 keq es k=some e.v:=by
 induction es generalizing i with
 | nil=>cases h
 | cons e es ih=>
  unfold atE at h
  unfold G0
  split at h
  ·rename_i hk
   cases h
   rw [if_pos hk,Nat.sub_self]
   exact ⟨Nat.le_refl _,by simp,e,rfl,hk,rfl⟩
  ·rename_i hk
   obtain ⟨h1,h2,e',h3,h4,h5⟩:=ih h
   refine ⟨by omega,by simp;omega,e',?_,h4,?_⟩
   ·rw [show j - i=(j - (i+1))+1 by omega]
    exact h3
   ·rw [if_neg hk]
    exact h5
theorem T7 {es:List (En α β)} {k:α} {i:Nat} (h:atE keq es k i=none):(∀ e∈es,keq k e.k=false)∧G0 keq es k=none:=by
 induction es generalizing i with
 | nil=>exact ⟨by simp,rfl⟩
 | cons e es ih=>
  unfold atE at h
  unfold G0
  split at h
  ·cases h
  ·rename_i hk
   obtain ⟨h1,h2⟩:=ih h
   refine ⟨fun x hx=>?_,by rw [if_neg hk];exact h2⟩
   rcases List.mem_cons.1 hx with rfl | hx
   ·simpa using hk
   ·exact h1 x hx
theorem LU (T:MT P t kt et ke keq):DL P t=some (kt,et):=by unfold DL;rw [T.ty]
theorem Ie.look (T:MT P t kt et ke keq) {A:AW} {r:Nat} {es:List (En α β)} {c:Nat} (h:Ie ke ve A r es c) {z:Value} (hz:Dv P et=some z) (k:α) (ok:Bool):
  F0 P A t (.map (some r)) (ke k) ok=some (match G0 keq es k with | some v=>(bif ok then .tuple #[ve v,.bool true] else ve v) | none=>(bif ok then .tuple #[z,.bool false] else z)):=by
 unfold F0 Lg
 simp only [LU T,h.row.row,T.q,cond_true,PW T]
 cases ha:atE keq es k 0 with
 | none=>
  rw [(T7 ha).2]
  simp only [hz]
 | some i=>
  obtain ⟨_,_,e,h3,_,h5⟩:=Qg ha
  rw [Nat.sub_zero] at h3
  rw [h5]
  simp only [List.getElem?_map,h3,Option.map_some]
  rfl
theorem O2 (hd:∀ {a b},keq a b=true↔a=b) {es:List (En α β)} (hn:(es.map En.k).Nodup) {k:α} {v:β}:G0 keq es k=some v↔∃ e∈es,e.k=k∧e.v=v:=by
 induction es with
 | nil=>simp [G0]
 | cons e es ih=>
  simp only [List.map_cons,List.nodup_cons] at hn
  unfold G0
  split
  ·rename_i hk
   have hk:=hd.1 hk
   constructor
   ·intro h
    cases h
    exact ⟨e,List.mem_cons_self,hk.symm,rfl⟩
   ·rintro ⟨x,hx,h1,h2⟩
    rcases List.mem_cons.1 hx with rfl | hx
    ·rw [h2]
    ·exact absurd (List.mem_map.2 ⟨x,hx,by rw [h1,hk]⟩) hn.1
  ·rename_i hk
   rw [ih hn.2]
   constructor
   ·rintro ⟨x,hx,h⟩
    exact ⟨x,List.mem_cons_of_mem _ hx,h⟩
   ·rintro ⟨x,hx,h1,h2⟩
    rcases List.mem_cons.1 hx with rfl | hx
    ·exact absurd (hd.2 h1.symm) hk
    ·exact ⟨x,hx,h1,h2⟩
def K9 (keq:α→α→Bool):List (En α β)→α→β→Nat→List (En α β)
 | [],k,v,c=>[⟨k,v,c⟩]
 | e::es,k,v,c=>if keq k e.k=true then ⟨k,v,e.b⟩::es else e::K9 keq es k v c
theorem UC (hd:∀ {a b},keq a b=true↔a=b) (es:List (En α β)) (k k':α) (v:β) (c:Nat):G0 keq (K9 keq es k v c) k'=if keq k' k=true then some v else G0 keq es k':=by
 induction es with
 | nil=>rfl
 | cons e es ih=>
  unfold K9
  split
  ·rename_i hk
   have hk:=hd.1 hk
   unfold G0
   rw [hk]
   split <;> rfl
  ·rename_i hk
   unfold G0
   rw [ih]
   split
   ·rename_i h1
    split
    ·rename_i h2
     exact absurd (hd.2 ((hd.1 h2).symm.trans (hd.1 h1))) hk
    ·rfl
   ·rfl
theorem TA (k:α) (v:β) (c:Nat):∀ (es:List (En α β)) (i j:Nat),(∀ {a b},keq a b=true↔a=b)→atE keq es k i=some j→D6 (es.map (En.entry ke ve)) (j - i) (ke k) (ve v)=(K9 keq es k v c).map (En.entry ke ve)
 | [],i,j,_,h=>by cases h
 | e::es,i,j,hd,h=>by
  unfold atE at h
  unfold K9
  split at h
  ·rename_i hk
   cases h
   rw [if_pos hk,Nat.sub_self]
   rfl
  ·rename_i hk
   have:=(Qg h).1
   rw [if_neg hk,show j - i=(j - (i+1))+1 by omega]
   show e.entry ke ve::D6 (es.map (En.entry ke ve)) (j - (i+1)) (ke k) (ve v)=_
   rw [TA k v c es (i+1) j hd h]
   rfl
theorem Ku {es:List (En α β)} {k:α} (hn:∀ e∈es,keq k e.k=false) (v:β) (c:Nat):K9 keq es k v c=es++[(⟨k,v,c⟩:En α β)]:=by
 induction es with
 | nil=>rfl
 | cons e es ih=>
  unfold K9
  rw [if_neg (by rw [hn e List.mem_cons_self];simp),ih fun x hx=>hn x (List.mem_cons_of_mem _ hx)]
  rfl
theorem QV (k:α) (v:β) (c:Nat):∀ (es:List (En α β)),(∀ {a b},keq a b=true↔a=b)→(∃ e∈es,keq k e.k=true)→(K9 keq es k v c).map En.k=es.map En.k∧(K9 keq es k v c).map En.b=es.map En.b
 | [],_,h=>by obtain ⟨e,he,_⟩:=h;cases he
 | e::es,hd,h=>by
  unfold K9
  split
  ·rename_i hk
   rw [List.map_cons,List.map_cons,List.map_cons,List.map_cons,← hd.1 hk]
   exact ⟨rfl,rfl⟩
  ·rename_i hk
   obtain ⟨x,hx,h2⟩:=h
   rcases List.mem_cons.1 hx with rfl | hx
   ·exact absurd h2 hk
   ·obtain ⟨h3,h4⟩:=QV k v c es hd ⟨x,hx,h2⟩
    rw [List.map_cons,List.map_cons,List.map_cons,List.map_cons,h3,h4]
    exact ⟨rfl,rfl⟩
theorem Ie.put (T:MT P t kt et ke keq) {A:AW} {r:Nat} {es:List (En α β)} {c:Nat} (h:Ie ke ve A r es c) (hf:AJ A) (hb:A.next≤Al) {k:α} {v:β} {K:AW→Prop}
  (hk:∀ A' c',Ie ke ve A' r (K9 keq es k v c) c'→Aw A A' [r]→A'.next=A.next→AJ A'→K A'):Bp (AH P A t (.map (some r)) (ke k) (ve v)) K:=by
 unfold AH
 simp only [LU T,h.row.row,T.q,cond_true,PW T]
 cases ha:atE keq es k 0 with
 | none=>
  obtain ⟨h1,h2⟩:=T7 ha
  obtain ⟨g1,g2,g3,g4⟩:=h.row.put (es':=es.map (En.entry ke ve)++[{ key:=ke k,val:=ve v,born:=c }]) (c':=c+1) hf hb
  simp only
  refine Lu.2 (hk _ (c+1) ⟨?_,?_,?_,?_⟩ g2 g3 g4)
  ·rw [Ku h1,List.map_append]
   exact g1
  ·rw [Ku h1]
   intro e he
   rcases List.mem_append.1 he with he | he
   ·have:=h.lt e he;omega
   ·rw [List.mem_singleton.1 he]
    exact Nat.lt_succ_self c
  ·rw [Ku h1,List.map_append,List.nodup_append]
   refine ⟨h.nb,by simp,fun a ha b hb=>?_⟩
   obtain ⟨e,he,rfl⟩:=List.mem_map.1 ha
   have:=h.lt e he
   simp at hb
   omega
  ·rw [Ku h1,List.map_append,List.nodup_append]
   refine ⟨h.nk,by simp,fun a ha b hb=>?_⟩
   obtain ⟨e,he,rfl⟩:=List.mem_map.1 ha
   have:=h1 e he
   simp at hb
   subst hb
   intro h0
   rw [T.dec.2 h0.symm] at this
   cases this
 | some i=>
  obtain ⟨_,_,e,h3,h4,_⟩:=Qg ha
  rw [Nat.sub_zero] at h3
  have hke:k=e.k:=T.dec.1 h4
  simp only [List.getElem?_map,h3,Option.map_some]
  have hs:(AB 4 (e.entry ke ve).key&&Instr.sameBits 10000 (e.entry ke ve).key (ke k))=true:=by
   show (AB 4 (ke e.k)&&Instr.sameBits 10000 (ke e.k) (ke k))=true
   rw [hke]
   exact T.same _
  rw [hs,cond_true]
  have hset:=TA (ke:=ke) (ve:=ve) k v c es 0 i T.dec ha
  rw [Nat.sub_zero] at hset
  rw [hset]
  obtain ⟨g1,g2,g3,g4⟩:=h.row.put (es':=(K9 keq es k v c).map (En.entry ke ve)) (c':=c) hf hb
  obtain ⟨p1,p2⟩:=QV k v c es T.dec ⟨e,List.mem_of_getElem? h3,h4⟩
  refine Lu.2 (hk _ c ⟨g1,fun x hx=>?_,by rw [p2];exact h.nb,by rw [p1];exact h.nk⟩ g2 g3 g4)
  have:x.b∈(K9 keq es k v c).map En.b:=List.mem_map.2 ⟨x,hx,rfl⟩
  rw [p2] at this
  obtain ⟨y,hy,hyb⟩:=List.mem_map.1 this
  have:=h.lt y hy
  omega
structure Iter (A:AW) (it m c:Nat) (vs:List (En α β)):Prop where
 get:A.get it=some (.mit (some m) c (vs.map En.b) c)
 lt:it < A.next
theorem VO {A:AW} {it m c:Nat} {vs:List (En α β)} (h:Iter A it m c vs) (hf:AJ A) (hA:A.next≤Al) (e:En α β):Iter (A.put it (.mit (some m) c (vs.map En.b++[e.b]) c)) it m c (vs++[e])∧Aw A (A.put it (.mit (some m) c (vs.map En.b++[e.b]) c)) [it]∧
  (A.put it (.mit (some m) c (vs.map En.b++[e.b]) c)).next=A.next∧AJ (A.put it (.mit (some m) c (vs.map En.b++[e.b]) c)):=by
 have hlt:=h.lt
 have hg:∀ i,(A.put it (.mit (some m) c (vs.map En.b++[e.b]) c)).get i=if i=it then some (.mit (some m) c (vs.map En.b++[e.b]) c) else A.get i:=fun i=>AW.Dr A it i _ (by omega)
 refine ⟨⟨by rw [hg,if_pos rfl,List.map_append];rfl,hlt⟩,⟨Nat.le_refl _,fun i o hi _ hn=>?_,fun f _ _=>rfl⟩,rfl,⟨hf.fams,fun i hi=>?_⟩⟩
 ·rw [hg,if_neg (fun e=>?_)]
  ·exact hi
  ·subst e
   rw [h.get] at hi
   cases hi
   exact hn (List.mem_singleton.2 rfl)
 ·have hi:A.next≤i:=hi
  rw [hg,if_neg (by omega)]
  exact hf.get i hi
theorem Abt {es:List (En α β)} (hn:(es.map En.b).Nodup):∀ {x y:En α β},x∈es→y∈es→x.b=y.b→x=y:=by
 induction es with
 | nil=>intro x y hx;cases hx
 | cons e es ih=>
  simp only [List.map_cons,List.nodup_cons] at hn
  intro x y hx hy hxy
  rcases List.mem_cons.1 hx with hx | hx
  ·rcases List.mem_cons.1 hy with hy | hy
   ·rw [hx,hy]
   ·exact absurd (List.mem_map.2 ⟨y,hy,by rw [← hxy,hx]⟩) hn.1
  ·rcases List.mem_cons.1 hy with hy | hy
   ·exact absurd (List.mem_map.2 ⟨x,hx,by rw [hxy,hy]⟩) hn.1
   ·exact ih hn.2 hx hy hxy
theorem Q6 {γ δ:Type} (f:γ→δ):∀ {l:List γ},(l.map f).Nodup→l.Nodup
 | [],_=>List.nodup_nil
 | x::l,h=>by
  simp only [List.map_cons,List.nodup_cons] at h
  exact List.nodup_cons.2 ⟨fun hx=>h.1 (List.mem_map.2 ⟨x,hx,rfl⟩),Q6 f h.2⟩
theorem Rg (l:List Nat) (x:Nat):J5 (l++[x])=some x:=by
 induction l with
 | nil=>rfl
 | cons a l ih=>
  cases l with
  | nil=>rfl
  | cons b l=>exact ih
theorem Ie.entry {A:AW} {r it:Nat} {es vs:List (En α β)} {c:Nat} (h:Ie ke ve A r es c) {e:En α β} (hi:Iter A it r c (vs++[e])) (he:e∈es) {K:Value→AW→Prop} (hk:K (.tuple #[ke e.k,ve e.v]) A):
  anW P X W0 m0 (S4 A (.pointer (some ⟨it,0,none⟩))) K:=by
 have hfind:∀ (l:List (En α β)) (i:Nat),e∈l→(l.map En.b).Nodup→∃ j,D9 e.b (l.map (En.entry ke ve)) i=some (i+j)∧l[j]? =some e:=by
  intro l
  induction l with
  | nil=>intro i h;cases h
  | cons x l ih=>
   intro i hx hn
   simp only [List.map_cons,List.nodup_cons] at hn
   by_cases hxb:x.b=e.b
   ·rcases List.mem_cons.1 hx with rfl | hx
    ·refine ⟨0,?_,rfl⟩
     show (bif Nat.beq e.b e.b then some i else _)=_
     rw [Nat.beq_refl]
     rfl
    ·exact absurd (List.mem_map.2 ⟨e,hx,hxb.symm⟩) hn.1
   ·rcases List.mem_cons.1 hx with rfl | hx
    ·exact absurd rfl hxb
    ·obtain ⟨j,h1,h2⟩:=ih (i+1) hx hn.2
     refine ⟨j+1,?_,h2⟩
     show (bif Nat.beq x.b e.b then some i else D9 e.b (l.map (En.entry ke ve)) (i+1))=_
     have:Nat.beq x.b e.b=false:=by
      cases hb:Nat.beq x.b e.b with
      | false=>rfl
      | true=>exact absurd (Nat.eq_of_beq_eq_true hb) hxb
     rw [this,cond_false,h1,show i+1+j=i+(j+1) by omega]
 obtain ⟨j,h1,h2⟩:=hfind es 0 he h.nb
 rw [Nat.zero_add] at h1
 have hl:J5 ((vs++[e]).map En.b)=some e.b:=by rw [List.map_append];exact Rg _ _
 have e1:Ls A (.pointer (some ⟨it,0,none⟩))=some (.tuple #[ke e.k,ve e.v]):=by
  unfold Ls
  simp only [hi.get,hl,h.row.row,Nat.beq_refl,cond_true,h1,List.getElem?_map,h2,Option.map_some]
  rfl
 unfold S4
 rw [e1]
 exact .inl ⟨_,_,rfl,hk⟩
end
def CQ (n:Nat):UInt8:=if n < 10 then UInt8.ofNat (48+n) else UInt8.ofNat (87+n)
def CO (b:UInt8):Bool:=decide (33≤b.toNat∧b.toNat≤126)&&(b.toNat != 37&&b.toNat != 58)
def IT (b:UInt8):List UInt8:=if CO b then [b] else [37,CQ (b.toNat / 16),CQ (b.toNat % 16)]
def DB (l:List UInt8):List UInt8:=l.flatMap IT
def AY (l:List UInt8):List UInt8:=if l=[] then [37] else DB l
theorem NU (a b:List UInt8):DB (a++b)=DB a++DB b:=List.flatMap_append
theorem Ry (b:UInt8):DB [b]=IT b:=by simp [DB]
def Cr (b:Nat):Int:=if 48≤b∧b≤57 then (b:Int) - 48 else if 97≤b∧b≤102 then (b:Int) - 87 else -1
theorem Ei:∀ n,n < 16→Cr (CQ n).toNat=(n:Int):=by decide
def Md (x y:UInt8):UInt8:=UInt8.ofNat ((Cr x.toNat * 16+Cr y.toNat) % 256).toNat
theorem Tg (b:UInt8):Md (CQ (b.toNat / 16)) (CQ (b.toNat % 16))=b:=by
 have hb:=b.toNat_lt
 unfold Md
 rw [Ei _ (by omega),Ei _ (by omega)]
 have:(((b.toNat / 16:Nat):Int) * 16+((b.toNat % 16:Nat):Int)) % 256=(b.toNat:Int):=by omega
 rw [this]
 simp
def Gc:List UInt8→Option (List UInt8)
 | []=>some []
 | c::r=>if c.toNat=37 then (match r with
  | x::y::r'=>(Gc r').map (Md x y::·)
  | _=>none) else (Gc r).map (c::·)
theorem RE (x y:UInt8) (r:List UInt8):Gc (37::x::y::r)=(Gc r).map (Md x y::·):=by
 rw [Gc];exact if_pos rfl
theorem NY {c:UInt8} (r:List UInt8) (h:c.toNat≠37):Gc (c::r)=(Gc r).map (c::·):=by
 match r with
 | []=>simp only [Gc,if_neg h]
 | [_]=>simp only [Gc,if_neg h]
 | _::_::_=>simp only [Gc,if_neg h]
theorem FL:∀ l:List UInt8,Gc (DB l)=some l
 | []=>by rw [show DB []=[] from rfl,Gc]
 | b::l=>by
  rw [show DB (b::l)=IT b++DB l from by simp [DB]]
  unfold IT
  cases hb:CO b with
  | true=>
   have h:b.toNat≠37:=by
    intro h;unfold CO at hb;rw [h] at hb;revert hb;decide
   rw [if_pos rfl,List.singleton_append,NY _ h,FL l];rfl
  | false=>
   rw [if_neg (by decide)]
   simp only [List.cons_append,List.nil_append]
   rw [RE,Tg,FL l];rfl
theorem H0:AY []=[37]:=rfl
theorem De {l:List UInt8} (h:l≠[]):AY l=DB l:=if_neg h
theorem Nf {a b:List UInt8} (h:AY a=AY b):a=b:=by
 have hp:∀ l:List UInt8,l≠[]→DB l≠[37]:=fun l _ he=>by
  have:=FL l
  rw [he] at this
  have h37:Gc [37]=none:=by simp only [Gc];exact if_pos rfl
  rw [h37] at this;cases this
 by_cases ha:a=[]
 ·by_cases hb:b=[]
  ·rw [ha,hb]
  ·rw [ha,H0,De hb] at h
   exact absurd h.symm (hp b hb)
 ·by_cases hb:b=[]
  ·rw [hb,H0,De ha] at h
   exact absurd h (hp a ha)
  ·rw [De ha,De hb] at h
   have h1:=FL a
   rw [h,FL b] at h1
   exact (Option.some.inj h1).symm
theorem YJ {w out:List UInt8} (hw:w≠[37]) (h:Gc w=some out) (h2:AY out≠w) (l:List UInt8):AY l≠w:=by
 intro he
 by_cases hl:l=[]
 ·rw [hl,H0] at he;exact hw he.symm
 ·rw [De hl] at he
  rw [← he,FL l] at h
  cases h
  exact h2 (by rw [De hl,he])
theorem Tr {w:List UInt8} (hw:w≠[37]) (h:Gc w=none) (l:List UInt8):AY l≠w:=by
 intro he
 by_cases hl:l=[]
 ·rw [hl,H0] at he;exact hw he.symm
 ·rw [De hl] at he
  rw [← he,FL l] at h
  cases h
theorem ZM {n b0 b1 b2 b3:Nat} (h:128≤b0) (hn:1≤n):128≤(Lib.decodeN n b0 b1 b2 b3).1∧1≤(Lib.decodeN n b0 b1 b2 b3).2∧(Lib.decodeN n b0 b1 b2 b3).2≤n∧(Lib.decodeN n b0 b1 b2 b3).2≤4∧
  (2≤(Lib.decodeN n b0 b1 b2 b3).2→128≤b1)∧(3≤(Lib.decodeN n b0 b1 b2 b3).2→128≤b2)∧(4≤(Lib.decodeN n b0 b1 b2 b3).2→128≤b3):=by
 unfold Lib.decodeN
 repeat' split
 all_goals simp only
 all_goals omega
theorem ZL {n b0 b1 b2 b3:Nat} (h:b0 < 128):Lib.decodeN n b0 b1 b2 b3=(b0,1):=if_pos h
theorem VW {b:UInt8} (h:CO b=true):b.toNat < 128:=by
 unfold CO at h
 simp only [Bool.and_eq_true,decide_eq_true_eq] at h
 omega
theorem T2 (s:ByteArray) (i:Nat) (h:i < s.data.toList.length):
  (s.data.toList[i].toNat < 128∧Utf8.decode s i=(s.data.toList[i].toNat,1))∨
  (128≤(Utf8.decode s i).1∧1≤(Utf8.decode s i).2∧i+(Utf8.decode s i).2≤s.data.toList.length∧∀ j (hj:i+j < s.data.toList.length),j < (Utf8.decode s i).2→CO (s.data.toList[i+j]'hj)=false):=by
 have hd:∀ k (hk:k < s.data.toList.length),s.data.toList.getD k 0=s.data.toList[k]:=fun k hk=>by simp [List.getD,List.getElem?_eq_getElem hk]
 rw [Lib.decode_N]
 by_cases h0:s.data.toList[i].toNat < 128
 ·left
  refine ⟨h0,?_⟩
  rw [hd i h,ZL h0]
 ·right
  obtain ⟨a1,a2,a3,a4,a5,a6,a7⟩:=ZM (n:=s.data.toList.length - i) (b0:=(s.data.toList.getD i 0).toNat) (b1:=(s.data.toList.getD (i+1) 0).toNat) (b2:=(s.data.toList.getD (i+2) 0).toNat) (b3:=(s.data.toList.getD (i+3) 0).toNat) (by rw [hd i h];omega) (by omega)
  refine ⟨a1,a2,by omega,fun j hj hlt=>?_⟩
  have key:128≤(s.data.toList[i+j]'hj).toNat:=by
   rw [← hd _ hj]
   have:j=0∨j=1∨j=2∨j=3:=by omega
   rcases this with rfl | rfl | rfl | rfl
   ·rw [Nat.add_zero,hd i h];omega
   ·exact a5 (by omega)
   ·exact a6 (by omega)
   ·exact a7 (by omega)
  cases hp:CO (s.data.toList[i+j]'hj) with
  | false=>rfl
  | true=>have:=VW hp;omega
end Go.Abs
namespace Go.Proofs.YtebidlpekphaoaaGreatDoor
open Go.Abs
theorem TU (b o:Nat):Ac Tp 70 (.pointer (some ⟨b,o,none⟩)) 0=some (.pointer (some ⟨b,o,none⟩)):=by kernel_rfl
theorem H8 (b o:Nat):Ac Tp 70 (.pointer (some ⟨b,o,none⟩)) 1=some (.pointer (some ⟨b,o+1,none⟩)):=by kernel_rfl
theorem Zw (A:AW) (a:Addr):Au Tp A 3 (.pointer (some a))=A.cell? a:=by kernel_rfl
theorem PQ (A:AW) (a:Addr):Au Tp A 5 (.pointer (some a))=A.cell? a:=by kernel_rfl
theorem FH (A:AW) (a:Addr):Au Tp A 9 (.pointer (some a))=A.cell? a:=by kernel_rfl
theorem KE (A:AW) (a:Addr):Au Tp A 33 (.pointer (some a))=A.cell? a:=by kernel_rfl
theorem Yu (A:AW) (a:Addr):Au Tp A 68 (.pointer (some a))=A.cell? a:=by kernel_rfl
theorem M0 (A:AW) (a:Addr) (v:Value):AZ Tp A 3 (.pointer (some a)) v=(bif Nat.beq v.cells.toList.length 1 then A.setCells a v.cells.toList else none):=by kernel_rfl
theorem ON (A:AW) (a:Addr) (v:Value):AZ Tp A 33 (.pointer (some a)) v=(bif Nat.beq v.cells.toList.length 1 then A.setCells a v.cells.toList else none):=by kernel_rfl
theorem AaB (A:AW) (a:Addr) (v:Value):AZ Tp A 68 (.pointer (some a)) v=(bif Nat.beq v.cells.toList.length 1 then A.setCells a v.cells.toList else none):=by kernel_rfl
theorem Yw (b o n c i:Nat) (k:IntKind):Ao Tp 33 (.slice (some ⟨b,o,none⟩) n c) (.int k (.ofNat i))=(bif Nat.blt i n then some (.pointer (some (EC ⟨b,o,none⟩ (i * 1)))) else none):=by kernel_rfl
theorem FQ (A:AW) (s:ByteArray):Bm Tp A 9 (.string s)=some (.int .i64 s.data.toList.length):=by kernel_rfl
theorem JB (A:AW) (a:Option Addr) (n c:Nat):Bm Tp A 33 (.slice a n c)=some (.int .i64 n):=by kernel_rfl
theorem WJ (A:AW) (n:Int) (k:IntKind):AD Tp A 3 5 (.int k n)=.ok (.int .u8 (IntKind.u8.wrap n)) A:=by kernel_rfl
theorem WK (A:AW) (n:Int) (k:IntKind):AD Tp A 21 30 (.int k n)=.ok (.int .u32 (IntKind.u32.wrap n)) A:=by kernel_rfl
theorem XN (A:AW) (n:Int) (k:IntKind):AD Tp A 21 5 (.int k n)=.ok (.int .u8 (IntKind.u8.wrap n)) A:=by kernel_rfl
theorem XM (A:AW) (s:ByteArray):AD Tp A 9 33 (.string s)=(match A.new (.row (AI s.data.toList) 5 A.next 0 false) with
   | some (b,w')=>.ok (.slice (some ⟨b,0,none⟩) s.data.toList.length (Bu+s.data.toList.length)) w'
   | none=>.fail "convert new"):=by kernel_rfl
theorem U2 (A:AW) (q:Nat):AD Tp A 68 132 (.pointer (some ⟨q,0,none⟩))=(match A.get q with
   | some (.row cs _ _ _ _)=>bif Nat.blt 0 cs.length then .ok (.pointer (some ⟨q,0,none⟩)) A else .fail "convert away"
   | _=>.fail "convert away"):=by kernel_rfl
theorem U3 (A:AW) (q:Nat):AD Tp A 132 68 (.pointer (some ⟨q,0,none⟩))=(match A.get q with
   | some (.row cs e fam _ _)=>bif Nat.beq fam q&&liesAt Tp Tp.depth e (cs.length / Tp.cellsOf e) 0 70 1 then .ok (.pointer (some ⟨q,0,none⟩)) A else .fail "convert back"
   | _=>.fail "convert back"):=by kernel_rfl
theorem Zu:liesAt Tp Tp.depth 70 (2 / Tp.cellsOf 70) 0 70 1=true:=by kernel_rfl
theorem AcZ (s:ByteArray) (k:IntKind) (i:Nat):BK Tp 9 (.string s) (.int k (.ofNat i))=(match s.data.toList[i]? with | some b=>some (.int .u8 b.toNat) | none=>none):=by kernel_rfl
theorem ix9 {s:ByteArray} {k:IntKind} {i:Nat} {b:UInt8} (h:s.data.toList[i]? =some b):BK Tp 9 (.string s) (.int k (i:Int))=some (.int .u8 (b.toNat:Int)):=by
 show BK Tp 9 (.string s) (.int k (.ofNat i))=_
 rw [AcZ,h]
theorem Vw:Tp.underlying 9=some .string:=by kernel_rfl
theorem sl9 {A:AW} {s:ByteArray} {l h:Nat} {k1 k2:IntKind} (h1:l≤h) (h2:h≤s.data.toList.length):BM Tp A 9 (.string s) (some (.int k1 (l:Int))) (some (.int k2 (h:Int))) none=some (.string ⟨⟨(s.data.toList.take h).drop l⟩⟩):=by
 show BM Tp A 9 (.string s) (some (.int k1 (.ofNat l))) (some (.int k2 (.ofNat h))) none=_
 unfold BM
 simp only [Vw,bounds,IF,E8,Option.isSome_some,Bool.true_or,cond_true,Bo.2 h2,Bo.2 h1]
theorem Is {a b:ByteArray} {xo yo:Operand} (h:a.data.toList.length+b.data.toList.length < 1099511627776):Ag Tp .add 9 xo yo (.string a) (.string b)=some (.string ⟨⟨a.data.toList++b.data.toList⟩⟩):=by
 show (bif Nat.blt (a.data.toList++b.data.toList).length 1099511627776 then some (Value.string ⟨⟨a.data.toList++b.data.toList⟩⟩) else none)=_
 rw [List.length_append,AA.2 h,cond_true]
theorem E6:BT Tp 5 33 9:=⟨by kernel_rfl,by kernel_rfl,by kernel_rfl,by kernel_rfl,by kernel_rfl,by kernel_rfl,by kernel_rfl,by kernel_rfl,JB,Yw,PQ,fun _ _ _=>by kernel_rfl⟩
theorem WV (A:AW) (n:Int):Ar Tp A 33 1 [(0,.int .u8 n)]=(match A.newRow [.int .u8 n] 5 with | some (a,w')=>.ok (.slice (some a) 1 1) w' | none=>.fail "buildSlice new"):=by kernel_rfl
theorem ZT (A:AW) (n m:Int):Ar Tp A 33 2 [(0,.int .u8 n),(1,.int .u8 m)]=(match A.newRow [.int .u8 n,.int .u8 m] 5 with | some (a,w')=>.ok (.slice (some a) 2 2) w' | none=>.fail "buildSlice new"):=by kernel_rfl
theorem UM (n:Int):AT Tp (By (Tm.fill ⟨1,.nil⟩ 0 [.int .u8 n])) (.buildSlice 33 1 #[(0,.tmp 0)])=some (.slice [.int .u8 n] 5 1):=by kernel_rfl
theorem UL (n m:Int):AT Tp (By (Tm.fill ⟨2,.nil⟩ 0 [.int .u8 n,.int .u8 m])) (.buildSlice 33 2 #[(0,.tmp 0),(1,.tmp 1)])=some (.slice [.int .u8 n,.int .u8 m] 5 2):=by kernel_rfl
theorem Sz {A:AW} {n:UInt8} {K:Value→AW→Prop} (hf:AJ A) (h:A.next < Al) (hk:∀ A',Made A A' (AI [n]) 5→K (.slice (some ⟨A.next,0,none⟩) 1 1) A'):Ap (Ar Tp A 33 1 [(0,.int .u8 (n.toNat:Int))]) K:=by
 rw [WV]
 unfold AW.newRow AW.new
 have hc:([Value.int .u8 (n.toNat:Int)].all AL)=true:=rfl
 simp only [hc,cond_true,AA.2 h]
 exact Bi.2 (hk (A.push (.row (AI [n]) 5 A.next 0 false)) ⟨AW.Df _ h,rfl,by rw [AW.Cz _ h,if_pos rfl],hf.alone (Nat.le_refl _),hf.push _ h⟩)
theorem AaQ {A:AW} {n m:UInt8} {K:Value→AW→Prop} (hf:AJ A) (h:A.next < Al) (hk:∀ A',Made A A' (AI [n,m]) 5→K (.slice (some ⟨A.next,0,none⟩) 2 2) A'):Ap (Ar Tp A 33 2 [(0,.int .u8 (n.toNat:Int)),(1,.int .u8 (m.toNat:Int))]) K:=by
 rw [ZT]
 unfold AW.newRow AW.new
 have hc:([Value.int .u8 (n.toNat:Int),.int .u8 (m.toNat:Int)].all AL)=true:=rfl
 simp only [hc,cond_true,AA.2 h]
 exact Bi.2 (hk (A.push (.row (AI [n,m]) 5 A.next 0 false)) ⟨AW.Df _ h,rfl,by rw [AW.Cz _ h,if_pos rfl],hf.alone (Nat.le_refl _),hf.push _ h⟩)
theorem Made.rdB {A A':AW} {l:List UInt8} {c:Nat} (m:Made A A' (AI l) 5):RdB A' (.slice (some ⟨A.next,0,none⟩) l.length c) l [A.next]:=
 .inr ⟨A.next,0,c,AI l,5,A.next,0,false,[],rfl,m.row,by rw [m.next];omega,rfl,by simp⟩
theorem UK {A:AW} {q:Nat} {n:UInt8} {p:Prop} (h:A.get q=some (.row (AI [n]) 5 q 0 false)) (hp:p):Bz (AT Tp (By (Tm.fill ⟨1,.nil⟩ 0 [.int .u8 (n.toNat:Int)])) (.buildSlice 33 1 #[(0,.tmp 0)])) A (.slice (some ⟨q,0,none⟩) 1 1) p:=by
 refine ⟨⟨_,UM _,?_⟩,hp⟩
 have h:A.get q=some (.row [.int .u8 (n.toNat:Int)] 5 q 0 false):=h
 simp only [Ck,Fh,h,ER,QI,Bool.and_self,Option.isNone_none,Bool.true_and,Nat.beq_refl]
theorem NK {A:AW} {q:Nat} {n m:UInt8} {p:Prop} (h:A.get q=some (.row (AI [n,m]) 5 q 0 false)) (hp:p):Bz (AT Tp (By (Tm.fill ⟨2,.nil⟩ 0 [.int .u8 (n.toNat:Int),.int .u8 (m.toNat:Int)])) (.buildSlice 33 2 #[(0,.tmp 0),(1,.tmp 1)])) A (.slice (some ⟨q,0,none⟩) 2 2) p:=by
 refine ⟨⟨_,UL _ _,?_⟩,hp⟩
 have h:A.get q=some (.row [.int .u8 (n.toNat:Int),.int .u8 (m.toNat:Int)] 5 q 0 false):=h
 simp only [Ck,Fh,h,ER,QI,Bool.and_self,Option.isNone_none,Bool.true_and,Nat.beq_refl]
theorem Xl {A:AW} {s:ByteArray} {K:Value→AW→Prop} (hf:AJ A) (h:A.next < Al) (hk:∀ A',Made A A' (AI s.data.toList) 5→K (.slice (some ⟨A.next,0,none⟩) s.data.toList.length (Bu+s.data.toList.length)) A'):Ap (AD Tp A 9 33 (.string s)) K:=by
 rw [XM]
 unfold AW.new
 simp only [AA.2 h,cond_true]
 exact Bi.2 (hk (A.push (.row (AI s.data.toList) 5 A.next 0 false)) ⟨AW.Df _ h,rfl,by rw [AW.Cz _ h,if_pos rfl],hf.alone (Nat.le_refl _),hf.push _ h⟩)
structure Grow (A A':AW) (n:Nat):Prop where
 keeps:Aw A A' []
 AG:AJ A'
 next:A'.next≤A.next+n
theorem Grow.le {A A':AW} {n:Nat} (h:Grow A A' n):A.next≤A'.next:=h.keeps.next
theorem Grow.refl {A:AW} (hf:AJ A):Grow A A 0:=⟨.refl _ _,hf,Nat.le_refl _⟩
theorem Grow.trans {A B C:AW} {n m:Nat} (h:Grow A B n) (k:Grow B C m):Grow A C (n+m):=⟨h.keeps.trans k.keeps (by simp),k.AG,by have:=h.next;have:=k.next;omega⟩
theorem Grow.more {A B:AW} {n m:Nat} (h:Grow A B n) (hm:n≤m):Grow A B m:=⟨h.keeps,h.AG,by have:=h.next;omega⟩
theorem Grow.made {A A':AW} {cs:List Value} {e:TypeId} (m:Made A A' cs e) (hf:AJ A):Grow A A' 1:=⟨m.keeps hf,m.AG,by rw [m.next];omega⟩
theorem Grow.own {A B C:AW} {n m:Nat} {F:List Nat} (h:Grow A B n) (k:Aw B C F) (hF:∀ x∈F,A.next≤x) (hc:C.next≤B.next+m) (hf:AJ C):Grow A C (n+m):=
 ⟨h.keeps.trans k (fun x hx=>.inr (hF x hx)),hf,by have:=h.next;omega⟩
theorem ZF (xo yo:Operand):Ag Tp .eql 68 xo yo (.pointer none) (.pointer none)=some (.bool true):=by kernel_rfl
theorem ZE (xo yo:Operand) (q:Nat):Ag Tp .eql 68 xo yo (.pointer (some ⟨q,0,none⟩)) (.pointer none)=some (.bool false):=by kernel_rfl
theorem AaT (xo yo:Operand) (q:Nat):Ag Tp .neq 68 xo yo (.pointer (some ⟨q,0,none⟩)) (.pointer (some ⟨q,0,none⟩))=(match (bif Nat.beq q q then some (Nat.beq 0 0) else none) with | some b=>some (.bool !b) | none=>none):=by kernel_rfl
theorem nep (xo yo:Operand) (q:Nat):Ag Tp .neq 68 xo yo (.pointer (some ⟨q,0,none⟩)) (.pointer (some ⟨q,0,none⟩))=some (.bool false):=by
 rw [AaT,Nat.beq_refl];rfl
def BB (A:AW) (q:Nat) (l:List UInt8) (F:List Nat):Prop:=
 ∃ p v,Go.Abs.AQ A q [p,v] 70∧(p=.pointer none∨p=.pointer (some ⟨q,0,none⟩))∧Buf 5 A v l F∧q∉F
theorem BB.keeps {A A':AW} {q:Nat} {l:List UInt8} {F S:List Nat} (h:BB A q l F) (k:Aw A A' S) (hq:q∉S) (hd:∀ x∈F,x∉S):BB A' q l F:=by
 obtain ⟨p,v,h1,h2,h3,h4⟩:=h
 exact ⟨p,v,h1.keeps k hq,h2,h3.keeps k hd,h4⟩
theorem BB.lt {A:AW} {q:Nat} {l:List UInt8} {F:List Nat} (h:BB A q l F):q < A.next∧∀ x∈F,x < A.next:=by
 obtain ⟨p,v,h1,h2,h3,h4⟩:=h
 exact ⟨h1.lt,h3.lt⟩
section
variable {W0:World} {m0:Inj Tp}
theorem Xe {q:Nat} {p v:Value} {A:AW} {K:Value→AW→Prop} (hr:Go.Abs.AQ A q [p,v] 70) (hp:p=.pointer none∨p=.pointer (some ⟨q,0,none⟩)) (hf:AJ A) (hb:A.next≤Al)
  (hk:∀ A',Go.Abs.AQ A' q [.pointer (some ⟨q,0,none⟩),v] 70→Aw A A' [q]→A'.next=A.next→AJ A'→K (.tuple ⟨[]⟩) A'):Wc Tp Ai W0 m0 50 [.pointer (some ⟨q,0,none⟩)] A K:=by
 refine w50 _ _ (At (S:=fun _ _ _=>False) fun _ _ _ h=>h) ?_
 rw [e50]
 have hn:Ca (.pointer (some ⟨q,0,none⟩))=some (.pointer (some ⟨q,0,none⟩)):=rfl
 have hne:BJ Tp Ai A 80 [.pointer (some ⟨q,0,none⟩)]=.ok (.value (.pointer (some ⟨q,0,none⟩))) A:=by kernel_rfl
 rcases hp with rfl | rfl
 ·simp only [hn,TU,Yu,Ay hr.row,cellOf,isTuple,cond_false,Ad,ZF,U2,hr.row]
  refine Ak.2 ⟨fun _=>?_,fun h=>by cases h⟩
  refine Bi.2 ?_
  refine .inl ⟨_,_,hne,?_⟩
  simp only [U3,hr.row,Nat.beq_refl,List.length_cons,List.length_nil,Zu,Bool.and_self,cond_true]
  refine Bi.2 ?_
  refine hr.store hf hb (AaB _ _ _) rfl (by simp) rfl fun A' h1 k1 n1 f1=>hk A' h1 k1 n1 f1
 ·simp only [hn,TU,Yu,Ay hr.row,cellOf,isTuple,cond_false,Ad,ZE,nep]
  refine Ak.2 ⟨fun h=>(by cases h),fun _=>Ak.2 ⟨fun h=>(by cases h),fun _=>?_⟩⟩
  exact hk A hr (.refl _ _) rfl hf
theorem Vm {q:Nat} {l:List UInt8} {F:List Nat} {b:UInt8} {A:AW} {K:Value→AW→Prop} (h:BB A q l F) (hl:l.length < 1000000000) (hf:AJ A) (hb:A.next+5 < Al)
  (hk:∀ A' F',BB A' q (l++[b]) F'→(∀ x∈F',x∈F∨A.next≤x)→Aw A A' (q::F)→A'.next≤A.next+2→AJ A'→K .nilIface A'):Wc Tp Ai W0 m0 21 [.pointer (some ⟨q,0,none⟩),.int .u8 (b.toNat:Int)] A K:=by
 obtain ⟨p,v,hr,hp,hv,hq⟩:=h
 have hn:Ca (.pointer (some ⟨q,0,none⟩))=some (.pointer (some ⟨q,0,none⟩)):=rfl
 have hroom:room=68719476736:=rfl
 refine w21 _ _ _ (At (S:=fun _ _ _=>False) fun _ _ _ h=>h) ?_
 rw [e21]
 refine Xe hr hp hf (by omega) fun A1 r1 k1 n1 f1=>?_
 have v1:=hv.keeps k1 (by simp;exact fun x hx e=>hq (e▸hx))
 simp only [hn,H8,Nat.zero_add,KE,Ay r1.row,cellOf,v1.rd.one.2,cond_false,Ad]
 refine Sz f1 (by omega) fun A2 m2=>?_
 have n2:=m2.next
 have k2:=m2.keeps f1
 have rd2:=Made.rdB (c:=1) m2
 refine Gk E6 (v1.keeps k2 (by simp)) (Gg E6 rd2) m2.AG (by omega) (by simp;omega) fun v' A3 F' v3 k3 hF3 n3 f3=>?_
 have hqF:q∉F':=fun hx=>by
  rcases hF3 q hx with h | h
  ·exact hq h
  ·have:=hr.lt;omega
 have r3:=(r1.keeps k2 (by simp)).keeps k3 hq
 obtain ⟨sa,sc,rfl⟩:=v3.rd.slice
 refine r3.store f3 (by omega) (ON _ _ _) rfl (by simp [Value.cells]) rfl fun A4 r4 k4 n4 f4=>?_
 have K1:Aw A A1 (q::F):=k1.more fun x hx=>.inl (by rw [List.mem_singleton.1 hx];exact List.mem_cons_self)
 have K4:Aw A A4 (q::F):=((K1.trans k2 (by simp)).trans k3 (fun x hx=>.inl (List.mem_cons_of_mem _ hx))).trans k4 (fun x hx=>.inl (by rw [List.mem_singleton.1 hx];exact List.mem_cons_self))
 refine hk A4 F' ⟨_,_,r4,.inr rfl,v3.keeps k4 (by simp;exact fun x hx e=>hqF (e▸hx)),hqF⟩ (fun x hx=>?_) K4 (by omega) f4
 rcases hF3 x hx with h | h
 ·exact .inl h
 ·exact .inr (by omega)
end
theorem Hp:∀ (l:List Nat) (A:AW),(∀ i∈l,i < Al)→(∀ i,i∉l→(Ci l A).get i=A.get i)∧(Ci l A).next=A.next∧(Ci l A).fams=A.fams
 | [],A,_=>⟨fun _ _=>rfl,rfl,rfl⟩
 | x::r,A,hl=>by
  unfold Ci
  split
  ·rename_i cs e fam base ro hx
   obtain ⟨h1,h2,h3⟩:=Hp r (A.put x (.row cs e fam base true)) fun i hi=>hl i (by simp [hi])
   refine ⟨fun i hi=>?_,h2,h3⟩
   simp only [List.mem_cons,not_or] at hi
   rw [h1 i hi.2,AW.Dr A x i _ (hl x (by simp)),if_neg hi.1]
  ·obtain ⟨h1,h2,h3⟩:=Hp r A fun i hi=>hl i (by simp [hi])
   exact ⟨fun i hi=>h1 i (fun h=>hi (by simp [h])),h2,h3⟩
theorem frozen {A:AW} {f:Nat} (hf:AJ A) (hm:∀ i∈A.members f,i < A.next∧∃ cs e b ro,A.get i=some (.row cs e f b ro)) (hb:A.next≤Al):
  Aw A (Ci (A.members f) A) [f]∧(Ci (A.members f) A).next=A.next∧AJ (Ci (A.members f) A):=by
 obtain ⟨h1,h2,h3⟩:=Hp (A.members f) A fun i hi=>Nat.lt_of_lt_of_le (hm i hi).1 hb
 refine ⟨⟨by rw [h2];exact Nat.le_refl _,fun i o hi hlt hn=>?_,fun g _ _=>?_⟩,h2,⟨fun i hi=>?_,fun i hi=>?_⟩⟩
 ·rw [h1 i (fun hmem=>?_)]
  ·exact hi
  ·obtain ⟨_,cs,e,b,ro,hg⟩:=hm i hmem
   rw [hg] at hi
   cases hi
   exact hn (by simp [TT])
 ·have:∀ B C:AW,B.fams=C.fams→B.members g=C.members g:=fun B C h=>by unfold AW.members;rw [h]
  exact this _ _ h3
 ·rw [h3];rw [h2] at hi;exact hf.fams i hi
 ·rw [h2] at hi
  rw [h1 i (fun hmem=>by have:=(hm i hmem).1;omega)]
  exact hf.get i hi
theorem Aaw (A:AW) (b n:Nat):B3 Tp A .unsafeSliceData [33] 107 [.slice (some ⟨b,0,none⟩) (n+1) (Bu+(n+1))]=.ok (.value (.pointer (some ⟨b,0,none⟩))) A:=rfl
theorem Aav (A:AW) (b n c:Nat):B3 Tp A .unsafeSliceData [33] 107 [.slice (some ⟨b,0,none⟩) (n+1) c]=.ok (.value (.pointer (some ⟨b,0,none⟩))) A:=rfl
theorem YW:Tp.underlying 107=some (.pointer 5):=by kernel_rfl
theorem AcV:(Nat.beq (Tp.cellsOf 5) 1&&sameLayout Tp Tp.depth 5 5)=true:=by kernel_rfl
theorem YV {A:AW} {b n f:Nat} {cs:List Value} {l:List UInt8} {b0:Nat} (h1:A.cells? ⟨b,0,none⟩ (n+1)=some (AI l)) (h2:A.get b=some (.row cs 5 f b0 false)) (hn:n+1 < room):
  B3 Tp A .unsafeString [107,3] 9 [.pointer (some ⟨b,0,none⟩),.int .i64 (((n+1:Nat)):Int)]=.ok (.value (.string ⟨⟨l⟩⟩)) (Ci (A.members f) A):=by
 show (match A.cells? ⟨b,0,none⟩ (n+1),A.get b,Tp.underlying 107 with
  | some cs,some (.row _ e fam _ false),some (.pointer u)=>
   bif Nat.blt (n+1) room&&(Nat.beq (Tp.cellsOf e) 1&&sameLayout Tp Tp.depth e u) then
    (match BG cs with
    | some l=>(R.ok (AN.value (Value.string ⟨⟨l⟩⟩)) (Ci (A.members fam) A):R AN)
    | none=>.fail "text")
   else .fail "text layout"
  | _,_,_=>.fail "text")=_
 rw [h1,h2,YW]
 simp only [AA.2 hn,AcV,Bool.and_self,cond_true,GJ]
section
variable {W0:World} {m0:Inj Tp}
theorem Ace {v:Value} {l:List UInt8} {F:List Nat} {b:UInt8} {A:AW} {K:Value→AW→Prop} (h:Buf 5 A v l F) (hb:b.toNat < 128) (hl:l.length < 1000000000) (hf:AJ A) (hA:A.next+5 < Al)
  (hk:∀ v' A' F',Buf 5 A' v' (l++[b]) F'→Aw A A' F→(∀ x∈F',x∈F∨A.next≤x)→A'.next≤A.next+2→AJ A'→K v' A'):Wc Tp Ai W0 m0 51 [v,.int .i32 (b.toNat:Int)] A K:=by
 have hroom:room=68719476736:=rfl
 refine w51 _ _ _ (At (S:=fun _ _ _=>False) fun _ _ _ h=>h) ?_
 rw [e51]
 have w1:IntKind.u32.wrap (b.toNat:Int)=(b.toNat:Int):=by
  simp [IntKind.wrap,IntKind.bits,IntKind.signed];omega
 have w2:IntKind.u8.wrap (b.toNat:Int)=(b.toNat:Int):=by
  simp [IntKind.wrap,IntKind.bits,IntKind.signed];omega
 rw [WK,w1]
 refine Bi.2 ?_
 simp only [D3,Ad,Av]
 refine ⟨fun _=>?_,fun hn=>absurd (by omega) hn⟩
 rw [XN,w2]
 refine Bi.2 ?_
 refine Sz hf (by omega) fun A2 m2=>?_
 have n2:=m2.next
 have k2:=m2.keeps hf
 refine Gk E6 (h.keeps k2 (by simp)) (Gg E6 (Made.rdB (c:=1) m2)) m2.AG (by omega) (by simp;omega) fun v' A3 F' v3 k3 hF3 n3 f3=>?_
 refine hk v' A3 F' v3 ((k2.more (T:=F) (by simp)).trans k3 (fun x hx=>.inl hx)) (fun x hx=>?_) (by omega) f3
 rcases hF3 x hx with h | h
 ·exact .inl h
 ·exact .inr (by omega)
theorem Aco {q:Nat} {l:List UInt8} {F:List Nat} {b:UInt8} {A:AW} {K:Value→AW→Prop} (h:BB A q l F) (hb:b.toNat < 128) (hl:l.length < 1000000000) (hf:AJ A) (hA:A.next+5 < Al)
  (hk:∀ v A' F',BB A' q (l++[b]) F'→(∀ x∈F',x∈F∨A.next≤x)→Aw A A' (q::F)→A'.next≤A.next+2→AJ A'→K v A'):Wc Tp Ai W0 m0 22 [.pointer (some ⟨q,0,none⟩),.int .i32 (b.toNat:Int)] A K:=by
 obtain ⟨p,v,hr,hp,hv,hq⟩:=h
 have hn:Ca (.pointer (some ⟨q,0,none⟩))=some (.pointer (some ⟨q,0,none⟩)):=rfl
 refine w22 _ _ _ (At (S:=fun _ _ _=>False) fun _ _ _ h=>h) ?_
 rw [e22]
 refine Xe hr hp hf (by omega) fun A1 r1 k1 n1 f1=>?_
 have v1:=hv.keeps k1 (by simp;exact fun x hx e=>hq (e▸hx))
 simp only [hn,H8,Nat.zero_add,KE,Ay r1.row,cellOf,v1.rd.one.2,cond_false,Ad,v1.rd.len E6]
 refine Ace v1 hb hl f1 (by omega) fun v' A3 F' v3 k3 hF3 n3 f3=>?_
 have hqF:q∉F':=fun hx=>by
  rcases hF3 q hx with h | h
  ·exact hq h
  ·have:=hr.lt;omega
 have r3:=r1.keeps k3 hq
 obtain ⟨sa,sc,rfl⟩:=v3.rd.slice
 refine r3.store f3 (by omega) (ON _ _ _) rfl (by simp [Value.cells]) rfl fun A4 r4 k4 n4 f4=>?_
 have r4':Go.Abs.AQ A4 q [.pointer (some ⟨q,0,none⟩),.slice sa (l++[b]).length sc] 70:=r4
 simp only [KE,Ay r4'.row,cellOf,isTuple,cond_false,Ad,JB,Hf]
 have K1:Aw A A1 (q::F):=k1.more fun x hx=>.inl (by rw [List.mem_singleton.1 hx];exact List.mem_cons_self)
 have K4:Aw A A4 (q::F):=(K1.trans k3 (fun x hx=>.inl (List.mem_cons_of_mem _ hx))).trans k4 (fun x hx=>.inl (by rw [List.mem_singleton.1 hx];exact List.mem_cons_self))
 refine hk _ A4 F' ⟨_,_,r4,.inr rfl,v3.keeps k4 (by simp;exact fun x hx e=>hqF (e▸hx)),hqF⟩ (fun x hx=>?_) K4 (by omega) f4
 rcases hF3 x hx with h | h
 ·exact .inl h
 ·exact .inr (by omega)
theorem YO {q:Nat} {l:List UInt8} {F:List Nat} {A:AW} {K:Value→AW→Prop} (h:BB A q l F) (h0:l≠[]) (hl:l.length < 1000000000) (hf:AJ A) (hA:A.next≤Al)
  (hk:∀ A',Aw A A' F→A'.next=A.next→AJ A'→K (.string ⟨⟨l⟩⟩) A'):Wc Tp Ai W0 m0 23 [.pointer (some ⟨q,0,none⟩)] A K:=by
 obtain ⟨p,v,hr,hp,hv,hq⟩:=h
 have hroom:room=68719476736:=rfl
 have hn:Ca (.pointer (some ⟨q,0,none⟩))=some (.pointer (some ⟨q,0,none⟩)):=rfl
 obtain ⟨n,hln⟩:∃ n,l.length=n+1:=⟨l.length - 1,by have:=List.length_pos_iff.2 h0;omega⟩
 refine w23 _ _ (At (S:=fun _ _ _=>False) fun _ _ _ h=>h) ?_
 rw [e23]
 simp only [hn,H8,Nat.zero_add,KE,Ay hr.row,cellOf,hv.rd.one.2,cond_false,Ad,hv.rd.len E6]
 rcases hv with ⟨_,e,_⟩ | ⟨b,f,rfl,ho,rfl⟩ | ⟨b,c,pad,rfl,hc,h3,h4,h5,rfl⟩
 ·exact absurd e h0
 ·rw [hln]
  refine .inl ⟨_,_,Aaw A b n,?_⟩
  simp only [Ay hr.row,cellOf,isTuple,cond_false,JB,Ad]
  rw [hln]
  have hc:A.cells? ⟨b,0,none⟩ (n+1)=some (AI l):=by
   rw [CD ho.row,List.drop_zero]
   have:=CI (AI l) [] (Fs l)
   rw [List.append_nil,Bd,hln] at this
   exact this
  refine .inl ⟨_,_,YV hc ho.row (by omega),?_⟩
  obtain ⟨a1,a2,a3⟩:=frozen (f:=f) hf (fun i hi=>by
   obtain ⟨_,x1,cs',e',b',ro',x2⟩:=ho.mem i hi
   exact ⟨x1,cs',e',b',ro',x2⟩) hA
  exact hk _ a1 a2 a3
 ·rw [hln]
  refine .inl ⟨_,_,Aav A b n c,?_⟩
  simp only [Ay hr.row,cellOf,isTuple,cond_false,JB,Ad]
  rw [hln]
  have hc:A.cells? ⟨b,0,none⟩ (n+1)=some (AI l):=by
   rw [CD h3.row,List.drop_zero]
   have:=CI (AI l) pad (Fs l)
   rw [Bd,hln] at this
   exact this
  refine .inl ⟨_,_,YV hc h3.row (by omega),?_⟩
  obtain ⟨a1,a2,a3⟩:=frozen (f:=b) hf (fun i hi=>by
   rw [h3.mem] at hi
   obtain rfl:i=b:=by simpa using hi
   exact ⟨h3.lt,_,_,_,_,h3.row⟩) hA
  exact hk _ a1 a2 a3
end
def Lv:ByteArray:=⟨⟨[48,49,50,51,52,53,54,55,56,57,97,98,99,100,101,102]⟩⟩
noncomputable def YE (n:Nat):Bool:=match quiet Tp (callFunc 82 ⟨[.string Lv,.int .u8 (n:Int)]⟩) with
 | some (.value (.int .i64 k))=>decide (k=Cr n)
 | _=>false
theorem Vc:((List.range 256).all YE)=true:=by kernel_rfl
theorem Aby (b:UInt8):quiet Tp (callFunc 82 ⟨[.string Lv,.int .u8 (b.toNat:Int)]⟩)=some (.value (.int .i64 (Cr b.toNat))):=by
 have h:=List.all_eq_true.1 Vc b.toNat (List.mem_range.2 b.toNat_lt)
 unfold YE at h
 split at h
 ·rename_i k hk
  rw [hk,of_decide_eq_true h]
 ·cases h
theorem WI (n:Nat) (h:n < 16):Lv.data.toList[n]? =some (CQ n):=by
 have:∀ n,n < 16→Lv.data.toList[n]? =some (CQ n):=by decide
 exact this n h
section
variable {W0:World} {m0:Inj Tp}
theorem Acd {b:UInt8} {A:AW} {K:Value→AW→Prop} (hk:K (.int .i64 (Cr b.toNat)) A):Wc Tp Ai W0 m0 52 [.string Lv,.int .u8 (b.toNat:Int)] A K:=by
 refine w52 _ _ _ (At (S:=fun _ _ _=>False) fun _ _ _ h=>h) ?_
 rw [e52]
 have hb:F7 Tp 82=false:=by kernel_rfl
 have hcf:BJ Tp Ai A 82 [.string Lv,.int .u8 (b.toNat:Int)]=.ok (.value (.int .i64 (Cr b.toNat))) A:=by
  unfold BJ
  have hc:([Value.string Lv,.int .u8 (b.toNat:Int)].all (AB 4))=true:=rfl
  simp only [hb,cond_false,Ai,Ew,hc,cond_true,Aby]
  rfl
 exact .inl ⟨_,_,hcf,hk⟩
theorem Aah {b:UInt8} {A:AW} {K:Value→AW→Prop} (hk:K (.int .i64 (Cr b.toNat)) A):Wc Tp Ai W0 m0 24 [.string Lv,.int .u8 (b.toNat:Int)] A K:=by
 refine w24 _ _ _ (At (S:=fun _ _ _=>False) fun _ _ _ h=>h) ?_
 rw [e24]
 exact Acd hk
end
theorem Qe {P:Program} {t:TypeId} {xo yo:Operand} {k:IntKind} {a b:Int} (hb:b≠0):Ag P .rem t xo yo (.int k a) (.int k b)=some (.int k (a.tmod b)):=by simp [Ag,binOp,Op.intDiv,hb,quiet,Dl,AB,pure]
theorem Qf {P:Program} {t:TypeId} {xo yo:Operand} {k:IntKind} {a b:Int} (hb:b≠0):Ag P .quo t xo yo (.int k a) (.int k b)=some (.int k (k.wrap (a.tdiv b))):=by simp [Ag,binOp,Op.intDiv,hb,quiet,Dl,AB,pure]
theorem T5 {P:Program} {t:TypeId} {xo yo:Operand} {k:IntKind} {a b:Int}:Ag P .mul t xo yo (.int k a) (.int k b)=some (.int k (k.wrap (a * b))):=by simp [Ag,binOp,Op.intArith,quiet,Dl,AB,pure]
theorem wrap_u8 {n:Int}:IntKind.u8.wrap n=n % 256:=by
 simp [IntKind.wrap,IntKind.bits,IntKind.signed]
theorem Ym (b:UInt8) (xo yo:Operand):Ag Tp .quo 5 xo yo (.int .u8 (b.toNat:Int)) (.int .u8 16)=some (.int .u8 ((b.toNat / 16:Nat):Int)):=by
 have:=b.toNat_lt
 rw [Qf (by decide),wrap_u8,Int.tdiv_eq_ediv_of_nonneg (by omega)]
 congr 2;omega
theorem Yl (b:UInt8) (xo yo:Operand):Ag Tp .rem 5 xo yo (.int .u8 (b.toNat:Int)) (.int .u8 16)=some (.int .u8 ((b.toNat % 16:Nat):Int)):=by
 rw [Qe (by decide),Int.tmod_eq_emod_of_nonneg (by omega)]
 congr 2
theorem ixd {n:Nat} {k:IntKind} (h:n < 16):BK Tp 9 (.string Lv) (.int k (n:Int))=some (.int .u8 ((CQ n).toNat:Int)):=ix9 (WI n h)
theorem H2 (b:UInt8):CO b=true↔33≤(b.toNat:Int)∧(b.toNat:Int)≤126∧(b.toNat:Int)≠37∧(b.toNat:Int)≠58:=by
 unfold CO
 simp only [Bool.and_eq_true,decide_eq_true_eq,bne_iff_ne]
 omega
theorem BH {α:Type} {l:List α} {i:Nat} {x:α} (h:l[i]? =some x):l.take (i+1)=l.take i++[x]:=by
 rw [List.take_add_one,h];rfl
theorem IS (l:List UInt8):(DB l).length≤3 * l.length:=by
 induction l with
 | nil=>simp [DB]
 | cons b l ih=>
  rw [show DB (b::l)=IT b++DB l from by simp [DB],List.length_append,List.length_cons]
  have:(IT b).length≤3:=by unfold IT;split <;> simp
  omega
section
variable {W0:World} {m0:Inj Tp}
theorem Acn {b:UInt8} {A:AW} {K:Value→AW→Prop} (hf:AJ A) (hA:A.next < Al) (hk:∀ A',Grow A A' 1→K (.string ⟨⟨[CQ (b.toNat / 16),CQ (b.toNat % 16)]⟩⟩) A'):Wc Tp Ai W0 m0 26 [.int .u8 (b.toNat:Int)] A K:=by
 have hb:=b.toNat_lt
 refine w26 _ _ (At (S:=fun _ _ _=>False) fun _ _ _ h=>h) ?_
 rw [e26]
 have hd:(Value.string ⟨⟨[48,49,50,51,52,53,54,55,56,57,97,98,99,100,101,102]⟩⟩)=.string Lv:=rfl
 simp only [hd,Ym,Yl,ixd (k:=.u8) (show b.toNat / 16 < 16 by omega),ixd (k:=.u8) (show b.toNat % 16 < 16 by omega),Ad]
 refine AaQ hf hA fun A1 m1=>?_
 refine NK m1.row ?_
 simp only [Am]
 have hs:AD Tp A1 33 9 (.slice (some ⟨A.next,0,none⟩) 2 2)=.ok (.string ⟨⟨[CQ (b.toNat / 16),CQ (b.toNat % 16)]⟩⟩) A1:=(Made.rdB (l:=[CQ (b.toNat / 16),CQ (b.toNat % 16)]) (c:=2) m1).str E6
 rw [hs]
 exact Bi.2 (hk A1 (.made m1 hf))
theorem Vn {s:ByteArray} {A:AW} {K:Value→AW→Prop} (hl:s.data.toList.length < 100000000) (hf:AJ A) (hA:A.next+s.data.toList.length < Al) (hk:∀ A',Grow A A' s.data.toList.length→K (.string ⟨⟨AY s.data.toList⟩⟩) A'):Wc Tp Ai W0 m0 11 [.string s] A K:=by
 let I:Nat→Nat→List Value→AW→Prop:=fun g id vals A'=>id=0∧s.data.toList≠[]∧∃ i:Nat,vals=[.string s,.string ⟨⟨DB (s.data.toList.take i)⟩⟩,.int .i64 (i:Int)]∧i≤s.data.toList.length∧Grow A A' i∧g=s.data.toList.length - i
 refine w11 _ _ (c11 (I:=I) ?_) ?_
 ·rintro g id vals A' d ⟨rfl,hne,i,rfl,hi,gr,rfl⟩ hd
  rw [Abn]
  simp only [L11,List.map_cons,List.map_nil,List.cons.injEq,and_true] at hd
  obtain ⟨d0,d3,d4⟩:=hd
  have hE:=IS (s.data.toList.take i)
  rw [List.length_take] at hE
  have nx:=gr.next
  simp only [d0,d3,d4,FQ,BD,Ad,Av]
  refine ⟨fun hlt=>?_,fun hge=>?_⟩
  ·have hlt:i < s.data.toList.length:=by omega
   have hp:=List.getElem?_eq_getElem hlt
   generalize hbb:s.data.toList[i]=b at hp
   have hx:=ix9 (k:=.i64) hp
   have hi1:IntKind.i64.wrap ((i:Int)+1)=((i+1:Nat):Int):=wrap_i64 (by omega) (by omega)
   have hsl:BM Tp A' 9 (.string s) (some (.int .i64 (i:Int))) (some (.int .i64 ((i+1:Nat):Int))) none=some (.string ⟨⟨[b]⟩⟩):=by
    rw [sl9 (by omega) (by omega),BH hp]
    have hd:(s.data.toList.take i++[b]).drop i=[b]:=by
     rw [List.drop_append,List.drop_eq_nil_of_le (by rw [List.length_take];omega),List.length_take,Nat.min_eq_left (by omega)]
     simp
    rw [hd]
   have hsn:DB (s.data.toList.take (i+1))=DB (s.data.toList.take i)++IT b:=by rw [BH hp,NU,Ry]
   simp only [hx,FD,D3,Cm,AU,hi1,hsl,Ad,Av,BO]
   have esc:CO b=false→(Ab (Ag Tp .add 9 (.tmp 42) (.const (.string ⟨⟨[37]⟩⟩)) (.string ⟨⟨DB (s.data.toList.take i)⟩⟩) (.string ⟨⟨[37]⟩⟩)) fun t14=>Wc Tp Ai W0 m0 26 [.int .u8 (b.toNat:Int)] A' fun t16 At16=>Ab (Ag Tp .add 9 (.tmp 43) (.tmp 47) t14 t16) fun t17=>
     BA (T11 0) (T11 0) (∃ g',g' < s.data.toList.length - i∧I g' 0 [.string s,t17,.int .i64 ((i+1:Nat):Int)] At16)):=fun hb=>by
    rw [Is (by show (DB _).length+1 < _;omega)]
    simp only [Ad]
    refine Acn gr.AG (by omega) fun A2 g2=>?_
    rw [Is (by show (DB _++[37]).length+2 < _;rw [List.length_append];show (DB _).length+1+2 < _;omega)]
    simp only [Ad]
    refine Aq.2 ⟨s.data.toList.length - (i+1),by omega,rfl,hne,i+1,?_,by omega,gr.trans g2,rfl⟩
    rw [hsn]
    unfold IT
    rw [hb,if_neg (by decide)]
    simp
   have hfull:∀ p:Prop,p↔p:=fun _=>Iff.rfl
   refine ⟨fun h1=>⟨fun h2=>⟨fun h3=>⟨fun h4=>?_,fun h4=>esc ?_⟩,fun h3=>esc ?_⟩,fun h2=>esc ?_⟩,fun h1=>esc ?_⟩
   ·have hb:CO b=true:=(H2 b).2 ⟨h1,h2,h3,h4⟩
    rw [Is (by show (DB _).length+1 < _;omega)]
    simp only [Ad]
    refine Aq.2 ⟨s.data.toList.length - (i+1),by omega,rfl,hne,i+1,?_,by omega,gr.more (by omega),rfl⟩
    rw [hsn]
    unfold IT
    rw [hb,if_pos rfl]
   all_goals
    cases hb:CO b with
    | false=>rfl
    | true=>have:=(H2 b).1 hb;omega
  ·have hil:i=s.data.toList.length:=by omega
   subst hil
   rw [List.take_length]
   have:=hk A' gr
   rw [De hne] at this
   exact this
 ·rw [e11,B4]
  simp only [Ad]
  refine Ak.2 ⟨fun h=>?_,fun h=>?_⟩
  ·have h0:s.data.toList=[]:=by simpa using h
   have:=hk A ((Grow.refl hf).more (by omega))
   rw [h0] at this
   exact this
  ·have h0:s.data.toList≠[]:=by simpa using h
   exact Aq.2 ⟨s.data.toList.length,rfl,h0,0,by simp [DB],by omega,Grow.refl hf,rfl⟩
end
noncomputable def T18:Nat→List Item:=fun i=>match i with
 | _=>[]
noncomputable def T31:Nat→List Item:=fun i=>match i with
 | 0=>[(.code (cd 31 [1,1,0,0,0])),(.inLoop (cd 31 [1,1,0,0,0])),(.inBlock 0),(.code (cd 31 [1,1,1]))]
 | _=>[]
def L31:Nat→List Tmp:=fun i=>match i with
 | 0=>[0,3]
 | _=>[]
theorem e31 (W0:World) (m0:Inj Tp) (S:Nat→List Value→AW→Prop) (Q:Value→AW→Prop) (a0:Value) (A:AW):AR Tp Ai W0 m0 31 T31 L31 S Q none 4000 (Tm.fill ⟨23,.nil⟩ 0 [a0]) [.code (cd 31 [])] false 0 0 0 [] A=(BA (T31 0) (T31 0) (S 0 [a0,(.string ⟨⟨[]⟩⟩)] A)):=by kernel_rfl
theorem Abd (W0:World) (m0:Inj Tp) (S:Nat→List Value→AW→Prop) (Q:Value→AW→Prop) (d:Nat→Value) (A:AW):AR Tp Ai W0 m0 31 T31 L31 S Q none 4000 (DR 23 d) (T31 0) false 0 0 0 [] A=(Ab (Ag Tp .gtr 35 (.tmp 4) (.const (.int .u64 9)) (d 0) (.int .u64 9)) fun t0=>Af t0 (Ab (Ag Tp .rem 35 (.tmp 6) (.const (.int .u64 10)) (d 0) (.int .u64 10)) fun t1=>Ab (Ag Tp .add 35 (.const (.int .u64 48)) (.tmp 7) (.int .u64 48) t1) fun t2=>Ap (AD Tp A 35 5 t2) fun t3 At3=>Ap (Ar Tp At3 33 1 [(0,t3)]) fun t4 At4=>Ap (AD Tp At4 33 9 t4) fun t5 At5=>Ab (Ag Tp .add 9 (.tmp 11) (.tmp 12) t5 (d 3)) fun t6=>Ab (Ag Tp .quo 35 (.tmp 14) (.const (.int .u64 10)) (d 0) (.int .u64 10)) fun t7=>BA (T31 0) (T31 0) (S 0 [t7,t6] At5)) (Ab (Ag Tp .add 35 (.const (.int .u64 48)) (.tmp 16) (.int .u64 48) (d 0)) fun t8=>Ap (AD Tp A 35 5 t8) fun t9 At9=>Ap (Ar Tp At9 33 1 [(0,t9)]) fun t10 At10=>Ap (AD Tp At10 33 9 t10) fun t11 At11=>Ab (Ag Tp .add 9 (.tmp 20) (.tmp 21) t11 (d 3)) fun t12=>Q t12 At11)):=by kernel_rfl
theorem w31:Wf1 31 23 T31 L31:=wf1 (fun _=>by kernel_rfl) (by decide) fun _=>rfl
theorem c31:Ge 31 23 T31 L31:=GF (by decide)
theorem e32 (W0:World) (m0:Inj Tp) (S:Nat→List Value→AW→Prop) (Q:Value→AW→Prop) (a0:Value) (A:AW):AR Tp Ai W0 m0 32 Tz Lz S Q none 4000 (Tm.fill ⟨15,.nil⟩ 0 [a0]) [.code (cd 32 [])] false 0 0 0 [] A=(Ab (Ag Tp .lss 3 (.tmp 3) (.const (.int .i64 0)) a0 (.int .i64 0)) fun t0=>Af t0 (Ab (Ag Tp .add 3 (.tmp 5) (.const (.int .i64 1)) a0 (.int .i64 1)) fun t1=>Ab (unA Tp .neg t1) fun t2=>Ap (AD Tp A 3 35 t2) fun t3 At3=>Ab (Ag Tp .add 35 (.tmp 8) (.const (.int .u64 1)) t3 (.int .u64 1)) fun t4=>Wc Tp Ai W0 m0 31 [t4] At3 fun t5 At5=>Ab (Ag Tp .add 9 (.const (.string ⟨⟨[45]⟩⟩)) (.tmp 10) (.string ⟨⟨[45]⟩⟩) t5) fun t6=>Q t6 At5) (Ap (AD Tp A 3 35 a0) fun t7 At7=>Wc Tp Ai W0 m0 31 [t7] At7 fun t8 At8=>Q t8 At8)):=by kernel_rfl
theorem w32:Wf1 32 15 Tz Lz:=wf1 (fun _=>by kernel_rfl) (by decide) fun _=>rfl
theorem e33 (W0:World) (m0:Inj Tp) (S:Nat→List Value→AW→Prop) (Q:Value→AW→Prop) (a0:Value) (A:AW):AR Tp Ai W0 m0 33 Tz Lz S Q none 4000 (Tm.fill ⟨14,.nil⟩ 0 [a0]) [.code (cd 33 [])] false 0 0 0 [] A=(Ap (Ep A (Value.cells a0).toList 32) fun t0 At0=>Ab (Au Tp At0 32 t0) fun t1=>Wc Tp Ai W0 m0 60 [t1] At0 fun t2 At2=>Ab (Bt t2 0) fun t3=>Ab (Bt t2 1) fun t4=>Ab (Ag Tp .eql 3 (.tmp 12) (.const (.int .i64 0)) t4 (.int .i64 0)) fun t5=>Q (.tuple ⟨[t3,t5]⟩) At2):=by kernel_rfl
theorem w33:Wf1 33 14 Tz Lz:=wf1 (fun _=>by kernel_rfl) (by decide) fun _=>rfl
theorem e34 (W0:World) (m0:Inj Tp) (S:Nat→List Value→AW→Prop) (Q:Value→AW→Prop) (a0 a1 a2:Value) (A:AW):AR Tp Ai W0 m0 34 Tz Lz S Q none 4000 (Tm.fill ⟨10,.nil⟩ 0 [a0,a1,a2]) [.code (cd 34 [])] false 0 0 0 [] A=(Af a0 (Q a1 A) (Q a2 A)):=by kernel_rfl
theorem w34:Wf3 34 10 Tz Lz:=wf3 (fun _ _ _=>by kernel_rfl) (by decide) fun _ _ _=>rfl
theorem e44 (W0:World) (m0:Inj Tp) (S:Nat→List Value→AW→Prop) (Q:Value→AW→Prop) (a0:Value) (A:AW):AR Tp Ai W0 m0 44 Tz Lz S Q none 4000 (Tm.fill ⟨11,.nil⟩ 0 [a0]) [.code (cd 44 [])] false 0 0 0 [] A=(Ap (Ep A (Value.cells a0).toList 32) fun t0 At0=>Ab (Au Tp At0 32 t0) fun t1=>Wc Tp Ai W0 m0 75 [t1] At0 fun t2 At2=>Ab (Bt t2 0) fun t3=>Ab (Bt t2 1) fun t4=>Q t3 At2):=by kernel_rfl
theorem w44:Wf1 44 11 Tz Lz:=wf1 (fun _=>by kernel_rfl) (by decide) fun _=>rfl
theorem e46 (W0:World) (m0:Inj Tp) (S:Nat→List Value→AW→Prop) (Q:Value→AW→Prop) (a0:Value) (A:AW):AR Tp Ai W0 m0 46 Tz Lz S Q none 4000 (Tm.fill ⟨10,.nil⟩ 0 [a0]) [.code (cd 46 [])] false 0 0 0 [] A=(Ab (Ag Tp .lss 3 (.tmp 3) (.const (.int .i64 0)) a0 (.int .i64 0)) fun t0=>Af t0 (Wc Tp Ai W0 m0 78 [a0,(.int .i64 10)] A fun t1 At1=>Q t1 At1) (Ap (AD Tp A 3 35 a0) fun t2 At2=>Wc Tp Ai W0 m0 79 [t2,(.int .i64 10)] At2 fun t3 At3=>Q t3 At3)):=by kernel_rfl
theorem w46:Wf1 46 10 Tz Lz:=wf1 (fun _=>by kernel_rfl) (by decide) fun _=>rfl
theorem e47 (W0:World) (m0:Inj Tp) (S:Nat→List Value→AW→Prop) (Q:Value→AW→Prop) (a0:Value) (A:AW):AR Tp Ai W0 m0 47 Tz Lz S Q none 4000 (Tm.fill ⟨11,.nil⟩ 0 [a0]) [.code (cd 47 [])] false 0 0 0 [] A=(Ab (Ag Tp .lss 5 (.tmp 3) (.const (.int .u8 0)) a0 (.int .u8 0)) fun t0=>Af t0 (Ap (AD Tp A 5 2 a0) fun t1 At1=>Wc Tp Ai W0 m0 78 [t1,(.int .i64 10)] At1 fun t2 At2=>Q t2 At2) (Ap (AD Tp A 5 35 a0) fun t3 At3=>Wc Tp Ai W0 m0 79 [t3,(.int .i64 10)] At3 fun t4 At4=>Q t4 At4)):=by kernel_rfl
theorem w47:Wf1 47 11 Tz Lz:=wf1 (fun _=>by kernel_rfl) (by decide) fun _=>rfl
theorem e48 (W0:World) (m0:Inj Tp) (S:Nat→List Value→AW→Prop) (Q:Value→AW→Prop) (a0:Value) (A:AW):AR Tp Ai W0 m0 48 Tz Lz S Q none 4000 (Tm.fill ⟨10,.nil⟩ 0 [a0]) [.code (cd 48 [])] false 0 0 0 [] A=(Ab (Ag Tp .lss 35 (.tmp 3) (.const (.int .u64 0)) a0 (.int .u64 0)) fun t0=>Af t0 (Ap (AD Tp A 35 2 a0) fun t1 At1=>Wc Tp Ai W0 m0 78 [t1,(.int .i64 10)] At1 fun t2 At2=>Q t2 At2) (Wc Tp Ai W0 m0 79 [a0,(.int .i64 10)] A fun t3 At3=>Q t3 At3)):=by kernel_rfl
theorem w48:Wf1 48 10 Tz Lz:=wf1 (fun _=>by kernel_rfl) (by decide) fun _=>rfl
theorem e49 (W0:World) (m0:Inj Tp) (S:Nat→List Value→AW→Prop) (Q:Value→AW→Prop) (a0 a1 a2:Value) (A:AW):AR Tp Ai W0 m0 49 Tz Lz S Q none 4000 (Tm.fill ⟨10,.nil⟩ 0 [a0,a1,a2]) [.code (cd 49 [])] false 0 0 0 [] A=(Af a0 (Q a1 A) (Q a2 A)):=by kernel_rfl
theorem w49:Wf3 49 10 Tz Lz:=wf3 (fun _ _ _=>by kernel_rfl) (by decide) fun _ _ _=>rfl
theorem e60 (W0:World) (m0:Inj Tp) (S:Nat→List Value→AW→Prop) (Q:Value→AW→Prop) (a0:Value) (A:AW):AR Tp Ai W0 m0 60 Tz Lz S Q none 4000 (Tm.fill ⟨21,.nil⟩ 0 [a0]) [.code (cd 60 [])] false 0 0 0 [] A=(Ap (Ep A (Value.cells a0).toList 32) fun t0 At0=>Ab (Au Tp At0 32 t0) fun t1=>Wc Tp Ai W0 m0 88 [t1] At0 fun t2 At2=>Ab (Ag Tp .neq 3 (.tmp 5) (.const (.int .i64 0)) t2 (.int .i64 0)) fun t3=>Af t3 (Q (.tuple ⟨[(.string ⟨⟨[]⟩⟩),(.int .i64 40)]⟩) At2) (Ab (Ac Tp 32 t0 0) fun t4=>Ab (Au Tp At2 30 t4) fun t5=>Ap (AD Tp At2 30 35 t5) fun t6 At6=>Ab (Ac Tp 32 t0 1) fun t7=>Ab (Au Tp At6 9 t7) fun t8=>Ab (Ac Tp 32 t0 2) fun t9=>Ab (Au Tp At6 9 t9) fun t10=>Wc Tp Ai W0 m0 31 [t6] At6 fun t11 At11=>Ab (Au Tp At11 9 t9) fun t12=>eqW t12 t10 (Ab (Ac Tp 32 t0 2) fun t13=>eqW t13 t9 (Ab (Au Tp At11 9 t7) fun t14=>eqW t14 t8 (Ab (Ac Tp 32 t0 1) fun t15=>eqW t15 t7 (Ab (Ag Tp .add 9 (.tmp 10) (.const (.string ⟨⟨[46]⟩⟩)) t11 (.string ⟨⟨[46]⟩⟩)) fun t16=>Wc Tp Ai W0 m0 89 [t8] At11 fun t17 At17=>Ab (Au Tp At17 9 t9) fun t18=>eqW t18 t10 (Ab (Ac Tp 32 t0 2) fun t19=>eqW t19 t9 (Ab (Ag Tp .add 9 (.tmp 10) (.const (.string ⟨⟨[46]⟩⟩)) t11 (.string ⟨⟨[46]⟩⟩)) fun t20=>eqW t20 t16 (Ab (Ag Tp .add 9 (.tmp 11) (.tmp 14) t16 t17) fun t21=>Ab (Ag Tp .add 9 (.tmp 15) (.const (.string ⟨⟨[46]⟩⟩)) t21 (.string ⟨⟨[46]⟩⟩)) fun t22=>Wc Tp Ai W0 m0 89 [t10] At17 fun t23 At23=>Ab (Ag Tp .add 9 (.tmp 15) (.const (.string ⟨⟨[46]⟩⟩)) t21 (.string ⟨⟨[46]⟩⟩)) fun t24=>eqW t24 t22 (Ab (Ag Tp .add 9 (.tmp 11) (.tmp 14) t16 t17) fun t25=>eqW t25 t21 (Ab (Ag Tp .add 9 (.tmp 10) (.const (.string ⟨⟨[46]⟩⟩)) t11 (.string ⟨⟨[46]⟩⟩)) fun t26=>eqW t26 t16 (Ab (Ag Tp .add 9 (.tmp 16) (.tmp 19) t22 t23) fun t27=>Q (.tuple ⟨[t27,(.int .i64 0)]⟩) At23)))))))))))):=by kernel_rfl
theorem w60:Wf1 60 21 Tz Lz:=wf1 (fun _=>by kernel_rfl) (by decide) fun _=>rfl
theorem e75 (W0:World) (m0:Inj Tp) (S:Nat→List Value→AW→Prop) (Q:Value→AW→Prop) (a0:Value) (A:AW):AR Tp Ai W0 m0 75 Tz Lz S Q none 4000 (Tm.fill ⟨24,.nil⟩ 0 [a0]) [.code (cd 75 [])] false 0 0 0 [] A=(Ap (Ep A (Value.cells a0).toList 32) fun t0 At0=>Ab (Au Tp At0 32 t0) fun t1=>Wc Tp Ai W0 m0 100 [t1] At0 fun t2 At2=>Ab (Ag Tp .neq 24 (.tmp 7) (.const (.int .i64 0)) t2 (.int .i64 0)) fun t3=>Af t3 (Q (.tuple ⟨[(.string ⟨⟨[]⟩⟩),t2]⟩) At2) (Ab (Ac Tp 32 t0 0) fun t4=>Ab (Au Tp At2 30 t4) fun t5=>Ap (AD Tp At2 30 35 t5) fun t6 At6=>Ab (Ac Tp 32 t0 1) fun t7=>Ab (Au Tp At6 9 t7) fun t8=>Ab (Ac Tp 32 t0 2) fun t9=>Ab (Au Tp At6 9 t9) fun t10=>Wc Tp Ai W0 m0 79 [t6,(.int .i64 10)] At6 fun t11 At11=>Ab (Au Tp At11 9 t9) fun t12=>eqW t12 t10 (Ab (Ac Tp 32 t0 2) fun t13=>eqW t13 t9 (Ab (Au Tp At11 9 t7) fun t14=>eqW t14 t8 (Ab (Ac Tp 32 t0 1) fun t15=>eqW t15 t7 (Ab (Ag Tp .add 9 (.tmp 13) (.const (.string ⟨⟨[46]⟩⟩)) t11 (.string ⟨⟨[46]⟩⟩)) fun t16=>Wc Tp Ai W0 m0 101 [t8] At11 fun t17 At17=>Ab (Au Tp At17 9 t9) fun t18=>eqW t18 t10 (Ab (Ac Tp 32 t0 2) fun t19=>eqW t19 t9 (Ab (Ag Tp .add 9 (.tmp 13) (.const (.string ⟨⟨[46]⟩⟩)) t11 (.string ⟨⟨[46]⟩⟩)) fun t20=>eqW t20 t16 (Ab (Ag Tp .add 9 (.tmp 14) (.tmp 17) t16 t17) fun t21=>Ab (Ag Tp .add 9 (.tmp 18) (.const (.string ⟨⟨[46]⟩⟩)) t21 (.string ⟨⟨[46]⟩⟩)) fun t22=>Wc Tp Ai W0 m0 101 [t10] At17 fun t23 At23=>Ab (Ag Tp .add 9 (.tmp 18) (.const (.string ⟨⟨[46]⟩⟩)) t21 (.string ⟨⟨[46]⟩⟩)) fun t24=>eqW t24 t22 (Ab (Ag Tp .add 9 (.tmp 14) (.tmp 17) t16 t17) fun t25=>eqW t25 t21 (Ab (Ag Tp .add 9 (.tmp 13) (.const (.string ⟨⟨[46]⟩⟩)) t11 (.string ⟨⟨[46]⟩⟩)) fun t26=>eqW t26 t16 (Ab (Ag Tp .add 9 (.tmp 19) (.tmp 22) t22 t23) fun t27=>Q (.tuple ⟨[t27,(.int .i64 0)]⟩) At23)))))))))))):=by kernel_rfl
theorem w75:Wf1 75 24 Tz Lz:=wf1 (fun _=>by kernel_rfl) (by decide) fun _=>rfl
theorem e88 (W0:World) (m0:Inj Tp) (S:Nat→List Value→AW→Prop) (Q:Value→AW→Prop) (a0:Value) (A:AW):AR Tp Ai W0 m0 88 Tz Lz S Q none 4000 (Tm.fill ⟨19,.nil⟩ 0 [a0]) [.code (cd 88 [])] false 0 0 0 [] A=(Ap (Ep A (Value.cells a0).toList 32) fun t0 At0=>Ab (Ac Tp 32 t0 1) fun t1=>Ab (Au Tp At0 9 t1) fun t2=>Ab (Bm Tp At0 9 t2) fun t3=>Ab (Ag Tp .lss 3 (.tmp 5) (.const (.int .i64 1)) t3 (.int .i64 1)) fun t4=>Af t4 (Q (.int .i64 40) At0) (Ab (Ac Tp 32 t0 1) fun t5=>Ab (Au Tp At0 9 t5) fun t6=>Ab (Bm Tp At0 9 t6) fun t7=>Ab (Ag Tp .gtr 3 (.tmp 10) (.const (.int .i64 64)) t7 (.int .i64 64)) fun t8=>Af t8 (Q (.int .i64 40) At0) (Ab (Ac Tp 32 t0 2) fun t9=>Ab (Au Tp At0 9 t9) fun t10=>Ab (Bm Tp At0 9 t10) fun t11=>Ab (Ag Tp .gtr 3 (.tmp 16) (.const (.int .i64 64)) t11 (.int .i64 64)) fun t12=>Af t12 (Q (.int .i64 40) At0) (Q (.int .i64 0) At0)))):=by kernel_rfl
theorem w88:Wf1 88 19 Tz Lz:=wf1 (fun _=>by kernel_rfl) (by decide) fun _=>rfl
noncomputable def T89:Nat→List Item:=fun i=>match i with
 | 0=>[(.code (cd 89 [1,1,0,1,0,0])),(.inLoop (cd 89 [1,1,0,1,0,0])),(.inBlock 0),(.code (cd 89 [1,1,1]))]
 | _=>[]
def L89:Nat→List Tmp:=fun i=>match i with
 | 0=>[0,3,4]
 | _=>[]
theorem e89 (W0:World) (m0:Inj Tp) (S:Nat→List Value→AW→Prop) (Q:Value→AW→Prop) (a0:Value) (A:AW):AR Tp Ai W0 m0 89 T89 L89 S Q none 4000 (Tm.fill ⟨26,.nil⟩ 0 [a0]) [.code (cd 89 [])] false 0 0 0 [] A=(BA (T89 0) (T89 0) (S 0 [a0,(.slice none 0 0),(.int .i64 0)] A)):=by kernel_rfl
theorem Aa0 (W0:World) (m0:Inj Tp) (S:Nat→List Value→AW→Prop) (Q:Value→AW→Prop) (d:Nat→Value) (A:AW):AR Tp Ai W0 m0 89 T89 L89 S Q none 4000 (DR 26 d) (T89 0) false 0 0 0 [] A=(Ab (Bm Tp A 9 (d 0)) fun t0=>Ab (Ag Tp .lss 3 (.tmp 5) (.tmp 7) (d 4) t0) fun t1=>Af t1 (Ab (BK Tp 9 (d 0) (d 4)) fun t2=>Ab (Ag Tp .quo 5 (.tmp 14) (.const (.int .u8 16)) t2 (.int .u8 16)) fun t3=>Ab (BK Tp 9 (d 0) (d 4)) fun t4=>Ab (Ag Tp .rem 5 (.tmp 19) (.const (.int .u8 16)) t4 (.int .u8 16)) fun t5=>Wc Tp Ai W0 m0 105 [t3] A fun t6 At6=>Ab (Ag Tp .rem 5 (.tmp 19) (.const (.int .u8 16)) t4 (.int .u8 16)) fun t7=>eqW t7 t5 (Ab (BK Tp 9 (d 0) (d 4)) fun t8=>eqW t8 t4 (eqW (d 4) (d 4) (eqW (d 0) (d 0) (eqW (d 3) (d 3) (Wc Tp Ai W0 m0 105 [t5] At6 fun t9 At9=>eqW (d 3) (d 3) (Ap (Ar Tp At9 33 2 [(0,t6),(1,t9)]) fun t10 At10=>Bz (AT Tp (By (Tm.fill ⟨2,.nil⟩ 0 [t6,t9])) (.buildSlice 33 2 #[(0,.tmp 0),(1,.tmp 1)])) At10 t10 (Ab (Ag Tp .rem 5 (.tmp 19) (.const (.int .u8 16)) t4 (.int .u8 16)) fun t11=>eqW t11 t5 (Ab (BK Tp 9 (d 0) (d 4)) fun t12=>eqW t12 t4 (eqW (d 4) (d 4) (eqW (d 0) (d 0) (Ab (Ag Tp .quo 5 (.tmp 14) (.const (.int .u8 16)) t2 (.int .u8 16)) fun t13=>eqW t13 t3 (Ab (BK Tp 9 (d 0) (d 4)) fun t14=>eqW t14 t2 (eqW (d 4) (d 4) (eqW (d 0) (d 0) (eqW (d 3) (d 3) (Ap (Bh Tp At10 33 33 (d 3) t10) fun t15 At15=>Ab (Ag Tp .add 3 (.tmp 9) (.const (.int .i64 1)) (d 4) (.int .i64 1)) fun t16=>BA (T89 0) (T89 0) (S 0 [(d 0),t15,t16] At15)))))))))))))))))) (Ap (AD Tp A 33 9 (d 3)) fun t17 At17=>Q t17 At17)):=by kernel_rfl
theorem w89:Wf1 89 26 T89 L89:=wf1 (fun _=>by kernel_rfl) (by decide) fun _=>rfl
theorem c89:Ge 89 26 T89 L89:=GF (by decide)
theorem ZK (W0:World) (m0:Inj Tp) (S:Nat→List Value→AW→Prop) (Q:Value→AW→Prop) (a0:Value) (A:AW):AR Tp Ai W0 m0 100 Tz Lz S Q none 4000 (Tm.fill ⟨18,.nil⟩ 0 [a0]) [.code (cd 100 [])] false 0 0 0 [] A=(Ap (Ep A (Value.cells a0).toList 32) fun t0 At0=>Ab (Ac Tp 32 t0 1) fun t1=>Ab (Au Tp At0 9 t1) fun t2=>Ab (Ag Tp .eql 9 (.tmp 4) (.const (.string ⟨⟨[]⟩⟩)) t2 (.string ⟨⟨[]⟩⟩)) fun t3=>Af t3 (Q (.int .i64 40) At0) (Ab (Ac Tp 32 t0 1) fun t4=>Ab (Au Tp At0 9 t4) fun t5=>Ab (Bm Tp At0 9 t5) fun t6=>Ab (Ag Tp .gtr 3 (.tmp 9) (.const (.int .i64 64)) t6 (.int .i64 64)) fun t7=>Af t7 (Q (.int .i64 40) At0) (Ab (Ac Tp 32 t0 2) fun t8=>Ab (Au Tp At0 9 t8) fun t9=>Ab (Bm Tp At0 9 t9) fun t10=>Ab (Ag Tp .gtr 3 (.tmp 15) (.const (.int .i64 64)) t10 (.int .i64 64)) fun t11=>Af t11 (Q (.int .i64 40) At0) (Q (.int .i64 0) At0)))):=by kernel_rfl
theorem AcG:Wf1 100 18 Tz Lz:=wf1 (fun _=>by kernel_rfl) (by decide) fun _=>rfl
noncomputable def Ql:Nat→List Item:=fun i=>match i with
 | 0=>[(.code (cd 101 [1,1,0,1,0,0])),(.inLoop (cd 101 [1,1,0,1,0,0])),(.inBlock 0),(.code (cd 101 [1,1,1]))]
 | _=>[]
def W7:Nat→List Tmp:=fun i=>match i with
 | 0=>[0,3,6,7]
 | _=>[]
theorem ZJ (W0:World) (m0:Inj Tp) (S:Nat→List Value→AW→Prop) (Q:Value→AW→Prop) (a0:Value) (A:AW):AR Tp Ai W0 m0 101 Ql W7 S Q none 4000 (Tm.fill ⟨24,.nil⟩ 0 [a0]) [.code (cd 101 [])] false 0 0 0 [] A=(Ap (B5 Tp A 70) fun t0 At0=>Ab (Bm Tp At0 9 a0) fun t1=>BA (Ql 0) (Ql 0) (S 0 [a0,t0,t1,(.int .i64 0)] At0)):=by kernel_rfl
theorem Zz (W0:World) (m0:Inj Tp) (S:Nat→List Value→AW→Prop) (Q:Value→AW→Prop) (d:Nat→Value) (A:AW):AR Tp Ai W0 m0 101 Ql W7 S Q none 4000 (DR 24 d) (Ql 0) false 0 0 0 [] A=(Ab (Ag Tp .lss 3 (.tmp 7) (.tmp 6) (d 7) (d 6)) fun t0=>Af t0 (Ab (BK Tp 9 (d 0) (d 7)) fun t1=>Ab (Ag Tp .shr 5 (.tmp 12) (.const (.int .u64 4)) t1 (.int .u64 4)) fun t2=>Ab (BK Tp 9 (.string ⟨⟨[48,49,50,51,52,53,54,55,56,57,97,98,99,100,101,102]⟩⟩) t2) fun t3=>Wc Tp Ai W0 m0 21 [(d 3),t3] A fun t4 At4=>Ab (BK Tp 9 (d 0) (d 7)) fun t5=>Ab (Ag Tp .and 5 (.tmp 18) (.const (.int .u8 15)) t5 (.int .u8 15)) fun t6=>Ab (BK Tp 9 (.string ⟨⟨[48,49,50,51,52,53,54,55,56,57,97,98,99,100,101,102]⟩⟩) t6) fun t7=>Wc Tp Ai W0 m0 21 [(d 3),t7] At4 fun t8 At8=>Ab (Ag Tp .add 3 (.tmp 7) (.const (.int .i64 1)) (d 7) (.int .i64 1)) fun t9=>BA (Ql 0) (Ql 0) (S 0 [(d 0),(d 3),(d 6),t9] At8)) (Wc Tp Ai W0 m0 23 [(d 3)] A fun t10 At10=>Q t10 At10)):=by kernel_rfl
theorem AcF:Wf1 101 24 Ql W7:=wf1 (fun _=>by kernel_rfl) (by decide) fun _=>rfl
theorem Adq:Ge 101 24 Ql W7:=GF (by decide)
theorem WE (W0:World) (m0:Inj Tp) (S:Nat→List Value→AW→Prop) (Q:Value→AW→Prop) (a0:Value) (A:AW):AR Tp Ai W0 m0 105 Tz Lz S Q none 4000 (Tm.fill ⟨10,.nil⟩ 0 [a0]) [.code (cd 105 [])] false 0 0 0 [] A=(Ab (Ag Tp .lss 5 (.tmp 3) (.const (.int .u8 10)) a0 (.int .u8 10)) fun t0=>Af t0 (Ab (Ag Tp .add 5 (.const (.int .u8 48)) (.tmp 5) (.int .u8 48) a0) fun t1=>Q t1 A) (Ab (Ag Tp .add 5 (.const (.int .u8 97)) (.tmp 7) (.int .u8 97) a0) fun t2=>Ab (Ag Tp .sub 5 (.tmp 8) (.const (.int .u8 10)) t2 (.int .u8 10)) fun t3=>Q t3 A)):=by kernel_rfl
theorem AcD:Wf1 105 10 Tz Lz:=wf1 (fun _=>by kernel_rfl) (by decide) fun _=>rfl
theorem e78 (W0:World) (m0:Inj Tp) (S:Nat→List Value→AW→Prop) (Q:Value→AW→Prop) (a0 a1:Value) (A:AW):AR Tp Ai W0 m0 78 Tz Lz S Q none 4000 (Tm.fill ⟨8,.nil⟩ 0 [a0,a1]) [.code (cd 78 [])] false 0 0 0 [] A=(knW Tp W0 m0 103 [a0,a1] A fun t0 At0=>Q t0 At0):=by kernel_rfl
theorem w78:Wf2 78 8 Tz Lz:=wf2 (fun _ _=>by kernel_rfl) (by decide) fun _ _=>rfl
theorem e79 (W0:World) (m0:Inj Tp) (S:Nat→List Value→AW→Prop) (Q:Value→AW→Prop) (a0 a1:Value) (A:AW):AR Tp Ai W0 m0 79 Tz Lz S Q none 4000 (Tm.fill ⟨8,.nil⟩ 0 [a0,a1]) [.code (cd 79 [])] false 0 0 0 [] A=(knW Tp W0 m0 104 [a0,a1] A fun t0 At0=>Q t0 At0):=by kernel_rfl
theorem w79:Wf2 79 8 Tz Lz:=wf2 (fun _ _=>by kernel_rfl) (by decide) fun _ _=>rfl
noncomputable def T45:Nat→List Item:=fun i=>match i with
 | 1=>[(.code (cd 45 [1,1,1,1,0,1,0,0])),(.inLoop (cd 45 [1,1,1,1,0,1,0,0])),(.inBlock 1),(.code (cd 45 [1,1,1,1,1]))]
 | 3=>[(.code (cd 45 [1,1,1,1,1,1,1,1,0,1,0,0])),(.inLoop (cd 45 [1,1,1,1,1,1,1,1,0,1,0,0])),(.inBlock 3),(.code (cd 45 [1,1,1,1,1,1,1,1,1]))]
 | _=>[]
def L45:Nat→List Tmp:=fun i=>match i with
 | 1=>[0,1,5,39,40,41]
 | 3=>[1,8,63,64,65]
 | _=>[]
theorem e45 (W0:World) (m0:Inj Tp) (S:Nat→List Value→AW→Prop) (Q:Value→AW→Prop) (a0 a1:Value) (A:AW):AR Tp Ai W0 m0 45 T45 L45 S Q none 4000 (Tm.fill ⟨75,.nil⟩ 0 [a0,a1]) [.code (cd 45 [])] false 0 0 0 [] A=(Ab (Bm Tp A 56 a0) fun t0=>Ab (Ag Tp .eql 3 (.tmp 12) (.const (.int .i64 0)) t0 (.int .i64 0)) fun t1=>Af t1 (Q (.string ⟨⟨[]⟩⟩) A) (Ab (Ag Tp .eql 3 (.tmp 12) (.const (.int .i64 1)) t0 (.int .i64 1)) fun t2=>Af t2 (Ab (Ao Tp 56 a0 (.int .i64 0)) fun t3=>Ab (Au Tp A 9 t3) fun t4=>Q t4 A) (Ab (Bm Tp A 9 a1) fun t5=>Ab (Ag Tp .gtr 3 (.tmp 21) (.const (.int .i64 0)) t5 (.int .i64 0)) fun t6=>Af t6 (Ab (Bm Tp A 9 a1) fun t7=>Ab (Bm Tp A 56 a0) fun t8=>Ab (Ag Tp .sub 3 (.tmp 26) (.const (.int .i64 1)) t8 (.int .i64 1)) fun t9=>Ab (Ag Tp .quo 3 (.const (.int .i64 9223372036854775807)) (.tmp 27) (.int .i64 9223372036854775807) t9) fun t10=>Ab (Ag Tp .geq 3 (.tmp 24) (.tmp 28) t7 t10) fun t11=>Af t11 (Ab (Ey Tp 9 (.string ⟨⟨[115,116,114,105,110,103,115,58,32,74,111,105,110,32,111,117,116,112,117,116,32,108,101,110,103,116,104,32,111,118,101,114,102,108,111,119]⟩⟩)) fun t12=>anW Tp Ai W0 m0 (Sq A t12) fun t13 At13=>Ab (Bm Tp At13 9 a1) fun t14=>Ab (Bm Tp At13 56 a0) fun t15=>Ab (Ag Tp .sub 3 (.tmp 35) (.const (.int .i64 1)) t15 (.int .i64 1)) fun t16=>Ab (Ag Tp .mul 3 (.tmp 33) (.tmp 36) t14 t16) fun t17=>Ab (Ag Tp .add 3 (.tmp 31) (.tmp 37) (.int .i64 0) t17) fun t18=>Ab (Bm Tp At13 56 a0) fun t19=>BA (T45 1) (T45 1) (S 1 [a0,a1,t18,a0,t19,(.int .i64 0)] At13)) (Ab (Bm Tp A 9 a1) fun t20=>Ab (Bm Tp A 56 a0) fun t21=>Ab (Ag Tp .sub 3 (.tmp 35) (.const (.int .i64 1)) t21 (.int .i64 1)) fun t22=>Ab (Ag Tp .mul 3 (.tmp 33) (.tmp 36) t20 t22) fun t23=>Ab (Ag Tp .add 3 (.tmp 31) (.tmp 37) (.int .i64 0) t23) fun t24=>Ab (Bm Tp A 56 a0) fun t25=>BA (T45 1) (T45 1) (S 1 [a0,a1,t24,a0,t25,(.int .i64 0)] A))) (Ab (Bm Tp A 56 a0) fun t26=>BA (T45 1) (T45 1) (S 1 [a0,a1,(.int .i64 0),a0,t26,(.int .i64 0)] A))))):=by kernel_rfl
theorem Aba (W0:World) (m0:Inj Tp) (S:Nat→List Value→AW→Prop) (Q:Value→AW→Prop) (d:Nat→Value) (A:AW):AR Tp Ai W0 m0 45 T45 L45 S Q none 4000 (DR 75 d) (T45 1) false 0 0 0 [] A=(Ab (Ag Tp .lss 3 (.tmp 41) (.tmp 40) (d 41) (d 40)) fun t0=>Af t0 (Ab (Ao Tp 56 (d 39) (d 41)) fun t1=>Ab (Au Tp A 9 t1) fun t2=>Ab (Bm Tp A 9 t2) fun t3=>Ab (Ag Tp .sub 3 (.const (.int .i64 9223372036854775807)) (.tmp 47) (.int .i64 9223372036854775807) (d 5)) fun t4=>Ab (Ag Tp .gtr 3 (.tmp 46) (.tmp 48) t3 t4) fun t5=>Af t5 (Ab (Ey Tp 9 (.string ⟨⟨[115,116,114,105,110,103,115,58,32,74,111,105,110,32,111,117,116,112,117,116,32,108,101,110,103,116,104,32,111,118,101,114,102,108,111,119]⟩⟩)) fun t6=>anW Tp Ai W0 m0 (Sq A t6) fun t7 At7=>Ab (Bm Tp At7 9 t2) fun t8=>Ab (Ag Tp .add 3 (.tmp 51) (.tmp 53) (d 5) t8) fun t9=>Ab (Ag Tp .add 3 (.tmp 41) (.const (.int .i64 1)) (d 41) (.int .i64 1)) fun t10=>BA (T45 1) (T45 1) (S 1 [(d 0),(d 1),t9,(d 39),(d 40),t10] At7)) (Ab (Bm Tp A 9 t2) fun t11=>Ab (Ag Tp .add 3 (.tmp 51) (.tmp 53) (d 5) t11) fun t12=>Ab (Ag Tp .add 3 (.tmp 41) (.const (.int .i64 1)) (d 41) (.int .i64 1)) fun t13=>BA (T45 1) (T45 1) (S 1 [(d 0),(d 1),t12,(d 39),(d 40),t13] A))) (Ap (B5 Tp A 70) fun t14 At14=>Wc Tp Ai W0 m0 76 [t14,(d 5)] At14 fun t15 At15=>Ab (Ao Tp 56 (d 0) (.int .i64 0)) fun t16=>Ab (Au Tp At15 9 t16) fun t17=>Wc Tp Ai W0 m0 77 [t14,t17] At15 fun t18 At18=>Ab (BM Tp At18 56 (d 0) (some (.int .i64 1)) none none) fun t19=>Ab (Bm Tp At18 56 t19) fun t20=>BA (T45 3) (T45 3) (S 3 [(d 1),t14,t19,t20,(.int .i64 0)] At18))):=by kernel_rfl
theorem Aa9 (W0:World) (m0:Inj Tp) (S:Nat→List Value→AW→Prop) (Q:Value→AW→Prop) (d:Nat→Value) (A:AW):AR Tp Ai W0 m0 45 T45 L45 S Q none 4000 (DR 75 d) (T45 3) false 0 0 0 [] A=(Ab (Ag Tp .lss 3 (.tmp 65) (.tmp 64) (d 65) (d 64)) fun t0=>Af t0 (Ab (Ao Tp 56 (d 63) (d 65)) fun t1=>Ab (Au Tp A 9 t1) fun t2=>Wc Tp Ai W0 m0 77 [(d 8),(d 1)] A fun t3 At3=>Wc Tp Ai W0 m0 77 [(d 8),t2] At3 fun t4 At4=>Ab (Ag Tp .add 3 (.tmp 65) (.const (.int .i64 1)) (d 65) (.int .i64 1)) fun t5=>BA (T45 3) (T45 3) (S 3 [(d 1),(d 8),(d 63),(d 64),t5] At4)) (Wc Tp Ai W0 m0 23 [(d 8)] A fun t6 At6=>Q t6 At6)):=by kernel_rfl
theorem w45:Wf2 45 75 T45 L45:=wf2 (fun _ _=>by kernel_rfl) (by decide) fun _ _=>rfl
theorem c45:Ge 45 75 T45 L45:=GF (by decide)
theorem e76 (W0:World) (m0:Inj Tp) (S:Nat→List Value→AW→Prop) (Q:Value→AW→Prop) (a0 a1:Value) (A:AW):AR Tp Ai W0 m0 76 Tz Lz S Q none 4000 (Tm.fill ⟨25,.nil⟩ 0 [a0,a1]) [.code (cd 76 [])] false 0 0 0 [] A=(Wc Tp Ai W0 m0 50 [a0] A fun t0 At0=>Ab (Ag Tp .lss 3 (.tmp 6) (.const (.int .i64 0)) a1 (.int .i64 0)) fun t1=>Af t1 (Ab (Ey Tp 9 (.string ⟨⟨[115,116,114,105,110,103,115,46,66,117,105,108,100,101,114,46,71,114,111,119,58,32,110,101,103,97,116,105,118,101,32,99,111,117,110,116]⟩⟩)) fun t2=>anW Tp Ai W0 m0 (Sq At0 t2) fun t3 At3=>Ab (Ca a0) fun t4=>Ab (Ac Tp 70 t4 1) fun t5=>Ab (Au Tp At3 33 t5) fun t6=>anW Tp Ai W0 m0 (B3 Tp At3 .cap [33] 3 [t6]) fun t7 At7=>Ab (Ca a0) fun t8=>Ab (Ac Tp 70 t8 1) fun t9=>Ab (Au Tp At7 33 t9) fun t10=>Ab (Bm Tp At7 33 t10) fun t11=>Ab (Ag Tp .sub 3 (.tmp 13) (.tmp 18) t7 t11) fun t12=>Ab (Ag Tp .lss 3 (.tmp 19) (.tmp 20) t12 a1) fun t13=>Af t13 (Wc Tp Ai W0 m0 102 [a0,a1] At7 fun t14 At14=>Q (.tuple ⟨[]⟩) At14) (Q (.tuple ⟨[]⟩) At7)) (Ab (Ca a0) fun t15=>Ab (Ac Tp 70 t15 1) fun t16=>Ab (Au Tp At0 33 t16) fun t17=>anW Tp Ai W0 m0 (B3 Tp At0 .cap [33] 3 [t17]) fun t18 At18=>Ab (Ca a0) fun t19=>Ab (Ac Tp 70 t19 1) fun t20=>Ab (Au Tp At18 33 t20) fun t21=>Ab (Bm Tp At18 33 t21) fun t22=>Ab (Ag Tp .sub 3 (.tmp 13) (.tmp 18) t18 t22) fun t23=>Ab (Ag Tp .lss 3 (.tmp 19) (.tmp 20) t23 a1) fun t24=>Af t24 (Wc Tp Ai W0 m0 102 [a0,a1] At18 fun t25 At25=>Q (.tuple ⟨[]⟩) At25) (Q (.tuple ⟨[]⟩) At18))):=by kernel_rfl
theorem w76:Wf2 76 25 Tz Lz:=wf2 (fun _ _=>by kernel_rfl) (by decide) fun _ _=>rfl
theorem e77 (W0:World) (m0:Inj Tp) (S:Nat→List Value→AW→Prop) (Q:Value→AW→Prop) (a0 a1:Value) (A:AW):AR Tp Ai W0 m0 77 Tz Lz S Q none 4000 (Tm.fill ⟨19,.nil⟩ 0 [a0,a1]) [.code (cd 77 [])] false 0 0 0 [] A=(Wc Tp Ai W0 m0 50 [a0] A fun t0 At0=>Ab (Ca a0) fun t1=>Ab (Ac Tp 70 t1 1) fun t2=>Ab (Au Tp At0 33 t2) fun t3=>Ap (Bh Tp At0 33 9 t3 a1) fun t4 At4=>Ab (Ca a0) fun t5=>Ab (Ac Tp 70 t5 1) fun t6=>Bp (AZ Tp At4 33 t6 t4) fun At7=>Ab (Bm Tp At7 9 a1) fun t8=>Q (.tuple ⟨[t8,.nilIface]⟩) At7):=by kernel_rfl
theorem w77:Wf2 77 19 Tz Lz:=wf2 (fun _ _=>by kernel_rfl) (by decide) fun _ _=>rfl
theorem ZI (W0:World) (m0:Inj Tp) (S:Nat→List Value→AW→Prop) (Q:Value→AW→Prop) (a0 a1:Value) (A:AW):AR Tp Ai W0 m0 102 Tz Lz S Q none 4000 (Tm.fill ⟨30,.nil⟩ 0 [a0,a1]) [.code (cd 102 [])] false 0 0 0 [] A=(Ab (Ca a0) fun t0=>Ab (Ac Tp 70 t0 1) fun t1=>Ab (Au Tp A 33 t1) fun t2=>anW Tp Ai W0 m0 (B3 Tp A .cap [33] 3 [t2]) fun t3 At3=>Ab (Ag Tp .mul 3 (.const (.int .i64 2)) (.tmp 9) (.int .i64 2) t3) fun t4=>Ab (Ag Tp .add 3 (.tmp 10) (.tmp 11) t4 a1) fun t5=>Ab (Ca a0) fun t6=>Ab (Ac Tp 70 t6 1) fun t7=>Ab (Au Tp At3 33 t7) fun t8=>Ab (Bm Tp At3 33 t8) fun t9=>anW Tp Ai W0 m0 (BJ Tp Ai At3 116 [t5]) fun t10 At10=>Ab (Bm Tp At10 33 t8) fun t11=>eqW t11 t9 (Ab (Au Tp At10 33 t7) fun t12=>eqW t12 t8 (Ab (Ac Tp 70 t6 1) fun t13=>eqW t13 t7 (Ab (Ca a0) fun t14=>eqW t14 t6 (eqW a0 a0 (Ab (BM Tp At10 33 t10 none (some t9) none) fun t15=>Ab (Ca a0) fun t16=>Ab (Ac Tp 70 t16 1) fun t17=>Ab (Au Tp At10 33 t17) fun t18=>Ap (Io Tp At10 33 t15 t18) fun t19 At19=>Ab (Ca a0) fun t20=>Ab (Ac Tp 70 t20 1) fun t21=>Bp (AZ Tp At19 33 t21 t15) fun At22=>Q (.tuple ⟨[]⟩) At22)))))):=by kernel_rfl
theorem AcE:Wf2 102 30 Tz Lz:=wf2 (fun _ _=>by kernel_rfl) (by decide) fun _ _=>rfl
abbrev fW (t:TypeId) (v:Value) (i:Nat) (k:Value→Prop):Prop:=Ab (Ac Tp t v i) k
abbrev lW (A:AW) (t:TypeId) (v:Value) (k:Value→Prop):Prop:=Ab (Au Tp A t v) k
abbrev sW (A:AW) (t:TypeId) (a v:Value) (k:AW→Prop):Prop:=Bp (AZ Tp A t a v) k
abbrev xW (v:Value) (i:Nat) (k:Value→Prop):Prop:=Ab (Bt v i) k
abbrev kW (o:BinOp) (t:TypeId) (z:Nat) (c x:Value) (k:Value→Prop):Prop:=Ab (Ag Tp o t (.tmp z) (.const c) x c) k
abbrev cW (W0:World) (m0:Inj Tp) (f:FuncId) (l:List Value) (A:AW) (K:Value→AW→Prop):Prop:=Wc Tp Ai W0 m0 f l A K
def AcR:Go.Shelf.Ren:=⟨fun | 129=>133 | 246=>103 | 283=>117 | 284=>118 | 285=>119 | 286=>120 | 317=>132 | 318=>134 | 319=>135 | 320=>136 | 337=>143 | 338=>144 | x=>x,fun | 0=>0 | 2=>2 | 3=>3 | 4=>4 | 5=>5 | 9=>9 | 20=>20 | 37=>33 | 46=>74 | 51=>30 | 53=>35 | 171=>158 | 173=>161 | 212=>171 | 213=>172 | 232=>188 | 233=>189 | x=>x,fun | 17=>1 | 18=>6 | 19=>7 | x=>x⟩
theorem CP:Go.Proofs.LaysM.n246 Tp AcR where
 mixed:=by kernel_rfl
 f129:=Tryz.func133.trans (congrArg some (by kernel_rfl))
 f246:=Tryz.func103.trans (congrArg some (by kernel_rfl))
 f283:=Tryz.func117.trans (congrArg some (by kernel_rfl))
 f284:=Tryz.func118.trans (congrArg some (by kernel_rfl))
 f285:=Tryz.func119.trans (congrArg some (by kernel_rfl))
 f286:=Tryz.func120.trans (congrArg some (by kernel_rfl))
 f317:=Tryz.func132.trans (congrArg some (by kernel_rfl))
 f318:=Tryz.func134.trans (congrArg some (by kernel_rfl))
 f319:=Tryz.func135.trans (congrArg some (by kernel_rfl))
 f320:=Tryz.func136.trans (congrArg some (by kernel_rfl))
 f337:=Tryz.func143.trans (congrArg some (by kernel_rfl))
 f338:=Tryz.func144.trans (congrArg some (by kernel_rfl))
 t0:=Tryz.underlying0
 a0:=Tryz.isAgg0
 z0:=Tryz.sizeOf0
 v0:=Tryz.zeroValue0
 t2:=Tryz.underlying2
 a2:=Tryz.isAgg2
 z2:=Tryz.sizeOf2
 v2:=Tryz.zeroValue2
 t3:=Tryz.underlying3
 a3:=Tryz.isAgg3
 z3:=Tryz.sizeOf3
 v3:=Tryz.zeroValue3
 t4:=Tryz.underlying4
 a4:=Tryz.isAgg4
 z4:=Tryz.sizeOf4
 v4:=Tryz.zeroValue4
 t5:=Tryz.underlying5
 a5:=Tryz.isAgg5
 z5:=Tryz.sizeOf5
 v5:=Tryz.zeroValue5
 t9:=Tryz.underlying9
 a9:=Tryz.isAgg9
 z9:=Tryz.sizeOf9
 v9:=Tryz.zeroValue9
 t20:=Tryz.underlying20
 a20:=Tryz.isAgg20
 z20:=Tryz.sizeOf20
 v20:=Tryz.zeroValue20
 t37:=Tryz.underlying33
 a37:=Tryz.isAgg33
 z37:=Tryz.sizeOf33
 v37:=Tryz.zeroValue33
 t46:=Tryz.underlying74
 a46:=Tryz.isAgg74
 z46:=Tryz.sizeOf74
 v46:=Tryz.zeroValue74
 t51:=Tryz.underlying30
 a51:=Tryz.isAgg30
 z51:=Tryz.sizeOf30
 v51:=Tryz.zeroValue30
 t53:=Tryz.underlying35
 a53:=Tryz.isAgg35
 z53:=Tryz.sizeOf35
 v53:=Tryz.zeroValue35
 t171:=Tryz.underlying158
 a171:=Tryz.isAgg158
 z171:=Tryz.sizeOf158
 v171:=Tryz.zeroValue158
 t173:=Tryz.underlying161
 a173:=Tryz.isAgg161
 z173:=Tryz.sizeOf161
 v173:=Tryz.zeroValue161
 t212:=Tryz.underlying171
 a212:=Tryz.isAgg171
 z212:=Tryz.sizeOf171
 v212:=Tryz.zeroValue171
 t213:=Tryz.underlying172
 a213:=Tryz.isAgg172
 z213:=Tryz.sizeOf172
 t232:=Tryz.underlying188
 a232:=Tryz.isAgg188
 z232:=Tryz.sizeOf188
 v232:=Tryz.zeroValue188
 t233:=Tryz.underlying189
 a233:=Tryz.isAgg189
 z233:=Tryz.sizeOf189
 v233:=Tryz.zeroValue189
 g17:=by kernel_rfl
 g18:=by kernel_rfl
 g19:=by kernel_rfl
 i0:=by kernel_rfl
 i2:=by kernel_rfl
 i3:=by kernel_rfl
 i4:=by kernel_rfl
 i5:=by kernel_rfl
 i9:=by kernel_rfl
 i20:=by kernel_rfl
 i37:=by kernel_rfl
 i46:=by kernel_rfl
 i51:=by kernel_rfl
 i53:=by kernel_rfl
 i171:=by kernel_rfl
 i173:=by kernel_rfl
 i212:=by kernel_rfl
 i232:=by kernel_rfl
 i233:=by kernel_rfl
 m17:=by kernel_rfl
 m18:=by kernel_rfl
 m19:=by kernel_rfl
end Go.Proofs.YtebidlpekphaoaaGreatDoor
namespace Go.Proofs.YtebidlpekphaoaaGreatDoor
open Go Go.Shelf Go.RowKit Go.Sort Go.Lib Go.Proofs
theorem Rn (w:World) (T:TypeId) (nd:Nat) (hs:nd≤24):Holds (fun (b:UInt8)=>Value.int .u8 (b.toNat:Int)) (w.alloc (.cells zeros24 T)) w.heap.size 0 (Array.replicate nd (0:UInt8)):=fun j hj=>by
 have hj':j < nd:=by simpa using hj
 refine ⟨?_,World.frozen?_alloc_new _ _ _ _⟩
 rw [World.cell?_alloc_new,zeros24_at _ (by omega),getElem!_pos _ j hj]
 simp
theorem Adb (w:World) (o:Obj) (dk:Array UInt8) (k:Nat):∃ os,(putRow (fun (b:UInt8)=>Value.int .u8 (b.toNat:Int)) (w.alloc o) w.heap.size 0 dk).drewN k=grow (w.drewN k) os:=by
 rw [alloc_eq_grow]
 obtain ⟨os',_,e⟩:=putRow_grow_new (fun (b:UInt8)=>Value.int .u8 (b.toNat:Int)) w #[o] w.heap.size 0 dk (Nat.le_refl _)
 exact ⟨os',by rw [e];rfl⟩
set_option maxHeartbeats 6400000 in
theorem Lm (u:Nat) (hu64:u < 18446744073709551616) (w:World) (htab:Lib.TabIs Tp w "internal/strconv.uint64pow10" .u64 Lib.pow10Tab):
  Calls Tp 104 #[.int .u64 u,.int .i64 10] w fun e w'=>e=.returned (.string ⟨(Lib.decDigits u).toArray⟩)∧∃ k os,w'=grow (w.drewN k) os:=by
 have mixed:=CP.mixed
 have t2:=CP.t2;have a2:=CP.a2;have z2:=CP.z2;have v2:=CP.v2
 have t3:=CP.t3;have a3:=CP.a3;have z3:=CP.z3;have v3:=CP.v3
 have t9:=CP.t9;have a9:=CP.a9;have z9:=CP.z9;have v9:=CP.v9
 have t4:=CP.t4;have a4:=CP.a4;have z4:=CP.z4;have v4:=CP.v4
 have t171:=CP.t171;have a171:=CP.a171;have z171:=CP.z171;have v171:=CP.v171
 have t0:=CP.t0;have a0:=CP.a0;have z0:=CP.z0;have v0:=CP.v0
 have t53:=CP.t53;have a53:=CP.a53;have z53:=CP.z53;have v53:=CP.v53
 have t37:=CP.t37;have a37:=CP.a37;have z37:=CP.z37;have v37:=CP.v37
 have t5:=CP.t5;have a5:=CP.a5;have z5:=CP.z5;have v5:=CP.v5
 have t173:=CP.t173;have a173:=CP.a173;have z173:=CP.z173;have v173:=CP.v173
 have e283:∀ args w,(callFunc 117 args).run Tp w=.ok (.enter 117 args) w:=enters_of CP.f283 (by kernel_rfl) rfl
 have e284:∀ args w,(callFunc 118 args).run Tp w=.ok (.enter 118 args) w:=enters_of CP.f284 (by kernel_rfl) rfl
 have e285:∀ args w,(callFunc 119 args).run Tp w=.ok (.enter 119 args) w:=enters_of CP.f285 (by kernel_rfl) rfl
 by_cases hs:u < 100
 ·have hw1:IntKind.i64.wrap (u:Int)=(u:Int):=Go.Abs.wrap_i64 (by omega) (by omega)
  go_enter Tryz.func104,Tryz.ntmps104
  go_wp2_with (go_at_fn 117;refine (Any.internal_strconv_small { CP with } u hs _).mono ?_;rintro e w' ⟨rfl,rfl⟩)
  go_ret
  exact ⟨rfl,0,#[],by simp [World.drewN_zero]⟩
 ·have hu1:1≤u:=by omega
  have hnd20:Lib.nDigits u≤20:=by have:=Lib.numDigits_eq u hu1 hu64;split at this <;> omega
  have hb3:Lib.nDigits u≤23:=by omega
  have hal:Tp.arrayLen 158=24:=by kernel_rfl
  have hsl1:∀ W,(Instr.sliceAt 158 (.pointer (some ⟨w.heap.size,0,none⟩)) none (some (.int .i64 (Lib.nDigits u:Int))) none).run Tp W=.ok (.slice (some ⟨w.heap.size,0,none⟩) (Lib.nDigits u) 24) W:=fun W=>by
   rw [run_sliceAt_array_h W 158 ⟨w.heap.size,0,none⟩ (by simp [Program.arrayLen,Program.elem,Tryz.underlying158]) .i64 (Lib.nDigits u:Int) (by omega) (by rw [hal];omega)]
   go_simp
  have hH0:=Rn w 158 (Lib.nDigits u) (by omega)
  have hfmt:=Any.internal_strconv_formatBase10 { CP with } w.heap.size 0 24 u (Array.replicate (Lib.nDigits u) 0) (w.alloc (.cells Lib.zeros24 158)) hH0 (by rw [Array.size_replicate];exact Lib.lt_pow_nDigits u) hu64 (by rw [Array.size_replicate];omega)
  rw [Array.size_replicate] at hfmt
  have HH0:=Lib.hid hH0
  clear hH0 hal
  go_enter Tryz.func104,Tryz.ntmps104
  go_wp2_with (first
   | (go_at_fn 118;refine (Any.internal_strconv_numDigits { CP with } u hu1 hu64 _ (Lib.tabIs_alloc htab _)).mono ?_;rintro e w' ⟨rfl,rfl⟩))
  go_at_fn 119
  refine hfmt.mono ?_
  rintro e w' ⟨rfl,k,v',dk,rfl,hF⟩
  have hcv:(convert 33 9 (.slice (some ⟨w.heap.size,0,none⟩) (Lib.nDigits u) 24)).run Tp ((putRow (fun (b:UInt8)=>Value.int .u8 (b.toNat:Int)) (w.alloc (.cells Lib.zeros24 158)) w.heap.size 0 dk).drewN k)=.ok (.string ⟨(Lib.decDigits u).toArray⟩) ((putRow (fun (b:UInt8)=>Value.int .u8 (b.toNat:Int)) (w.alloc (.cells Lib.zeros24 158)) w.heap.size 0 dk).drewN k):=by
   have h:=run_convert_bytes_back (P:=Tp) ((putRow (fun (b:UInt8)=>Value.int .u8 (b.toNat:Int)) (w.alloc (.cells Lib.zeros24 158)) w.heap.size 0 dk).drewN k) 33 9 5 ⟨w.heap.size,0,none⟩ 24 (Lib.decDigits u) CP.t37 CP.t5 CP.t9 (fun j hj=>by
    rw [Lib.row_is_numeral hF j hj,Lib.add_plain,World.cell?_drewN]
    exact cell?_putRow (fun (b:UInt8)=>Value.int .u8 (b.toNat:Int)) _ w.heap.size 0 _ dk HH0.out (by rw [hF.size,Array.size_replicate]) j (by rw [hF.size];rw [Lib.decDigits_length] at hj;exact hj))
   rw [Lib.decDigits_length] at h
   exact h
  go_wp2
  go_ret
  obtain ⟨os,eo⟩:=Adb w (.cells Lib.zeros24 158) dk k
  exact ⟨rfl,k,os,eo⟩
end Go.Proofs.YtebidlpekphaoaaGreatDoor
namespace Go.Proofs.YtebidlpekphaoaaGreatDoor
open Go.Abs
def Pow (W:World):Prop:=Lib.TabIs Tp W "internal/strconv.uint64pow10" .u64 Lib.pow10Tab
theorem Pow.grow {W W':World} (h:Pow W) (hb:Go.RowKit.Below W.heap.size W W'):Pow W':=by
 unfold Pow Lib.TabIs World.var? at *
 have hg:Tp.globalNamed "internal/strconv.uint64pow10"=some 1:=by kernel_rfl
 rw [hg] at h ⊢
 simp only [Option.bind_some] at h ⊢
 have hlt:1 < W.heap.size:=by
  rcases Nat.lt_or_ge 1 W.heap.size with h' | h'
  ·exact h'
  ·rw [Array.getElem?_eq_none h'] at h;simp at h
 rw [hb.block 1 hlt]
 exact h
theorem Ra (w:World) (k:Nat) (os:Array Obj):Low w (Go.Sort.grow (w.drewN k) os):=by
 refine ⟨⟨rfl,rfl,rfl,?_,fun i hi=>?_⟩,?_⟩
 ·simp [Go.Sort.grow,World.drewN]
 ·show (w.heap++os)[i]? =w.heap[i]?
  rw [Array.getElem?_append_left hi]
 ·simp [Go.Sort.grow,World.drewN]
theorem Rc {W0:World} {m0:Inj Tp} {g:FuncId} {k1 k2:IntKind} {n1 n2:Int} {s:ByteArray} (h:∀ w,Pow w→Calls Tp g #[.int k1 n1,.int k2 n2] w fun e w'=>e=.returned (.string s)∧∃ k os,w'=Go.Sort.grow (w.drewN k) os) (hp:Pow W0) {A:AW} {K:Value→AW→Prop} (hk:K (.string s) A):
  AbN Tp W0 m0 g [.int k1 n1,.int k2 n2] A K:=by
 intro m w args' hr _ hb ha
 cases ha with
 | cons h1 h2=>
  cases h2 with
  | cons h3 h4=>
   cases h4
   cases h1
   cases h3
   refine (h w (hp.grow hb)).mono ?_
   rintro e w' ⟨rfl,k,os,rfl⟩
   exact ⟨_,_,m,A,hk,rfl,.string _,EvL.grow hr (Ra w k os) _⟩
theorem Fp {n:Nat} (h:n < 10):Lib.decDigits n=[UInt8.ofNat (48+n)]:=by
 rw [Lib.decDigits,dif_pos h]
theorem HL {n:Nat} (h:¬ n < 10):Lib.decDigits n=Lib.decDigits (n / 10)++[UInt8.ofNat (48+n % 10)]:=by
 rw [Lib.decDigits,dif_neg h]
theorem FK {n:Nat} (h:n < 18446744073709551616):(Lib.decDigits n).length≤20:=by
 rw [Lib.decDigits_length]
 rcases Nat.eq_zero_or_pos n with rfl | h1
 ·rw [← Lib.decDigits_length,Fp (by decide)];decide
 ·have:=Lib.numDigits_eq n h1 h
  have h3:=this.2
  have h4:=this.1
  split at h4 <;> omega
theorem P8 (A:AW) (n:Int) (k:IntKind):AD Tp A 35 5 (.int k n)=.ok (.int .u8 (IntKind.u8.wrap n)) A:=by kernel_rfl
theorem P7 (A:AW) (n:Int) (k:IntKind):AD Tp A 3 35 (.int k n)=.ok (.int .u64 (IntKind.u64.wrap n)) A:=by kernel_rfl
theorem T0 (A:AW) (n:Int) (k:IntKind):AD Tp A 5 35 (.int k n)=.ok (.int .u64 (IntKind.u64.wrap n)) A:=by kernel_rfl
theorem wrap_u64 {n:Int} (h1:0≤n) (h2:n < 18446744073709551616):IntKind.u64.wrap n=n:=by
 simp [IntKind.wrap,IntKind.bits,IntKind.signed]
 omega
theorem YY {k:IntKind} {n:Int}:unA Tp .neg (.int k n)=some (.int k (k.wrap (-n))):=by simp [unA,AB,Op.unary,Op.intArith,quiet,Dl,pure]
section
variable {W0:World} {m0:Inj Tp}
theorem Uc {u:Nat} {A:AW} {K:Value→AW→Prop} (hp:Pow W0) (hu:u < 18446744073709551616) (hk:K (.string ⟨⟨Lib.decDigits u⟩⟩) A):Wc Tp Ai W0 m0 79 [.int .u64 (u:Int),.int .i64 10] A K:=by
 refine w79 _ _ _ (At (S:=fun _ _ _=>False) fun _ _ _ h=>h) ?_
 rw [e79]
 exact .inr (Rc (s:=⟨⟨Lib.decDigits u⟩⟩) (fun w hw=>Lm u hu w hw) hp hk)
theorem AbZ {n:Int} {A:AW} {K:Value→AW→Prop} (hp:Pow W0) (h0: -9223372036854775808≤n) (h1:n≤9223372036854775807) (hk:K (.string ⟨⟨Lib.itoa n⟩⟩) A):Wc Tp Ai W0 m0 78 [.int .i64 n,.int .i64 10] A K:=by
 refine w78 _ _ _ (At (S:=fun _ _ _=>False) fun _ _ _ h=>h) ?_
 rw [e78]
 exact .inr (Rc (s:=⟨⟨Lib.itoa n⟩⟩) (fun w hw=>Any.internal_strconv_FormatInt_10 CP n h0 h1 w hw) hp hk)
theorem Qt {n:Int} {A:AW} {K:Value→AW→Prop} (hp:Pow W0) (h0: -9223372036854775808≤n) (h1:n≤9223372036854775807) (hk:K (.string ⟨⟨Lib.itoa n⟩⟩) A):Wc Tp Ai W0 m0 46 [.int .i64 n] A K:=by
 refine w46 _ _ (At (S:=fun _ _ _=>False) fun _ _ _ h=>h) ?_
 rw [e46]
 simp only [BD,Ad,Av]
 refine ⟨fun h=>AbZ hp h0 h1 hk,fun h=>?_⟩
 obtain ⟨u,rfl⟩:∃ u:Nat,n=(u:Int):=⟨n.toNat,by omega⟩
 rw [P7,wrap_u64 (by omega) (by omega)]
 rw [Lib.itoa_nonneg] at hk
 exact Bi.2 (Uc hp (by omega) hk)
theorem Jj {u:Nat} {A:AW} {K:Value→AW→Prop} (hp:Pow W0) (hu:u < 256) (hk:K (.string ⟨⟨Lib.decDigits u⟩⟩) A):Wc Tp Ai W0 m0 47 [.int .u8 (u:Int)] A K:=by
 refine w47 _ _ (At (S:=fun _ _ _=>False) fun _ _ _ h=>h) ?_
 rw [e47]
 simp only [BD,Ad,Av]
 refine ⟨fun h=>absurd h (by omega),fun _=>?_⟩
 rw [T0,wrap_u64 (by omega) (by omega)]
 exact Bi.2 (Uc hp (by omega) hk)
theorem Aaa {u:Nat} {A:AW} {K:Value→AW→Prop} (hp:Pow W0) (hu:u < 18446744073709551616) (hk:K (.string ⟨⟨Lib.decDigits u⟩⟩) A):Wc Tp Ai W0 m0 48 [.int .u64 (u:Int)] A K:=by
 refine w48 _ _ (At (S:=fun _ _ _=>False) fun _ _ _ h=>h) ?_
 rw [e48]
 simp only [BD,Ad,Av]
 exact ⟨fun h=>absurd h (by omega),fun _=>Uc hp hu hk⟩
theorem Ps {u:Nat} {A:AW} {K:Value→AW→Prop} (hu:u < 18446744073709551616) (hf:AJ A) (hA:A.next+100 < Al) (hk:∀ A',Grow A A' 25→K (.string ⟨⟨Lib.decDigits u⟩⟩) A'):Wc Tp Ai W0 m0 31 [.int .u64 (u:Int)] A K:=by
 have h20:=FK hu
 let I:Nat→Nat→List Value→AW→Prop:=fun g id vals A'=>id=0∧∃ (n:Nat) (l:List UInt8),vals=[.int .u64 (n:Int),.string ⟨⟨l⟩⟩]∧n≤u∧Lib.decDigits u=Lib.decDigits n++l∧Grow A A' l.length∧g=n
 refine w31 _ _ (c31 (I:=I) ?_) ?_
 ·rintro g id vals A' d ⟨rfl,n,l,rfl,hn,he,gr,hg⟩ hd
  rw [Abd]
  simp only [L31,List.map_cons,List.map_nil,List.cons.injEq,and_true] at hd
  obtain ⟨d0,d3⟩:=hd
  have hl:l.length≤20:=by
   have:=congrArg List.length he
   rw [List.length_append] at this;omega
  have nx:=gr.next
  simp only [d0,d3,Ej,Ad,Av]
  refine ⟨fun hlt=>?_,fun hge=>?_⟩
  ·have hlt:¬ n < 10:=by omega
   have h1:Ag Tp .rem 35 (.tmp 8) (.const (.int .u64 10)) (.int .u64 (n:Int)) (.int .u64 10)=some (.int .u64 ((n % 10:Nat):Int)):=by
    rw [Qe (by decide),Int.tmod_eq_emod_of_nonneg (by omega)];rfl
   have h2:IntKind.u8.wrap (48+((n % 10:Nat):Int))=((UInt8.ofNat (48+n % 10)).toNat:Int):=by
    rw [wrap_u8,UInt8.toNat_ofNat'];omega
   have h3:∀ xo yo,Ag Tp .quo 35 xo yo (.int .u64 (n:Int)) (.int .u64 10)=some (.int .u64 ((n / 10:Nat):Int)):=fun xo yo=>by
    rw [Qf (by decide),Int.tdiv_eq_ediv_of_nonneg (by omega),wrap_u64 (by omega) (by omega)];rfl
   have h1:∀ xo yo,Ag Tp .rem 35 xo yo (.int .u64 (n:Int)) (.int .u64 10)=some (.int .u64 ((n % 10:Nat):Int)):=fun xo yo=>by
    rw [Qe (by decide),Int.tmod_eq_emod_of_nonneg (by omega)];rfl
   simp only [h1,h3,AU,Ad,wrap_u64 (show (0:Int)≤48+((n % 10:Nat):Int) by omega) (by omega),P8,h2,Bi]
   refine Sz gr.AG (by omega) fun A2 m2=>?_
   have hs:AD Tp A2 33 9 (.slice (some ⟨A'.next,0,none⟩) 1 1)=.ok (.string ⟨⟨[UInt8.ofNat (48+n % 10)]⟩⟩) A2:=(Made.rdB (c:=1) m2).str E6
   rw [hs]
   refine Bi.2 ?_
   rw [Is (by show 1+l.length < _;omega)]
   simp only [Ad]
   refine Aq.2 ⟨n / 10,by omega,rfl,n / 10,[UInt8.ofNat (48+n % 10)]++l,rfl,by omega,?_,(gr.trans (.made m2 gr.AG)).more (by simp),rfl⟩
   rw [he,HL hlt,List.append_assoc]
  ·have hlt:n < 10:=by omega
   have h2:IntKind.u8.wrap (48+(n:Int))=((UInt8.ofNat (48+n)).toNat:Int):=by
    rw [wrap_u8,UInt8.toNat_ofNat'];omega
   simp only [AU,Ad,wrap_u64 (show (0:Int)≤48+(n:Int) by omega) (by omega),P8,h2,Bi]
   refine Sz gr.AG (by omega) fun A2 m2=>?_
   have hs:AD Tp A2 33 9 (.slice (some ⟨A'.next,0,none⟩) 1 1)=.ok (.string ⟨⟨[UInt8.ofNat (48+n)]⟩⟩) A2:=(Made.rdB (c:=1) m2).str E6
   rw [hs]
   refine Bi.2 ?_
   rw [Is (by show 1+l.length < _;omega)]
   simp only [Ad]
   have:=hk A2 ((gr.trans (.made m2 gr.AG)).more (by omega))
   rw [he,Fp hlt] at this
   exact this
 ·rw [e31]
  exact Aq.2 ⟨u,rfl,u,[],rfl,Nat.le_refl _,by simp,Grow.refl hf,rfl⟩
theorem Aaf {n:Int} {A:AW} {K:Value→AW→Prop} (h0: -9223372036854775808≤n) (h1:n≤9223372036854775807) (hf:AJ A) (hA:A.next+100 < Al) (hk:∀ A',Grow A A' 25→K (.string ⟨⟨Lib.itoa n⟩⟩) A'):Wc Tp Ai W0 m0 32 [.int .i64 n] A K:=by
 refine w32 _ _ (At (S:=fun _ _ _=>False) fun _ _ _ h=>h) ?_
 rw [e32]
 simp only [BD,Ad,Av]
 refine ⟨fun h=>?_,fun h=>?_⟩
 ·obtain ⟨u,hu⟩:∃ u:Nat,n= -((u:Int)+1):=⟨(-n - 1).toNat,by omega⟩
  subst hu
  simp only [AU,Ad,YY]
  rw [wrap_i64 (n:= -((u:Int)+1)+1) (by omega) (by omega),wrap_i64 (by omega) (by omega),P7,wrap_u64 (by omega) (by omega)]
  refine Bi.2 ?_
  simp only [AU,Ad]
  rw [wrap_u64 (by omega) (by omega)]
  have e:(-(-((u:Int)+1)+1)+1)=((u+1:Nat):Int):=by omega
  rw [e]
  refine Ps (by omega) hf hA fun A2 g2=>?_
  have h20:(Lib.decDigits (u+1)).length≤20:=FK (by omega)
  rw [Is (by show 1+(Lib.decDigits (u+1)).length < _;omega)]
  simp only [Ad]
  have:=hk A2 g2
  rw [show -((u:Int)+1)= -((u+1:Nat):Int) by omega,Lib.itoa_neg _ (by omega)] at this
  exact this
 ·obtain ⟨u,rfl⟩:∃ u:Nat,n=(u:Int):=⟨n.toNat,by omega⟩
  rw [P7,wrap_u64 (by omega) (by omega)]
  rw [Lib.itoa_nonneg] at hk
  exact Bi.2 (Ps (by omega) hf hA hk)
end
theorem TX (b o:Nat):Ac Tp 32 (.pointer (some ⟨b,o,none⟩)) 0=some (.pointer (some ⟨b,o,none⟩)):=by kernel_rfl
theorem ML (b o:Nat):Ac Tp 32 (.pointer (some ⟨b,o,none⟩)) 1=some (.pointer (some ⟨b,o+1,none⟩)):=by kernel_rfl
theorem MK (b o:Nat):Ac Tp 32 (.pointer (some ⟨b,o,none⟩)) 2=some (.pointer (some ⟨b,o+2,none⟩)):=by kernel_rfl
theorem TV (b o:Nat):Ac Tp 54 (.pointer (some ⟨b,o,none⟩)) 0=some (.pointer (some ⟨b,o,none⟩)):=by kernel_rfl
theorem PZ (b o:Nat):Ac Tp 54 (.pointer (some ⟨b,o,none⟩)) 1=some (.pointer (some ⟨b,o+1,none⟩)):=by kernel_rfl
theorem Xx (A:AW) (a:Addr):Au Tp A 4 (.pointer (some a))=A.cell? a:=by kernel_rfl
theorem Wj (A:AW) (a:Addr):Au Tp A 30 (.pointer (some a))=A.cell? a:=by kernel_rfl
theorem Wi (A:AW) (a:Addr):Au Tp A 32 (.pointer (some a))=(match A.cells? a 3 with | some l=>some (.agg ⟨l⟩) | none=>none):=by kernel_rfl
theorem Wh (A:AW) (a:Addr):Au Tp A 35 (.pointer (some a))=A.cell? a:=by kernel_rfl
theorem Wp (b o n c i:Nat) (k:IntKind):Ao Tp 56 (.slice (some ⟨b,o,none⟩) n c) (.int k (.ofNat i))=(bif Nat.blt i n then some (.pointer (some (EC ⟨b,o,none⟩ (i * 1)))) else none):=by kernel_rfl
theorem Ys (A:AW) (a:Option Addr) (n c:Nat):Bm Tp A 56 (.slice a n c)=some (.int .i64 n):=by kernel_rfl
theorem N0 (A:AW) (n:Int) (k:IntKind):AD Tp A 30 35 (.int k n)=.ok (.int .u64 (IntKind.u64.wrap n)) A:=by kernel_rfl
end Go.Proofs.YtebidlpekphaoaaGreatDoor
namespace Go.Abs
structure SIt (A:AW) (it:Nat) (s:ByteArray) (pos:Nat):Prop where
 get:A.get it=some (.sit s pos)
 lt:it < A.next
theorem SIt.keeps {A A':AW} {it:Nat} {s:ByteArray} {pos:Nat} {S:List Nat} (h:SIt A it s pos) (k:Aw A A' S) (hn:it∉S):SIt A' it s pos:=⟨k.get it _ h.get h.lt hn,Nat.lt_of_lt_of_le h.lt k.next⟩
section
variable {P:Program} {X:Bl} {W0:World} {m0:Inj P}
theorem QD {t:TypeId} (hu:P.underlying t=some .string) {s:ByteArray} {A:AW} (hf:AJ A) (hA:A.next < Al) {K:Value→AW→Prop}
  (hk:∀ A',SIt A' A.next s 0→Aw A A' []→A'.next=A.next+1→AJ A'→K (.pointer (some ⟨A.next,0,none⟩)) A'):anW P X W0 m0 (JX P A t (.string s)) K:=by
 unfold JX AW.new
 simp only [hu,AA.2 hA,cond_true]
 exact .inl ⟨_,_,rfl,hk (A.push (.sit s 0)) ⟨by rw [AW.Cz _ hA,if_pos rfl],by rw [AW.CC];omega⟩ ((AW.Df _ hA).keeps hf) rfl (hf.push _ hA)⟩
theorem Xu {A:AW} {it:Nat} {s:ByteArray} {pos p2:Nat} (h:SIt A it s pos) (hf:AJ A) (hA:A.next≤Al):SIt (A.put it (.sit s p2)) it s p2∧Aw A (A.put it (.sit s p2)) [it]∧(A.put it (.sit s p2)).next=A.next∧AJ (A.put it (.sit s p2)):=by
 have hlt:=h.lt
 have hg:∀ i,(A.put it (.sit s p2)).get i=if i=it then some (.sit s p2) else A.get i:=fun i=>AW.Dr A it i _ (by omega)
 refine ⟨⟨by rw [hg,if_pos rfl],h.lt⟩,⟨Nat.le_refl _,fun i o hi _ hn=>?_,fun f _ _=>rfl⟩,rfl,⟨fun i hi=>hf.fams i hi,fun i hi=>?_⟩⟩
 ·rw [hg,if_neg (fun e=>?_)]
  ·exact hi
  ·subst e
   rw [h.get] at hi
   cases hi
   exact hn (by simp [TT])
 ·have hi:A.next≤i:=hi
  rw [hg,if_neg (by omega)]
  exact hf.get i hi
theorem SIt.next {A:AW} {it:Nat} {s:ByteArray} {pos:Nat} (h:SIt A it s pos) (hf:AJ A) (hA:A.next≤Al) {K:Value→AW→Prop}
  (hmore:pos < s.data.toList.length→∀ A',SIt A' it s (pos+(Utf8.decode s pos).2)→Aw A A' [it]→A'.next=A.next→AJ A'→K (.tuple #[.bool true,.int .i64 (pos:Int),.int .i32 ((Utf8.decode s pos).1:Int)]) A')
  (hdone:s.data.toList.length≤pos→K (.tuple #[.bool false]) A):anW P X W0 m0 (Ik A (.pointer (some ⟨it,0,none⟩)) true) K:=by
 rcases Nat.lt_or_ge pos s.data.toList.length with hp | hp
 ·refine .inl ⟨.tuple #[.bool true,.int .i64 (pos:Int),.int .i32 ((Utf8.decode s pos).1:Int)],A.put it (.sit s (pos+(Utf8.decode s pos).2)),?_,?_⟩
  ·unfold Ik
   simp only [h.get,AA.2 hp,cond_true]
  ·obtain ⟨a1,a2,a3,a4⟩:=Xu (p2:=pos+(Utf8.decode s pos).2) h hf hA
   exact hmore hp _ a1 a2 a3 a4
 ·refine .inl ⟨.tuple #[.bool false],A,?_,hdone hp⟩
  unfold Ik
  simp only [h.get,EK.2 hp,cond_false]
end
end Go.Abs
namespace Go.Proofs.YtebidlpekphaoaaGreatDoor
open Go.Abs
def Hk (l:List UInt8):List UInt8:=l.flatMap fun b=>[37,CQ (b.toNat / 16),CQ (b.toNat % 16)]
theorem VX (a b:List UInt8):Hk (a++b)=Hk a++Hk b:=List.flatMap_append
theorem QY (l:List UInt8):(Hk l).length=3 * l.length:=by
 induction l with
 | nil=>rfl
 | cons b l ih=>
  rw [show Hk (b::l)=[37,CQ (b.toNat / 16),CQ (b.toNat % 16)]++Hk l from by simp [Hk],List.length_append,ih]
  simp only [List.length_cons,List.length_nil]
  omega
theorem QZ:∀ {l:List UInt8},(∀ b∈l,CO b=false)→Hk l=DB l
 | [],_=>rfl
 | b::l,h=>by
  rw [show Hk (b::l)=[37,CQ (b.toNat / 16),CQ (b.toNat % 16)]++Hk l from by simp [Hk],show DB (b::l)=IT b++DB l from by simp [DB],QZ (fun c hc=>h c (List.mem_cons_of_mem _ hc))]
  unfold IT
  rw [h b List.mem_cons_self,if_neg (by decide)]
noncomputable def WN (n:Nat):Bool:=match Ag Tp .shr 5 (.tmp 0) (.tmp 0) (.int .u8 (n:Int)) (.int .u64 4) with
 | some (.int .u8 k)=>decide (k=((n / 16:Nat):Int))
 | _=>false
theorem Ta:((List.range 256).all WN)=true:=by kernel_rfl
theorem AaF (b:UInt8) (xo yo:Operand):Ag Tp .shr 5 xo yo (.int .u8 (b.toNat:Int)) (.int .u64 4)=some (.int .u8 ((b.toNat / 16:Nat):Int)):=by
 have h:=List.all_eq_true.1 Ta b.toNat (List.mem_range.2 b.toNat_lt)
 unfold WN at h
 show Ag Tp .shr 5 (.tmp 0) (.tmp 0) (.int .u8 (b.toNat:Int)) (.int .u64 4)=_
 split at h
 ·rename_i k hk
  rw [hk,of_decide_eq_true h]
 ·cases h
noncomputable def WQ (n:Nat):Bool:=match Ag Tp .and 5 (.tmp 0) (.tmp 0) (.int .u8 (n:Int)) (.int .u8 15) with
 | some (.int .u8 k)=>decide (k=((n % 16:Nat):Int))
 | _=>false
theorem Tc:((List.range 256).all WQ)=true:=by kernel_rfl
theorem YG (b:UInt8) (xo yo:Operand):Ag Tp .and 5 xo yo (.int .u8 (b.toNat:Int)) (.int .u8 15)=some (.int .u8 ((b.toNat % 16:Nat):Int)):=by
 have h:=List.all_eq_true.1 Tc b.toNat (List.mem_range.2 b.toNat_lt)
 unfold WQ at h
 show Ag Tp .and 5 (.tmp 0) (.tmp 0) (.int .u8 (b.toNat:Int)) (.int .u8 15)=_
 split at h
 ·rename_i k hk
  rw [hk,of_decide_eq_true h]
 ·cases h
section
variable {W0:World} {m0:Inj Tp}
theorem Acp {s:ByteArray} {ps pf q fr to:Nat} {l:List UInt8} {F:List Nat} {A:AW} {K:Value→AW→Prop} (hs:Go.Abs.AQ A ps [.string s] 9) (hfm:Go.Abs.AQ A pf [.int .i64 (fr:Int)] 3) (h:BB A q l F) (hd1:pf≠q) (hd2:pf∉F) (h1:fr≤to) (h2:to≤s.data.toList.length) (hlen:s.data.toList.length < 100000000)
  (hl:l.length+3 * (to - fr) < 1000000000) (hf:AJ A) (hA:A.next+10+6 * (to - fr) < Al)
  (hk:∀ A' F',Go.Abs.AQ A' pf [.int .i64 (to:Int)] 3→BB A' q (l++Hk ((s.data.toList.take to).drop fr)) F'→(∀ x∈F',x∈F∨A.next≤x)→Aw A A' (pf::q::F)→A'.next≤A.next+1+6 * (to - fr)→AJ A'→K (.tuple ⟨[]⟩) A'):
  Wc Tp Ai W0 m0 20 [.int .i64 (to:Int),.pointer (some ⟨ps,0,none⟩),.pointer (some ⟨pf,0,none⟩),.pointer (some ⟨q,0,none⟩)] A K:=by
 obtain ⟨sg,hsg⟩:∃ sg,(s.data.toList.take to).drop fr=sg:=⟨_,rfl⟩
 have hsl:sg.length=to - fr:=by rw [← hsg,List.length_drop,List.length_take,Nat.min_eq_left h2]
 rw [hsg] at hk
 have hpl:=hfm.lt
 have hql:=h.lt
 let I:Nat→Nat→List Value→AW→Prop:=fun g id vals A'=>id=0∧∃ (i:Nat) (sv:Value) (F':List Nat) (A1:AW),vals=[.int .i64 (to:Int),.pointer (some ⟨pf,0,none⟩),.pointer (some ⟨q,0,none⟩),sv,.int .i64 (sg.length:Int),.int .i64 (i:Int)]∧i≤sg.length∧
  RdB A' sv sg [A.next]∧Aw A A1 []∧A1.next=A.next+1∧BB A' q (l++Hk (sg.take i)) F'∧(∀ x∈F',x∈F∨A1.next≤x)∧Aw A1 A' (q::F)∧A'.next≤A1.next+6 * i∧AJ A'∧g=sg.length - i
 refine w20 _ _ _ _ _ (c20 (I:=I) ?_) ?_
 ·rintro g id vals A' d ⟨rfl,i,sv,F',A1,rfl,hi,rd,k1,n1,hB,hF',k,nx,f,rfl⟩ hd
  rw [Abg]
  simp only [L20,List.map_cons,List.map_nil,List.cons.injEq,and_true] at hd
  obtain ⟨d0,d2,d3,d11,d12,d13⟩:=hd
  have hle:=k.next
  simp only [d0,d2,d3,d11,d12,d13,BD,Ad,Av]
  refine ⟨fun hlt=>?_,fun hge=>?_⟩
  ·have hlt:i < sg.length:=by omega
   have hp:=List.getElem?_eq_getElem hlt
   generalize hbb:sg[i]=b at hp
   have hb:=b.toNat_lt
   obtain ⟨a,a1,a2⟩:=rd.at E6 hp
   simp only [a1,a2,Ad]
   have hpl':(l++Hk (sg.take i)).length < 900000000+100000000:=by
    rw [List.length_append,QY,List.length_take];omega
   have h37:(37:Int)=((37:UInt8).toNat:Int):=rfl
   have hdig:(Value.string ⟨⟨[48,49,50,51,52,53,54,55,56,57,97,98,99,100,101,102]⟩⟩)=.string Lv:=rfl
   have hl1:(l++Hk (sg.take i)).length+3 < 1000000000:=by
    rw [List.length_append,QY,List.length_take];omega
   rw [hdig,h37]
   refine Vm (b:=37) hB (by omega) f (by omega) fun A2 F2 hB2 hF2 k2 n2 f2=>?_
   have l2:=k2.next
   simp only [AaF,ixd (k:=.u8) (show b.toNat / 16 < 16 by omega),Ad]
   refine Vm hB2 (by rw [List.length_append];show _+1 < _;omega) f2 (by omega) fun A3 F3 hB3 hF3 k3 n3 f3=>?_
   have l3:=k3.next
   simp only [YG,ixd (k:=.u8) (show b.toNat % 16 < 16 by omega),Ad]
   refine Vm hB3 (by rw [List.length_append,List.length_append];show _+1+1 < _;omega) f3 (by omega) fun A4 F4 hB4 hF4 k4 n4 f4=>?_
   simp only [AU,Ad]
   have hi1:IntKind.i64.wrap ((i:Int)+1)=((i+1:Nat):Int):=wrap_i64 (by omega) (by omega)
   rw [hi1]
   have fr2:∀ x∈F2,x∈F∨A1.next≤x:=fun x hx=>by
    rcases hF2 x hx with h | h
    ·exact hF' x h
    ·exact .inr (by omega)
   have fr3:∀ x∈F3,x∈F∨A1.next≤x:=fun x hx=>by
    rcases hF3 x hx with h | h
    ·exact fr2 x h
    ·exact .inr (by omega)
   have fr4:∀ x∈F4,x∈F∨A1.next≤x:=fun x hx=>by
    rcases hF4 x hx with h | h
    ·exact fr3 x h
    ·exact .inr (by omega)
   have up:∀ {G:List Nat},(∀ x∈G,x∈F∨A1.next≤x)→∀ x∈q::G,x∈q::F∨A1.next≤x:=fun hG x hx=>by
    rcases List.mem_cons.1 hx with h | h
    ·exact .inl (by rw [h];exact List.mem_cons_self)
    ·rcases hG x h with h | h
     ·exact .inl (List.mem_cons_of_mem _ h)
     ·exact .inr h
   have K2:Aw A1 A2 (q::F):=k.trans k2 (up hF')
   have K3:Aw A1 A3 (q::F):=K2.trans k3 (up fr2)
   have K4:Aw A1 A4 (q::F):=K3.trans k4 (up fr3)
   have hnot:∀ {G:List Nat},(∀ x∈G,x∈F∨A1.next≤x)→∀ x∈[A.next],x∉q::G:=fun hG x hx hm=>by
    have hx:x=A.next:=by simpa using hx
    subst hx
    rcases List.mem_cons.1 hm with h | h
    ·omega
    ·rcases hG _ h with h | h
     ·have:=hql.2 _ h;omega
     ·omega
   refine Aq.2 ⟨sg.length - (i+1),by omega,rfl,i+1,sv,F4,A1,rfl,by omega,((rd.keeps k2 (hnot hF')).keeps k3 (hnot fr2)).keeps k4 (hnot fr3),k1,n1,?_,fr4,K4,by omega,f4,rfl⟩
   have e:Hk (sg.take (i+1))=Hk (sg.take i)++[37,CQ (b.toNat / 16),CQ (b.toNat % 16)]:=by
    rw [BH hp,VX];simp [Hk]
   rw [e]
   simpa using hB4
  ·have hil:i=sg.length:=by omega
   subst hil
   rw [List.take_length] at hB
   have hfm1:=(hfm.keeps k1 (by simp)).keeps k (by
    intro hm
    rcases List.mem_cons.1 hm with h | h
    ·exact hd1 h
    ·exact hd2 h)
   refine hfm1.store f (by omega) (M0 _ _ _) rfl (by simp) rfl fun A3 r3 k3 n3 f3=>?_
   have hpF:pf∉F':=fun hm=>by
    rcases hF' _ hm with h | h
    ·exact hd2 h
    ·omega
   refine hk A3 F' r3 (hB.keeps k3 (by simp;exact fun e=>hd1 e.symm) (fun x hx=>by simp;exact fun e=>hpF (e▸hx))) (fun x hx=>?_) ?_ (by omega) f3
   ·rcases hF' x hx with h | h
    ·exact .inl h
    ·exact .inr (by omega)
   ·exact (((k1.more (T:=q::F) (by simp)).trans k (fun x hx=>.inl hx)).more (T:=pf::q::F) fun x hx=>.inl (List.mem_cons_of_mem _ hx)).trans k3 fun x hx=>.inl (by rw [List.mem_singleton.1 hx];exact List.mem_cons_self)
 ·rw [e20]
  simp only [FH,Zw,Ay hs.row,Ay hfm.row,cellOf,isTuple,cond_false,Ad,sl9 h1 h2,hsg]
  refine Xl hf (by omega) fun A1 m1=>?_
  have n1:=m1.next
  have k1:=m1.keeps hf
  have rd:=Made.rdB (l:=sg) (c:=Bu+sg.length) m1
  show Ab (Bm Tp A1 33 (.slice (some ⟨A.next,0,none⟩) sg.length (Bu+sg.length))) _
  rw [JB]
  simp only [Ad]
  refine Aq.2 ⟨sg.length,rfl,0,_,F,A1,rfl,by omega,rd,k1,n1,?_,fun x hx=>.inl hx,.refl _ _,by omega,m1.AG,rfl⟩
  rw [List.take_zero,show Hk []=[] from rfl,List.append_nil]
  exact h.keeps k1 (by simp) (by simp)
end
theorem RU:Dv Tp 70=some (.agg #[.pointer none,.slice none 0 0]):=by kernel_rfl
theorem ZZ:Dv Tp 3=some (.int .i64 0):=by kernel_rfl
theorem AbB (a b c:Value):Bt (.tuple #[a,b,c]) 0=some a:=rfl
theorem AbA (a b c:Value):Bt (.tuple #[a,b,c]) 1=some b:=rfl
theorem Abz (a b c:Value):Bt (.tuple #[a,b,c]) 2=some c:=rfl
theorem AbC (a:Value):Bt (.tuple #[a]) 0=some a:=rfl
theorem TY {l:List UInt8} {fr to:Nat} (h1:fr≤to) (h:∀ j (hj:j < l.length),fr≤j→j < to→CO l[j]=false):DB (l.take fr)++Hk ((l.take to).drop fr)=DB (l.take to):=by
 rw [QZ,← NU]
 ·congr 1
  have:l.take fr=(l.take to).take fr:=by rw [List.take_take,Nat.min_eq_left h1]
  rw [this,List.take_append_drop]
 ·intro b hb
  obtain ⟨j,hj,e⟩:=List.getElem_of_mem hb
  rw [List.length_drop,List.length_take] at hj
  rw [List.getElem_drop,List.getElem_take] at e
  rw [← e]
  exact h (fr+j) (by omega) (by omega) (by omega)
section
variable {W0:World} {m0:Inj Tp}
theorem Yk {s:ByteArray} {ps pf q fr to:Nat} {l:List UInt8} {F:List Nat} {A:AW} {K:Value→AW→Prop} (hs:Go.Abs.AQ A ps [.string s] 9) (hfm:Go.Abs.AQ A pf [.int .i64 (fr:Int)] 3) (h:BB A q l F) (hd1:pf≠q) (hd2:pf∉F) (h1:fr≤to) (h2:to≤s.data.toList.length) (hlen:s.data.toList.length < 100000000)
  (hl:l.length+3 * (to - fr) < 1000000000) (hf:AJ A) (hA:A.next+10+6 * (to - fr) < Al)
  (hk:∀ A' F',Go.Abs.AQ A' pf [.int .i64 (to:Int)] 3→BB A' q (l++Hk ((s.data.toList.take to).drop fr)) F'→(∀ x∈F',x∈F∨A.next≤x)→Aw A A' (pf::q::F)→A'.next≤A.next+1+6 * (to - fr)→AJ A'→K (.tuple ⟨[]⟩) A'):
  anW Tp Ai W0 m0 (Fo Tp Ai A (.func (.func 20) ⟨[]⟩ ⟨[.pointer (some ⟨ps,0,none⟩),.pointer (some ⟨pf,0,none⟩),.pointer (some ⟨q,0,none⟩)]⟩) [.int .i64 (to:Int)]) K:=by
 have hd:Fo Tp Ai A (.func (.func 20) ⟨[]⟩ ⟨[.pointer (some ⟨ps,0,none⟩),.pointer (some ⟨pf,0,none⟩),.pointer (some ⟨q,0,none⟩)]⟩) [.int .i64 (to:Int)]=
   .ok (.enter 20 [.int .i64 (to:Int),.pointer (some ⟨ps,0,none⟩),.pointer (some ⟨pf,0,none⟩),.pointer (some ⟨q,0,none⟩)]) A:=by kernel_rfl
 rw [hd]
 exact .inr (.inl ⟨_,_,_,rfl,show Wc Tp Ai W0 m0 20 _ A K from Acp hs hfm h hd1 hd2 h1 h2 hlen hl hf hA hk⟩)
set_option maxHeartbeats 1000000 in
theorem wc8 {s:ByteArray} {A:AW} {K:Value→AW→Prop} (hl:s.data.toList.length < 100000000) (hf:AJ A) (hA:A.next+100+10 * s.data.toList.length < Al) (hk:∀ A',Grow A A' (20+10 * s.data.toList.length)→K (.string ⟨⟨AY s.data.toList⟩⟩) A'):Wc Tp Ai W0 m0 8 [.string s] A K:=by
 let N:=s.data.toList.length
 have hN:N=s.data.toList.length:=rfl
 let I:Nat→Nat→List Value→AW→Prop:=fun g id vals A'=>id=0∧s.data.toList≠[]∧∃ (pos fr:Nat) (F:List Nat),vals=[.pointer (some ⟨A.next,0,none⟩),.pointer (some ⟨A.next+1,0,none⟩),.pointer (some ⟨A.next+2,0,none⟩),
   .func (.func 20) ⟨[]⟩ ⟨[.pointer (some ⟨A.next,0,none⟩),.pointer (some ⟨A.next+2,0,none⟩),.pointer (some ⟨A.next+1,0,none⟩)]⟩,.pointer (some ⟨A.next+3,0,none⟩)]∧
   fr≤pos∧pos≤N∧(∀ j (hj:j < s.data.toList.length),fr≤j→j < pos→CO s.data.toList[j]=false)∧Go.Abs.AQ A' A.next [.string s] 9∧Go.Abs.AQ A' (A.next+2) [.int .i64 (fr:Int)] 3∧BB A' (A.next+1) (DB (s.data.toList.take fr)) F∧(∀ x∈F,A.next+4≤x)∧
   SIt A' (A.next+3) s pos∧Aw A A' []∧A'.next≤A.next+4+3 * pos+6 * fr∧AJ A'∧g=N - pos
 refine w8 _ _ (c8 (I:=I) ?_) ?_
 ·rintro g id vals A' d ⟨rfl,hne,pos,fr,F,rfl,hfp,hpn,hnp,hs,hfm,hB,hF,hit,k,nx,f,rfl⟩ hd
  rw [AcX]
  simp only [L8,List.map_cons,List.map_nil,List.cons.injEq,and_true] at hd
  obtain ⟨d1,d3,d4,d5,d12⟩:=hd
  have hle:=k.next
  have hE:=IS (s.data.toList.take fr)
  rw [List.length_take] at hE
  have hlts:=hs.lt
  simp only [d1,d3,d4,d5,d12]
  refine hit.next f (by omega) (fun hp A1 hit1 k1 n1 f1=>?_) fun hge=>?_
  ·have hs1:=hs.keeps k1 (by simp)
   have hfm1:=hfm.keeps k1 (by simp)
   have hB1:=hB.keeps k1 (by simp) (fun x hx=>by have:=hF x hx;simp;omega)
   simp only [AbB,AbA,Abz,Ad]
   refine Ak.2 ⟨fun _=>?_,fun h=>by cases h⟩
   refine Yk hs1 hfm1 hB1 (by omega) (fun hm=>by have:=hF _ hm;omega) hfp (by omega) hl (by omega) f1 (by omega) fun A2 F2 hfm2 hB2 hF2 k2 n2 f2=>?_
   rw [TY hfp hnp] at hB2
   have hF2':∀ x∈F2,A.next+4≤x:=fun x hx=>by
    rcases hF2 x hx with h | h
    ·exact hF x h
    ·have:=hit.lt;omega
   have not2:∀ y,y < A.next+4→y≠A.next+2→y≠A.next+1→y∉(A.next+2)::(A.next+1)::F:=fun y h1 h2 h3 hm=>by
    rcases List.mem_cons.1 hm with h | h
    ·exact h2 h
    ·rcases List.mem_cons.1 h with h | h
     ·exact h3 h
     ·have:=hF y h;omega
   have hs2:=hs1.keeps k2 (not2 _ (by omega) (by omega) (by omega))
   have hit2:=hit1.keeps k2 (not2 _ (by omega) (by omega) (by omega))
   have K2:Aw A A2 []:=(k.trans k1 (fun x hx=>.inr (by rw [List.mem_singleton.1 hx];omega))).trans k2 (fun x hx=>.inr (by
    rcases List.mem_cons.1 hx with h | h
    ·omega
    ·rcases List.mem_cons.1 h with h | h
     ·omega
     ·have:=hF x h;omega))
   have hE2:=IS (s.data.toList.take pos)
   rw [List.length_take] at hE2
   have hget:s.data.toList[pos]? =some s.data.toList[pos]:=List.getElem?_eq_getElem hp
   generalize hbb:s.data.toList[pos]=b at hget
   simp only [Ej,BD,Cm,Ad,Av,BO]
   have go:CO b=false→1≤(Utf8.decode s pos).2→pos+(Utf8.decode s pos).2≤N→(∀ j (hj:pos+j < s.data.toList.length),j < (Utf8.decode s pos).2→CO (s.data.toList[pos+j]'hj)=false)→
     BA (T8 0) (T8 0) (∃ g',g' < N - pos∧I g' 0 [.pointer (some ⟨A.next,0,none⟩),.pointer (some ⟨A.next+1,0,none⟩),.pointer (some ⟨A.next+2,0,none⟩),.func (.func 20) ⟨[]⟩ ⟨[.pointer (some ⟨A.next,0,none⟩),.pointer (some ⟨A.next+2,0,none⟩),.pointer (some ⟨A.next+1,0,none⟩)]⟩,.pointer (some ⟨A.next+3,0,none⟩)] A2):=fun _ hw1 hw2 hw3=>
    Aq.2 ⟨N - (pos+(Utf8.decode s pos).2),by omega,rfl,hne,pos+(Utf8.decode s pos).2,pos,F2,rfl,by omega,hw2,fun j hj h1 h2=>by
     have:=hw3 (j - pos) (by omega) (by omega)
     rwa [show s.data.toList[pos+(j - pos)]'(by omega)=s.data.toList[j] from by congr 1;omega] at this,hs2,hfm2,hB2,hF2',hit2,K2,by omega,f2,rfl⟩
   rcases T2 s pos hp with ⟨hlo,hdec⟩ | ⟨hhi,hw1,hw2,hw3⟩
   ·rw [hbb] at hlo hdec
    have go':CO b=false→_:=fun h=>go h (by rw [hdec];exact Nat.le_refl 1) (by rw [hdec];show pos+1≤_;omega) (fun j hj h1=>by
     rw [hdec] at h1
     have h1:j < 1:=h1
     have:j=0:=by omega
     subst this
     rw [show s.data.toList[pos+0]'hj=b from hbb];exact h)
    rw [hdec] at hit2 ⊢
    refine ⟨fun h1=>⟨fun h2=>⟨fun h3=>⟨fun h4=>?_,fun h4=>go' ?_⟩,fun h3=>go' ?_⟩,fun h2=>go' ?_⟩,fun h1=>go' ?_⟩
    ·have h1:(32:Int) < (b.toNat:Int):=h1
     have h2:(b.toNat:Int) < 127:=h2
     have hb:CO b=true:=(H2 b).2 ⟨by omega,by omega,h3,h4⟩
     refine Aco hB2 hlo (by omega) f2 (by omega) fun v A3 F3 hB3 hF3 k3 n3 f3=>?_
     have not3:∀ y,y < A.next+4→y≠A.next+1→y∉(A.next+1)::F2:=fun y h1 h2 hm=>by
      rcases List.mem_cons.1 hm with h | h
      ·exact h2 h
      ·have:=hF2' y h;omega
     have hi1:IntKind.i64.wrap ((pos:Int)+1)=((pos+1:Nat):Int):=wrap_i64 (by omega) (by omega)
     simp only [AU,Ad,hi1]
     have hfm3:=hfm2.keeps k3 (not3 _ (by omega) (by omega))
     have hF3':∀ x∈F3,A.next+4≤x:=fun x hx=>by
      rcases hF3 x hx with h | h
      ·exact hF2' x h
      ·have:=hit2.lt;omega
     refine hfm3.store f3 (by omega) (M0 _ _ _) rfl (by simp) rfl fun A4 r4 k4 n4 f4=>?_
     refine Aq.2 ⟨N - (pos+1),by omega,rfl,hne,pos+1,pos+1,F3,rfl,by omega,by omega,fun j hj h1 h2=>by omega,(hs2.keeps k3 (not3 _ (by omega) (by omega))).keeps k4 (by simp),r4,?_,hF3',(hit2.keeps k3 (not3 _ (by omega) (by omega))).keeps k4 (by simp),?_,by omega,f4,rfl⟩
     ·rw [BH hget,NU,Ry]
      unfold IT
      rw [hb,if_pos rfl]
      exact hB3.keeps k4 (by simp) (fun x hx=>by have:=hF3' x hx;simp;omega)
     ·refine (K2.trans k3 (fun x hx=>.inr ?_)).trans k4 (fun x hx=>.inr (by rw [List.mem_singleton.1 hx];omega))
      rcases List.mem_cons.1 hx with h | h
      ·omega
      ·have:=hF2' x h;omega
    all_goals
     cases hb:CO b with
     | false=>rfl
     | true=>
      have:=(H2 b).1 hb
      have hc:((b.toNat,1).1:Int)=(b.toNat:Int):=rfl
      omega
   ·have hpl:CO b=false:=by
     have:=hw3 0 (by omega) (by omega)
     rwa [show s.data.toList[pos+0]'(by omega)=b from hbb] at this
    refine ⟨fun h1=>⟨fun h2=>absurd h2 (by omega),fun h2=>go hpl hw1 hw2 hw3⟩,fun h1=>absurd (by omega) h1⟩
  ·have hpl:pos=N:=by omega
   subst hpl
   simp only [AbC,Ad]
   refine Ak.2 ⟨fun h=>(by cases h),fun _=>?_⟩
   simp only [FH,Ay hs.row,cellOf,isTuple,cond_false,Ad,FQ]
   refine Yk hs hfm hB (by omega) (fun hm=>by have:=hF _ hm;omega) hfp (by omega) hl (by omega) f (by omega) fun A2 F2 hfm2 hB2 hF2 k2 n2 f2=>?_
   rw [TY hfp hnp,List.take_length] at hB2
   have hE2:=IS s.data.toList
   have hne2:DB s.data.toList≠[]:=fun e=>by
    have h1:=FL s.data.toList
    rw [e,Gc] at h1
    exact hne (Option.some.inj h1).symm
   refine YO hB2 hne2 (by omega) f2 (by omega) fun A3 k3 n3 f3=>?_
   rw [← De hne]
   refine hk A3 ⟨(k.trans k2 (fun x hx=>.inr ?_)).trans k3 (fun x hx=>.inr ?_),f3,by omega⟩
   ·rcases List.mem_cons.1 hx with h | h
    ·omega
    ·rcases List.mem_cons.1 h with h | h
     ·omega
     ·have:=hF x h;omega
   ·rcases hF2 x hx with h | h
    ·have:=hF x h;omega
    ·omega
 ·rw [e8]
  refine BI (cs:=[.string s]) hf (by omega) rfl fun A1 m1=>?_
  have n1:=m1.next
  have k1:=m1.keeps hf
  simp only [FH,Ay m1.B7.row,cellOf,isTuple,cond_false,Ad,B4]
  refine Ak.2 ⟨fun h=>?_,fun h=>?_⟩
  ·have h0:s.data.toList=[]:=by simpa using h
   have:=hk A1 ((Grow.made m1 hf).more (by omega))
   rw [h0] at this
   exact this
  ·have h0:s.data.toList≠[]:=by simpa using h
   refine AV RU m1.AG (by omega) rfl fun A2 m2=>?_
   have n2:=m2.next
   have k2:=m2.keeps m1.AG
   refine AV ZZ m2.AG (by omega) rfl fun A3 m3=>?_
   have n3:=m3.next
   have k3:=m3.keeps m2.AG
   refine m3.B7.store m3.AG (by omega) (M0 _ _ _) rfl (by simp [Value.cells]) rfl fun A4 r4 k4 n4 f4=>?_
   have hs4:=((m1.B7.keeps k2 (by simp)).keeps k3 (by simp)).keeps k4 (by simp;omega)
   have hb4:=(m2.B7.keeps k3 (by simp)).keeps k4 (by simp;omega)
   simp only [FH,Ay hs4.row,cellOf,isTuple,cond_false,Ad]
   refine QD Vw f4 (by omega) fun A5 hit k5 n5 f5=>?_
   have e1:A1.next=A.next+1:=n1
   have e2:A2.next=A.next+2:=by omega
   have e4:A4.next=A.next+3:=by omega
   have r5:=r4.keeps k5 (by simp)
   have hb5:=hb4.keeps k5 (by simp)
   have hs5:=hs4.keeps k5 (by simp)
   rw [e1] at hb5
   rw [e2] at r5
   rw [e4] at hit
   have K5:Aw A A5 []:=(((k1.trans k2 (by simp)).trans k3 (by simp)).trans k4 (fun x hx=>.inr (by rw [List.mem_singleton.1 hx];omega))).trans k5 (by simp)
   refine Aq.2 ⟨N,rfl,h0,0,0,[],by rw [e1,e2,e4],by omega,by omega,fun j hj h1 h2=>by omega,hs5,r5,⟨.pointer none,.slice none 0 0,hb5,.inl rfl,.nil _ _,by simp⟩,by simp,hit,K5,by omega,f5,by omega⟩
end
end Go.Proofs.YtebidlpekphaoaaGreatDoor
namespace Go.Abs
section
variable {P:Program} {tb ts tst:TypeId}
structure OC (tb:TypeId) (A:AW) (v:Value) (l:List UInt8) (c b:Nat):Prop where
 val:v=.slice (some ⟨b,0,none⟩) l.length (Bu+c)
 room:c < room
 row:∃ pad,AQ A b (AI l++pad) tb∧l.length+pad.length=c
theorem OC.keeps {A A':AW} {v:Value} {l:List UInt8} {c b:Nat} {S:List Nat} (h:OC tb A v l c b) (k:Aw A A' S) (hd:b∉S):OC tb A' v l c b:=by
 obtain ⟨h1,h2,pad,h3,h4⟩:=h
 exact ⟨h1,h2,pad,h3.keeps k hd,h4⟩
theorem OC.lt {A:AW} {v:Value} {l:List UInt8} {c b:Nat} (h:OC tb A v l c b):b < A.next:=by
 obtain ⟨_,_,pad,h3,_⟩:=h
 exact h3.lt
theorem OC.buf {A:AW} {v:Value} {l:List UInt8} {c b:Nat} (h:OC tb A v l c b) (hl:l.length=c) (h0:0 < c):Buf tb A v l [b]:=by
 obtain ⟨rfl,h2,pad,h3,h4⟩:=h
 have hp:pad=[]:=List.eq_nil_of_length_eq_zero (by omega)
 subst hp
 subst hl
 rw [List.append_nil] at h3
 refine .inr (.inl ⟨b,b,rfl,⟨h0,h3.row,by rw [Bd,Nat.mul_one],Nat.zero_le _,Nat.zero_le _,h3.lt,fun i hi=>?_⟩,rfl⟩)
 rw [h3.mem] at hi
 obtain rfl:i=b:=by simpa using hi
 exact ⟨Nat.zero_le _,h3.lt,_,_,_,_,h3.row⟩
theorem XU {A:AW} {t2:TypeId} {v x:Value} {l new:List UInt8} {c b:Nat} {K:Value→AW→Prop} (T:BT P tb ts tst) (h:OC tb A v l c b) (hx:B6 P A tb t2 1 x=some (new.length,AI new)) (hf:AJ A) (hA:A.next≤Al) (hfit:l.length+new.length≤c)
  (hk:∀ A' v',OC tb A' v' (l++new) c b→Aw A A' [b]→A'.next=A.next→AJ A'→K v' A'):Ap (Bh P A ts t2 v x) K:=by
 have hc:=h.room
 have hroom:(Nat.blt (l.length+new.length) Go.Abs.room&&Nat.blt ((l.length+new.length) * 1) Go.Abs.room&&Dq P tb 1)=true:=by rw [Nat.mul_one,AA.2 (by omega),T.hz];rfl
 obtain ⟨rfl,h2,pad,h3,h4⟩:=h
 have hlt:=h3.lt
 rcases Nat.eq_zero_or_pos new.length with h0 | hpos
 ·have hnew:new=[]:=List.eq_nil_of_length_eq_zero h0
  subst hnew
  have e:Bh P A ts t2 (.slice (some ⟨b,0,none⟩) l.length (Bu+c)) x=.ok (.slice (some ⟨b,0,none⟩) l.length (Bu+c)) A:=by
   unfold Bh
   simp only [T.sl,T.sz,T.by_,hx]
   rw [hroom]
   rfl
  rw [e]
  refine Bi.2 (hk A _ ⟨by rw [List.append_nil],h2,pad,by rw [List.append_nil];exact h3,by rw [List.append_nil];exact h4⟩ (.refl _ _) rfl hf)
 ·obtain ⟨m,hm⟩:∃ m,new.length=m+1:=⟨new.length - 1,by omega⟩
  obtain ⟨A',h1,w⟩:=Eg (new:=AI new) (off:=l.length) h3.row h3.mem (by rw [List.length_append,Bd,Bd];omega) (GI new) (by omega)
  have e:Bh P A ts t2 (.slice (some ⟨b,0,none⟩) l.length (Bu+c)) x=.ok (.slice (some ⟨b,0,none⟩) (l.length+new.length) (Bu+c)) A':=by
   rw [hm] at hx hroom
   rw [hm]
   exact Tk T hx hroom (Bo.2 (Nat.le_add_right _ _)) (Bo.2 (by rw [Nat.add_sub_cancel_left,← hm];exact hfit)) h1
  rw [e]
  have hcs:Ip (AI l++pad) l.length (AI new)=AI (l++new)++pad.drop new.length:=by
   have hp:pad=pad.take new.length++pad.drop new.length:=(List.take_append_drop _ _).symm
   conv=>lhs;rw [hp]
   have hl2:l.length=(AI l).length:=(Bd l).symm
   conv=>lhs;arg 2;rw [hl2]
   rw [HC (AI l) (pad.take new.length) (AI new) (pad.drop new.length) (by rw [List.length_take,Bd];omega),FC,List.append_assoc]
  refine Bi.2 (hk A' _ ⟨by rw [List.length_append],h2,pad.drop new.length,?_,by rw [List.length_append,List.length_drop];omega⟩ (w.keeps h3.row) w.next (w.AG hf h3.row))
  rw [← hcs]
  exact ⟨w.row,by rw [w.mem];exact h3.mem,by rw [w.next];exact h3.lt⟩
end
structure Nm where
 f:Nat
 g:ByteArray
 b:ByteArray
def Nm.cells (p:Nm):List Value:=[.int .u32 (p.f:Int),.string p.g,.string p.b]
theorem Fg {a b:ByteArray} (h:a.data.toList=b.data.toList):a=b:=by
 obtain ⟨⟨x⟩⟩:=a
 obtain ⟨⟨y⟩⟩:=b
 have h:x=y:=h
 rw [h]
end Go.Abs
namespace Go.Proofs.YtebidlpekphaoaaGreatDoor
open Go.Abs
def B8 (l:List UInt8):List UInt8:=l.flatMap fun b=>[CQ (b.toNat / 16),CQ (b.toNat % 16)]
theorem NG (a b:List UInt8):B8 (a++b)=B8 a++B8 b:=List.flatMap_append
theorem D8 (l:List UInt8):(B8 l).length=2 * l.length:=by
 induction l with
 | nil=>rfl
 | cons b l ih=>
  rw [show B8 (b::l)=[CQ (b.toNat / 16),CQ (b.toNat % 16)]++B8 l from by simp [B8],List.length_append,ih]
  simp only [List.length_cons,List.length_nil]
  omega
abbrev bl (s:ByteArray):List UInt8:=s.data.toList
def okX (p:Nm):Bool:=decide (1≤(bl p.g).length∧(bl p.g).length≤64∧(bl p.b).length≤64)
def C7 (p:Nm):List UInt8:=Lib.decDigits p.f++[46]++B8 (bl p.g)++[46]++B8 (bl p.b)
def LH (p:Nm):Value:=.tuple ⟨[.string ⟨⟨if okX p=true then C7 p else []⟩⟩,.int .i64 (if okX p=true then 0 else 40)]⟩
theorem Q5 {p:Nm} (h:1≤(bl p.g).length∧(bl p.g).length≤64∧(bl p.b).length≤64):okX p=true:=decide_eq_true h
theorem Gh {p:Nm} (h:¬ (1≤(bl p.g).length∧(bl p.g).length≤64∧(bl p.b).length≤64)):okX p=false:=decide_eq_false h
theorem Hn {A:AW} {b:Nat} {p:Nm} {e:TypeId} (h:Go.Abs.AQ A b p.cells e):Au Tp A 32 (.pointer (some ⟨b,0,none⟩))=some (.agg ⟨p.cells⟩):=by
 rw [Wi,CD h.row];rfl
section
variable {W0:World} {m0:Inj Tp}
theorem Ye {p:Nm} {A:AW} {K:Value→AW→Prop} (hf:AJ A) (hA:A.next < Al) (hk:∀ A',Grow A A' 1→K (.int .i64 (if okX p=true then 0 else 40)) A'):Wc Tp Ai W0 m0 100 [.agg ⟨p.cells⟩] A K:=by
 refine AcG _ _ (At (S:=fun _ _ _=>False) fun _ _ _ h=>h) ?_
 rw [ZK]
 refine BI (cs:=p.cells) hf hA rfl fun A1 m1=>?_
 have r1:Go.Abs.AQ A1 A.next [.int .u32 (p.f:Int),.string p.g,.string p.b] 32:=m1.B7
 have hk:=hk A1 (.made m1 hf)
 simp only [ML,MK,FH,Ay r1.row,cellOf,isTuple,cond_false,Ad,Nat.zero_add,FQ,B4,Ej,Av]
 refine Ak.2 ⟨fun h=>?_,fun h=>⟨fun h2=>?_,fun h2=>⟨fun h3=>?_,fun h3=>?_⟩⟩⟩
 ·have h0:p.g.data.toList=[]:=by simpa using h
  rw [Gh (by show ¬ (1≤p.g.data.toList.length∧_);rw [h0];simp)] at hk;exact hk
 ·rw [Gh (by show ¬ (1≤p.g.data.toList.length∧p.g.data.toList.length≤64∧p.b.data.toList.length≤64);omega)] at hk;exact hk
 ·rw [Gh (by show ¬ (1≤p.g.data.toList.length∧p.g.data.toList.length≤64∧p.b.data.toList.length≤64);omega)] at hk;exact hk
 ·have h0:p.g.data.toList≠[]:=by simpa using h
  have:=List.length_pos_iff.2 h0
  rw [Q5 (by show 1≤p.g.data.toList.length∧p.g.data.toList.length≤64∧p.b.data.toList.length≤64;omega)] at hk;exact hk
theorem AbY {p:Nm} {A:AW} {K:Value→AW→Prop} (hf:AJ A) (hA:A.next < Al) (hk:∀ A',Grow A A' 1→K (.int .i64 (if okX p=true then 0 else 40)) A'):Wc Tp Ai W0 m0 88 [.agg ⟨p.cells⟩] A K:=by
 refine w88 _ _ (At (S:=fun _ _ _=>False) fun _ _ _ h=>h) ?_
 rw [e88]
 refine BI (cs:=p.cells) hf hA rfl fun A1 m1=>?_
 have r1:Go.Abs.AQ A1 A.next [.int .u32 (p.f:Int),.string p.g,.string p.b] 32:=m1.B7
 have hk:=hk A1 (.made m1 hf)
 simp only [ML,MK,FH,Ay r1.row,cellOf,isTuple,cond_false,Ad,Nat.zero_add,FQ,BD,Ej,Av]
 refine ⟨fun h=>?_,fun h=>⟨fun h2=>?_,fun h2=>⟨fun h3=>?_,fun h3=>?_⟩⟩⟩
 ·rw [Gh (by show ¬ (1≤p.g.data.toList.length∧p.g.data.toList.length≤64∧p.b.data.toList.length≤64);omega)] at hk;exact hk
 ·rw [Gh (by show ¬ (1≤p.g.data.toList.length∧p.g.data.toList.length≤64∧p.b.data.toList.length≤64);omega)] at hk;exact hk
 ·rw [Gh (by show ¬ (1≤p.g.data.toList.length∧p.g.data.toList.length≤64∧p.b.data.toList.length≤64);omega)] at hk;exact hk
 ·rw [Q5 (by show 1≤p.g.data.toList.length∧p.g.data.toList.length≤64∧p.b.data.toList.length≤64;omega)] at hk;exact hk
theorem Yc {n:Nat} {A:AW} {K:Value→AW→Prop} (hn:n < 16) (hk:K (.int .u8 ((CQ n).toNat:Int)) A):Wc Tp Ai W0 m0 105 [.int .u8 (n:Int)] A K:=by
 refine AcD _ _ (At (S:=fun _ _ _=>False) fun _ _ _ h=>h) ?_
 rw [WE]
 have e:((CQ n).toNat:Int)=if n < 10 then 48+(n:Int) else 87+(n:Int):=by
  have:∀ n,n < 16→((CQ n).toNat:Int)=if n < 10 then 48+(n:Int) else 87+(n:Int):=by decide
  exact this n hn
 rw [e] at hk
 simp only [BD,AU,Hf,Ad,Av,wrap_u8]
 refine ⟨fun h=>?_,fun h=>?_⟩
 ·rw [if_pos (by omega)] at hk
  rw [show (48+(n:Int)) % 256=48+(n:Int) by omega];exact hk
 ·rw [if_neg (by omega)] at hk
  rw [show ((97+(n:Int)) % 256 - 10) % 256=87+(n:Int) by omega];exact hk
theorem Aai {q:Nat} {A:AW} {K:Value→AW→Prop} (hr:Go.Abs.AQ A q [.pointer none,.slice none 0 0] 70) (hk:K (.string ⟨⟨[]⟩⟩) A):Wc Tp Ai W0 m0 23 [.pointer (some ⟨q,0,none⟩)] A K:=by
 have hn:Ca (.pointer (some ⟨q,0,none⟩))=some (.pointer (some ⟨q,0,none⟩)):=rfl
 refine w23 _ _ (At (S:=fun _ _ _=>False) fun _ _ _ h=>h) ?_
 rw [e23]
 simp only [hn,H8,Nat.zero_add,KE,Ay hr.row,cellOf,isTuple,cond_false,Ad]
 refine .inl ⟨.pointer none,A,rfl,?_⟩
 simp only [Ay hr.row,cellOf,isTuple,cond_false,JB,Ad]
 exact .inl ⟨.string .empty,A,rfl,hk⟩
theorem Yd {s:ByteArray} {A:AW} {K:Value→AW→Prop} (hl:(bl s).length < 100000000) (hf:AJ A) (hA:A.next+10+4 * (bl s).length < Al) (hk:∀ A',Grow A A' (1+4 * (bl s).length)→K (.string ⟨⟨B8 (bl s)⟩⟩) A'):Wc Tp Ai W0 m0 101 [.string s] A K:=by
 let I:Nat→Nat→List Value→AW→Prop:=fun g id vals A'=>id=0∧∃ (i:Nat) (F:List Nat),vals=[.string s,.pointer (some ⟨A.next,0,none⟩),.int .i64 ((bl s).length:Int),.int .i64 (i:Int)]∧i≤(bl s).length∧BB A' A.next (B8 ((bl s).take i)) F∧(∀ x∈F,A.next < x)∧
  (i=0→Go.Abs.AQ A' A.next [.pointer none,.slice none 0 0] 70)∧Aw A A' []∧A'.next≤A.next+1+4 * i∧AJ A'∧g=(bl s).length - i
 refine AcF _ _ (Adq (I:=I) ?_) ?_
 ·rintro g id vals A' d ⟨rfl,i,F,rfl,hi,hB,hF,h0,k,nx,f,rfl⟩ hd
  rw [Zz]
  simp only [W7,List.map_cons,List.map_nil,List.cons.injEq,and_true] at hd
  obtain ⟨d0,d3,d6,d7⟩:=hd
  have hle:=k.next
  simp only [d0,d3,d6,d7,BD,Ad,Av]
  have hbl:(B8 ((bl s).take i)).length=2 * i:=by rw [D8,List.length_take,Nat.min_eq_left hi]
  refine ⟨fun hlt=>?_,fun hge=>?_⟩
  ·have hlt:i < (bl s).length:=by omega
   have hp:=List.getElem?_eq_getElem hlt
   generalize hbb:(bl s)[i]=b at hp
   have hb:=b.toNat_lt
   have hdig:(Value.string ⟨⟨[48,49,50,51,52,53,54,55,56,57,97,98,99,100,101,102]⟩⟩)=.string Lv:=rfl
   have hix:=ix9 (k:=.i64) hp
   have hi1:IntKind.i64.wrap ((i:Int)+1)=((i+1:Nat):Int):=wrap_i64 (by omega) (by omega)
   rw [hdig]
   simp only [hix,AaF,YG,ixd (k:=.u8) (show b.toNat / 16 < 16 by omega),Ad]
   refine Vm hB (by omega) f (by omega) fun A2 F2 hB2 hF2 k2 n2 f2=>?_
   have l2:=k2.next
   simp only [ixd (k:=.u8) (show b.toNat % 16 < 16 by omega),Ad]
   refine Vm hB2 (by rw [List.length_append,hbl];show 2 * i+1 < _;omega) f2 (by omega) fun A3 F3 hB3 hF3 k3 n3 f3=>?_
   simp only [AU,Ad,hi1]
   have x2:∀ x∈F2,A.next < x:=fun x hx=>by
    rcases hF2 x hx with h | h
    ·exact hF x h
    ·have:=hB.lt.1;omega
   have x3:∀ x∈F3,A.next < x:=fun x hx=>by
    rcases hF3 x hx with h | h
    ·exact x2 x h
    ·have:=hB.lt.1;omega
   have up:∀ {G:List Nat},(∀ x∈G,A.next < x)→∀ x∈A.next::G,x∈([]:List Nat)∨A.next≤x:=fun hG x hx=>.inr (by
    rcases List.mem_cons.1 hx with h | h
    ·omega
    ·have:=hG x h;omega)
   refine Aq.2 ⟨(bl s).length - (i+1),by omega,rfl,i+1,F3,rfl,by omega,?_,x3,fun h=>by omega,(k.trans k2 (up hF)).trans k3 (up x2),by omega,f3,rfl⟩
   have e:B8 ((bl s).take (i+1))=B8 ((bl s).take i)++[CQ (b.toNat / 16)]++[CQ (b.toNat % 16)]:=by
    rw [BH hp,NG];simp [B8]
   rw [e]
   exact hB3
  ·have hil:i=(bl s).length:=by omega
   rcases Nat.eq_zero_or_pos (bl s).length with hz | hpos
   ·have hs:bl s=[]:=List.eq_nil_of_length_eq_zero hz
    refine Aai (h0 (by omega)) ?_
    have:=hk A' ⟨k,f,by omega⟩
    rw [hs] at this
    exact this
   ·rw [hil,List.take_length] at hB
    have hne:B8 (bl s)≠[]:=fun e=>by
     have:=D8 (bl s)
     rw [e] at this;simp only [List.length_nil] at this;omega
    refine YO hB hne (by rw [D8];omega) f (by omega) fun A2 k2 n2 f2=>?_
    exact hk A2 ⟨k.trans k2 (fun x hx=>.inr (by have:=hF x hx;omega)),f2,by omega⟩
 ·rw [ZJ]
  refine AV RU hf (by omega) rfl fun A1 m1=>?_
  have n1:=m1.next
  simp only [FQ,Ad]
  exact Aq.2 ⟨(bl s).length,rfl,0,[],rfl,by omega,⟨_,_,m1.B7,.inl rfl,.nil _ _,by simp⟩,by simp,fun _=>m1.B7,m1.keeps hf,by omega,m1.AG,by simp⟩
theorem Z1 {s:ByteArray} {A:AW} {K:Value→AW→Prop} (hl:(bl s).length < 100000000) (hf:AJ A) (hA:A.next+10+2 * (bl s).length < Al) (hk:∀ A',Grow A A' (2 * (bl s).length)→K (.string ⟨⟨B8 (bl s)⟩⟩) A'):Wc Tp Ai W0 m0 89 [.string s] A K:=by
 have hroom:room=68719476736:=rfl
 let I:Nat→Nat→List Value→AW→Prop:=fun g id vals A'=>id=0∧∃ (i:Nat) (v:Value) (F:List Nat),vals=[.string s,v,.int .i64 (i:Int)]∧i≤(bl s).length∧Buf 5 A' v (B8 ((bl s).take i)) F∧(∀ x∈F,A.next≤x)∧Grow A A' (2 * i)∧g=(bl s).length - i
 refine w89 _ _ (c89 (I:=I) ?_) ?_
 ·rintro g id vals A' d ⟨rfl,i,v,F,rfl,hi,hB,hF,gr,rfl⟩ hd
  rw [Aa0]
  simp only [L89,List.map_cons,List.map_nil,List.cons.injEq,and_true] at hd
  obtain ⟨d0,d3,d4⟩:=hd
  have nx:=gr.next
  have le:=gr.le
  have hbl:(B8 ((bl s).take i)).length=2 * i:=by rw [D8,List.length_take,Nat.min_eq_left hi]
  simp only [d0,d3,d4,FQ,BD,Ad,Av]
  refine ⟨fun hlt=>?_,fun hge=>?_⟩
  ·have hlt:i < (bl s).length:=by
    have:(i:Int) < ((bl s).length:Int):=hlt
    omega
   have hp:=List.getElem?_eq_getElem hlt
   generalize hbb:(bl s)[i]=b at hp
   have hb:=b.toNat_lt
   have hix:=ix9 (k:=.i64) hp
   have hi1:IntKind.i64.wrap ((i:Int)+1)=((i+1:Nat):Int):=wrap_i64 (by omega) (by omega)
   simp only [hix,Ym,Yl,Ad]
   refine Yc (by omega) ?_
   simp only [Am,Ad]
   refine Yc (by omega) ?_
   refine AaQ gr.AG (by omega) fun A2 m2=>?_
   have n2:=m2.next
   have k2:=m2.keeps gr.AG
   refine NK m2.row ?_
   refine Gk E6 (hB.keeps k2 (by simp)) (Gg E6 (Made.rdB (l:=[CQ (b.toNat / 16),CQ (b.toNat % 16)]) (c:=2) m2)) m2.AG (by omega) (by rw [hbl];show 2 * i+2 < _;omega) fun v' A3 F' v3 k3 hF3 n3 f3=>?_
   simp only [AU,Ad,hi1]
   refine Aq.2 ⟨(bl s).length - (i+1),by omega,rfl,i+1,v',F',rfl,by omega,?_,fun x hx=>?_,⟨(gr.keeps.trans k2 (by simp)).trans k3 (fun x hx=>.inr (hF x hx)),f3,by omega⟩,rfl⟩
   ·have e:B8 ((bl s).take (i+1))=B8 ((bl s).take i)++[CQ (b.toNat / 16),CQ (b.toNat % 16)]:=by
     rw [BH hp,NG];simp [B8]
    rw [e];exact v3
   ·rcases hF3 x hx with h | h
    ·exact hF x h
    ·omega
  ·have hil:i=(bl s).length:=by
    have:¬ (i:Int) < ((bl s).length:Int):=hge
    omega
   rw [hil,List.take_length] at hB
   rw [hB.rd.str E6]
   exact Bi.2 (hk A' (gr.more (by omega)))
 ·rw [e89]
  exact Aq.2 ⟨(bl s).length,rfl,0,.slice none 0 0,[],rfl,by omega,.nil _ _,by simp,(Grow.refl hf).more (by omega),by simp⟩
end
def RdT (A:AW) (v:Value) (l:List ByteArray) (F:List Nat):Prop:=
 ∃ r o c cs e f b ro,v=.slice (some ⟨r,o,none⟩) l.length c∧A.get r=some (.row cs e f b ro)∧f < A.next∧F=[f]∧∀ (i:Nat) s,l[i]? =some s→cs[o+i]? =some (Value.string s)
theorem RdT.keeps {A A':AW} {v:Value} {l:List ByteArray} {F S:List Nat} (h:RdT A v l F) (k:Aw A A' S) (hd:∀ x∈F,x∉S):RdT A' v l F:=by
 obtain ⟨r,o,c,cs,e,f,b,ro,h1,h2,h3,rfl,h4⟩:=h
 exact ⟨r,o,c,cs,e,f,b,ro,h1,k.get r _ h2 h3 (hd f (by simp)),Nat.lt_of_lt_of_le h3 k.next,rfl,h4⟩
theorem RdT.len {A B:AW} {v:Value} {l:List ByteArray} {F:List Nat} (h:RdT A v l F):Bm Tp B 56 v=some (.int .i64 (l.length:Int)):=by
 obtain ⟨r,o,c,cs,e,f,b,ro,rfl,_⟩:=h
 exact Ys _ _ _ _
theorem RdT.at {A:AW} {v:Value} {l:List ByteArray} {F:List Nat} (h:RdT A v l F) {i:Nat} {s:ByteArray} {k:IntKind} (hi:l[i]? =some s):∃ a,Ao Tp 56 v (.int k (i:Int))=some (.pointer (some a))∧A.cell? a=some (.string s):=by
 obtain ⟨r,o,c,cs,e,f,b,ro,rfl,h2,_,_,h4⟩:=h
 have hlt:i < l.length:=(List.getElem?_eq_some_iff.1 hi).1
 refine ⟨EC ⟨r,o,none⟩ (i * 1),?_,?_⟩
 ·show Ao Tp 56 _ (.int k (.ofNat i))=_
  rw [Wp,AA.2 hlt,cond_true]
 ·have e:EC ⟨r,o,none⟩ (i * 1)=⟨r,o+i,none⟩:=by
   unfold EC
   cases hb:Nat.beq (i * 1) 0 with
   | true=>rw [cond_true];have:=Nat.eq_of_beq_eq_true hb;rw [Nat.mul_one] at this;rw [this];rfl
   | false=>rw [cond_false,Nat.mul_one]
  rw [e,Ay h2]
  exact Cd (h4 i s hi) rfl
theorem YX:Tp.underlying 56=some (.slice 9):=by kernel_rfl
theorem sz9:szT Tp 9=some 1:=by kernel_rfl
theorem WS (A:AW):B3 Tp A .cap [33] 3 [.slice none 0 0]=.ok (.value (.int .i64 0)) A:=by kernel_rfl
theorem noZ (A:AW) (n:Nat):BJ Tp Ai A 116 [.int .i64 (.ofNat n)]=(bif Nat.blt n room&&true then (match A.new (.row (CE n) 5 A.next 0 false) with
    | some (b,w')=>.ok (.value (.slice (some ⟨b,0,none⟩) n (Bu+n))) w'
    | none=>.fail "MakeNoZero")
   else .fail "MakeNoZero"):=by kernel_rfl
theorem LQ:∀ n,(CE n).length=n
 | 0=>rfl
 | n+1=>by simp [CE,LQ n]
def GB (A:AW) (q:Nat) (l:List UInt8) (c b:Nat):Prop:=
 ∃ p v,Go.Abs.AQ A q [p,v] 70∧(p=.pointer none∨p=.pointer (some ⟨q,0,none⟩))∧OC 5 A v l c b∧q≠b
theorem GB.lt {A:AW} {q:Nat} {l:List UInt8} {c b:Nat} (h:GB A q l c b):q < A.next∧b < A.next:=by
 obtain ⟨p,v,h1,h2,h3,h4⟩:=h
 exact ⟨h1.lt,h3.lt⟩
theorem GB.full {A:AW} {q:Nat} {l:List UInt8} {c b:Nat} (h:GB A q l c b) (hl:l.length=c) (h0:0 < c):BB A q l [b]:=by
 obtain ⟨p,v,h1,h2,h3,h4⟩:=h
 exact ⟨p,v,h1,h2,h3.buf hl h0,by simpa using h4⟩
section
variable {W0:World} {m0:Inj Tp}
theorem YN {q:Nat} {l:List UInt8} {c b:Nat} {s:ByteArray} {A:AW} {K:Value→AW→Prop} (h:GB A q l c b) (hfit:l.length+(bl s).length≤c) (hf:AJ A) (hA:A.next≤Al)
  (hk:∀ v A',GB A' q (l++bl s) c b→Aw A A' [q,b]→A'.next=A.next→AJ A'→K v A'):Wc Tp Ai W0 m0 77 [.pointer (some ⟨q,0,none⟩),.string s] A K:=by
 obtain ⟨p,v,hr,hp,hv,hq⟩:=h
 have hn:Ca (.pointer (some ⟨q,0,none⟩))=some (.pointer (some ⟨q,0,none⟩)):=rfl
 refine w77 _ _ _ (At (S:=fun _ _ _=>False) fun _ _ _ h=>h) ?_
 rw [e77]
 refine Xe hr hp hf hA fun A1 r1 k1 n1 f1=>?_
 have v1:=hv.keeps k1 (by simp;exact fun e=>hq e.symm)
 obtain ⟨rfl,hroom,hpad⟩:=v1
 simp only [hn,H8,Nat.zero_add,KE,Ay r1.row,cellOf,isTuple,cond_false,Ad]
 refine XU E6 ⟨rfl,hroom,hpad⟩ (VD E6) f1 (by omega) hfit fun A2 v' v2 k2 n2 f2=>?_
 have r2:=r1.keeps k2 (by simpa using hq)
 have hv':=v2.val
 subst hv'
 refine r2.store f2 (by omega) (ON _ _ _) rfl (by simp [Value.cells]) rfl fun A3 r3 k3 n3 f3=>?_
 simp only [FQ,Ad]
 refine hk _ A3 ⟨_,_,r3,.inr rfl,v2.keeps k3 (by simp;exact fun e=>hq e.symm),hq⟩ ?_ (by omega) f3
 have K1:Aw A A1 [q,b]:=k1.more fun x hx=>.inl (by rw [List.mem_singleton.1 hx];simp)
 exact (K1.trans k2 (fun x hx=>.inl (by rw [List.mem_singleton.1 hx];simp))).trans k3 (fun x hx=>.inl (by rw [List.mem_singleton.1 hx];simp))
theorem Ab0 {q n:Nat} {A:AW} {K:Value→AW→Prop} (hr:Go.Abs.AQ A q [.pointer none,.slice none 0 0] 70) (hn0:0 < n) (hn:n < 1000000000) (hf:AJ A) (hA:A.next+2 < Al)
  (hk:∀ v A',GB A' q [] n A.next→Aw A A' [q]→A'.next=A.next+1→AJ A'→K v A'):Wc Tp Ai W0 m0 76 [.pointer (some ⟨q,0,none⟩),.int .i64 (n:Int)] A K:=by
 have hroom:room=68719476736:=rfl
 have hnp:Ca (.pointer (some ⟨q,0,none⟩))=some (.pointer (some ⟨q,0,none⟩)):=rfl
 refine w76 _ _ _ (At (S:=fun _ _ _=>False) fun _ _ _ h=>h) ?_
 rw [e76]
 refine Xe hr (.inl rfl) hf (by omega) fun A1 r1 k1 n1 f1=>?_
 have hql:=r1.lt
 simp only [BD,Ad,Av]
 refine ⟨fun h=>absurd h (by omega),fun _=>?_⟩
 simp only [hnp,H8,Nat.zero_add,KE,Ay r1.row,cellOf,isTuple,cond_false,Ad]
 refine .inl ⟨_,_,WS A1,?_⟩
 simp only [Ay r1.row,cellOf,isTuple,cond_false,Ad,JB,Hf]
 rw [wrap_i64 (by omega) (by omega)]
 simp only [BD,Ad,Av]
 refine ⟨fun _=>?_,fun h=>absurd (by omega) h⟩
 refine AcE _ _ _ (At (S:=fun _ _ _=>False) fun _ _ _ h=>h) ?_
 rw [ZI]
 simp only [hnp,H8,Nat.zero_add,KE,Ay r1.row,cellOf,isTuple,cond_false,Ad]
 refine .inl ⟨_,_,WS A1,?_⟩
 simp only [T5,AU,Ad,Ay r1.row,cellOf,isTuple,cond_false,JB]
 rw [wrap_i64 (n:=2 * 0) (by omega) (by omega),wrap_i64 (by omega) (by omega),show (2 * 0+(n:Int))=((n:Nat):Int) by omega]
 have hpush:=A1.push (.row (CE n) 5 A1.next 0 false)
 have hnz:BJ Tp Ai A1 116 [.int .i64 (n:Int)]=.ok (.value (.slice (some ⟨A1.next,0,none⟩) n (Bu+n))) (A1.push (.row (CE n) 5 A1.next 0 false)):=by
  show BJ Tp Ai A1 116 [.int .i64 (.ofNat n)]=_
  rw [noZ,AA.2 (show n < room by omega)]
  unfold AW.new
  simp only [Bool.and_self,cond_true,AA.2 (show A1.next < Al by omega)]
  rfl
 refine .inl ⟨_,_,hnz,?_⟩
 have hx2:=(AW.Df (.row (CE n) 5 A1.next 0 false) (show A1.next < Al by omega)).keeps f1
 have f2:=f1.push (.row (CE n) 5 A1.next 0 false) (show A1.next < Al by omega)
 have hg2:(A1.push (.row (CE n) 5 A1.next 0 false)).get A1.next=some (.row (CE n) 5 A1.next 0 false):=by rw [AW.Cz _ (by omega),if_pos rfl]
 have hn2:(A1.push (.row (CE n) 5 A1.next 0 false)).next=A1.next+1:=rfl
 have rb:Go.Abs.AQ (A1.push (.row (CE n) 5 A1.next 0 false)) A1.next (CE n) 5:=⟨hg2,f1.alone (Nat.le_refl _),by omega⟩
 generalize A1.push (.row (CE n) 5 A1.next 0 false)=A2 at *
 have r2:=r1.keeps hx2 (by simp)
 have hri:LM A2 (some ⟨A1.next,0,none⟩) 5=true:=by
  unfold LM;simp only [hg2];rfl
 have hsl:BM Tp A2 33 (.slice (some ⟨A1.next,0,none⟩) n (Bu+n)) none (some (.int .i64 ((0:Nat):Int))) none=some (.slice (some ⟨A1.next,0,none⟩) 0 (Bu+n)):=by
  have:=R9 (A:=A2) E6 (a:=some ⟨A1.next,0,none⟩) (len:=n) (c:=n) (n:=0) hri (Nat.zero_le _)
  exact this
 simp only [hnp,JB,Ay r2.row,cellOf,isTuple,cond_false,Ad,Am,hsl]
 have hrd:RdB A2 (.slice none 0 0) [] []:=.inl ⟨rfl,rfl,none,0,rfl⟩
 refine XQ (dl:=0) E6 rb hrd f2 (by omega) (by simp) fun A3 v3 rb3 k3 n3 f3=>?_
 have rb3:Go.Abs.AQ A3 A1.next (CE n) 5:=rb3
 have r3:=r2.keeps k3 (by simp;omega)
 refine r3.store f3 (by omega) (ON _ _ _) rfl (by simp [Value.cells]) rfl fun A4 r4 k4 n4 f4=>?_
 have rb4:=rb3.keeps k4 (by simp;omega)
 have K4:Aw A A4 [q]:=((k1.trans hx2 (by simp)).trans k3 (fun x hx=>.inr (by rw [List.mem_singleton.1 hx];omega))).trans k4 (fun x hx=>.inl hx)
 rw [n1] at rb4
 exact hk _ A4 ⟨_,_,r4,.inr rfl,⟨by rw [n1];rfl,by omega,CE n,rb4,by simp [LQ]⟩,by omega⟩ K4 (by omega) f4
end
theorem Ac2:quiet Tp (underlying 32)=some (.struct (Tp.fieldsOf 32)):=by kernel_rfl
noncomputable def F32 (i:Nat):Field:=(Tp.fieldsOf 32).toList.getD i default
theorem Ac4:(Tp.fieldsOf 32).toList=[F32 0,F32 1,F32 2]:=by kernel_rfl
theorem VU (f:Int) (g b:ByteArray):quiet Tp (part (F32 0).type ⟨[.int .u32 f,.string g,.string b]⟩ (F32 0).offset)=some (.int .u32 f):=by kernel_rfl
theorem VT (f:Int) (g b:ByteArray):quiet Tp (part (F32 1).type ⟨[.int .u32 f,.string g,.string b]⟩ (F32 1).offset)=some (.string g):=by kernel_rfl
theorem VR (f:Int) (g b:ByteArray):quiet Tp (part (F32 2).type ⟨[.int .u32 f,.string g,.string b]⟩ (F32 2).offset)=some (.string b):=by kernel_rfl
theorem Za:(F32 0).type=30:=by kernel_rfl
theorem Y9:(F32 1).type=9:=by kernel_rfl
theorem Y8:(F32 2).type=9:=by kernel_rfl
theorem ut9:quiet Tp (underlying 9)=some .string:=by kernel_rfl
theorem AcI:quiet Tp (underlying 30)=some (.int .u32):=by kernel_rfl
def M6 (f f':Int) (g g' b b':ByteArray):Bool:=f==f'&&(g.data.toList==g'.data.toList&&b.data.toList==b'.data.toList)
theorem Xt (n:Nat) (f f':Int) (g g' b b':ByteArray):quiet Tp (Op.equalIn (n+1+1) 32 (.agg ⟨[.int .u32 f,.string g,.string b]⟩) (.agg ⟨[.int .u32 f',.string g',.string b']⟩))=some (M6 f f' g g' b b'):=by
 rw [Ks (n+1) 32 _ _ Ac2 (by kernel_rfl),Ac4]
 rw [EW (by kernel_rfl) (VU f g b) (VU f' g' b') (by rw [Za];exact Kt n 30 _ _ _ _ AcI)]
 rw [EW (by kernel_rfl) (VT f g b) (VT f' g' b') (by rw [Y9];exact Jb ut9)]
 rw [EW (by kernel_rfl) (VR f g b) (VR f' g' b') (by rw [Y8];exact Jb ut9)]
 unfold M6
 cases f==f' <;> cases g.data.toList==g'.data.toList <;> cases b.data.toList==b'.data.toList <;> rfl
def kX (p:Nm):Value:=.agg ⟨p.cells⟩
theorem eqX (p q:Nm):eqA Tp 32 (kX p) (kX q)=some (M6 (p.f:Int) (q.f:Int) p.g q.g p.b q.b):=by
 unfold eqA
 have hc:(AB 4 (kX p)&&AB 4 (kX q))=true:=rfl
 rw [hc,cond_true]
 exact Xt 9998 _ _ _ _ _ _
def EM:Nm:=⟨0,.empty,.empty⟩
theorem Qo:B0 Tp 32 []=some (.agg ⟨EM.cells⟩):=by kernel_rfl
section
variable {W0:World} {m0:Inj Tp}
theorem Acf {b:Bool} {x y:Value} {A:AW} {K:Value→AW→Prop} (hk:K (if b=true then x else y) A):Wc Tp Ai W0 m0 49 [.bool b,x,y] A K:=by
 refine w49 _ _ _ _ (At (S:=fun _ _ _=>False) fun _ _ _ h=>h) ?_
 rw [e49]
 exact Ak.2 ⟨fun h=>by rw [if_pos h] at hk;exact hk,fun h=>by rw [if_neg (by rw [h];decide)] at hk;exact hk⟩
theorem Acj {b:Bool} {x y:Value} {A:AW} {K:Value→AW→Prop} (hk:K (if b=true then x else y) A):Wc Tp Ai W0 m0 34 [.bool b,x,y] A K:=by
 refine w34 _ _ _ _ (At (S:=fun _ _ _=>False) fun _ _ _ h=>h) ?_
 rw [e34]
 exact Ak.2 ⟨fun h=>by rw [if_pos h] at hk;exact hk,fun h=>by rw [if_neg (by rw [h];decide)] at hk;exact hk⟩
def KS (p:Nm):Prop:=p.f < 4294967296
theorem Ab1 {p:Nm} {A:AW} {K:Value→AW→Prop} (hp:Pow W0) (hn:KS p) (hf:AJ A) (hA:A.next+1000 < Al) (hk:∀ A',Grow A A' 700→K (LH p) A'):Wc Tp Ai W0 m0 75 [.agg ⟨p.cells⟩] A K:=by
 have hn1:p.f < 4294967296:=hn
 refine w75 _ _ (At (S:=fun _ _ _=>False) fun _ _ _ h=>h) ?_
 rw [e75]
 refine BI (cs:=p.cells) hf (by omega) rfl fun A1 m1=>?_
 have r1:Go.Abs.AQ A1 A.next [.int .u32 (p.f:Int),.string p.g,.string p.b] 32:=m1.B7
 have n1:=m1.next
 rw [Hn m1.B7]
 simp only [Ad]
 refine Ye m1.AG (by omega) fun A2 g2=>?_
 have n2:=g2.next
 have r2:=r1.keeps g2.keeps (by simp)
 simp only [Cm,Ad,BO]
 refine ⟨fun h=>?_,fun h=>?_⟩
 ·have h:okX p=false:=by
   cases ho:okX p with
   | false=>rfl
   | true=>rw [ho] at h;exact absurd rfl h
  have hk:=hk A2 (((Grow.made m1 hf).trans g2).more (by omega))
  unfold LH at hk
  rw [h] at hk ⊢
  exact hk
 ·have h:okX p=true:=by
   cases ho:okX p with
   | true=>rfl
   | false=>rw [ho] at h;exact absurd h (by decide)
  have ho:1≤(bl p.g).length∧(bl p.g).length≤64∧(bl p.b).length≤64:=of_decide_eq_true h
  obtain ⟨_,hn2,hn3⟩:=ho
  have h20:=FK (n:=p.f) (by omega)
  have hl1:=D8 (bl p.g)
  have hl2:=D8 (bl p.b)
  have j1:∀ xo yo,Ag Tp .add 9 xo yo (.string ⟨⟨Lib.decDigits p.f⟩⟩) (.string ⟨⟨[46]⟩⟩)=some (.string ⟨⟨Lib.decDigits p.f++[46]⟩⟩):=fun xo yo=>Is (by show (Lib.decDigits p.f).length+1 < _;omega)
  have j2:∀ xo yo,Ag Tp .add 9 xo yo (.string ⟨⟨Lib.decDigits p.f++[46]⟩⟩) (.string ⟨⟨B8 (bl p.g)⟩⟩)=some (.string ⟨⟨Lib.decDigits p.f++[46]++B8 (bl p.g)⟩⟩):=fun xo yo=>Is (by show (Lib.decDigits p.f++[46]).length+(B8 (bl p.g)).length < _;simp only [List.length_append,List.length_cons,List.length_nil];omega)
  have j3:∀ xo yo,Ag Tp .add 9 xo yo (.string ⟨⟨Lib.decDigits p.f++[46]++B8 (bl p.g)⟩⟩) (.string ⟨⟨[46]⟩⟩)=some (.string ⟨⟨Lib.decDigits p.f++[46]++B8 (bl p.g)++[46]⟩⟩):=fun xo yo=>Is (by show (Lib.decDigits p.f++[46]++B8 (bl p.g)).length+1 < _;simp only [List.length_append,List.length_cons,List.length_nil];omega)
  have j4:∀ xo yo,Ag Tp .add 9 xo yo (.string ⟨⟨Lib.decDigits p.f++[46]++B8 (bl p.g)++[46]⟩⟩) (.string ⟨⟨B8 (bl p.b)⟩⟩)=some (.string ⟨⟨C7 p⟩⟩):=fun xo yo=>Is (by show (Lib.decDigits p.f++[46]++B8 (bl p.g)++[46]).length+(B8 (bl p.b)).length < _;simp only [List.length_append,List.length_cons,List.length_nil];omega)
  simp only [TX,ML,MK,FH,Wj,Nat.zero_add,Ay r2.row,cellOf,isTuple,cond_false,Ad,N0,Bi]
  rw [wrap_u64 (by omega) (by omega)]
  refine Uc hp (by omega) ?_
  simp only [Ay r2.row,cellOf,isTuple,cond_false,j1,Ad,Am]
  refine Yd (by omega) g2.AG (by omega) fun A3 g3=>?_
  have n3:=g3.next
  have r3:=r2.keeps g3.keeps (by simp)
  simp only [Ay r3.row,cellOf,isTuple,cond_false,j1,j2,j3,Ad,Am]
  refine Yd (by omega) g3.AG (by omega) fun A4 g4=>?_
  have n4:=g4.next
  simp only [j1,j2,j3,j4,Ad,Am]
  have hk:=hk A4 (((((Grow.made m1 hf).trans g2).trans g3).trans g4).more (by omega))
  unfold LH at hk
  rw [h] at hk
  exact hk
theorem Ab7 {p:Nm} {A:AW} {K:Value→AW→Prop} (hn:KS p) (hf:AJ A) (hA:A.next+1000 < Al) (hk:∀ A',Grow A A' 700→K (LH p) A'):Wc Tp Ai W0 m0 60 [.agg ⟨p.cells⟩] A K:=by
 have hn1:p.f < 4294967296:=hn
 refine w60 _ _ (At (S:=fun _ _ _=>False) fun _ _ _ h=>h) ?_
 rw [e60]
 refine BI (cs:=p.cells) hf (by omega) rfl fun A1 m1=>?_
 have r1:Go.Abs.AQ A1 A.next [.int .u32 (p.f:Int),.string p.g,.string p.b] 32:=m1.B7
 have n1:=m1.next
 rw [Hn m1.B7]
 simp only [Ad]
 refine AbY m1.AG (by omega) fun A2 g2=>?_
 have n2:=g2.next
 have r2:=r1.keeps g2.keeps (by simp)
 simp only [Cm,Ad,BO]
 refine ⟨fun h=>?_,fun h=>?_⟩
 ·have h:okX p=false:=by
   cases ho:okX p with
   | false=>rfl
   | true=>rw [ho] at h;exact absurd rfl h
  have hk:=hk A2 (((Grow.made m1 hf).trans g2).more (by omega))
  unfold LH at hk
  rw [h] at hk
  exact hk
 ·have h:okX p=true:=by
   cases ho:okX p with
   | true=>rfl
   | false=>rw [ho] at h;exact absurd h (by decide)
  have ho:1≤(bl p.g).length∧(bl p.g).length≤64∧(bl p.b).length≤64:=of_decide_eq_true h
  obtain ⟨_,hn2,hn3⟩:=ho
  have h20:=FK (n:=p.f) (by omega)
  have hl1:=D8 (bl p.g)
  have hl2:=D8 (bl p.b)
  have j1:∀ xo yo,Ag Tp .add 9 xo yo (.string ⟨⟨Lib.decDigits p.f⟩⟩) (.string ⟨⟨[46]⟩⟩)=some (.string ⟨⟨Lib.decDigits p.f++[46]⟩⟩):=fun xo yo=>Is (by show (Lib.decDigits p.f).length+1 < _;omega)
  have j2:∀ xo yo,Ag Tp .add 9 xo yo (.string ⟨⟨Lib.decDigits p.f++[46]⟩⟩) (.string ⟨⟨B8 (bl p.g)⟩⟩)=some (.string ⟨⟨Lib.decDigits p.f++[46]++B8 (bl p.g)⟩⟩):=fun xo yo=>Is (by show (Lib.decDigits p.f++[46]).length+(B8 (bl p.g)).length < _;simp only [List.length_append,List.length_cons,List.length_nil];omega)
  have j3:∀ xo yo,Ag Tp .add 9 xo yo (.string ⟨⟨Lib.decDigits p.f++[46]++B8 (bl p.g)⟩⟩) (.string ⟨⟨[46]⟩⟩)=some (.string ⟨⟨Lib.decDigits p.f++[46]++B8 (bl p.g)++[46]⟩⟩):=fun xo yo=>Is (by show (Lib.decDigits p.f++[46]++B8 (bl p.g)).length+1 < _;simp only [List.length_append,List.length_cons,List.length_nil];omega)
  have j4:∀ xo yo,Ag Tp .add 9 xo yo (.string ⟨⟨Lib.decDigits p.f++[46]++B8 (bl p.g)++[46]⟩⟩) (.string ⟨⟨B8 (bl p.b)⟩⟩)=some (.string ⟨⟨C7 p⟩⟩):=fun xo yo=>Is (by show (Lib.decDigits p.f++[46]++B8 (bl p.g)++[46]).length+(B8 (bl p.b)).length < _;simp only [List.length_append,List.length_cons,List.length_nil];omega)
  simp only [TX,ML,MK,FH,Wj,Nat.zero_add,Ay r2.row,cellOf,isTuple,cond_false,Ad,N0,Bi]
  rw [wrap_u64 (by omega) (by omega)]
  refine Ps (by omega) g2.AG (by omega) fun B1 b1=>?_
  have nb:=b1.next
  have r2:=r2.keeps b1.keeps (by simp)
  simp only [Ay r2.row,cellOf,isTuple,cond_false,j1,Ad,Am]
  refine Z1 (by omega) b1.AG (by omega) fun A3 g3=>?_
  have n3:=g3.next
  have r3:=r2.keeps g3.keeps (by simp)
  simp only [Ay r3.row,cellOf,isTuple,cond_false,j1,j2,j3,Ad,Am]
  refine Z1 (by omega) g3.AG (by omega) fun A4 g4=>?_
  have n4:=g4.next
  simp only [j1,j2,j3,j4,Ad,Am]
  have hk:=hk A4 ((((((Grow.made m1 hf).trans g2).trans b1).trans g3).trans g4).more (by omega))
  unfold LH at hk
  rw [h] at hk
  exact hk
theorem Eb {a b:Value}:Bt (.tuple ⟨[a,b]⟩) 0=some a:=rfl
theorem Ea {a b:Value}:Bt (.tuple ⟨[a,b]⟩) 1=some b:=rfl
def tx (p:Nm):ByteArray:=⟨⟨if okX p=true then C7 p else []⟩⟩
theorem Ue {p:Nm} {A:AW} {K:Value→AW→Prop} (hp:Pow W0) (hn:KS p) (hf:AJ A) (hA:A.next+1100 < Al) (hk:∀ A',Grow A A' 701→K (.string (tx p)) A'):Wc Tp Ai W0 m0 44 [.agg ⟨p.cells⟩] A K:=by
 refine w44 _ _ (At (S:=fun _ _ _=>False) fun _ _ _ h=>h) ?_
 rw [e44]
 refine BI (cs:=p.cells) hf (by omega) rfl fun A1 m1=>?_
 have n1:=m1.next
 rw [Hn m1.B7]
 simp only [Ad]
 refine Ab1 hp hn m1.AG (by omega) fun A2 g2=>?_
 unfold LH
 simp only [Eb,Ea,Ad]
 exact hk A2 (((Grow.made m1 hf).trans g2).more (by omega))
theorem Aae {p:Nm} {A:AW} {K:Value→AW→Prop} (hn:KS p) (hf:AJ A) (hA:A.next+1100 < Al) (hk:∀ A',Grow A A' 701→K (.tuple ⟨[.string (tx p),.bool (okX p)]⟩) A'):Wc Tp Ai W0 m0 33 [.agg ⟨p.cells⟩] A K:=by
 refine w33 _ _ (At (S:=fun _ _ _=>False) fun _ _ _ h=>h) ?_
 rw [e33]
 refine BI (cs:=p.cells) hf (by omega) rfl fun A1 m1=>?_
 have n1:=m1.next
 rw [Hn m1.B7]
 simp only [Ad]
 refine Ab7 hn m1.AG (by omega) fun A2 g2=>?_
 unfold LH
 simp only [Eb,Ea,Ah,Ad]
 have hk:=hk A2 (((Grow.made m1 hf).trans g2).more (by omega))
 have e:((if okX p=true then (0:Int) else 40)==0)=okX p:=by cases okX p <;> rfl
 rw [e]
 exact hk
end
def CZ (r:List ByteArray):List UInt8:=r.flatMap fun y=>32::bl y
def BS:List ByteArray→List UInt8
 | []=>[]
 | x::r=>bl x++CZ r
def DS (l:List ByteArray):Nat:=(l.map fun s=>(bl s).length).sum
theorem KW (a b:List ByteArray):CZ (a++b)=CZ a++CZ b:=List.flatMap_append
theorem QC (a b:List ByteArray):DS (a++b)=DS a+DS b:=by simp [DS]
theorem Hw (r:List ByteArray):(CZ r).length=r.length+DS r:=by
 induction r with
 | nil=>rfl
 | cons y r ih=>
  rw [show CZ (y::r)=(32::bl y)++CZ r from by simp [CZ],List.length_append,ih,show DS (y::r)=(bl y).length+DS r from by simp [DS]]
  simp only [List.length_cons]
  omega
theorem OL {l:List ByteArray} {i:Nat} {s:ByteArray} (h:l[i]? =some s):DS (l.take (i+1))=DS (l.take i)+(bl s).length:=by
 rw [BH h,QC];simp [DS]
theorem MH (l:List ByteArray) (i:Nat):DS (l.take i)≤DS l:=by
 conv=>rhs;rw [← List.take_append_drop i l,QC]
 exact Nat.le_add_right _ _
theorem AcK {A:AW} {r n:Nat} (hn:n < 1000000000):BM Tp A 56 (.slice (some ⟨r,0,none⟩) (n+2) (n+2)) (some (.int .i64 1)) none none=some (.slice (some ⟨r,1,none⟩) (n+1) (n+1)):=by
 have hc:Bu=18446744073709551616:=rfl
 have hb:Nat.beq (n+2) 1=false:=rfl
 show BM Tp A 56 (.slice (some ⟨r,0,none⟩) (n+2) (n+2)) (some (.int .i64 (.ofNat 1))) none none=_
 unfold BM
 simp only [YX,sz9,BU.2 (show n+2 < Bu by omega),cond_false,bounds,IF,E8,Bo.2 (show 1≤n+2 by omega),Option.isSome_none,Bool.not_false,Bool.or_true,cond_true,hb]
 rfl
section
variable {W0:World} {m0:Inj Tp}
set_option maxHeartbeats 1000000 in
theorem Aac {x:ByteArray} {r:List ByteArray} {n:Nat} {w:Value} {F:List Nat} {A:AW} {K:Value→AW→Prop} (hrl:r.length=n+1) (hn:n < 10000000) (hsum:DS (x::r) < 900000000) (hfull:∀ {B:AW},Aw A B []→RdT B w (x::r) F)
  (htail:∀ {B:AW},Aw A B []→∃ w',BM Tp B 56 w (some (.int .i64 1)) none none=some w'∧∀ {C:AW},Aw A C []→RdT C w' r F) (hf:AJ A) (hA:A.next+10 < Al)
  (hk:∀ A',Grow A A' 2→K (.string ⟨⟨BS (x::r)⟩⟩) A'):Wc Tp Ai W0 m0 45 [w,.string ⟨⟨[32]⟩⟩] A K:=by
 have hlen:(x::r).length=n+2:=by simp [hrl]
 have hln:∀ {B:AW},Bm Tp B 56 w=some (.int .i64 ((n+2:Nat):Int)):=fun {B}=>by
  have:=(hfull (.refl A [])).len (B:=B)
  rwa [hlen] at this
 have htot:(bl x++CZ r).length=DS (x::r)+(n+1):=by
  rw [List.length_append,Hw,show DS (x::r)=(bl x).length+DS r from by simp [DS],hrl]
  omega
 let I:Nat→Nat→List Value→AW→Prop:=fun g id vals A'=>
  (id=1∧A'=A∧∃ i:Nat,vals=[w,.string ⟨⟨[32]⟩⟩,.int .i64 (((n+1+DS ((x::r).take i):Nat)):Int),w,.int .i64 ((n+2:Nat):Int),.int .i64 (i:Int)]∧i≤n+2∧g=20000000+(n+2 - i))∨
  (id=3∧∃ (i b:Nat) (w':Value),vals=[.string ⟨⟨[32]⟩⟩,.pointer (some ⟨A.next,0,none⟩),w',.int .i64 ((n+1:Nat):Int),.int .i64 (i:Int)]∧(∀ {C:AW},Aw A C []→RdT C w' r F)∧i≤n+1∧GB A' A.next (bl x++CZ (r.take i)) (DS (x::r)+(n+1)) b∧A.next < b∧Aw A A' []∧A'.next≤A.next+2∧AJ A'∧g=n+1 - i)
 refine w45 _ _ _ (c45 (I:=I) ?_) ?_
 ·rintro g id vals A' d (⟨rfl,rfl,i,rfl,hi,rfl⟩ | ⟨rfl,i,b,w',rfl,htl,hi,hB,hb,k,nx,f,rfl⟩) hd
  ·rw [Aba]
   simp only [L45,List.map_cons,List.map_nil,List.cons.injEq,and_true] at hd
   obtain ⟨d0,d1,d5,d39,d40,d41⟩:=hd
   have hsi:=MH (x::r) i
   simp only [d0,d1,d5,d39,d40,d41,BD,Ad,Av]
   refine ⟨fun hlt=>?_,fun hge=>?_⟩
   ·have hlt:i < n+2:=by omega
    have hp:=List.getElem?_eq_getElem (show i < (x::r).length by omega)
    generalize hss:(x::r)[i]'(show i < (x::r).length by omega)=s at hp
    obtain ⟨a,a1,a2⟩:=(hfull (.refl A' [])).at (k:=.i64) hp
    have hs1:=OL hp
    have hs2:=MH (x::r) (i+1)
    simp only [a1,FH,a2,Ad,FQ,Hf]
    rw [wrap_i64 (by omega) (by omega)]
    simp only [Ej,Ad,Av]
    refine ⟨fun h=>absurd h ?_,fun _=>?_⟩
    ·have:(bl s).length=s.data.toList.length:=rfl
     omega
    ·simp only [AU,Ad]
     have e1:IntKind.i64.wrap (((n+1+DS ((x::r).take i):Nat):Int)+((s.data.toList.length:Nat):Int))=((n+1+DS ((x::r).take (i+1)):Nat):Int):=by
      have:(bl s).length=s.data.toList.length:=rfl
      rw [wrap_i64 (by omega) (by omega)];omega
     have e2:IntKind.i64.wrap ((i:Int)+1)=((i+1:Nat):Int):=wrap_i64 (by omega) (by omega)
     rw [e1,e2]
     exact Aq.2 ⟨20000000+(n+2 - (i+1)),by omega,.inl ⟨rfl,rfl,i+1,rfl,by omega,rfl⟩⟩
   ·have hil:i=(x::r).length:=by omega
    rw [hil,List.take_length]
    refine AV RU hf (by omega) rfl fun A1 m1=>?_
    have n1:=m1.next
    have k1:=m1.keeps hf
    refine Ab0 m1.B7 (by omega) (by omega) m1.AG (by omega) fun v A2 hB2 k2 n2 f2=>?_
    have K2:Aw A' A2 []:=k1.trans k2 (fun y hy=>.inr (by rw [List.mem_singleton.1 hy];exact Nat.le_refl _))
    have ix0:=(hfull K2).at (k:=.i64) (i:=0) (s:=x) rfl
    obtain ⟨a,a1,a2⟩:=ix0
    have a1:Ao Tp 56 (w) (.int .i64 0)=some (.pointer (some a)):=a1
    simp only [a1,FH,a2,Ad]
    have hx:DS (x::r)=(bl x).length+DS r:=by simp [DS]
    have e:(n+1+DS (x::r))=(DS (x::r)+(n+1)):=Nat.add_comm _ _
    rw [e] at hB2
    refine YN hB2 (by simp only [List.length_nil];omega) f2 (by omega) fun v A3 hB3 k3 n3 f3=>?_
    have hy2:∀ y∈[A'.next,A1.next],A'.next≤y:=fun y hy=>by
     simp only [List.mem_cons,List.mem_nil_iff,or_false] at hy
     rcases hy with rfl | rfl <;> omega
    have K3:Aw A' A3 []:=K2.trans k3 (fun y hy=>.inr (hy2 y hy))
    obtain ⟨w',s1,s2⟩:=htail K3
    have s3:=(s2 (.refl A' [])).len (B:=A3)
    rw [hrl] at s3
    refine Aa s1 (Aa s3 ?_)
    refine Aq.2 ⟨n+1,by omega,.inr ⟨rfl,0,A1.next,w',rfl,s2,by omega,?_,by omega,K3,by omega,f3,rfl⟩⟩
    rw [List.take_zero,show CZ []=[] from rfl,List.append_nil];exact hB3
  ·rw [Aa9]
   simp only [L45,List.map_cons,List.map_nil,List.cons.injEq,and_true] at hd
   obtain ⟨d1,d8,d63,d64,d65⟩:=hd
   have hle:=k.next
   have hlt8:=hB.lt
   simp only [d1,d8,d63,d64,d65,BD,Ad,Av]
   have hx:DS (x::r)=(bl x).length+DS r:=by simp [DS]
   have hst:=MH r i
   have hcur:(bl x++CZ (r.take i)).length=(bl x).length+(i+DS (r.take i)):=by rw [List.length_append,Hw,List.length_take,Nat.min_eq_left (by omega)]
   refine ⟨fun hlt=>?_,fun hge=>?_⟩
   ·have hlt:i < r.length:=by omega
    have hp:=List.getElem?_eq_getElem hlt
    generalize hss:r[i]=s at hp
    obtain ⟨a,a1,a2⟩:=(htl k).at (k:=.i64) hp
    have hs1:=OL hp
    have hs2:=MH r (i+1)
    simp only [a1,FH,a2,Ad]
    refine YN hB (by rw [hcur];show _+1≤_;omega) f (by omega) fun v A2 hB2 k2 n2 f2=>?_
    refine YN hB2 (by rw [List.length_append,hcur];show _+1+_≤_;omega) f2 (by omega) fun v A3 hB3 k3 n3 f3=>?_
    have e2:IntKind.i64.wrap ((i:Int)+1)=((i+1:Nat):Int):=wrap_i64 (by omega) (by omega)
    simp only [AU,Ad,e2]
    have hin:∀ y∈[A.next,b],y∈([]:List Nat)∨A.next≤y:=fun y hy=>.inr (by
     simp only [List.mem_cons,List.mem_nil_iff,or_false] at hy
     rcases hy with rfl | rfl <;> omega)
    refine Aq.2 ⟨n+1 - (i+1),by omega,.inr ⟨rfl,i+1,b,w',rfl,htl,by omega,?_,hb,(k.trans k2 hin).trans k3 hin,by omega,f3,rfl⟩⟩
    have e:bl x++CZ (r.take (i+1))=bl x++CZ (r.take i)++[32]++bl s:=by
     rw [BH hp,KW];simp [CZ]
    rw [e]
    exact hB3
   ·have hil:i=r.length:=by omega
    rw [hil,List.take_length] at hB
    have hne:bl x++CZ r≠[]:=fun e=>by
     rw [e] at htot;simp only [List.length_nil] at htot;omega
    refine YO (hB.full htot (by omega)) hne (by omega) f (by omega) fun A2 k2 n2 f2=>?_
    exact hk A2 ⟨k.trans k2 (fun y hy=>.inr (by rw [List.mem_singleton.1 hy];omega)),f2,by omega⟩
 ·rw [e45]
  have hl1:Bm Tp A 9 (.string ⟨⟨[32]⟩⟩)=some (.int .i64 1):=FQ _ _
  simp only [hln,hl1,Ah,Ad,Ae]
  refine ⟨fun h=>absurd h (by omega),fun _=>⟨fun h=>absurd h (by omega),fun _=>?_⟩⟩
  simp only [Ej,Ad,Av]
  refine ⟨fun _=>?_,fun h=>absurd (by decide) h⟩
  simp only [Hf,Ad]
  rw [wrap_i64 (n:=(((n+2:Nat):Int) - 1)) (by omega) (by omega),show (((n+2:Nat):Int) - 1)=((n+1:Nat):Int) by omega,Qf (by omega)]
  have hq:(1000:Int)≤(9223372036854775807:Int).tdiv ((n+1:Nat):Int)∧(9223372036854775807:Int).tdiv ((n+1:Nat):Int)≤9223372036854775807:=by
   rw [Int.tdiv_eq_ediv_of_nonneg (by omega)]
   constructor
   ·exact (Int.le_ediv_iff_mul_le (by omega)).2 (by omega)
   ·exact Int.ediv_le_self _ (by omega)
  rw [wrap_i64 (by omega) (by omega)]
  simp only [FD,Ad,Av]
  refine ⟨fun h=>absurd h (by omega),fun _=>?_⟩
  simp only [T5,AU,Ad]
  rw [wrap_i64 (n:=1 * ((n+1:Nat):Int)) (by omega) (by omega),wrap_i64 (by omega) (by omega),show (0+1 * ((n+1:Nat):Int))=((n+1+DS ((x::r).take 0):Nat):Int) by simp [DS]]
  exact Aq.2 ⟨20000000+(n+2),.inl ⟨rfl,rfl,0,rfl,by omega,rfl⟩⟩
theorem Aab {x:ByteArray} {w:Value} {F:List Nat} {A:AW} {K:Value→AW→Prop} (h:RdT A w [x] F) (hk:K (.string x) A):Wc Tp Ai W0 m0 45 [w,.string ⟨⟨[32]⟩⟩] A K:=by
 refine w45 _ _ _ (At (S:=fun _ _ _=>False) fun _ _ _ h=>h) ?_
 rw [e45]
 obtain ⟨a,a1,a2⟩:=h.at (k:=.i64) (i:=0) (s:=x) rfl
 refine Aa h.len (Aa Ah (Ae.2 ⟨fun h=>absurd h (show ((1:Nat):Int)≠0 by decide),fun _=>Aa Ah (Ae.2 ⟨fun _=>Aa a1 (Aa (by rw [FH];exact a2) hk),fun h=>absurd rfl h⟩)⟩))
end
end Go.Proofs.YtebidlpekphaoaaGreatDoor
