/-
  Part 6 of 6: the abstract machine, then what the program does, then the statement. Printed short by a program of ours. Conditions: those of each theorem.
-/
import Derived.Test.YtebidlpekphaoaaGreatDoorPe
import Derived.ChangeMaps5
import Derived.Deep.DeepHandedRow
import Derived.Deep.DeepWitnessRowRef
import Derived.Deep.Strs
import Derived.LaidMore
import Derived.Lib.LaidTab
import Derived.Lib.SmallJoins
import Derived.SevenTiedAt
import Derived.Stop.LaidErr
import Derived.Test.YtebidlpekphaoaaGreatDoorCards
import Derived.Test.YtebidlpekphaoaaGreatDoorTie
set_option maxRecDepth 100000
namespace Go.Proofs.YtebidlpekphaoaaGreatDoor
open Go.Abs
theorem Wo {ws us:List Word} (h:ws≠[]) (h2:us≠[]):BS ((ws++us).map txt)=BS (ws.map txt)++[32]++BS (us.map txt):=by
 cases ws with
 | nil=>exact absurd rfl h
 | cons x r=>
  cases us with
  | nil=>exact absurd rfl h2
  | cons y t=>
   show x++CZ ((r++y::t).map txt)=x++CZ (r.map txt)++[32]++(y++CZ (t.map txt))
   rw [List.map_append,KW]
   have:CZ ((y::t).map txt)=32::(y++CZ (t.map txt)):=by simp [CZ,C8]
   rw [this];simp
theorem Adx {ws us:List Word} (h0:ws≠[]) (h2:us≠[]) (h:BE ws+ws.length < 1000000000) (hu:BE us+us.length < 1000000000) (xo yo:Operand):Ag Tp .add 9 xo yo (.string (txt (BS (ws.map txt)++[32]))) (.string (txt (BS (us.map txt))))=some (.string (txt (BS ((ws++us).map txt)))):=by
 have e1:=Cb ws
 have e2:=Cb us
 have:=XY (x:=BS (ws.map txt)++[32]) (y:=BS (us.map txt)) (by simp only [List.length_append,List.length_cons,List.length_nil];omega) xo yo
 rw [Wo h0 h2]
 exact this
structure JE (A0 A:AW) (v:EvD) (vn vk vr:Value) (b q:Nat) (i:Nat) (ws:List Word) (left:EvD) (ln lk lr:Value):Prop where
 r:Go.Abs.AQ A b (v.cells vn vk vr) 40
 l:Go.Abs.AQ A q (left.cells ln lk lr) 40
 rd:∃ G,RdV A left ln lk lr G∧q∉G
 hw:ws=[(Aj v.kind).1]++((Aj v.kind).2.take i).flatMap (Ce v)
 go:goE v (Aj v.kind).2 [(Aj v.kind).1] (zE v)=goE v ((Aj v.kind).2.drop i) ws left
 k:Aw A0 A []
 f:AJ A
 hq:A0.next≤q
 n1:b≠q
 kind0:left.kind=0
theorem JE.grow {A0 A A':AW} {v:EvD} {vn vk vr ln lk lr:Value} {b q i:Nat} {ws:List Word} {left:EvD} {m:Nat} (j:JE A0 A v vn vk vr b q i ws left ln lk lr) (g:Grow A A' m):JE A0 A' v vn vk vr b q i ws left ln lk lr:=by
 obtain ⟨G,h3,h4⟩:=j.rd
 exact ⟨j.r.keeps g.keeps (by simp),j.l.keeps g.keeps (by simp),⟨G,h3.keeps g.keeps (by simp),h4⟩,j.hw,j.go,j.k.trans g.keeps (by simp),g.AG,j.hq,j.n1,j.kind0⟩
theorem XH {left:EvD} (h0:left.kind=0) (h1:left.node=0) (h2:left.to=0) (h3:left.n=0) (h4:left.x=EM) (h5:left.nodes=[]) (h6:left.keep=[]) (h7:left.s=.empty) (h8:left.a=false) (h9:left.call=Bf):left=Cl:=by
 cases left
 simp only at h0 h1 h2 h3 h4 h5 h6 h7 h8 h9
 simp only [h0,h1,h2,h3,h4,h5,h6,h7,h8,h9]
 rfl
theorem U5 (v:EvD) (h:UInt8) (left:EvD):(MD v h left).kind=left.kind:=by
 unfold MD
 repeat' split
 all_goals rfl
theorem YC {v:EvD} {i:Nat} {h:UInt8} (hi:(Aj v.kind).2[i]? =some h):(Aj v.kind).2.drop i=h::(Aj v.kind).2.drop (i+1):=by
 obtain ⟨hlt,e⟩:=List.getElem?_eq_some_iff.1 hi
 rw [List.drop_eq_getElem_cons hlt,e]
theorem JE.step {A0 A A':AW} {v:EvD} {vn vk vr ln lk lr ln' lk' lr':Value} {b q i:Nat} {ws w:List Word} {left left':EvD} {h:UInt8} (j:JE A0 A v vn vk vr b q i ws left ln lk lr) (hi:(Aj v.kind).2[i]? =some h) (hl:Ir v h=some w) (hc:MD v h left=left') (l2:Go.Abs.AQ A' q (left'.cells ln' lk' lr') 40) (k2:Aw A A' [q]) (f2:AJ A')
  (hr:∃ G,RdV A left' ln' lk' lr' G∧q∉G):JE A0 A' v vn vk vr b q (i+1) (ws++w) left' ln' lk' lr':=by
 obtain ⟨G,h3,h4⟩:=hr
 refine ⟨j.r.keeps k2 (by simp [j.n1]),l2,⟨G,h3.keeps k2 fun x hx hm=>h4 (by rw [← List.mem_singleton.1 hm];exact hx),h4⟩,?_,?_,j.k.trans k2 fun x hx=>.inr (by rw [List.mem_singleton.1 hx];exact j.hq),f2,j.hq,j.n1,?_⟩
 ·rw [BH hi,List.flatMap_append,← List.append_assoc,← j.hw]
  simp [Li hl]
 ·rw [j.go,YC hi]
  show (match Ir v h with | none=>none | some w=>goE v _ (ws++w) (MD v h left))=_
  rw [hl,hc]
 ·rw [← hc,U5];exact j.kind0
theorem JE.bad {A0 A:AW} {v:EvD} {vn vk vr ln lk lr:Value} {b q i:Nat} {ws:List Word} {left:EvD} {h:UInt8} (j:JE A0 A v vn vk vr b q i ws left ln lk lr) (hi:(Aj v.kind).2[i]? =some h) (hl:Ir v h=none):DE v=none:=by
 have e:goE v (Aj v.kind).2 [(Aj v.kind).1] (zE v)=none:=by
  rw [j.go,YC hi]
  show (match Ir v h with | none=>none | some w=>goE v _ (ws++w) (MD v h left))=_
  rw [hl]
 cases hp:DE v with
 | none=>rfl
 | some ws'=>
  have:=(C0.1 hp).2.1
  have this:goE v (Aj v.kind).2 [(Aj v.kind).1] (zE v)=some (ws',Cl):=this
  rw [e] at this;cases this
theorem JE.sum {A0 A:AW} {v:EvD} {vn vk vr ln lk lr:Value} {b q i:Nat} {ws:List Word} {left:EvD} (j:JE A0 A v vn vk vr b q i ws left ln lk lr):BE ws+ws.length≤BE (Bg v)+(Bg v).length:=by
 have e:Bg v=ws++((Aj v.kind).2.drop i).flatMap (Ce v):=by
  rw [j.hw]
  show [(Aj v.kind).1]++(Aj v.kind).2.flatMap (Ce v)=_
  conv=>lhs;rw [← List.take_append_drop i (Aj v.kind).2,List.flatMap_append,← List.append_assoc]
 rw [e,AM,List.length_append]
 omega
theorem JE.Aay {A0 A:AW} {v:EvD} {vn vk vr ln lk lr:Value} {b q i:Nat} {ws:List Word} {left:EvD} {h:UInt8} (j:JE A0 A v vn vk vr b q i ws left ln lk lr) (hi:(Aj v.kind).2[i]? =some h):BE (ws++Ce v h)+(ws++Ce v h).length≤BE (Bg v)+(Bg v).length:=by
 have e:Bg v=(ws++Ce v h)++((Aj v.kind).2.drop (i+1)).flatMap (Ce v):=by
  rw [j.hw]
  show [(Aj v.kind).1]++(Aj v.kind).2.flatMap (Ce v)=_
  have e1:((Aj v.kind).2.take (i+1)).flatMap (Ce v)=((Aj v.kind).2.take i).flatMap (Ce v)++Ce v h:=by
   rw [BH hi,List.flatMap_append];simp
  conv=>lhs;rw [← List.take_append_drop (i+1) (Aj v.kind).2,List.flatMap_append,e1]
  simp
 rw [e]
 simp only [AM,List.length_append]
 omega
theorem JE.ne {A0 A:AW} {v:EvD} {vn vk vr ln lk lr:Value} {b q i:Nat} {ws:List Word} {left:EvD} (j:JE A0 A v vn vk vr b q i ws left ln lk lr):ws≠[]:=by
 rw [j.hw];simp
theorem JE.done {A0 A:AW} {v:EvD} {vn vk vr ln lk lr:Value} {b q i:Nat} {ws:List Word} {left:EvD} (j:JE A0 A v vn vk vr b q i ws left ln lk lr) (hi:(Aj v.kind).2.length≤i):ws=Bg v∧((Aj v.kind).1=[]∨left≠Cl→DE v=none)∧((Aj v.kind).1≠[]→left=Cl→DE v=some (Bg v)):=by
 have e:ws=Bg v:=by
  rw [j.hw,List.take_of_length_le hi];rfl
 have h:=j.go
 rw [List.drop_eq_nil_of_le hi] at h
 have h:goE v (Aj v.kind).2 [(Aj v.kind).1] (zE v)=some (ws,left):=h
 refine ⟨e,fun hb=>?_,fun h1 h2=>C0.2 ⟨rfl,?_,h1⟩⟩
 ·cases hp:DE v with
  | none=>rfl
  | some ws'=>
   obtain ⟨_,h3,h4⟩:=C0.1 hp
   have h3:goE v (Aj v.kind).2 [(Aj v.kind).1] (zE v)=some (ws',Cl):=h3
   rw [h] at h3
   simp only [Option.some.injEq,Prod.mk.injEq] at h3
   rcases hb with hb | hb
   ·exact absurd hb h4
   ·exact absurd h3.2 hb
 ·rw [← e,← h2];exact h
theorem UA (n:Nat):∀ h∈(Aj n).2,h=110∨h=116∨h=105∨h=88∨h=99∨h=83∨h=98∨h=107∨h=67:=by
 rcases Nat.lt_or_ge 17 n with h | h
 ·rw [Cn h];simp
 ·have:∀ n < 18,∀ h∈(Aj n).2,h=110∨h=116∨h=105∨h=88∨h=99∨h=83∨h=98∨h=107∨h=67:=by decide
  exact this n (by omega)
theorem UY (n:Nat):(Aj n).2.length≤3:=by
 rcases Nat.lt_or_ge 17 n with h | h
 ·rw [Cn h];decide
 ·have:∀ n < 18,(Aj n).2.length≤3:=by decide
  exact this n (by omega)
theorem AcS {n i:Nat} (h:i < (Aj n).2.length):∃ b,(Aj n).2[i]? =some b∧b∈(Aj n).2:=⟨_,List.getElem?_eq_getElem h,List.getElem_mem h⟩
theorem NZ {n:Nat} (h:n < 256) (A:AW):AD Tp A 5 35 (.int .u8 (n:Int))=.ok (.int .u64 (n:Int)) A:=by
 rw [T0,wrap_u64 (by omega) (by omega)]
theorem YB {a b c:Value}:Bt (.tuple ⟨[a,b,c]⟩) 0=some a:=rfl
theorem YA {a b c:Value}:Bt (.tuple ⟨[a,b,c]⟩) 1=some b:=rfl
theorem Yz {a b c:Value}:Bt (.tuple ⟨[a,b,c]⟩) 2=some c:=rfl
theorem AaR (p q:Nm) (xo yo:Operand):Ag Tp .neq 32 xo yo (.agg ⟨p.cells⟩) (.agg ⟨q.cells⟩)=some (.bool !(M6 (p.f:Int) (q.f:Int) p.g q.g p.b q.b)):=by
 have hg:DN Tp 32 xo yo (kX p) (kX q)=true:=by
  show (!Tp.eqGuardType Tp.depth 32)=true
  kernel_rfl
 show (bif DN Tp 32 xo yo (kX p) (kX q) then (match eqA Tp 32 (kX p) (kX q) with | some b=>some (Value.bool !b) | none=>none) else none)=_
 rw [hg,cond_true,eqX]
section
variable {W0:World} {m0:Inj Tp}
set_option maxHeartbeats 4000000 in
theorem Aaj {v:EvD} {vn vk vr:Value} {G:List Nat} {A:AW} {K:Value→AW→Prop} (hw:v.Wf) (hrd:RdV A v vn vk vr G) (hsz:szV v < 90000000) (hsum:BE (Bg v)+(Bg v).length < 300000000) (hsumC:BE (Bv v.call)+(Bv v.call).length < 300000000) (hf:AJ A) (hA:A.next+60 * (BE (Bg v)+(Bg v).length)+60 * (BE (Bv v.call)+(Bv v.call).length)+300000000 < Al)
  (h0:DE v=none→∀ A',Grow A A' (60 * (BE (Bg v)+(Bg v).length)+60 * (BE (Bv v.call)+(Bv v.call).length)+100000)→K (.tuple ⟨[.string ⟨⟨[]⟩⟩,.int .i64 310]⟩) A')
  (h1:DE v=some (Bg v)→∀ A',Grow A A' (60 * (BE (Bg v)+(Bg v).length)+60 * (BE (Bv v.call)+(Bv v.call).length)+100000)→K (.tuple ⟨[.string (txt (BS ((Bg v).map txt))),.int .i64 0]⟩) A'):
  Wc Tp Ai W0 m0 14 [.agg ⟨v.cells vn vk vr⟩] A K:=by
 have hmx:Al=1099511627776:=rfl
 obtain ⟨G,hrd,_,hGA⟩:=hrd.tight
 obtain ⟨⟨on,hvn⟩,⟨ok,hvk⟩,or,hvr⟩:=hrd.one
 have hrl:=Iz v.call.refs
 have hszv:szV v=(bl v.s).length+v.nodes.length+v.keep.length+szC v.call:=rfl
 have hsl:=Fl (bl v.s)
 have hpl:=UY v.kind
 let I:Nat→Nat→List Value→AW→Prop:=fun g id vals A'=>
  (id=0∧∃ (q i:Nat) (ws:List Word) (left:EvD) (ln lk lr:Value),vals=[.pointer (some ⟨A.next,0,none⟩),.string (txt (Aj v.kind).1),.string (txt (Aj v.kind).2),.string (txt (BS (ws.map txt))),.pointer (some ⟨q,0,none⟩),.int .i64 (i:Int)]∧JE A A' v vn vk vr A.next q i ws left ln lk lr∧i≤(Aj v.kind).2.length∧A'.next≤A.next+100+15000 * i+60 * (BE ws+ws.length)+(if i=(Aj v.kind).2.length then 60 * (BE (Bv v.call)+(Bv v.call).length) else 0)∧g=((Aj v.kind).2.length - i) * 100000000)∨
  (id=3∧∃ (q i k:Nat) (ws:List Word) (left:EvD) (ln lk lr:Value),vals=[.pointer (some ⟨A.next,0,none⟩),.string (txt (Aj v.kind).1),.string (txt (Aj v.kind).2),.string (txt (BS ((ws++(v.nodes.take k).map Lib.decDigits).map txt))),.pointer (some ⟨q,0,none⟩),.int .i64 (i:Int),.int .i64 (k:Int)]∧JE A A' v vn vk vr A.next q i ws left ln lk lr∧(Aj v.kind).2[i]? =some 98∧k≤v.nodes.length∧A'.next≤A.next+100+15000 * i+60 * (BE (ws++(v.nodes.take k).map Lib.decDigits)+(ws++(v.nodes.take k).map Lib.decDigits).length)∧g=((Aj v.kind).2.length - i) * 100000000 - 1 - k)∨
  (id=5∧∃ (q i k:Nat) (ws:List Word) (left:EvD) (ln lk lr:Value),vals=[.pointer (some ⟨A.next,0,none⟩),.string (txt (Aj v.kind).1),.string (txt (Aj v.kind).2),.string (txt (BS ((ws++(v.keep.take k).map Lib.itoa).map txt))),.pointer (some ⟨q,0,none⟩),.int .i64 (i:Int),.int .i64 (k:Int)]∧JE A A' v vn vk vr A.next q i ws left ln lk lr∧(Aj v.kind).2[i]? =some 107∧k≤v.keep.length∧A'.next≤A.next+100+15000 * i+60 * (BE (ws++(v.keep.take k).map Lib.itoa)+(ws++(v.keep.take k).map Lib.itoa).length)∧g=((Aj v.kind).2.length - i) * 100000000 - 1 - k)
 refine w14 _ _ (c14 (I:=I) ?_) ?_
 ·rintro g id vals A' d (⟨rfl,q,i,ws,left,ln,lk,lr,rfl,j,hi,hn,rfl⟩ | ⟨rfl,q,i,k,ws,left,ln,lk,lr,rfl,j,hp0,hk,hn,rfl⟩ | ⟨rfl,q,i,k,ws,left,ln,lk,lr,rfl,j,hp0,hk,hn,rfl⟩) hd
  ·rw [Abm]
   simp only [L14,List.map_cons,List.map_nil,List.cons.injEq,and_true] at hd
   obtain ⟨d1,d4,d5,d6,d7,d8⟩:=hd
   simp only [d1,d4,d5,d6,d7,d8]
   have hne:=j.ne
   have hs0:=j.sum
   obtain ⟨G',hrl',hqG⟩:=j.rd
   have hlo:=hrl'.one
   refine Aa (FQ _ _) (Aa BD (Av.2 ⟨fun hlt=>?_,fun hge=>?_⟩))
   ·have hlt:i < (Aj v.kind).2.length:=by have:(i:Int) < ((Aj v.kind).2.length:Int):=hlt;omega
    rw [if_neg (by omega)] at hn
    obtain ⟨h,hp0,hmem⟩:=AcS hlt
    have e2:IntKind.i64.wrap ((i:Int)+1)=((i+1:Nat):Int):=wrap_i64 (by omega) (by omega)
    have nxt:∀ {A2:AW} {w:List Word} {left':EvD} {ln' lk' lr':Value},JE A A2 v vn vk vr A.next q (i+1) (ws++w) left' ln' lk' lr'→A2.next≤A.next+100+15000 * (i+1)+60 * (BE (ws++w)+(ws++w).length)→∃ g2,g2 < ((Aj v.kind).2.length - i) * 100000000∧I g2 0 [.pointer (some ⟨A.next,0,none⟩),.string (txt (Aj v.kind).1),.string (txt (Aj v.kind).2),.string (txt (BS ((ws++w).map txt))),.pointer (some ⟨q,0,none⟩),.int .i64 ((i+1:Nat):Int)] A2:=fun {A2 w left' ln' lk' lr'} j2 hn2=>
     ⟨((Aj v.kind).2.length - (i+1)) * 100000000,by omega,.inl ⟨rfl,q,i+1,ws++w,left',ln',lk',lr',rfl,j2,by omega,by omega,rfl⟩⟩
    refine Aa (ix9 (s:=txt (Aj v.kind).2) hp0) ?_
    refine Aa Ah (Ae.2 ⟨fun hc=>?_,fun hc110=>?_⟩)
    ·obtain rfl:h=110:=EF (k:=110) (by decide) hc
     refine Aa (Bw _ 0) (Aa (FF j.r) (DO (NZ hw.node _) (Ps (by have:=hw.node;omega) j.f (by omega) fun A1 g1=>?_)))
     have n1:=g1.next
     have j1:=j.grow g1
     refine Aa (Bw _ 0) (Go.Abs.AQ.store (n:=1) (off:=1) (v:=.int .u8 0) (j1.l) j1.f (by omega) (Hy _ _ _) rfl (show 1+1≤23 by decide) rfl fun A2 l2 k2 n2 f2=>?_)
     have same:∀ {B:AW},JE A B v vn vk vr A.next q i ws left ln lk lr→∃ G,RdV B { left with node:=0 } ln lk lr G∧q∉G:=fun j=>by obtain ⟨G,h,h2⟩:=j.rd;exact ⟨G,⟨h.n,h.k,h.r⟩,h2⟩
     have j2:=j1.step (h:=110) (ln':=ln) (lk':=lk) (lr':=lr) hp0 rfl rfl l2 k2 f2 (same j1)
     have hs2:=j2.sum
     simp only [AM,AS,List.length_append,List.length_cons,List.length_nil,show BE []=0 from rfl] at hs2
     refine Aa (Dn (by have:=Cb ws;omega) _ _) (Aa (Fc (w:=Lib.decDigits v.node) hne (by omega) (by omega) _ _) ?_)
     simp only [AU,Ad,e2]
     exact Aq.2 (nxt j2 (by simp only [AM,AS,List.length_append,List.length_cons,List.length_nil,show BE []=0 from rfl];omega))
    refine Aa Ah (Ae.2 ⟨fun hc=>?_,fun hc116=>?_⟩)
    ·obtain rfl:h=116:=EF (k:=116) (by decide) hc
     refine Aa (CM _ 0) (Aa (Jk j.r) (DO (NZ hw.to _) (Ps (by have:=hw.to;omega) j.f (by omega) fun A1 g1=>?_)))
     have n1:=g1.next
     have j1:=j.grow g1
     refine Aa (CM _ 0) (Go.Abs.AQ.store (n:=1) (off:=2) (v:=.int .u8 0) (j1.l) j1.f (by omega) (Hy _ _ _) rfl (show 2+1≤23 by decide) rfl fun A2 l2 k2 n2 f2=>?_)
     have same:∀ {B:AW},JE A B v vn vk vr A.next q i ws left ln lk lr→∃ G,RdV B { left with to:=0 } ln lk lr G∧q∉G:=fun j=>by obtain ⟨G,h,h2⟩:=j.rd;exact ⟨G,⟨h.n,h.k,h.r⟩,h2⟩
     have j2:=j1.step (h:=116) (ln':=ln) (lk':=lk) (lr':=lr) hp0 rfl rfl l2 k2 f2 (same j1)
     have hs2:=j2.sum
     simp only [AM,AS,List.length_append,List.length_cons,List.length_nil,show BE []=0 from rfl] at hs2
     refine Aa (Dn (by have:=Cb ws;omega) _ _) (Aa (Fc (w:=Lib.decDigits v.to) hne (by omega) (by omega) _ _) ?_)
     simp only [AU,Ad,e2]
     exact Aq.2 (nxt j2 (by simp only [AM,AS,List.length_append,List.length_cons,List.length_nil,show BE []=0 from rfl];omega))
    refine Aa Ah (Ae.2 ⟨fun hc=>?_,fun hc105=>?_⟩)
    ·obtain rfl:h=105:=EF (k:=105) (by decide) hc
     refine Aa (BC _ 0) (Aa (EL j.r) (Aaf hw.n.1 hw.n.2 j.f (by omega) fun A1 g1=>?_))
     have n1:=g1.next
     have j1:=j.grow g1
     refine Aa (BC _ 0) (Go.Abs.AQ.store (n:=1) (off:=3) (v:=.int .i64 0) (j1.l) j1.f (by omega) (M0 _ _ _) rfl (show 3+1≤23 by decide) rfl fun A2 l2 k2 n2 f2=>?_)
     have same:∀ {B:AW},JE A B v vn vk vr A.next q i ws left ln lk lr→∃ G,RdV B { left with n:=0 } ln lk lr G∧q∉G:=fun j=>by obtain ⟨G,h,h2⟩:=j.rd;exact ⟨G,⟨h.n,h.k,h.r⟩,h2⟩
     have j2:=j1.step (h:=105) (ln':=ln) (lk':=lk) (lr':=lr) hp0 rfl rfl l2 k2 f2 (same j1)
     have hs2:=j2.sum
     simp only [AM,AS,List.length_append,List.length_cons,List.length_nil,show BE []=0 from rfl] at hs2
     refine Aa (Dn (by have:=Cb ws;omega) _ _) (Aa (Fc (w:=Lib.itoa v.n) hne (by omega) (by omega) _ _) ?_)
     simp only [AU,Ad,e2]
     exact Aq.2 (nxt j2 (by simp only [AM,AS,List.length_append,List.length_cons,List.length_nil,show BE []=0 from rfl];omega))
    refine Aa Ah (Ae.2 ⟨fun hc=>?_,fun hc88=>?_⟩)
    ·obtain rfl:h=88:=EF (k:=88) (by decide) hc
     refine Aa (Dt _ 0) (Aa (Mo j.r) (Aae hw.x j.f (by omega) fun A1 g1=>?_))
     have n1:=g1.next
     have j1:=j.grow g1
     refine Aa Eb (Aa Ea (Aa EP (Ak.2 ⟨fun hx=>?_,fun hx=>?_⟩)))
     ·have hx:okX v.x=false:=by simpa using hx
      exact h0 (j.bad hp0 (show (if okX v.x=true then some [C7 v.x] else none)=none by rw [if_neg (by rw [hx];decide)])) A1 ⟨j1.k,j1.f,by omega⟩
     have hx:okX v.x=true:=by simpa using hx
     have hwx:Ir v 88=some [bl (tx v.x)]:=by
      show (if okX v.x=true then some [C7 v.x] else none)=some [if okX v.x=true then C7 v.x else []]
      rw [if_pos hx,if_pos hx]
     refine Aa Qo ?_
     refine Aa (Dt _ 0) (Go.Abs.AQ.store (n:=3) (off:=4) (v:=.agg ⟨EM.cells⟩) (j1.l) j1.f (by omega) (HA _ _ _) rfl (show 4+3≤23 by decide) rfl fun A2 l2 k2 n2 f2=>?_)
     have same:∀ {B:AW},JE A B v vn vk vr A.next q i ws left ln lk lr→∃ G,RdV B { left with x:=EM } ln lk lr G∧q∉G:=fun j=>by obtain ⟨G,h,h2⟩:=j.rd;exact ⟨G,⟨h.n,h.k,h.r⟩,h2⟩
     have j2:=j1.step (h:=88) (ln':=ln) (lk':=lk) (lr':=lr) hp0 hwx rfl l2 k2 f2 (same j1)
     have etx:tx v.x=txt (bl (tx v.x)):=(Hi _).symm
     rw [etx]
     have hs2:=j2.sum
     simp only [AM,AS,List.length_append,List.length_cons,List.length_nil,show BE []=0 from rfl] at hs2
     refine Aa (Dn (by have:=Cb ws;omega) _ _) (Aa (Fc hne (by omega) (by omega) _ _) ?_)
     simp only [AU,Ad,e2]
     exact Aq.2 (nxt j2 (by simp only [AM,AS,List.length_append,List.length_cons,List.length_nil,show BE []=0 from rfl];omega))
    refine Aa Ah (Ae.2 ⟨fun hc=>?_,fun hc99=>?_⟩)
    ·obtain rfl:h=99:=EF (k:=99) (by decide) hc
     refine Aa (Ds _ 0) (Aa (Hv j.r) (Ts ?_))
     have j1:=j
     refine Aa (Ds _ 0) (Go.Abs.AQ.store (n:=1) (off:=10) (v:=.bool false) (j1.l) j1.f (by omega) (HX _ _ _) rfl (show 10+1≤23 by decide) rfl fun A2 l2 k2 n2 f2=>?_)
     have same:∀ {B:AW},JE A B v vn vk vr A.next q i ws left ln lk lr→∃ G,RdV B { left with a:=false } ln lk lr G∧q∉G:=fun j=>by obtain ⟨G,h,h2⟩:=j.rd;exact ⟨G,⟨h.n,h.k,h.r⟩,h2⟩
     have j2:=j1.step (h:=99) (ln':=ln) (lk':=lk) (lr':=lr) hp0 rfl rfl l2 k2 f2 (same j1)
     have hs2:=j2.sum
     simp only [AM,AS,List.length_append,List.length_cons,List.length_nil,show BE []=0 from rfl] at hs2
     refine Aa (Dn (by have:=Cb ws;omega) _ _) (Aa (Fc (w:=CL v.a DV OG) hne (by omega) (by omega) _ _) ?_)
     simp only [AU,Ad,e2]
     exact Aq.2 (nxt j2 (by simp only [AM,AS,List.length_append,List.length_cons,List.length_nil,show BE []=0 from rfl];omega))
    refine Aa Ah (Ae.2 ⟨fun hc=>?_,fun hc83=>?_⟩)
    ·obtain rfl:h=83:=EF (k:=83) (by decide) hc
     refine Aa (DZ _ 0) (Aa (Ml j.r) (Vn (s:=v.s) (by show (bl v.s).length < _;omega) j.f (by show _+(bl v.s).length < _;omega) fun A1 g1=>?_))
     have g1:Grow A' A1 (bl v.s).length:=g1
     have n1:=g1.next
     have j1:=j.grow g1
     refine Aa (DZ _ 0) (Go.Abs.AQ.store (n:=1) (off:=9) (v:=.string ⟨⟨[]⟩⟩) (j1.l) j1.f (by omega) (HW _ _ _) rfl (show 9+1≤23 by decide) rfl fun A2 l2 k2 n2 f2=>?_)
     have same:∀ {B:AW},JE A B v vn vk vr A.next q i ws left ln lk lr→∃ G,RdV B { left with s:=.empty } ln lk lr G∧q∉G:=fun j=>by obtain ⟨G,h,h2⟩:=j.rd;exact ⟨G,⟨h.n,h.k,h.r⟩,h2⟩
     have j2:=j1.step (h:=83) (ln':=ln) (lk':=lk) (lr':=lr) hp0 rfl rfl l2 k2 f2 (same j1)
     have hs2:=j2.sum
     simp only [AM,AS,List.length_append,List.length_cons,List.length_nil,show BE []=0 from rfl] at hs2
     refine Aa (Dn (by have:=Cb ws;omega) _ _) (Aa (Fc (w:=AY (bl v.s)) hne (by omega) (by omega) _ _) ?_)
     simp only [AU,Ad,e2]
     exact Aq.2 (nxt j2 (by simp only [AM,AS,List.length_append,List.length_cons,List.length_nil,show BE []=0 from rfl];omega))
    refine Aa Ah (Ae.2 ⟨fun hc=>?_,fun hc98=>?_⟩)
    ·obtain rfl:h=98:=EF (k:=98) (by decide) hc
     refine Aq.2 ⟨((Aj v.kind).2.length - i) * 100000000 - 1 - 0,by omega,.inr (.inl ⟨rfl,q,i,0,ws,left,ln,lk,lr,?_,j,hp0,by omega,?_,rfl⟩)⟩
     ·simp only [List.take_zero,List.map_nil,List.append_nil];rfl
     ·simp only [List.take_zero,List.map_nil,List.append_nil];omega
    refine Aa Ah (Ae.2 ⟨fun hc=>?_,fun hc107=>?_⟩)
    ·obtain rfl:h=107:=EF (k:=107) (by decide) hc
     refine Aq.2 ⟨((Aj v.kind).2.length - i) * 100000000 - 1 - 0,by omega,.inr (.inr ⟨rfl,q,i,0,ws,left,ln,lk,lr,?_,j,hp0,by omega,?_,rfl⟩)⟩
     ·simp only [List.take_zero,List.map_nil,List.append_nil];rfl
     ·simp only [List.take_zero,List.map_nil,List.append_nil];omega
    refine Aa Ah (Ae.2 ⟨fun hc=>?_,fun hc67=>?_⟩)
    ·obtain rfl:h=67:=EF (k:=67) (by decide) hc
     have hlast:i+1=(Aj v.kind).2.length:=by
      have hC:(67:UInt8)∈(Aj v.kind).2:=hmem
      have h16:v.kind=16:=by
       rcases Nat.lt_or_ge 17 v.kind with hg | hg
       ·rw [Cn hg] at hC;cases hC
       ·exact Yh v.kind (by omega) hC
      rw [h16] at hp0 hlt ⊢
      match i with
      | 0=>exact absurd hp0 (by decide)
      | 1=>rfl
      | i+2=>exact absurd hlt (by show ¬ (i+2 < 2);omega)
     obtain ⟨Fr,hrc,hFr⟩:=(hrd.keeps j.k (by simp)).r
     refine Aa (CJ _ 0) (Aa (Ki j.r hvr) (Aci hw.call hrc (by omega) hsumC j.f (by omega) (fun hno A1 rest rr o1 o2 g1=>?_) (fun rest hyes A1 rr hrr g1=>?_)))
     ·have n1:=g1.next
      have hl:Ir v 67=none:=by
       show (match CT v.call with | some (ws,_)=>if (partsOf v.call.what).1=[] then none else some ws | none=>none)=none
       rw [hno]
      have j1:=j.grow g1
      refine Aa YB (Aa YA (Aa Yz (AV Hh g1.AG (by omega) rfl fun A2 m2=>?_)))
      have n2:=m2.next
      have k2:=m2.keeps g1.AG
      refine storeAll (n:=12) (new:=rest.cells rr) m2.B7 m2.AG (by omega) (Hz _ _ _) rfl rfl (C4 _ o1) fun A3 l3 k3 n3 f3=>?_
      refine Aa EP (Ak.2 ⟨fun _=>?_,fun h=>(by cases h)⟩)
      have hle:=j1.k.next
      exact h0 (j.bad hp0 hl) A3 ⟨(j1.k.trans k2 (by simp)).trans k3 fun x hx=>.inr (by rw [List.mem_singleton.1 hx];exact hle),f3,by omega⟩
     ·have n1:=g1.next
      have j1:=j.grow g1
      have hro:AL rr=true∧isTuple rr=false:=by
       rcases hrr with ⟨rfl,_⟩ | ⟨rfl,_⟩
       ·exact hrc.one
       ·exact ⟨rfl,rfl⟩
      have hle:=j1.k.next
      refine Aa YB (Aa YA (Aa Yz (AV Hh g1.AG (by omega) rfl fun A2 m2=>?_)))
      have n2:=m2.next
      have k2:=m2.keeps g1.AG
      have j2:=j1.grow (Grow.made m2 g1.AG)
      refine storeAll (n:=12) (new:=rest.cells rr) m2.B7 m2.AG (by omega) (Hz _ _ _) rfl rfl (C4 _ hro.1) fun A3 l3 k3 n3 f3=>?_
      have g13:Grow A1 A3 1:=⟨k2.trans k3 fun x hx=>.inr (by rw [List.mem_singleton.1 hx];omega),f3,by omega⟩
      have j3:=j1.grow g13
      refine Aa EP (Ak.2 ⟨fun hb=>?_,fun hb=>?_⟩)
      ·have hv:(partsOf v.call.what).1=[]:=by simpa using hb
       have hl:Ir v 67=none:=by
        show (match CT v.call with | some (ws,_)=>if (partsOf v.call.what).1=[] then none else some ws | none=>none)=none
        rw [hyes]
        show (if _ then _ else _)=_
        rw [if_pos hv]
       exact h0 (j.bad hp0 hl) A3 ⟨j3.k,f3,by omega⟩
      ·have hv:(partsOf v.call.what).1≠[]:=by simpa using hb
       have hl:Ir v 67=some (Bv v.call):=by
        show (match CT v.call with | some (ws,_)=>if (partsOf v.call.what).1=[] then none else some ws | none=>none)=_
        rw [hyes]
        show (if _ then _ else _)=_
        rw [if_neg hv]
       have hcl:MD v 67 left={ left with call:=rest }:=by
        show (match CT v.call with | some (_,c)=>{ left with call:=c } | none=>left)=_
        rw [hyes]
       refine Aa (Cj l3 (Eo _ hro.2) rfl (JD _ _)) (Aa (CJ _ 0) ?_)
       refine Go.Abs.AQ.store (n:=12) (off:=11) (v:=.agg ⟨rest.cells rr⟩) j3.l j3.f (by omega) (Hz _ _ _) rfl (show 11+12≤23 by decide) (C4 _ hro.1) fun A4 l4 k4 n4 f4=>?_
       have hrd4:∃ G,RdV A3 { left with call:=rest } ln lk rr G∧q∉G:=by
        obtain ⟨G,hG,hqG⟩:=j3.rd
        refine ⟨G++Fr,⟨?_,?_,?_⟩,?_⟩
        ·obtain ⟨F,a,b⟩:=hG.n;exact ⟨F,a,fun x hx=>List.mem_append_left _ (b x hx)⟩
        ·obtain ⟨F,a,b⟩:=hG.k;exact ⟨F,a,fun x hx=>List.mem_append_left _ (b x hx)⟩
        ·rcases hrr with ⟨rfl,e⟩ | ⟨rfl,e⟩
         ·refine ⟨Fr,?_,fun x hx=>List.mem_append_right _ hx⟩
          show RdE 1 cR A3 rr rest.refs Fr
          rw [e];exact (hrc.keeps g1.keeps (by simp)).keeps g13.keeps (by simp)
         ·refine ⟨[],?_,by simp⟩
          show RdE 1 cR A3 vN rest.refs []
          rw [e];exact .nil _ _ _
        ·simp only [List.mem_append,not_or]
         refine ⟨hqG,fun hm=>?_⟩
         have:=hGA q (hFr q hm)
         have:=j.hq
         omega
       have j4:=j3.step (h:=67) (ln':=ln) (lk':=lk) (lr':=rr) hp0 hl hcl l4 k4 f4 hrd4
       have hs2:=j4.sum
       simp only [AM,List.length_append] at hs2
       refine Aa (Dn (by have:=Cb ws;omega) _ _) (Aa (Adx hne (by simp [Bv]) (by omega) (by omega) _ _) ?_)
       simp only [AU,Ad,e2]
       refine Aq.2 ⟨((Aj v.kind).2.length - (i+1)) * 100000000,by omega,.inl ⟨rfl,q,i+1,ws++Bv v.call,_,ln,lk,rr,rfl,j4,by omega,?_,rfl⟩⟩
       rw [if_pos hlast]
       simp only [AM,List.length_append]
       omega
    rcases UA _ h hmem with rfl | rfl | rfl | rfl | rfl | rfl | rfl | rfl | rfl
    ·exact absurd rfl hc110
    ·exact absurd rfl hc116
    ·exact absurd rfl hc105
    ·exact absurd rfl hc88
    ·exact absurd rfl hc99
    ·exact absurd rfl hc83
    ·exact absurd rfl hc98
    ·exact absurd rfl hc107
    ·exact absurd rfl hc67
   ·have hge:(Aj v.kind).2.length≤i:=by have:¬ ((i:Int) < ((Aj v.kind).2.length:Int)):=hge;omega
    obtain ⟨hws,hbad,hgood⟩:=j.done hge
    have hei:i=(Aj v.kind).2.length:=by omega
    rw [if_pos hei,hws] at hn
    have no:((Aj v.kind).1=[]∨left≠Cl)→K (.tuple ⟨[.string ⟨⟨[]⟩⟩,.int .i64 310]⟩) A':=fun h=>h0 (hbad h) A' ⟨j.k,j.f,by omega⟩
    refine Aa B4 (Ak.2 ⟨fun h=>no (.inl (eq_of_beq h)),fun h=>?_⟩)
    have hverb:(Aj v.kind).1≠[]:=fun e=>by
     have h:((Aj v.kind).1==[])=false:=h
     rw [e] at h;cases h
    refine Aa (Bw _ 0) (Aa (FF j.l) (Aa Cm (BO.2 ⟨fun h=>no (.inr fun e=>h (by rw [e];rfl)),fun h_node=>?_⟩)))
    have h_node:left.node=0:=by omega
    refine Aa (CM _ 0) (Aa (Jk j.l) (Aa Cm (BO.2 ⟨fun h=>no (.inr fun e=>h (by rw [e];rfl)),fun h_to=>?_⟩)))
    have h_to:left.to=0:=by omega
    refine Aa (BC _ 0) (Aa (EL j.l) (Aa Cm (BO.2 ⟨fun h=>no (.inr fun e=>h (by rw [e];rfl)),fun h_n=>?_⟩)))
    have h_n:left.n=0:=by omega
    refine Aa (Dt _ 0) (Aa (Mo j.l) (Aa Qo (Aa (AaR _ _ _ _) (Ak.2 ⟨fun h=>no (.inr fun e=>by have e:left.x=EM:=(by rw [e];rfl);rw [e,Db.2 rfl] at h;cases h),fun h_x=>?_⟩))))
    have h_x:left.x=EM:=Db.1 (by simpa using h_x)
    obtain ⟨F_nodes,q_nodes,_⟩:=hrl'.n
    refine Aa (D1 _ 0) (Aa (Mn j.l hlo.1.2) (Aa (IV.HE q_nodes) (Aa Ej (Av.2 ⟨fun h=>no (.inr fun e=>by rw [e] at h;exact absurd h (by decide)),fun h_nodes=>?_⟩))))
    have h_nodes:left.nodes=[]:=List.eq_nil_of_length_eq_zero (by omega)
    obtain ⟨F_keep,q_keep,_⟩:=hrl'.k
    refine Aa (D0 _ 0) (Aa (Mm j.l hlo.2.1.2) (Aa (IU.HE q_keep) (Aa Ej (Av.2 ⟨fun h=>no (.inr fun e=>by rw [e] at h;exact absurd h (by decide)),fun h_keep=>?_⟩))))
    have h_keep:left.keep=[]:=List.eq_nil_of_length_eq_zero (by omega)
    refine Aa (DZ _ 0) (Aa (Ml j.l) (Aa Ed (Ak.2 ⟨fun h=>no (.inr fun e=>by rw [e] at h;cases h),fun h_s=>?_⟩)))
    have h_s:left.s=.empty:=Qd (by have h_s:(!(bl left.s==bl ⟨⟨[]⟩⟩))=false:=h_s;simpa using h_s)
    refine Aa (Ds _ 0) (Aa (Hv j.l) (Ak.2 ⟨fun h=>no (.inr fun e=>by rw [e] at h;cases h),fun h_a=>?_⟩))
    obtain ⟨F_r,q_r,_⟩:=hrl'.r
    refine Aa (CJ _ 0) (Aa (Ki j.l hlo.2.2.2) (Ach q_r j.f (by omega) fun A2 b hb g2=>Aa EP (Ak.2 ⟨fun h=>?_,fun h=>?_⟩)))
    ·have n2:=g2.next
     refine h0 (hbad (.inr fun e=>?_)) A2 ⟨j.k.trans g2.keeps (by simp),g2.AG,by omega⟩
     have:=hb.2 (by rw [e];rfl)
     rw [this] at h;cases h
    ·have n2:=g2.next
     have hbt:b=true:=by simpa using h
     have h_call:=hb.1 hbt
     have hkz:left.kind=0:=j.kind0
     have e:left=Cl:=by
      revert h_node h_to h_n h_x h_nodes h_keep h_s h_a h_call hkz
      exact fun h_node h_to h_n h_x h_nodes h_keep h_s h_a h_call hkz=>XH hkz h_node h_to h_n h_x h_nodes h_keep h_s h_a h_call
     rw [hws]
     exact h1 (hgood hverb e) A2 ⟨j.k.trans g2.keeps (by simp),g2.AG,by omega⟩
  ·rw [Abl]
   simp only [L14,List.map_cons,List.map_nil,List.cons.injEq,and_true] at hd
   obtain ⟨d1,d4,d5,d6,d7,d8,d9⟩:=hd
   simp only [d1,d4,d5,d6,d7,d8,d9]
   have hlt:=(List.getElem?_eq_some_iff.1 hp0).1
   obtain ⟨Fx,hrx,_⟩:=(hrd.keeps j.k (by simp)).n
   have hne:=j.ne
   have e2:IntKind.i64.wrap ((k:Int)+1)=((k+1:Nat):Int):=wrap_i64 (by omega) (by omega)
   have e3:IntKind.i64.wrap ((i:Int)+1)=((i+1:Nat):Int):=wrap_i64 (by omega) (by omega)
   have hall:=j.Aay hp0
   rw [show Ce v 98=v.nodes.map Lib.decDigits from rfl] at hall
   simp only [AM,List.length_append] at hall hn
   have htk:=Gf (v.nodes.map Lib.decDigits) k
   rw [← List.map_take] at htk
   refine Aa (D1 _ 0) (Aa (Mn j.r hvn) (Aa (IV.HE hrx) (Aa BD (Av.2 ⟨fun hkl=>?_,fun hkl=>?_⟩))))
   ·have hkl:k < v.nodes.length:=by omega
    have hk0:=List.getElem?_eq_getElem hkl
    have hm:=hw.nodes _ (List.getElem_mem hkl)
    generalize v.nodes[k]=rf at hk0 hm
    obtain ⟨a,a1,a2⟩:=ES.at IV hrx hk0 rfl
    have htk1:=Gf (v.nodes.map Lib.decDigits) (k+1)
    rw [← List.map_take,BH hk0,List.map_append,AM,List.length_append,List.map_cons,List.map_nil,AS,show BE []=0 from rfl,List.length_cons,List.length_nil] at htk1
    have hjl:=Cb (ws++(v.nodes.take k).map Lib.decDigits)
    simp only [AM,List.length_append] at hjl
    refine Aa (Dn (by omega) _ _) (Aa (D1 _ 0) (Aa (Mn j.r hvn) (Aa a1 (Aa a2 (DO (NZ hm _) (Ps (by omega) j.f (by omega) fun A1 g1=>?_))))))
    have n1:=g1.next
    refine Aa (Fc (w:=Lib.decDigits rf) (by simp [hne]) (by simp only [AM,List.length_append];omega) (by omega) _ _) ?_
    simp only [AU,Ad,e2]
    have e:ws++(v.nodes.take (k+1)).map Lib.decDigits=(ws++(v.nodes.take k).map Lib.decDigits)++[Lib.decDigits rf]:=by
     rw [BH hk0,List.map_append,List.append_assoc];rfl
    rw [← e]
    refine Aq.2 ⟨((Aj v.kind).2.length - i) * 100000000 - 1 - (k+1),by omega,.inr (.inl ⟨rfl,q,i,k+1,ws,left,ln,lk,lr,rfl,(j.grow g1),hp0,by omega,?_,rfl⟩)⟩
    rw [e]
    simp only [AM,List.length_append,List.length_cons,List.length_nil,AS,show BE []=0 from rfl]
    omega
   ·have:k=v.nodes.length:=by omega
    subst this
    rw [List.take_length] at hn
    rw [List.take_length]
    refine Aa (D1 _ 0) (Go.Abs.AQ.store (n:=1) (off:=7) (v:=vN) j.l j.f (by omega) (ON _ _ _) rfl (show 7+1≤23 by decide) rfl fun A2 l2 k2 n2 f2=>?_)
    have j2:=j.step (h:=98) (ln':=vN) (lk':=lk) (lr':=lr) hp0 rfl rfl l2 k2 f2 (by
     obtain ⟨G,hG,hqG⟩:=j.rd
     exact ⟨G,⟨⟨[],.nil _ _ _,by simp⟩,hG.k,hG.r⟩,hqG⟩)
    simp only [AU,Ad,e3]
    exact Aq.2 ⟨((Aj v.kind).2.length - (i+1)) * 100000000,by omega,.inl ⟨rfl,q,i+1,_,_,_,_,lr,rfl,j2,by omega,by simp only [AM,List.length_append];omega,rfl⟩⟩
  ·rw [Abk]
   simp only [L14,List.map_cons,List.map_nil,List.cons.injEq,and_true] at hd
   obtain ⟨d1,d4,d5,d6,d7,d8,d9⟩:=hd
   simp only [d1,d4,d5,d6,d7,d8,d9]
   have hlt:=(List.getElem?_eq_some_iff.1 hp0).1
   obtain ⟨Fx,hrx,_⟩:=(hrd.keeps j.k (by simp)).k
   have hne:=j.ne
   have e2:IntKind.i64.wrap ((k:Int)+1)=((k+1:Nat):Int):=wrap_i64 (by omega) (by omega)
   have e3:IntKind.i64.wrap ((i:Int)+1)=((i+1:Nat):Int):=wrap_i64 (by omega) (by omega)
   have hall:=j.Aay hp0
   rw [show Ce v 107=v.keep.map Lib.itoa from rfl] at hall
   simp only [AM,List.length_append] at hall hn
   have htk:=Gf (v.keep.map Lib.itoa) k
   rw [← List.map_take] at htk
   refine Aa (D0 _ 0) (Aa (Mm j.r hvk) (Aa (IU.HE hrx) (Aa BD (Av.2 ⟨fun hkl=>?_,fun hkl=>?_⟩))))
   ·have hkl:k < v.keep.length:=by omega
    have hk0:=List.getElem?_eq_getElem hkl
    have hm:=hw.keep _ (List.getElem_mem hkl)
    generalize v.keep[k]=rf at hk0 hm
    obtain ⟨a,a1,a2⟩:=ES.at IU hrx hk0 rfl
    have htk1:=Gf (v.keep.map Lib.itoa) (k+1)
    rw [← List.map_take,BH hk0,List.map_append,AM,List.length_append,List.map_cons,List.map_nil,AS,show BE []=0 from rfl,List.length_cons,List.length_nil] at htk1
    have hjl:=Cb (ws++(v.keep.take k).map Lib.itoa)
    simp only [AM,List.length_append] at hjl
    refine Aa (Dn (by omega) _ _) (Aa (D0 _ 0) (Aa (Mm j.r hvk) (Aa a1 (Aa a2 (Aaf hm.1 hm.2 j.f (by omega) fun A1 g1=>?_)))))
    have n1:=g1.next
    refine Aa (Fc (w:=Lib.itoa rf) (by simp [hne]) (by simp only [AM,List.length_append];omega) (by omega) _ _) ?_
    simp only [AU,Ad,e2]
    have e:ws++(v.keep.take (k+1)).map Lib.itoa=(ws++(v.keep.take k).map Lib.itoa)++[Lib.itoa rf]:=by
     rw [BH hk0,List.map_append,List.append_assoc];rfl
    rw [← e]
    refine Aq.2 ⟨((Aj v.kind).2.length - i) * 100000000 - 1 - (k+1),by omega,.inr (.inr ⟨rfl,q,i,k+1,ws,left,ln,lk,lr,rfl,(j.grow g1),hp0,by omega,?_,rfl⟩)⟩
    rw [e]
    simp only [AM,List.length_append,List.length_cons,List.length_nil,AS,show BE []=0 from rfl]
    omega
   ·have:k=v.keep.length:=by omega
    subst this
    rw [List.take_length] at hn
    rw [List.take_length]
    refine Aa (D0 _ 0) (Go.Abs.AQ.store (n:=1) (off:=8) (v:=vN) j.l j.f (by omega) (Yi _ _ _) rfl (show 8+1≤23 by decide) rfl fun A2 l2 k2 n2 f2=>?_)
    have j2:=j.step (h:=107) (ln':=ln) (lk':=vN) (lr':=lr) hp0 rfl rfl l2 k2 f2 (by
     obtain ⟨G,hG,hqG⟩:=j.rd
     exact ⟨G,⟨hG.n,⟨[],.nil _ _ _,by simp⟩,hG.r⟩,hqG⟩)
    simp only [AU,Ad,e3]
    exact Aq.2 ⟨((Aj v.kind).2.length - (i+1)) * 100000000,by omega,.inl ⟨rfl,q,i+1,_,_,_,_,lr,rfl,j2,by omega,by simp only [AM,List.length_append];omega,rfl⟩⟩
 rw [e14]
 refine BI (cs:=v.cells vn vk vr) hf (by omega) (D7 v on ok or) fun A1 m1=>?_
 have n1:=m1.next
 have k1:=m1.keeps hf
 refine Aa (D2 _ 0) (Aa (Mp m1.B7) (Ack (Aa Eb (Aa Ea (Aa (Cj m1.B7 (Fk v hvn hvk hvr) rfl (HF _ _)) (AV Hg m1.AG (by omega) rfl fun A2 m2=>?_))))))
 have n2:=m2.next
 have k2:=m2.keeps m1.AG
 refine storeAll (n:=23) (new:=v.cells vn vk vr) m2.B7 m2.AG (by omega) (Jw _ _ _) rfl rfl (D7 v on ok or) fun A3 l3 k3 n3 f3=>?_
 refine Aa (D2 _ 0) (Go.Abs.AQ.store (n:=1) (off:=0) (v:=.int .u8 0) l3 f3 (by omega) (Hy _ _ _) rfl (show 0+1≤23 by decide) rfl fun A4 l4 k4 n4 f4=>?_)
 have l4:Go.Abs.AQ A4 A1.next ((zE v).cells vn vk vr) 40:=l4
 have K24:Aw A2 A4 [A1.next]:=k3.trans k4 fun x hx=>.inl hx
 have K4:Aw A A4 []:=(k1.trans k2 (by simp)).trans K24 fun x hx=>.inr (by rw [List.mem_singleton.1 hx];omega)
 have hv12:=OI v.kind
 have j:JE A A4 v vn vk vr A.next A1.next 0 [(Aj v.kind).1] (zE v) vn vk vr:=by
  have hR:=hrd.keeps K4 (by simp)
  exact ⟨(m1.B7.keeps k2 (by simp)).keeps K24 (by simp;omega),l4,⟨G,⟨hR.n,hR.k,hR.r⟩,fun hm=>by have:=hGA _ hm;omega⟩,by simp,rfl,K4,f4,by omega,by omega,rfl⟩
 have ej:BS ([(Aj v.kind).1].map txt)=(Aj v.kind).1:=by show _++[]=_;rw [List.append_nil];rfl
 have:BA (T14 0) (T14 0) (∃ g,I g 0 [.pointer (some ⟨A.next,0,none⟩),.string (txt (Aj v.kind).1),.string (txt (Aj v.kind).2),.string (txt (BS ([(Aj v.kind).1].map txt))),.pointer (some ⟨A1.next,0,none⟩),.int .i64 0] A4):=Aq.2 ⟨_,.inl ⟨rfl,A1.next,0,[(Aj v.kind).1],zE v,vn,vk,vr,rfl,j,by omega,by omega,rfl⟩⟩
 rw [ej] at this
 exact this
end
theorem OK {v:EvD} {vn vk vr:Value} {A:AW} {b:Nat} {e:TypeId} (h:Go.Abs.AQ A b (v.cells vn vk vr) e) (hv:isTuple vr=false):Au Tp A 36 (.pointer (some ⟨b,21,none⟩))=some (vr):=by
 rw [Yv,Ay h.row]
 exact Cd rfl hv
theorem Aau {v:EvD} {vn vk vr:Value} {A:AW} {b:Nat} {e:TypeId} (h:Go.Abs.AQ A b (v.cells vn vk vr) e):Au Tp A 9 (.pointer (some ⟨b,13,none⟩))=some (.string v.call.queue):=by
 rw [FH,Ay h.row];rfl
theorem Aat {v:EvD} {vn vk vr:Value} {A:AW} {b:Nat} {e:TypeId} (h:Go.Abs.AQ A b (v.cells vn vk vr) e):Au Tp A 9 (.pointer (some ⟨b,14,none⟩))=some (.string v.call.tag):=by
 rw [FH,Ay h.row];rfl
theorem Aas {v:EvD} {vn vk vr:Value} {A:AW} {b:Nat} {e:TypeId} (h:Go.Abs.AQ A b (v.cells vn vk vr) e):Au Tp A 9 (.pointer (some ⟨b,22,none⟩))=some (.string v.call.body):=by
 rw [FH,Ay h.row];rfl
theorem XI {c d:Ax} (h1:c.what=d.what) (h2:c.ses=d.ses) (h3:c.queue=d.queue) (h4:c.tag=d.tag) (h5:c.x=d.x) (h6:c.n=d.n) (h7:c.a=d.a) (h8:c.b=d.b) (h9:c.refs=d.refs) (h10:c.body=d.body):c=d:=by
 cases c;cases d
 simp only at h1 h2 h3 h4 h5 h6 h7 h8 h9 h10
 simp only [h1,h2,h3,h4,h5,h6,h7,h8,h9,h10]
theorem AbD {v w:EvD} (h1:v.kind=w.kind) (h2:v.node=w.node) (h3:v.to=w.to) (h4:v.n=w.n) (h5:v.x=w.x) (h6:v.nodes=w.nodes) (h7:v.keep=w.keep) (h8:v.s=w.s) (h9:v.a=w.a) (h10:v.call=w.call):v=w:=by
 cases v;cases w
 simp only at h1 h2 h3 h4 h5 h6 h7 h8 h9 h10
 simp only [h1,h2,h3,h4,h5,h6,h7,h8,h9,h10]
section
variable {W0:World} {m0:Inj Tp}
set_option maxHeartbeats 4000000 in
theorem Acq {v w:EvD} {vn vk vr wn wk wr:Value} {G H:List Nat} {A:AW} {K:Value→AW→Prop} (hv:RdV A v vn vk vr G) (hw:RdV A w wn wk wr H) (hf:AJ A) (hA:A.next+10 < Al) (hl:szV v < 900000000) (hm:szV w < 900000000)
  (hk:∀ A' (b:Bool),(b=true↔v=w)→Grow A A' 10→K (.bool b) A'):Wc Tp Ai W0 m0 16 [.agg ⟨v.cells vn vk vr⟩,.agg ⟨w.cells wn wk wr⟩] A K:=by
 obtain ⟨⟨vn1,vn2⟩,⟨vk1,vk2⟩,vr1,vr2⟩:=hv.one
 obtain ⟨⟨wn1,wn2⟩,⟨wk1,wk2⟩,wr1,wr2⟩:=hw.one
 have hl1:=Iz v.call.refs
 have hl2:szV v=(bl v.s).length+v.nodes.length+v.keep.length+((bl v.call.queue).length+(bl v.call.tag).length+(bl v.call.body).length+szR v.call.refs):=rfl
 have hm1:=Iz w.call.refs
 have hm2:szV w=(bl w.s).length+w.nodes.length+w.keep.length+((bl w.call.queue).length+(bl w.call.tag).length+(bl w.call.body).length+szR w.call.refs):=rfl
 let B:AW→Prop:=fun A'=>Go.Abs.AQ A' A.next (v.cells vn vk vr) 40∧Go.Abs.AQ A' (A.next+1) (w.cells wn wk wr) 40∧Grow A A' 2∧v.nodes.length=w.nodes.length∧v.keep.length=w.keep.length∧v.call.refs.length=w.call.refs.length
 let I:Nat→Nat→List Value→AW→Prop:=fun g id vals A'=>
  (id=0∧∃ i:Nat,vals=[.pointer (some ⟨A.next,0,none⟩),.pointer (some ⟨A.next+1,0,none⟩),.int .i64 (i:Int)]∧i≤v.nodes.length∧v.nodes.take i=w.nodes.take i∧B A'∧g=2000000000+(v.nodes.length - i))∨
  (id=2∧∃ i:Nat,vals=[.pointer (some ⟨A.next,0,none⟩),.pointer (some ⟨A.next+1,0,none⟩),.int .i64 (i:Int)]∧i≤v.keep.length∧v.keep.take i=w.keep.take i∧v.nodes=w.nodes∧B A'∧g=1000000000+(v.keep.length - i))∨
  (id=4∧∃ i:Nat,vals=[.pointer (some ⟨A.next,0,none⟩),.pointer (some ⟨A.next+1,0,none⟩),.int .i64 (i:Int)]∧i≤v.call.refs.length∧v.call.refs.take i=w.call.refs.take i∧v.nodes=w.nodes∧v.keep=w.keep∧B A'∧g=v.call.refs.length - i)
 have noB:∀ {A':AW} {P:Prop},Grow A A' 2→(v=w→P)→¬ P→K (.bool false) A':=fun {A' P} g h1 h2=>hk A' false ⟨fun h=>(by cases h),fun h=>absurd (h1 h) h2⟩ (g.more (by omega))
 refine w16 _ _ _ (c16 (I:=I) ?_) ?_
 ·rintro g id vals A' d (⟨rfl,i,rfl,hi,he,⟨r1,r2,gr,q1,q2,q3⟩,rfl⟩ | ⟨rfl,i,rfl,hi,he,e1,⟨r1,r2,gr,q1,q2,q3⟩,rfl⟩ | ⟨rfl,i,rfl,hi,he,e1,e2',⟨r1,r2,gr,q1,q2,q3⟩,rfl⟩) hd
  ·rw [Abj]
   simp only [L16,List.map_cons,List.map_nil,List.cons.injEq,and_true] at hd
   obtain ⟨d2,d3,d5⟩:=hd
   simp only [d2,d3,d5]
   obtain ⟨Fa,ha,_⟩:=(hv.keeps gr.keeps (by simp)).n
   obtain ⟨Fb,hb,_⟩:=(hw.keeps gr.keeps (by simp)).n
   refine Aa (D1 _ 0) (Aa (Mn r1 vn2) (Aa (IV.HE ha) (Aa BD (Av.2 ⟨fun hlt=>?_,fun hge=>?_⟩))))
   ·have hlt:i < v.nodes.length:=by omega
    have hp:=List.getElem?_eq_getElem hlt
    have hq:=List.getElem?_eq_getElem (l:=w.nodes) (i:=i) (by omega)
    have e2:IntKind.i64.wrap ((i:Int)+1)=((i+1:Nat):Int):=wrap_i64 (by omega) (by omega)
    obtain ⟨a,a1,a2⟩:=ES.at IV ha hp rfl
    obtain ⟨b,b1,b2⟩:=ES.at IV hb hq rfl
    refine Aa (D1 _ 0) (Aa (Mn r1 vn2) (Aa a1 (Aa a2 (Aa (D1 _ 0) (Aa (Mn r2 wn2) (Aa b1 (Aa b2 (Aa Cm (BO.2 ⟨fun hn=>?_,fun hn=>?_⟩)))))))))
    ·exact noB gr (P:=v.nodes[i]? =w.nodes[i]?) (fun h=>by rw [h]) (fun h=>by rw [hp,hq] at h;simp only [Option.some.injEq] at h;exact hn (by rw [h]))
    ·simp only [AU,Ad,e2]
     exact Aq.2 ⟨2000000000+(v.nodes.length - (i+1)),by omega,.inl ⟨rfl,i+1,rfl,by omega,I6 hp hq he (by omega),⟨r1,r2,gr,q1,q2,q3⟩,rfl⟩⟩
   ·have hil:i=v.nodes.length:=by omega
    subst hil
    rw [List.take_length,q1,List.take_length] at he
    exact Aq.2 ⟨1000000000+(v.keep.length - 0),by omega,.inr (.inl ⟨rfl,0,rfl,by omega,by simp,he,⟨r1,r2,gr,q1,q2,q3⟩,rfl⟩)⟩
  ·rw [Abi]
   simp only [L16,List.map_cons,List.map_nil,List.cons.injEq,and_true] at hd
   obtain ⟨d2,d3,d5⟩:=hd
   simp only [d2,d3,d5]
   obtain ⟨Fa,ha,_⟩:=(hv.keeps gr.keeps (by simp)).k
   obtain ⟨Fb,hb,_⟩:=(hw.keeps gr.keeps (by simp)).k
   refine Aa (D0 _ 0) (Aa (Mm r1 vk2) (Aa (IU.HE ha) (Aa BD (Av.2 ⟨fun hlt=>?_,fun hge=>?_⟩))))
   ·have hlt:i < v.keep.length:=by omega
    have hp:=List.getElem?_eq_getElem hlt
    have hq:=List.getElem?_eq_getElem (l:=w.keep) (i:=i) (by omega)
    have e2:IntKind.i64.wrap ((i:Int)+1)=((i+1:Nat):Int):=wrap_i64 (by omega) (by omega)
    obtain ⟨a,a1,a2⟩:=ES.at IU ha hp rfl
    obtain ⟨b,b1,b2⟩:=ES.at IU hb hq rfl
    refine Aa (D0 _ 0) (Aa (Mm r1 vk2) (Aa a1 (Aa a2 (Aa (D0 _ 0) (Aa (Mm r2 wk2) (Aa b1 (Aa b2 (Aa Cm (BO.2 ⟨fun hn=>?_,fun hn=>?_⟩)))))))))
    ·exact noB gr (P:=v.keep[i]? =w.keep[i]?) (fun h=>by rw [h]) (fun h=>by rw [hp,hq] at h;simp only [Option.some.injEq] at h;exact hn (by rw [h]))
    ·simp only [AU,Ad,e2]
     exact Aq.2 ⟨1000000000+(v.keep.length - (i+1)),by omega,.inr (.inl ⟨rfl,i+1,rfl,by omega,I6 hp hq he (by omega),e1,⟨r1,r2,gr,q1,q2,q3⟩,rfl⟩)⟩
   ·have hil:i=v.keep.length:=by omega
    subst hil
    rw [List.take_length,q2,List.take_length] at he
    exact Aq.2 ⟨v.call.refs.length - 0,by omega,.inr (.inr ⟨rfl,0,rfl,by omega,by simp,e1,he,⟨r1,r2,gr,q1,q2,q3⟩,rfl⟩)⟩
  ·rw [Abh]
   simp only [L16,List.map_cons,List.map_nil,List.cons.injEq,and_true] at hd
   obtain ⟨d2,d3,d5⟩:=hd
   simp only [d2,d3,d5]
   obtain ⟨Fa,ha,_⟩:=(hv.keeps gr.keeps (by simp)).r
   obtain ⟨Fb,hb,_⟩:=(hw.keeps gr.keeps (by simp)).r
   have fa2:∀ b:Nat,Ac Tp 38 (.pointer (some ⟨b,11,none⟩)) 8=some (.pointer (some ⟨b,21,none⟩)):=fun b=>Di b 11
   refine Aa (CJ _ 0) (Aa (fa2 _) (Aa (OK r1 vr2) (Aa (ha.len IQ) (Aa BD (Av.2 ⟨fun hlt=>?_,fun hge=>?_⟩)))))
   ·have hlt:i < v.call.refs.length:=by omega
    have hp:=List.getElem?_eq_getElem hlt
    have hq:=List.getElem?_eq_getElem (l:=w.call.refs) (i:=i) (by omega)
    have e2:IntKind.i64.wrap ((i:Int)+1)=((i+1:Nat):Int):=wrap_i64 (by omega) (by omega)
    obtain ⟨a,oa,a1,_,a2⟩:=ha.at IQ hp
    obtain ⟨b,ob,b1,_,b2⟩:=hb.at IQ hq
    refine Aa (CJ _ 0) (Aa (fa2 _) (Aa (OK r1 vr2) (Aa a1 (Aa a2 (Aa (CJ _ 0) (Aa (fa2 _) (Aa (OK r2 wr2) (Aa b1 (Aa b2 (Aa (AaS _ _ _ _) (Ak.2 ⟨fun hn=>?_,fun hn=>?_⟩)))))))))))
    ·exact noB gr (P:=v.call.refs[i]? =w.call.refs[i]?) (fun h=>by rw [h]) (fun h=>by rw [hp,hq] at h;simp only [Option.some.injEq] at h;rw [h,Ja.2 rfl] at hn;cases hn)
    ·simp only [AU,Ad,e2]
     exact Aq.2 ⟨v.call.refs.length - (i+1),by omega,.inr (.inr ⟨rfl,i+1,rfl,by omega,I6 hp hq he (Ja.1 (by simpa using hn)),e1,e2',⟨r1,r2,gr,q1,q2,q3⟩,rfl⟩)⟩
   ·have hil:i=v.call.refs.length:=by omega
    subst hil
    rw [List.take_length,q3,List.take_length] at he
    have ng:=gr.next
    have le0:=gr.le
    have f0:=gr.AG
    refine AV Hh f0 (by omega) rfl fun A3 m3=>Pe m3.row ?_
    have n3:=m3.next
    refine AV Hh m3.AG (by omega) rfl fun A4 m4=>Pe m4.row ?_
    have n4:=m4.next
    have k3:=m3.keeps f0
    have k4:=m4.keeps m3.AG
    have hr1:=r1.lt
    have hr2:=r2.lt
    have c4:=m3.B7.keeps k4 (by simp)
    have e4:=(r1.keeps k3 (by simp)).keeps k4 (by simp)
    have f4:=(r2.keeps k3 (by simp)).keeps k4 (by simp)
    refine Pe c4.row (Aa (CJ _ 0) (Aa (Ki e4 vr2) (Aa (CJ _ 0) (Aa (Ki f4 wr2) ?_))))
    refine storeAll (n:=12) (new:=v.call.cells vr) c4 m4.AG (by omega) (Hz _ _ _) rfl rfl (C4 _ vr1) fun A5 c5 k5 n5 f5=>?_
    have q5:=f4.keeps k5 (by simp;omega)
    refine ck (Ki q5 wr2) (ck (CJ _ 0) ?_)
    refine storeAll (n:=12) (new:=w.call.cells wr) (m4.B7.keeps k5 (by simp;omega)) f5 (by omega) (Hz _ _ _) rfl rfl (C4 _ wr1) fun A6 d6 k6 n6 f6=>?_
    have c6:=c5.keeps k6 (by simp;omega)
    have e6:=(e4.keeps k5 (by simp;omega)).keeps k6 (by simp;omega)
    have q6:=q5.keeps k6 (by simp;omega)
    have g6:Grow A A6 10:=by
     refine ⟨?_,f6,by omega⟩
     have a:=(gr.keeps.trans k3 (by simp)).trans k4 (by simp)
     exact (a.trans k5 fun x hx=>.inr (by rw [List.mem_singleton.1 hx];omega)).trans k6 fun x hx=>.inr (by rw [List.mem_singleton.1 hx];omega)
    have no:∀ {P:Prop},(v=w→P)→¬ P→K (.bool false) A6:=fun h1 h2=>hk A6 false ⟨fun h=>(by cases h),fun h=>absurd (h1 h) h2⟩ g6
    refine Aa (D2 _ 0) (Aa (Mp e6) (Aa (D2 _ 0) (Aa (Mp q6) (Aa Ah (Ae.2 ⟨fun he_kind=>?_,fun h=>no (P:=v.kind=w.kind) (fun e=>by rw [e]) fun e=>h (by rw [e])⟩)))))
    have he_kind:v.kind=w.kind:=by omega
    refine Aa (Bw _ 0) (Aa (FF e6) (Aa (Bw _ 0) (Aa (FF q6) (Aa Ah (Ae.2 ⟨fun he_node=>?_,fun h=>no (P:=v.node=w.node) (fun e=>by rw [e]) fun e=>h (by rw [e])⟩)))))
    have he_node:v.node=w.node:=by omega
    refine Aa (CM _ 0) (Aa (Jk e6) (Aa (CM _ 0) (Aa (Jk q6) (Aa Ah (Ae.2 ⟨fun he_to=>?_,fun h=>no (P:=v.to=w.to) (fun e=>by rw [e]) fun e=>h (by rw [e])⟩)))))
    have he_to:v.to=w.to:=by omega
    refine Aa (BC _ 0) (Aa (EL e6) (Aa (BC _ 0) (Aa (EL q6) (Aa Ah (Ae.2 ⟨fun he_n=>?_,fun h=>no (P:=v.n=w.n) (fun e=>by rw [e]) fun e=>h (by rw [e])⟩)))))
    refine Aa (Dt _ 0) (Aa (Mo e6) (Aa (Dt _ 0) (Aa (Mo q6) (Aa (WB _ _ _ _) (Ak.2 ⟨fun he_x=>?_,fun h=>no (P:=v.x=w.x) (fun e=>by rw [e]) fun e=>by rw [e,Db.2 rfl] at h;cases h⟩)))))
    have he_x:v.x=w.x:=Db.1 he_x
    refine Aa (DZ _ 0) (Aa (Ml e6) (Aa (DZ _ 0) (Aa (Ml q6) (Aa B4 (Ak.2 ⟨fun he_s=>?_,fun h=>no (P:=v.s=w.s) (fun e=>by rw [e]) fun e=>by rw [e] at h;simp at h⟩)))))
    have he_s:v.s=w.s:=Fg (eq_of_beq he_s)
    refine Aa (Ds _ 0) (Aa (Hv e6) (Aa (Ds _ 0) (Aa (Hv q6) (Aa (eqB _ _ _ _) (Ak.2 ⟨fun he_a=>?_,fun h=>no (P:=v.a=w.a) (fun e=>by rw [e]) fun e=>by rw [e] at h;simp at h⟩)))))
    have he_a:v.a=w.a:=eq_of_beq he_a
    refine Aa (DI _ 0) (Aa (N1 c6) (Aa (DI _ 0) (Aa (N1 d6) (Aa Ah (Ae.2 ⟨fun hc_what=>?_,fun h=>no (P:=v.call.what=w.call.what) (fun e=>by rw [e]) fun e=>h (by rw [e])⟩)))))
    have hc_what:v.call.what=w.call.what:=by omega
    refine Aa (Gb _ 0) (Aa (RH c6) (Aa (Gb _ 0) (Aa (RH d6) (Aa Ah (Ae.2 ⟨fun hc_ses=>?_,fun h=>no (P:=v.call.ses=w.call.ses) (fun e=>by rw [e]) fun e=>h (by rw [e])⟩)))))
    have hc_ses:v.call.ses=w.call.ses:=by omega
    refine Aa (Ct _ 0) (Aa (Jq c6) (Aa (Ct _ 0) (Aa (Jq d6) (Aa B4 (Ak.2 ⟨fun hc_queue=>?_,fun h=>no (P:=v.call.queue=w.call.queue) (fun e=>by rw [e]) fun e=>by rw [e] at h;simp at h⟩)))))
    have hc_queue:v.call.queue=w.call.queue:=Fg (eq_of_beq hc_queue)
    refine Aa (CA _ 0) (Aa (Jp c6) (Aa (CA _ 0) (Aa (Jp d6) (Aa B4 (Ak.2 ⟨fun hc_tag=>?_,fun h=>no (P:=v.call.tag=w.call.tag) (fun e=>by rw [e]) fun e=>by rw [e] at h;simp at h⟩)))))
    have hc_tag:v.call.tag=w.call.tag:=Fg (eq_of_beq hc_tag)
    refine Aa (Du _ 0) (Aa (MF c6) (Aa (Du _ 0) (Aa (MF d6) (Aa (WB _ _ _ _) (Ak.2 ⟨fun hc_x=>?_,fun h=>no (P:=v.call.x=w.call.x) (fun e=>by rw [e]) fun e=>by rw [e,Db.2 rfl] at h;cases h⟩)))))
    have hc_x:v.call.x=w.call.x:=Db.1 hc_x
    refine Aa (CU _ 0) (Aa (Ka c6) (Aa (CU _ 0) (Aa (Ka d6) (Aa Ah (Ae.2 ⟨fun hc_n=>?_,fun h=>no (P:=v.call.n=w.call.n) (fun e=>by rw [e]) fun e=>h (by rw [e])⟩)))))
    have hc_n:v.call.n=w.call.n:=by omega
    refine Aa (BZ _ 0) (Aa (Hr c6) (Aa (BZ _ 0) (Aa (Hr d6) (Aa (eqB _ _ _ _) (Ak.2 ⟨fun hc_a=>?_,fun h=>no (P:=v.call.a=w.call.a) (fun e=>by rw [e]) fun e=>by rw [e] at h;simp at h⟩)))))
    have hc_a:v.call.a=w.call.a:=eq_of_beq hc_a
    refine Aa (Dj _ 0) (Aa (Lx c6) (Aa (Dj _ 0) (Aa (Lx d6) (Aa (eqB _ _ _ _) (Ak.2 ⟨fun hc_b=>?_,fun h=>no (P:=v.call.b=w.call.b) (fun e=>by rw [e]) fun e=>by rw [e] at h;simp at h⟩)))))
    have hc_b:v.call.b=w.call.b:=eq_of_beq hc_b
    refine Aa (Eh _ 0) (Aa (JL c6) (Aa (Eh _ 0) (Aa (JL d6) ?_)))
    refine Aa B4 (hk A6 _ ⟨fun h=>?_,fun h=>by rw [h];exact beq_self_eq_true _⟩ g6)
    have hc_body:v.call.body=w.call.body:=Fg (eq_of_beq h)
    exact AbD he_kind he_node he_to he_n he_x e1 e2' he_s he_a (XI hc_what hc_ses hc_queue hc_tag hc_x hc_n hc_a hc_b he hc_body)
 ·rw [e16]
  refine BI (cs:=v.cells vn vk vr) hf (by omega) (D7 v vn1 vk1 vr1) fun A1 m1=>?_
  have n1:=m1.next
  refine BI (cs:=w.cells wn wk wr) m1.AG (by omega) (D7 w wn1 wk1 wr1) fun A2 m2=>?_
  have n2:=m2.next
  have k2:=m2.keeps m1.AG
  have r1:=m1.B7.keeps k2 (by simp)
  rw [n1]
  have r2:Go.Abs.AQ A2 (A.next+1) (w.cells wn wk wr) 40:=by rw [← n1];exact m2.B7
  have gr:Grow A A2 2:=⟨(m1.keeps hf).trans k2 (by simp),m2.AG,by omega⟩
  obtain ⟨F1,a1,_⟩:=(hv.keeps gr.keeps (by simp)).n
  obtain ⟨F2,a2,_⟩:=(hw.keeps gr.keeps (by simp)).n
  obtain ⟨F3,a3,_⟩:=(hv.keeps gr.keeps (by simp)).k
  obtain ⟨F4,a4,_⟩:=(hw.keeps gr.keeps (by simp)).k
  obtain ⟨F5,a5,_⟩:=(hv.keeps gr.keeps (by simp)).r
  obtain ⟨F6,a6,_⟩:=(hw.keeps gr.keeps (by simp)).r
  have fa2:∀ b:Nat,Ac Tp 38 (.pointer (some ⟨b,11,none⟩)) 8=some (.pointer (some ⟨b,21,none⟩)):=fun b=>Di b 11
  refine Aa (D1 _ 0) (Aa (Mn r1 vn2) (Aa (IV.HE a1) (Aa (D1 _ 0) (Aa (Mn r2 wn2) (Aa (IV.HE a2) (Aa Cm (BO.2 ⟨fun hn=>?_,fun hn=>?_⟩)))))))
  ·exact noB gr (P:=v.nodes.length=w.nodes.length) (fun h=>by rw [h]) (fun h=>hn (by rw [h]))
  refine Aa (D0 _ 0) (Aa (Mm r1 vk2) (Aa (IU.HE a3) (Aa (D0 _ 0) (Aa (Mm r2 wk2) (Aa (IU.HE a4) (Aa Cm (BO.2 ⟨fun hn2=>?_,fun hn2=>?_⟩)))))))
  ·exact noB gr (P:=v.keep.length=w.keep.length) (fun h=>by rw [h]) (fun h=>hn2 (by rw [h]))
  refine Aa (CJ _ 0) (Aa (fa2 _) (Aa (OK r1 vr2) (Aa (a5.len IQ) (Aa (CJ _ 0) (Aa (fa2 _) (Aa (OK r2 wr2) (Aa (a6.len IQ) (Aa Cm (BO.2 ⟨fun hn3=>?_,fun hn3=>?_⟩)))))))))
  ·exact noB gr (P:=v.call.refs.length=w.call.refs.length) (fun h=>by rw [h]) (fun h=>hn3 (by rw [h]))
  exact Aq.2 ⟨_,.inl ⟨rfl,0,rfl,by omega,by simp,⟨r1,r2,gr,by omega,by omega,by omega⟩,rfl⟩⟩
structure W1 (v:EvD):Prop where
 nodes:v.nodes.length≤20
 keep:v.keep.length≤20
 s:(bl v.s).length≤2000
 queue:(bl v.call.queue).length≤60
 tag:(bl v.call.tag).length≤60
 refs:v.call.refs.length≤120
 body:(bl v.call.body).length≤5000
theorem Acm {v:EvD} {vn vk vr:Value} {G:List Nat} {A:AW} {K:Value→AW→Prop} (hv:RdV A v vn vk vr G) (hf:AJ A) (hA:A.next+10 < Al)
  (hk:∀ A' (b:Bool),(b=true→(bl v.s).length≤2000→W1 v)→Grow A A' 1→K (.bool b) A'):Wc Tp Ai W0 m0 27 [.agg ⟨v.cells vn vk vr⟩] A K:=by
 obtain ⟨⟨vn1,vn2⟩,⟨vk1,vk2⟩,vr1,vr2⟩:=hv.one
 refine w27 _ _ (At (S:=fun _ _ _=>False) fun _ _ _ h=>h) ?_
 rw [e27]
 refine BI (cs:=v.cells vn vk vr) hf (by omega) (D7 v vn1 vk1 vr1) fun A1 m1=>?_
 have r:=m1.B7
 have gr:=Grow.made m1 hf
 have no:K (.bool false) A1:=hk A1 false (fun h=>(by cases h)) gr
 obtain ⟨F1,a1,_⟩:=(hv.keeps gr.keeps (by simp)).n
 obtain ⟨F3,a3,_⟩:=(hv.keeps gr.keeps (by simp)).k
 obtain ⟨F5,a5,_⟩:=(hv.keeps gr.keeps (by simp)).r
 have fa2:Ac Tp 38 (.pointer (some ⟨A.next,11,none⟩)) 2=some (.pointer (some ⟨A.next,13,none⟩)):=Ct _ 11
 have fa3:Ac Tp 38 (.pointer (some ⟨A.next,11,none⟩)) 3=some (.pointer (some ⟨A.next,14,none⟩)):=CA _ 11
 have fa8:Ac Tp 38 (.pointer (some ⟨A.next,11,none⟩)) 8=some (.pointer (some ⟨A.next,21,none⟩)):=Di _ 11
 have fa9:Ac Tp 38 (.pointer (some ⟨A.next,11,none⟩)) 9=some (.pointer (some ⟨A.next,22,none⟩)):=Eh _ 11
 refine Aa (D1 _ 0) (Aa (Mn r vn2) (Aa (IV.HE a1) (Aa D3 (Av.2 ⟨fun h1=>?_,fun _=>no⟩))))
 refine Aa (D0 _ 0) (Aa (Mm r vk2) (Aa (IU.HE a3) (Aa D3 (Av.2 ⟨fun h2=>?_,fun _=>no⟩))))
 refine Aa (DZ _ 0) (Aa (Ml r) (Aa (FQ _ _) (Aa D3 (Av.2 ⟨fun h3=>?_,fun _=>no⟩))))
 refine Aa (CJ _ 0) (Aa fa2 (Aa (Aau r) (Aa (FQ _ _) (Aa D3 (Av.2 ⟨fun h4=>?_,fun _=>no⟩)))))
 refine Aa (CJ _ 0) (Aa fa3 (Aa (Aat r) (Aa (FQ _ _) (Aa D3 (Av.2 ⟨fun h5=>?_,fun _=>no⟩)))))
 refine Aa (CJ _ 0) (Aa fa8 (Aa (OK r vr2) (Aa (a5.len IQ) (Aa D3 (Av.2 ⟨fun h6=>?_,fun _=>no⟩)))))
 refine Aa (CJ _ 0) (Aa fa9 (Aa (Aas r) (Aa (FQ _ _) (Aa D3 (hk A1 _ (fun h7 hs=>?_) gr)))))
 have h4:((bl v.call.queue).length:Int)≤60:=h4
 have h5:((bl v.call.tag).length:Int)≤60:=h5
 have h7:((bl v.call.body).length:Int)≤5000:=of_decide_eq_true h7
 exact ⟨by omega,by omega,hs,by omega,by omega,by omega,by omega⟩
theorem Acr {v:EvD} {vn vk vr:Value} {G:List Nat} {A:AW} {K:Value→AW→Prop} (hv:RdV A v vn vk vr G) (hf:AJ A) (hA:A.next+20 < Al)
  (hk:∀ A' (b:Bool),(b=false→W1 v)→Grow A A' 2→K (.bool b) A'):Wc Tp Ai W0 m0 12 [.agg ⟨v.cells vn vk vr⟩] A K:=by
 obtain ⟨⟨vn1,vn2⟩,⟨vk1,vk2⟩,vr1,vr2⟩:=hv.one
 refine w12 _ _ (At (S:=fun _ _ _=>False) fun _ _ _ h=>h) ?_
 rw [e12]
 refine BI (cs:=v.cells vn vk vr) hf (by omega) (D7 v vn1 vk1 vr1) fun A1 m1=>?_
 have n1:=m1.next
 have g1:=Grow.made m1 hf
 refine Aa (Cj m1.B7 (Fk v vn2 vk2 vr2) rfl (HF _ _)) (Acm (hv.keeps g1.keeps (by simp)) m1.AG (by omega) fun A2 b hb g2=>?_)
 have r2:=m1.B7.keeps g2.keeps (by simp)
 refine Aa EP (Ak.2 ⟨fun h=>hk A2 true (fun h=>(by cases h)) (g1.trans g2),fun h=>?_⟩)
 have hbt:b=true:=by simpa using h
 refine Aa (DZ _ 0) (Aa (Ml r2) (Aa (FQ _ _) (Aa Ej (hk A2 _ (fun h2=>hb hbt ?_) (g1.trans g2)))))
 have h2:¬ ((2000:Int) < ((bl v.s).length:Int)):=of_decide_eq_false h2
 omega
end
section
variable {W0:World} {m0:Inj Tp}
theorem wc4 {v:EvD} {vn vk vr:Value} {G:List Nat} {A:AW} (hp:Pow W0) (hhd:KC.Holds Tp W0 m0 ⟨7,[],[.bool true]⟩) (hg:GE A) (hw:v.Wf) (hrd:RdV A v vn vk vr G) (hz:szV v < 1200000) (hf:AJ A) (hA:A.next+200000000000 < Al):Wc Tp Ai W0 m0 4 [.agg ⟨v.cells vn vk vr⟩] A fun r _=>r=.bool true:=by
 have hmx:Al=1099511627776:=rfl
 have ho:=hrd.one
 refine w4 _ _ (At (S:=fun _ _ _=>False) fun _ _ _ h=>h) ?_
 rw [e4]
 refine BI (cs:=v.cells vn vk vr) hf (by omega) (D7 v ho.1.1 ho.2.1.1 ho.2.2.1) fun A1 m1=>?_
 have n1:=m1.next
 have k1:=m1.keeps hf
 have ld:∀ {B:AW},Aw A1 B []→Au Tp B 40 (.pointer (some ⟨A.next,0,none⟩))=some (.agg ⟨v.cells vn vk vr⟩):=fun k=>Cj (m1.B7.keeps k (by simp)) (Fk v ho.1.2 ho.2.1.2 ho.2.2.2) rfl (HF _ _)
 refine Aa (Cj m1.B7 (Fk v ho.1.2 ho.2.1.2 ho.2.2.2) rfl (HF _ _)) ?_
 have hr1:=hrd.keeps k1 (by simp)
 refine Acr hr1 m1.AG (by omega) fun A2 b hb g2=>?_
 have n2:=g2.next
 refine Ak.2 ⟨fun _=>PS hhd _ rfl,fun hbf=>?_⟩
 have hs:=hb hbf
 have sn:=hs.nodes
 have sk:=hs.keep
 have sr:=hs.refs
 have hr2:=hr1.keeps g2.keeps (by simp)
 have G2:Grow A A2 3:=⟨k1.trans g2.keeps (by simp),g2.AG,by omega⟩
 have hsum:=Lh hw
 have hsumC:=O3 hw.call
 have hszC:szC v.call≤szV v:=by
  have hm2:szV v=(bl v.s).length+v.nodes.length+v.keep.length+((bl v.call.queue).length+(bl v.call.tag).length+(bl v.call.body).length+szR v.call.refs):=rfl
  have hm3:szC v.call=(bl v.call.queue).length+(bl v.call.tag).length+(bl v.call.body).length+szR v.call.refs:=rfl
  omega
 refine Aa (ld g2.keeps) ?_
 have joint:∀ (t:ByteArray) (e:Int) (A3:AW),Grow A2 A3 4000000000→
   (∀ (K:Value→AW→Prop),(∀ A',Grow A3 A' 2000000000→K (.tuple ⟨[.string t,.int .i64 e]⟩) A')→Wc Tp Ai W0 m0 14 [.agg ⟨v.cells vn vk vr⟩] A3 K)→
   (e=0→Ht v (bl t))→(bl t).length < 4000000→(e=0∨e=310)→
   (Ab (Bt (.tuple ⟨[.string t,.int .i64 e]⟩) 0) fun t6=>Ab (Bt (.tuple ⟨[.string t,.int .i64 e]⟩) 1) fun t7=>Ab (Au Tp A3 40 (.pointer (some ⟨A.next,0,none⟩))) fun t8=>Wc Tp Ai W0 m0 14 [t8] A3 fun t9 At9=>Ab (Bt t9 0) fun t10=>Ab (Bt t9 1) fun t11=>Ab (Ag Tp .neq 9 (.tmp 22) (.tmp 23) t6 t10) fun t12=>Af t12 ((.bool false:Value)=.bool true) (Ab (Ag Tp .neq 3 (.tmp 26) (.tmp 27) t7 t11) fun t13=>Af t13 ((.bool false:Value)=.bool true) (Ab (Ag Tp .neq 24 (.tmp 30) (.const (.int .i64 0)) t7 (.int .i64 0)) fun t14=>Af t14 (knW Tp W0 m0 7 [] At9 fun t15 _=>t15=.bool true) (Wc Tp Ai W0 m0 15 [t6] At9 fun t16 At16=>Ab (Bt t16 0) fun t17=>Ab (Bt t16 1) fun t18=>Ap (B5 Tp At16 40) fun t19 At19=>Bp (AZ Tp At19 40 t19 t17) fun At20=>Ab (Ag Tp .eql 24 (.tmp 38) (.const (.int .i64 0)) t18 (.int .i64 0)) fun t21=>Af t21 (Ab (Au Tp At20 40 t19) fun t22=>Ab (Au Tp At20 40 (.pointer (some ⟨A.next,0,none⟩))) fun t23=>Wc Tp Ai W0 m0 16 [t22,t23] At20 fun t24 At24=>Af t24 (knW Tp W0 m0 7 [] At24 fun t25 _=>t25=.bool true) ((.bool false:Value)=.bool true)) ((.bool false:Value)=.bool true))))):=by
  intro t e A3 g3 h14 hL hlt he
  have n3:=g3.next
  refine Aa rfl (Aa rfl (Aa (ld (g2.keeps.trans g3.keeps (by simp))) (h14 _ fun A4 g4=>?_)))
  have n4:=g4.next
  have q1:((t.data.toList==t.data.toList))=true:=by simp
  refine Aa rfl (Aa rfl (Aa (by rw [Ed,q1]) (Ak.2 ⟨fun h=>(by cases h),fun _=>Aa Cm (BO.2 ⟨fun h=>absurd rfl h,fun _=>?_⟩)⟩)))
  refine Aa Cm (BO.2 ⟨fun _=>PS hhd _ rfl,fun h0=>?_⟩)
  have he0:e=0:=by omega
  have hLv:=hL he0
  have G4:Grow A A4 6000000003:=((G2.trans g3).trans g4).more (by omega)
  have r4:=hrd.keeps G4.keeps (by simp)
  have le4:=G4.le
  refine Xf hp (hg.keeps G4.keeps (by simp)) (by omega) g4.AG (by omega) (fun hno _ _=>absurd hLv (hno v)) (fun x wn wk wr H A5 hLx hu hsx hR hH g5=>?_)
  have n5:=g5.next
  obtain rfl:=hu v hLv
  have hx:=hR.one
  refine Aa rfl (Aa rfl (AV Hg g5.AG (by omega) rfl fun A6 m6=>?_))
  have n6:=m6.next
  have k6:=m6.keeps g5.AG
  refine storeAll (n:=23) (new:=v.cells wn wk wr) m6.B7 m6.AG (by omega) (Jw _ _ _) rfl rfl (D7 v hx.1.1 hx.2.1.1 hx.2.2.1) fun A7 r7 k7 n7 f7=>?_
  have K7:Aw A5 A7 []:=k6.trans k7 fun y hy=>.inr (by rw [List.mem_singleton.1 hy];omega)
  have K4:Aw A4 A7 []:=g5.keeps.trans K7 (by simp)
  refine Aa Ah (Ae.2 ⟨fun _=>?_,fun h=>absurd rfl h⟩)
  refine Aa (Cj r7 (Fk v hx.1.2 hx.2.1.2 hx.2.2.2) rfl (HF _ _)) (Aa (ld (((g2.keeps.trans g3.keeps (by simp)).trans g4.keeps (by simp)).trans K4 (by simp))) ?_)
  refine Acq (hR.keeps K7 (by simp)) (r4.keeps K4 (by simp)) f7 (by omega) (by omega) (by omega) fun A8 b8 hb8 g8=>?_
  have:=hb8.2 rfl
  exact Ak.2 ⟨fun _=>PS hhd _ rfl,fun h=>(by rw [this] at h;cases h)⟩
 refine Aal hp (hg.keeps G2.keeps (by simp)) hw hr2 (by omega) g2.AG (by omega) (fun hno A3 g3=>?_) (fun hpr A3 g3=>?_)
 ·have n3:=g3.next
  refine joint ⟨⟨[]⟩⟩ 310 A3 g3 (fun K hK=>?_) (fun h=>(by cases h)) (by decide) (.inr rfl)
  refine Aaj hw (hr2.keeps g3.keeps (by simp)) (by omega) (by omega) (by omega) g3.AG (by omega) (fun _ A4 g4=>?_) (fun h=>?_)
  ·exact hK A4 (g4.more (by omega))
  ·rw [hno] at h;cases h
 ·have n3:=g3.next
  have hjl:(BS ((Bg v).map txt)).length≤BE (Bg v)+(Bg v).length:=by
   unfold Bg
   show (_++CZ (List.map txt _)).length≤_
   rw [List.length_append,Hw,Kj,AS,List.length_map,C8,List.length_cons]
   omega
  refine joint (txt (BS ((Bg v).map txt))) 0 A3 g3 (fun K hK=>?_) (fun _=>⟨hw,hpr,by rw [C8]⟩) (by rw [C8];omega) (.inl rfl)
  refine Aaj hw (hr2.keeps g3.keeps (by simp)) (by omega) (by omega) (by omega) g3.AG (by omega) (fun h=>?_) (fun _ A4 g4=>?_)
  ·rw [hpr] at h;cases h
  ·exact hK A4 (g4.more (by omega))
end
section
variable (W0:World) (m0:Inj Tp) (S:Nat→List Value→AW→Prop) (Q:Value→AW→Prop)
theorem e7 (A:AW):AR Tp Ai W0 m0 7 Tz Lz S Q none 4000 (Tm.fill ⟨67,.nil⟩ 0 []) [.code (cd 7 [])] false 0 0 0 [] A=(cW W0 m0 8 [(.string ⟨⟨[97,32,98]⟩⟩)] A fun t0 At0=>cW W0 m0 8 [(.string ⟨⟨[]⟩⟩)] At0 fun t1 At1=>cW W0 m0 9 [(.string ⟨⟨[37,50]⟩⟩)] At1 fun t2 At2=>xW t2 0 fun t3=>xW t2 1 fun t4=>Ab (B0 Tp 38 [(0,(.int .u8 3)),(1,(.int .u64 2)),(2,(.string ⟨⟨[113]⟩⟩)),(5,(.int .u32 9))]) fun t5=>Ab (B0 Tp 40 [(0,(.int .u8 16)),(1,(.int .u8 1)),(9,t5)]) fun t6=>cW W0 m0 13 [t6] At2 fun t7 At7=>xW t7 0 fun t8=>xW t7 1 fun t9=>cW W0 m0 15 [(.string ⟨⟨[116,97,107,101,32,48,32,49,32,48]⟩⟩)] At7 fun t10 At10=>xW t10 0 fun t11=>xW t10 1 fun t12=>Ap (B5 Tp At10 40) fun t13 At13=>sW At13 40 t13 t11 fun At14=>cW W0 m0 15 [(.string ⟨⟨[116,97,107,101,32,48,32,49]⟩⟩)] At14 fun t15 At15=>xW t15 0 fun t16=>xW t15 1 fun t17=>Ap (B5 Tp At15 40) fun t18 At18=>sW At18 40 t18 t16 fun At19=>Ab (Ag Tp .eql 9 (.tmp 31) (.const (.string ⟨⟨[97,37,50,48,98]⟩⟩)) t0 (.string ⟨⟨[97,37,50,48,98]⟩⟩)) fun t20=>Af t20 (Ab (Ag Tp .eql 9 (.tmp 34) (.const (.string ⟨⟨[37]⟩⟩)) t1 (.string ⟨⟨[37]⟩⟩)) fun t21=>Af t21 (kW .eql 24 38 (.int .i64 310) t4 fun t22=>Af t22 (kW .eql 24 42 (.int .i64 0) t9 fun t23=>Af t23 (Ab (Ag Tp .eql 9 (.tmp 46) (.const (.string ⟨⟨[99,97,108,108,32,49,32,50,32,100,101,99,108,97,114,101,32,113,32,57]⟩⟩)) t8 (.string ⟨⟨[99,97,108,108,32,49,32,50,32,100,101,99,108,97,114,101,32,113,32,57]⟩⟩)) fun t24=>Af t24 (kW .eql 24 50 (.int .i64 0) t12 fun t25=>Af t25 (fW 40 t13 0 fun t26=>lW At19 5 t26 fun t27=>kW .eql 5 55 (.int .u8 3) t27 fun t28=>Af t28 (fW 40 t13 2 fun t29=>lW At19 5 t29 fun t30=>kW .eql 5 60 (.int .u8 1) t30 fun t31=>Af t31 (kW .eql 24 64 (.int .i64 310) t17 fun t32=>Q t32 At19) (Q (.bool false) At19)) (Q (.bool false) At19)) (Q (.bool false) At19)) (Q (.bool false) At19)) (Q (.bool false) At19)) (Q (.bool false) At19)) (Q (.bool false) At19)) (Q (.bool false) At19)):=by kernel_rfl
theorem w7:Wf0 7 67 Tz Lz:=wf0 (by kernel_rfl) (by decide) rfl
end
theorem dd1 {u:Nat} (h:u < 10):Lib.decDigits u=[UInt8.ofNat (48+u)]:=by
 rw [Lib.decDigits,dif_pos h]
def evT:EvD:={ Cl with kind:=3,to:=1 }
def evC:EvD:={ Cl with kind:=16,node:=1,call:={ Bf with what:=3,ses:=2,queue:=⟨⟨[113]⟩⟩,n:=9 } }
theorem UZ:DE evT=some (Bg evT):=C0.2 ⟨rfl,rfl,by decide⟩
theorem U0:DE evC=some (Bg evC):=C0.2 ⟨rfl,rfl,by decide⟩
theorem ZB:evT.Wf:=⟨by decide,by decide,by decide,by decide,(by decide:(0:Nat) < 4294967296),fun _ h=>(by cases h),fun _ h=>(by cases h),⟨by decide,by decide,(by decide:(0:Nat) < 4294967296),by decide,fun _ h=>(by cases h)⟩⟩
theorem ZC:evC.Wf:=⟨by decide,by decide,by decide,by decide,(by decide:(0:Nat) < 4294967296),fun _ h=>(by cases h),fun _ h=>(by cases h),⟨by decide,by decide,(by decide:(0:Nat) < 4294967296),by decide,fun _ h=>(by cases h)⟩⟩
theorem Wy:BS ((Bg evT).map txt)=[116,97,107,101,32,48,32,49,32,48]:=by
 have h:Bg evT=[[116,97,107,101],Lib.decDigits 0,Lib.decDigits 1,Lib.itoa 0]:=rfl
 have h2:Lib.itoa 0=Lib.decDigits 0:=rfl
 rw [h,h2,dd1 (by decide),dd1 (by decide)]
 rfl
theorem Wz:BS ((Bg evC).map txt)=[99,97,108,108,32,49,32,50,32,100,101,99,108,97,114,101,32,113,32,57]:=by
 have h:Bg evC=[[99,97,108,108],Lib.decDigits 1,Lib.decDigits 2,[100,101,99,108,97,114,101],[113],Lib.decDigits 9]:=rfl
 rw [h,dd1 (by decide),dd1 (by decide),dd1 (by decide)]
 rfl
theorem Abo:∀ k:Nat,(Aj k).1=[116,97,107,101]→k=3:=by
 intro k h
 by_cases hk:k < 18
 ·have:∀ k,k < 18→(Aj k).1=[116,97,107,101]→k=3:=by decide
  exact this k hk h
 ·have:Aj k=([],[]):=by
   unfold Aj
   rw [List.getD_eq_getElem?_getD,List.getElem?_eq_none (by show 18≤k;omega)];rfl
  rw [this] at h;cases h
theorem R4 (v:EvD):¬ Ht v [116,97,107,101,32,48,32,49]:=by
 rintro ⟨_,_,h⟩
 have hs:=LK v
 rw [h] at hs
 have hs:[[116,97,107,101],[48],[49]]=Bg v:=hs
 have hk:v.kind=3:=Abo v.kind (by unfold Bg at hs;exact (List.cons.inj hs).1.symm)
 have hl:(Bg v).length=4:=by unfold Bg;rw [hk];rfl
 rw [← hs] at hl
 cases hl
theorem Abv:B0 Tp 38 [(0,(.int .u8 3)),(1,(.int .u64 2)),(2,(.string ⟨⟨[113]⟩⟩)),(5,(.int .u32 9))]=some (.agg ⟨evC.call.cells vN⟩):=by kernel_rfl
theorem Abu:B0 Tp 40 [(0,(.int .u8 16)),(1,(.int .u8 1)),(9,.agg ⟨evC.call.cells vN⟩)]=some (.agg ⟨evC.cells vN vN vN⟩):=by kernel_rfl
section
variable {W0:World} {m0:Inj Tp}
theorem wc7 {A:AW} (hp:Pow W0) (hg:GE A) (hf:AJ A) (hA:A.next+20000000000 < Al):Wc Tp Ai W0 m0 7 [] A fun r _=>r=.bool true:=by
 have hmx:Al=1099511627776:=rfl
 refine w7 _ (At (S:=fun _ _ _=>False) fun _ _ _ h=>h) ?_
 rw [e7]
 refine wc8 (by decide) hf (by show A.next+100+10 * 3 < Al;omega) fun A1 g1=>?_
 have n1:A1.next≤A.next+(20+10 * 3):=g1.next
 refine wc8 (by decide) g1.AG (by show A1.next+100+10 * 0 < Al;omega) fun A2 g2=>?_
 have n2:A2.next≤A1.next+(20+10 * 0):=g2.next
 refine wc9 (by decide) g2.AG (by show A2.next+200+20 * 2 < Al;omega) (fun _ l _ h=>absurd h (Tr (by decide) (NX (by decide) (by decide)) l)) fun A3 g3 _=>?_
 have n3:A3.next≤A2.next+(30+12 * 2):=g3.next
 have G3:Grow A A3 200:=((g1.trans g2).trans g3).more (by show (20+10 * 3)+(20+10 * 0)+(30+12 * 2)≤200;omega)
 refine Aa rfl (Aa rfl (Aa Abv (Aa Abu ?_)))
 refine Aal hp (hg.keeps G3.keeps (by simp)) ZC (RdV.none A3 (v:=evC) rfl rfl rfl) (by decide) g3.AG (by omega) (fun h=>by rw [U0] at h;cases h) fun _ A4 g4=>?_
 have n4:=g4.next
 have G4:=G3.trans g4
 refine Aa rfl (Aa rfl ?_)
 have hT:Ht evT (bl ⟨⟨[116,97,107,101,32,48,32,49,32,48]⟩⟩):=⟨ZB,UZ,Wy⟩
 refine Xf hp (hg.keeps G4.keeps (by simp)) (by decide) g4.AG (by show A4.next+500 * 10+100000 < Al;omega) (fun hno _ _=>absurd hT (hno evT)) fun v wn wk wr H A5 _ hu _ hR _ g5=>?_
 obtain rfl:=hu evT hT
 have n5:A5.next≤A4.next+(400 * 10+50000):=g5.next
 have G5:=G4.trans g5
 have ho:=hR.one
 refine Aa rfl (Aa rfl (AV Hg g5.AG (by omega) rfl fun A6 m6=>?_))
 have n6:=m6.next
 have k6:=m6.keeps g5.AG
 refine storeAll (n:=23) (new:=evT.cells wn wk wr) m6.B7 m6.AG (by omega) (Jw _ _ _) rfl rfl (D7 evT ho.1.1 ho.2.1.1 ho.2.2.1) fun A7 r7 k7 n7 f7=>?_
 have K7:Aw A5 A7 []:=k6.trans k7 fun y hy=>.inr (by rw [List.mem_singleton.1 hy];omega)
 refine Xf hp (hg.keeps (G5.keeps.trans K7 (by simp)) (by simp)) (by decide) f7 (by show A7.next+500 * 8+100000 < Al;omega) (fun _ A8 g8=>?_) fun v _ _ _ _ _ h=>absurd h (R4 v)
 have n8:A8.next≤A7.next+(400 * 8+50000):=g8.next
 refine Aa rfl (Aa rfl (AV Hg g8.AG (by omega) rfl fun A9 m9=>?_))
 have n9:=m9.next
 have k9:=m9.keeps g8.AG
 refine storeAll (n:=23) (new:=Cl.cells vN vN vN) m9.B7 m9.AG (by omega) (Jw _ _ _) rfl rfl rfl fun B rB kB nB fB=>?_
 have KB:Aw A7 B []:=(g8.keeps.trans k9 (by simp)).trans kB fun y hy=>.inr (by have:=g8.le;rw [List.mem_singleton.1 hy];omega)
 have r:=r7.keeps KB (by simp)
 have yes:∀ {t:TypeId} {xo yo:Operand} {x:List UInt8},Ag Tp .eql t xo yo (.string ⟨⟨x⟩⟩) (.string ⟨⟨x⟩⟩)=some (.bool true):=fun {t xo yo x}=>by rw [B4];simp
 have t {p q:Prop} (h:p):Af (.bool true) p q:=Ak.2 ⟨fun _=>h,fun h=>(by cases h)⟩
 have hj:(txt (BS ((Bg evC).map txt)))=⟨⟨[99,97,108,108,32,49,32,50,32,100,101,99,108,97,114,101,32,113,32,57]⟩⟩:=by rw [Wz];rfl
 rw [hj]
 refine Aa yes (t (Aa yes (t (Aa rfl (t (Aa rfl (t (Aa yes (t (Aa rfl (t ?_)))))))))))
 refine Aa (D2 _ 0) (Aa (Mp r) (Aa rfl (t (Aa (CM _ 0) (Aa (Jk r) (Aa rfl (t (Aa rfl rfl))))))))
end
end Go.Proofs.YtebidlpekphaoaaGreatDoor
namespace Go.Abs
open Go.ChangeShapes Go.WideShapes Go.ChangeAt Go.RowKit
def okB (n:Nat) (l:List (Nat × List Value × TypeId)):Bool:=Nat.ble n Al&&l.all fun x=>Nat.blt x.1 n
def W8 (P:Program) (W:World) (L:List Arg) (l:List (Nat × List Value × TypeId)):Prop:=∀ x∈l,∃ (cs':Array Value) (fr:Nat × Nat),W.heap[x.1]? =some (.cells cs' x.2.2 fr)∧∀ (i:Nat) v,x.2.1[i]? =some v→∃ v',cs'[i]? =some v'∧Az (mR P L) v v'
section
variable {P:Program} {W:World} {gl:List (Nat × List Value × TypeId)} {L:List Arg}
theorem Pu {n:Nat} (hok:okB n gl=true) (hk:n+L.length≤Al) {i:Nat} {o:AO} (h:(wR n gl L).get i=some o):
  (∃ x∈gl,x.1=i∧i < n∧o=.row x.2.1 x.2.2 i 0 true)∨∃ j p cs e,i=n+j∧L[j]? =some (p,some (cs,e))∧o=.row cs e (n+L.length) 0 true:=by
 have h:(N5 (n+L.length) n L (Na gl)).get? i=some o:=h
 rw [HO _ L n _ _ hk] at h
 unfold okB at hok
 simp only [Bool.and_eq_true,List.all_eq_true] at hok
 obtain ⟨hn,hl⟩:=hok
 have hn:=Bo.1 hn
 have glob:(Na gl).get? i=some o→∃ x∈gl,x.1=i∧i < n∧o=.row x.2.1 x.2.2 i 0 true:=by
  intro h
  obtain ⟨x,hx,rfl,rfl⟩:=OP gl (fun x hx=>Nat.lt_of_lt_of_le (AA.1 (hl x hx)) hn) i o h
  exact ⟨x,hx,rfl,AA.1 (hl x hx),rfl⟩
 split at h
 ·exact .inl (glob h)
 ·split at h
  ·rename_i hi p cs e hq
   cases h
   exact .inr ⟨i - n,p,cs,e,by omega,hq,rfl⟩
  ·exact .inl (glob h)
theorem MR {n:Nat} (hok:okB n gl=true) (hk:n+L.length+1≤Al):AJ (wR n gl L):=by
 refine ⟨fun i hi=>?_,fun i hi=>?_⟩
 ·have hi:n+L.length+1≤i:=hi
  show ((Trie.nil:Trie (List Nat)).put depth (n+L.length) _).get? i=none
  rw [Trie.get?_put depth _ _ i _ (by unfold depth Al at *;omega),if_neg (by omega)]
  rfl
 ·have hi:n+L.length+1≤i:=hi
  cases hq:(wR n gl L).get i with
  | none=>rfl
  | some o=>
   rcases Pu hok (by omega) hq with ⟨x,_,_,h,_⟩ | ⟨j,p,cs,e,rfl,h,_⟩
   ·omega
   ·have:=(List.getElem?_eq_some_iff.1 h).1
    omega
theorem AaI (hok:okB P.globals.size gl=true) (hk:P.globals.size+L.length+1≤Al) (hW:W8 P W L gl) (hA:AbR P W L):Rel (mR P L) (wR P.globals.size gl L) W:=by
 have hget:=fun {i:Nat} {o:AO} (h:(wR P.globals.size gl L).get i=some o)=>Pu hok (by omega) h
 have hlen:(L.map (·.1)).length=L.length:=List.length_map _
 have harg:∀ {j:Nat} {p:Nat × Nat} {q:Option (List Value × TypeId)},L[j]? =some (p,q)→mR P L (P.globals.size+j)=some p:=by
  intro j p q h
  show mA P _ _=_
  rw [Nu,List.getElem?_map,h]
  rfl
 refine ⟨?_,?_,?_,?_,?_,hk,?_⟩
 ·intro i o c d hi hm
  rcases hget hi with ⟨x,hx,rfl,hlt,rfl⟩ | ⟨j,p,cs,e,rfl,hj,rfl⟩
  ·have hm:mA P (L.map (·.1)) x.1=some (c,d):=hm
   rw [PK hlt] at hm
   cases hm
   obtain ⟨cs',fr,hc,hv'⟩:=hW x hx
   refine ⟨_,hc,cs',fr,rfl,fun i v hv=>?_⟩
   obtain ⟨v',g1,g2⟩:=hv' i v hv
   exact ⟨v',by simpa using g1,fun _=>g2,fun h=>by cases h⟩
  ·rw [harg hj] at hm
   cases hm
   obtain ⟨cs',fr,h1,h2,h3⟩:=hA j _ cs e hj
   refine ⟨_,h1,cs',fr,rfl,fun i v hv=>?_⟩
   obtain ⟨v',g1,g2⟩:=h3 i v hv
   exact ⟨v',g1,fun _=>g2,fun h=>by cases h⟩
 ·intro i cs e b ro hi c d hm
  rcases hget hi with ⟨x,hx,rfl,hlt,_⟩ | ⟨j,p,cs2,e2,rfl,hj,he⟩
  ·have hm:mA P (L.map (·.1)) x.1=some (c,d):=hm
   rw [PK hlt] at hm
   cases hm
   rfl
  ·have:=(List.getElem?_eq_some_iff.1 hj).1
   simp only [AO.row.injEq] at he
   omega
 ·intro i j oi oj c di dj hij hi hj hmi hmj
  refine .inl ?_
  rcases hget hi with ⟨x,hx,rfl,hlt,rfl⟩ | ⟨j,p,cs2,e2,rfl,_,rfl⟩ <;> rcases hget hj with ⟨y,hy,rfl,hlt2,rfl⟩ | ⟨j2,p2,cs3,e3,rfl,_,rfl⟩ <;> exact ⟨rfl,rfl⟩
 ·intro i o f b hi hf
  have hmem:∀ f,(wR P.globals.size gl L).members f=if f=P.globals.size+L.length then (List.range L.length).map (P.globals.size+·) else [f]:=by
   intro f
   show (match ((Trie.nil:Trie (List Nat)).put depth (P.globals.size+L.length) _).get? f with | some l=>l | none=>[f])=_
   rw [Trie.get?_put depth _ _ f _ (by unfold depth Al at *;omega)]
   by_cases h:f=P.globals.size+L.length
   ·rw [if_pos h,if_pos h]
   ·rw [if_neg h,if_neg h];rfl
  rcases hget hi with ⟨x,hx,rfl,hlt,rfl⟩ | ⟨j,p,cs2,e2,rfl,hj,rfl⟩
  ·simp only [AO.fam,Option.some.injEq,Prod.mk.injEq] at hf
   obtain ⟨rfl,rfl⟩:=hf
   rw [hmem,if_neg (by omega)]
   exact ⟨by simp,by show x.1 < P.globals.size+L.length+1;omega⟩
  ·simp only [AO.fam,Option.some.injEq,Prod.mk.injEq] at hf
   obtain ⟨rfl,rfl⟩:=hf
   have:=(List.getElem?_eq_some_iff.1 hj).1
   rw [hmem,if_pos rfl]
   exact ⟨List.mem_map.2 ⟨j,List.mem_range.2 this,rfl⟩,by show _ < P.globals.size+L.length+1;omega⟩
 ·intro i hi
  have hi:P.globals.size+L.length+1≤i:=hi
  have hf:=MR (n:=P.globals.size) hok hk
  refine ⟨hf.get i hi,?_,hf.fams i hi⟩
  show (if i < P.globals.size then some (i,0) else (L.map (·.1))[i - P.globals.size]?)=none
  rw [if_neg (by omega)]
  exact List.getElem?_eq_none (by omega)
 ·intro i cs e f b ro c d hi hm
  rcases hget hi with ⟨x,hx,rfl,hlt,he⟩ | ⟨j,p,cs2,e2,rfl,hj,he⟩
  ·cases he
   have hm:mA P (L.map (·.1)) x.1=some (c,d):=hm
   rw [PK hlt] at hm
   cases hm
   obtain ⟨cs',fr,hc,_⟩:=hW x hx
   exact ⟨fun h=>absurd rfl h,_,_,fr,hc,by show 0+0≤_;omega,fun h=>by cases h⟩
  ·cases he
   rw [harg hj] at hm
   cases hm
   obtain ⟨cs',fr,h1,h2,h3⟩:=hA j _ _ _ hj
   exact ⟨fun h=>absurd rfl h,cs',_,fr,h1,by show _+0≤_;omega,fun h=>by cases h⟩
theorem Yn (hok:okB P.globals.size gl=true) (hk:P.globals.size+L.length≤Al) (c:Nat):¬ Own (mR P L) (wR P.globals.size gl L) c:=by
 rintro ⟨i,o,d,hi,hro,_⟩
 rcases Pu hok hk hi with ⟨x,hx,rfl,hlt,rfl⟩ | ⟨j,p,cs2,e2,rfl,_,rfl⟩ <;> cases hro
theorem Wn {R:World→Prop} (hR:∀ W W':World,R W→Go.RowKit.Below W.heap.size W W'→R W') {g:FuncId} (hg:g≠JS) (h:∀ W,R W→Calls P g #[] W fun e W'=>e=.returned (.bool true)∧Low W W') {W0:World} (hW:R W0) (m0:Inj P):
  KC.Holds P W0 m0 ⟨g,[],[.bool true]⟩:=by
 refine ⟨fun e=>absurd e hg,fun _=>?_⟩
 intro m args' W _ hb ha
 cases ha
 refine (h W (hR W0 W hW hb)).mono ?_
 rintro e W' ⟨rfl,hb'⟩
 exact ⟨_,by simp,rfl,hb'⟩
variable {X:Bl} {W0:World} {m0:Inj P}
end
end Go.Abs
namespace Go.Proofs.YtebidlpekphaoaaGreatDoor
open Go Go.Abs Go.ChangeShapes Go.WideShapes Go.ChangeAt Go.RowKit Go.Joins Go.Deep
def Mj (W:World):Prop:=∃ (a b:Addr) (fr fr':Nat × Nat),(a.spot=none∧W.heap[4]? =some (.cells #[.iface 185 (.pointer (some a))] 72 fr))∧b.spot=none∧W.heap[5]? =some (.cells #[.iface 185 (.pointer (some b))] 72 fr')
theorem Tryz.nG:Tp.globals.size=8:=by kernel_rfl
def OQ:List (Nat × List Value × TypeId):=[(4,[.iface 185 (.pointer (some ⟨8,0,none⟩))],72),(5,[.iface 185 (.pointer (some ⟨9,0,none⟩))],72)]
theorem okE:okB Tp.globals.size OQ=true:=by rw [Tryz.nG];rfl
theorem Yx (L:List Arg) (hk:8+L.length≤Al):GE (wR Tp.globals.size OQ L):=by
 rw [Tryz.nG]
 refine ⟨⟨8,4,0,true,?_,?_,by decide⟩,⟨9,5,0,true,?_,?_,by decide⟩,?_⟩
 ·show (N5 _ 8 L _).get? 4=_
  rw [HO _ L 8 _ _ hk,if_pos (by decide)];rfl
 ·show 4 < 8+L.length+1;omega
 ·show (N5 _ 8 L _).get? 5=_
  rw [HO _ L 8 _ _ hk,if_pos (by decide)];rfl
 ·show 5 < 8+L.length+1;omega
 ·show 8≤8+L.length+1;omega
theorem Mb {W:World} {L:List Arg} {g:FuncId} {args args':List Value} {a b:Addr} {fr fr':Nat × Nat} (ha4:a.spot=none) (h4:W.heap[4]? =some (.cells #[.iface 185 (.pointer (some a))] 72 fr)) (hb5:b.spot=none) (h5:W.heap[5]? =some (.cells #[.iface 185 (.pointer (some b))] 72 fr'))
  (hL:∃ R,L=((a.block,a.off),none)::((b.block,b.off),none)::R) (hk:Tp.globals.size+L.length+1≤Al) (hA:AbR Tp W L) (ha:AE (mR Tp L) args args') (h:Wc Tp Ai W (mR Tp L) g args (wR Tp.globals.size OQ L) fun v _=>v=.bool true):
  Calls Tp g ⟨args'⟩ W fun e W'=>e=.returned (.bool true)∧Low W W':=by
 have hW:W8 Tp W L OQ:=by
  obtain ⟨R,rfl⟩:=hL
  have m8:mR Tp (((a.block,a.off),none)::((b.block,b.off),none)::R) 8=some (a.block,a.off):=by
   have:=Nu (P:=Tp) (l:=((((a.block,a.off),none)::((b.block,b.off),none)::R:List Arg)).map (·.1)) (i:=0)
   rw [Tryz.nG] at this
   exact this
  have m9:mR Tp (((a.block,a.off),none)::((b.block,b.off),none)::R) 9=some (b.block,b.off):=by
   have:=Nu (P:=Tp) (l:=((((a.block,a.off),none)::((b.block,b.off),none)::R:List Arg)).map (·.1)) (i:=1)
   rw [Tryz.nG] at this
   exact this
  intro x hx
  simp only [OQ,List.mem_cons,List.not_mem_nil,or_false] at hx
  rcases hx with rfl | rfl
  ·refine ⟨_,fr,h4,fun i v hv=>?_⟩
   match i,hv with
   | 0,hv=>
    obtain rfl:Value.iface 185 (.pointer (some ⟨8,0,none⟩))=v:=by simpa using hv
    exact ⟨_,rfl,.iface 185 (.ptr ⟨rfl,ha4,a.off,m8,rfl⟩)⟩
   | i+1,hv=>simp at hv
  ·refine ⟨_,fr',h5,fun i v hv=>?_⟩
   match i,hv with
   | 0,hv=>
    obtain rfl:Value.iface 185 (.pointer (some ⟨9,0,none⟩))=v:=by simpa using hv
    exact ⟨_,rfl,.iface 185 (.ptr ⟨rfl,hb5,b.off,m9,rfl⟩)⟩
   | i+1,hv=>simp at hv
 refine (RG gP h (AaI okE hk hW hA) (fun i hi=>PK hi) (Yn okE (by omega)) ha).mono ?_
 rintro e w' ⟨v,v',m',A',rfl,rfl,h2,h3⟩
 cases h2
 exact ⟨rfl,Zr h3 (Yn okE (by omega))⟩
theorem Mj.grow {W W':World} (h:Mj W) (hb:Go.RowKit.Below W.heap.size W W'):Mj W':=by
 obtain ⟨a,b,fr,fr',⟨h1,h2⟩,h3,h4⟩:=h
 exact ⟨a,b,fr,fr',⟨h1,by rw [hb.block 4 (Array.getElem?_eq_some_iff.1 h2).1];exact h2⟩,h3,by rw [hb.block 5 (Array.getElem?_eq_some_iff.1 h4).1];exact h4⟩
theorem SK {W:World} (hW:Mj W) (hp:Pow W):Calls Tp 7 #[] W fun e W'=>e=.returned (.bool true)∧Low W W':=by
 obtain ⟨a,b,fr,fr',⟨h1,h2⟩,h3,h4⟩:=hW
 have hk:Tp.globals.size+[(((a.block,a.off),none):Arg),((b.block,b.off),none)].length+1≤Al:=by rw [Tryz.nG];show 8+2+1≤Al;decide
 refine Mb (args:=[]) h1 h2 h3 h4 ⟨[],rfl⟩ hk (fun j p cs e hj=>?_) .nil (wc7 hp (Yx _ (by show 8+2≤Al;decide)) (MR okE hk) ?_)
 ·match j,hj with
  | 0,hj=>simp at hj
  | 1,hj=>simp at hj
  | j+2,hj=>simp at hj
 ·show Tp.globals.size+2+1+20000000000 < Al
  rw [Tryz.nG];decide
theorem XD {W:World} (hW:Mj W) (hp:Pow W) (m:Inj Tp):KC.Holds Tp W m ⟨7,[],[.bool true]⟩:=
 Wn (R:=fun W=>Mj W∧Pow W) (fun _ _ h hb=>⟨h.1.grow hb,h.2.grow hb⟩) (by decide) (fun _ h=>SK h.1 h.2) ⟨hW,hp⟩ m
theorem Tryz.own:ownKnob Tp.godebug=none:=by kernel_rfl
theorem Tryz.laidOut:laidOutB Tp=true:=by kernel_rfl
theorem gES:Tp.globalNamed "strconv.ErrSyntax"=some 4:=by kernel_rfl
theorem gER:Tp.globalNamed "strconv.ErrRange"=some 5:=by kernel_rfl
theorem XE:(Tp.globals[4]?).map (·.type)=some 72:=by kernel_rfl
theorem XF:(Tp.globals[5]?).map (·.type)=some 72:=by kernel_rfl
theorem T4:Tp.cellsOf 187=1:=by kernel_rfl
theorem Tryz.cells9:Tp.cellsOf 9=1:=by kernel_rfl
theorem star: "*"++ "errors.errorString"= "*errors.errorString":=by decide
theorem VG (u:TypeId) (h:Tp.typeName? 3 u=some "*errors.errorString"):u=185:=
 typeName_ptr_named (nm:= "errors.errorString") (by rw [star];kernel_rfl) (by kernel_rfl) (by decide) u (by rw [star];exact h)
theorem Pv {W:World} {a:Addr} {v:Value} (hc:W.cell? a=some v):a.spot=none:=by
 unfold World.cell? at hc
 split at hc
 ·split at hc
  ·cases hc
  ·rename_i hsp
   cases hq:a.spot with
   | none=>rfl
   | some x=>rw [hq] at hsp;simp at hsp
 ·cases hc
abbrev PR:List (String × DataW Unit):=[("math/bits.deBruijn32tab",Rows.laid_math_bits_deBruijn32tab),("math/bits.deBruijn64tab",Rows.laid_math_bits_deBruijn64tab),("internal/strconv.uint64pow10",Rows.laid_internal_strconv_uint64pow10),("unicode/utf8.acceptRanges",Rows.laid_unicode_utf8_acceptRanges),("strconv.ErrRange",Rows.laid_strconv_ErrRange),("strconv.ErrSyntax",Rows.laid_strconv_ErrSyntax),("unicode/utf8.first",Rows.laid_unicode_utf8_first)]
theorem Wl {W:World} (hsh:W.ShapedOpen Tp) (h:laidMetH Tp PR W):Mj W:=by
 rw [MakeChecks.laidMetH_plain _ _ _ (by kernel_rfl)] at h
 obtain ⟨a,s,hv,hc,_,_⟩:=laid_sentinel h.tail.tail.tail.tail.tail gES XE Tryz.underlying72 VG Tryz.underlying185 Tryz.underlying187 rfl rfl Tryz.underlying9 T4 Tryz.cells9
 obtain ⟨fr,hw⟩:=O9 hsh (g:=4) (t:=72) (name:= "strconv.ErrSyntax") gES (by rw [Tryz.nG];decide) (by kernel_rfl) hv
 obtain ⟨b,s',hv',hc',_,_⟩:=laid_sentinel h.tail.tail.tail.tail gER XF Tryz.underlying72 VG Tryz.underlying185 Tryz.underlying187 rfl rfl Tryz.underlying9 T4 Tryz.cells9
 obtain ⟨fr',hw'⟩:=O9 hsh (g:=5) (t:=72) (name:= "strconv.ErrRange") gER (by rw [Tryz.nG];decide) (by kernel_rfl) hv'
 exact ⟨a,b,fr,fr',⟨Pv hc,hw⟩,Pv hc',hw'⟩
theorem AaJ:(Rows.laid_internal_strconv_uint64pow10:DataW Unit)=Lib.tabData .u64 Lib.pow10Tab:=by kernel_rfl
theorem Zi {W:World} (h:laidMetH Tp PR W):Pow W:=by
 rw [MakeChecks.laidMetH_plain _ _ _ (by kernel_rfl)] at h
 have h2:laidMet Tp (("internal/strconv.uint64pow10",Rows.laid_internal_strconv_uint64pow10)::[("unicode/utf8.acceptRanges",Rows.laid_unicode_utf8_acceptRanges),("strconv.ErrRange",Rows.laid_strconv_ErrRange),("strconv.ErrSyntax",Rows.laid_strconv_ErrSyntax),("unicode/utf8.first",Rows.laid_unicode_utf8_first)]) W:=h.tail.tail
 rw [AaJ] at h2
 exact Lib.tabIs_of_head (g:=1) (t:=171) (n:=20) (by kernel_rfl) (by kernel_rfl) Tryz.underlying171 (by kernel_rfl) (by kernel_rfl) (by kernel_rfl) h2
noncomputable def WH (os:Os):World:={ World.doorLaid Tp 400 os with heap:=(World.doorLaid Tp 400 os).heap.set! 2 (.cells ⟨Go.Pinned.utf8FirstZ.map fun (n:Nat)=>Value.int .u8 n⟩ 175 (0,0)) }
theorem WG (os:Os) (args:Array Value):laidMetH Tp PR ((WH os).forCall (fun _ _=>0) ⟨#[],args,[]⟩).memory:=
 laidMetH_of_parts3 (fuel:=8) (laidMet_of_run' 8 (by kernel_rfl) (by kernel_rfl)) (by kernel_rfl) (by kernel_rfl)
section
variable {H:Type} {enc:TypeId × Value→H} {w:World} {q:Nat}
theorem one_le (d:DataW H):1≤Rows.uptoBulk d:=by
 cases d with
 | lit l=>cases l <;> simp [Rows.uptoBulk]
 | nil=>simp [Rows.uptoBulk]
 | ptr d=>simp [Rows.uptoBulk]
 | slice elems spare=>simp [Rows.uptoBulk]
 | agg parts=>simp [Rows.uptoBulk]
 | iface t d=>simp [Rows.uptoBulk]
 | map entries=>simp [Rows.uptoBulk]
 | held h=>simp [Rows.uptoBulk]
theorem RL {β:Type} {g:Nat→β} {m:β→Nat} {D:Nat→DataW H}:∀ {l:List Nat},(∀ i∈l,m (g i)≤Rows.uptoBulk (D i))→((l.map g).map m).sum≤Rows.uptoBulkAll (l.map D)
 | [],_=>by simp
 | i::l,h=>by
  have h1:=h i (by simp)
  have h2:=RL (l:=l) fun j hj=>h j (by simp [hj])
  simp only [List.map_cons,List.sum_cons,Rows.uptoBulkAll]
  omega
theorem JW {P:Program} {t e:TypeId} {fuel:Nat} {cs:List Value} {x:DataW H × List MemPlace} {β:Type} {f:β→List Value} {ok:β→Prop} {m:β→Nat} (b0:β) (hu:P.underlying t=some (.slice e)) (hz:0 < P.cellsOf e) (hn:∀ b,(f b).length=P.cellsOf e)
  (hel:∀ q cs y,DataW.trod enc P w 0 (fun _=>true) true q e cs=some y→∃ b,cs=f b∧ok b∧m b≤Rows.uptoBulk y.1) (h:DataW.trod enc P w 0 (fun _=>true) true fuel t cs=some x):
  ∃ s l L,cs=[s]∧D4 w f s l L∧(∀ b∈l,ok b)∧(l.map m).sum+1≤Rows.uptoBulk x.1:=by
 have hsl:=Se hu hz h
 rcases Go.Deep.open_slice hu h with ⟨rfl,rfl⟩ | ⟨a,n,c,mm,k,D,Pl,rfl,_,hnm,hc,hm,rfl,hx⟩
 ·exact ⟨_,[],_,rfl,.nil rfl (.inl rfl) ⟨none,0,rfl⟩,by simp,by simp [Rows.uptoBulk]⟩
 ·obtain ⟨s',hs1,hs2⟩:=hsl
  simp only [List.cons.injEq,and_true] at hs1
  subst hs1
  have hm:mm=c:=hm
  subst hm
  have hcap:mm < Bu:=by
   have h1:maxLen < Bu:=by decide
   omega
  rcases Nat.eq_zero_or_pos n with rfl | hpos
  ·exact ⟨_,[],_,rfl,.nil rfl hs2 ⟨some a,mm,rfl⟩,by simp,one_le _⟩
  ·have key:∀ i,i < n→∃ b:β,(ok b∧m b≤Rows.uptoBulk (D i))∧∀ j,j < P.cellsOf e→∃ v,(f b)[j]? =some v∧w.cell? ((a.add (i * P.cellsOf e)).add j)=some v:=by
    intro i hi
    obtain ⟨cs',g1,g2⟩:=hx i (by omega)
    obtain ⟨_,hl,g3⟩:=World.cells?_some g1
    obtain ⟨b,rfl,hok,hmb⟩:=hel _ _ _ g2
    refine ⟨b,⟨hok,hmb⟩,fun j hj=>?_⟩
    have h4:=g3 j (by omega)
    exact ⟨(f b)[j]'(by rw [hn];exact hj),List.getElem?_eq_getElem _,by rw [h4];exact List.getElem?_eq_getElem _⟩
   obtain ⟨bb,_,q⟩:=key 0 hpos
   obtain ⟨v0,_,q2⟩:=q 0 hz
   have hblk:a.spot=none∧∃ cs e' fr,w.heap[a.block]? =some (.cells cs e' fr)∧a.off≤cs.size:=by
    have:w.cell? a=some v0:=by simpa [Addr.add] using q2
    refine ⟨Pv this,?_⟩
    unfold World.cell? at this
    split at this
    ·rename_i cs e' fr hh
     split at this
     ·cases this
     ·refine ⟨cs,e',fr,hh,?_⟩
      have:=(Array.getElem?_eq_some_iff.1 this).1
      omega
    ·cases this
   obtain ⟨hsp,cs,e',fr,hh,hoff⟩:=hblk
   let g:Nat→β:=fun i=>if h:i < n then Classical.choose (key i h) else b0
   have hg:∀ i (h:i < n),g i=Classical.choose (key i h):=fun i h=>dif_pos h
   have hfl:((List.range n).map g).length=n:=by simp
   refine ⟨_,(List.range n).map g,_,rfl,.blk a mm cs e' fr (by rw [hfl]) (by rw [hfl];exact hnm) hcap hsp hh hoff fun i v hi=>?_,fun b hb=>?_,?_⟩
   ·have hlt:i < n * P.cellsOf e:=by
     have:=(List.getElem?_eq_some_iff.1 hi).1
     rw [EJ hn,hfl] at this
     exact this
    have hdiv:i / P.cellsOf e < n:=(Nat.div_lt_iff_lt_mul hz).2 hlt
    have hmod:i % P.cellsOf e < P.cellsOf e:=Nat.mod_lt _ hz
    have hie:i / P.cellsOf e * P.cellsOf e+i % P.cellsOf e=i:=by rw [Nat.mul_comm];exact Nat.div_add_mod i _
    have hget:((List.range n).map g)[i / P.cellsOf e]? =some (g (i / P.cellsOf e)):=by
     rw [List.getElem?_map,List.getElem?_range hdiv];rfl
    have:=Wt hn hget hmod
    rw [hie,hi,hg _ hdiv] at this
    obtain ⟨_,p2⟩:=Classical.choose_spec (key _ hdiv)
    obtain ⟨v',p3,p4⟩:=p2 _ hmod
    rw [← this] at p3
    cases p3
    rw [Pp a _ hsp,Pp _ _ rfl] at p4
    unfold World.cell? at p4
    rw [hh] at p4
    simp only [Option.isSome_none,Bool.false_eq_true,if_false] at p4
    rw [show a.off+i / P.cellsOf e * P.cellsOf e+i % P.cellsOf e=a.off+i by omega] at p4
    simpa using p4
   ·simp only [List.mem_map,List.mem_range] at hb
    obtain ⟨i,hi,rfl⟩:=hb
    rw [hg i hi]
    exact (Classical.choose_spec (key i hi)).1.1
   ·have:=RL (g:=g) (m:=m) (D:=D) (l:=List.range n) fun i hi=>by
     have hi:=List.mem_range.1 hi
     rw [hg i hi]
     exact (Classical.choose_spec (key i hi)).1.2
    simp only [Rows.uptoBulk]
    omega
theorem FG {t:TypeId} {c0:Value} {k:IntKind} {y:DataW H × List MemPlace} (hu:Tp.underlying t=some (.int k)) (hmin:k.min=0) (h:DataW.trod enc Tp w 0 (fun _=>true) true q t [c0]=some y):∃ n:Nat,c0=.int k (n:Int)∧(n:Int)≤k.max:=by
 obtain ⟨k,e0,_,wk⟩:=DataW.trod_int hu h
 cases e0
 simp only [Lit.wf,Bool.and_eq_true,decide_eq_true_eq] at wk
 have hk0:0≤k:=by have:=wk.1;rw [hmin] at this;exact this
 refine ⟨k.toNat,?_,?_⟩
 ·rw [Int.toNat_of_nonneg hk0]
 ·rw [Int.toNat_of_nonneg hk0];exact wk.2
theorem Gs {c0:Value} {y:DataW H × List MemPlace} (h:DataW.trod enc Tp w 0 (fun _=>true) true q 9 [c0]=some y):∃ g:ByteArray,c0=.string g∧(bl g).length+1≤Rows.uptoBulk y.1:=by
 obtain ⟨g,e1,rfl,_⟩:=DataW.trod_string Tryz.underlying9 h
 cases e1
 exact ⟨g,rfl,by simp only [Rows.uptoBulk];exact Nat.le_refl _⟩
theorem Tryz.cells5:Tp.cellsOf 5=1:=by kernel_rfl
theorem Tryz.cells3:Tp.cellsOf 3=1:=by kernel_rfl
theorem Tryz.cells4:Tp.cellsOf 4=1:=by kernel_rfl
theorem Tryz.cells30:Tp.cellsOf 30=1:=by kernel_rfl
theorem Tryz.cells35:Tp.cellsOf 35=1:=by kernel_rfl
theorem Tryz.cells32:Tp.cellsOf 32=3:=by kernel_rfl
theorem Tryz.cells33:Tp.cellsOf 33=1:=by kernel_rfl
theorem Tryz.cells34:Tp.cellsOf 34=1:=by kernel_rfl
theorem Tryz.cells36:Tp.cellsOf 36=1:=by kernel_rfl
theorem Tryz.cells54:Tp.cellsOf 54=2:=by kernel_rfl
theorem Tryz.cells38:Tp.cellsOf 38=12:=by kernel_rfl
theorem Tryz.cells40:Tp.cellsOf 40=23:=by kernel_rfl
theorem QQ {c0 c1 c2:Value} {y:DataW H × List MemPlace} (h:DataW.trod enc Tp w 0 (fun _=>true) true q 32 [c0,c1,c2]=some y):
  ∃ x:Nm,[c0,c1,c2]=x.cells∧KS x:=by
 obtain ⟨z0,z1,z2,n',_,_,g0,g1,g2⟩:=trod_struct3 Tryz.underlying32 h
 have g0:DataW.trod enc Tp w 0 (fun _=>true) true n' 30 [c0]=some z0:=by simpa [Tryz.cells30] using g0
 have g1:DataW.trod enc Tp w 0 (fun _=>true) true n' 9 [c1]=some z1:=by simpa [Tryz.cells9] using g1
 have g2:DataW.trod enc Tp w 0 (fun _=>true) true n' 9 [c2]=some z2:=by simpa [Tryz.cells9] using g2
 obtain ⟨f,e0,hf⟩:=FG Tryz.underlying30 rfl g0
 obtain ⟨g,e1,h1⟩:=Gs g1
 obtain ⟨b,e2,h2⟩:=Gs g2
 cases e0;cases e1;cases e2
 have hf:(f:Int)≤4294967295:=hf
 exact ⟨⟨f,g,b⟩,rfl,show f < 4294967296 by omega⟩
theorem VK {cs:List Value} {y:DataW H × List MemPlace} (h:DataW.trod enc Tp w 0 (fun _=>true) true q 54 cs=some y):∃ r:ByteArray × Nat,cs=cR r∧U64 r.2∧(bl r.1).length+1≤Rows.uptoBulk y.1:=by
 obtain ⟨xs,n,_,rfl,hl,hlen,hf⟩:=DataW.trod_struct Tryz.underlying54 h
 have hl:cs.length=2:=hl.trans Tryz.cells54
 match cs,hl,xs,hlen with
 | [c0,c1],_,[y0,y1],_=>
  have h0:DataW.trod enc Tp w 0 (fun _=>true) true n 9 [c0]=some y0:=by simpa [Tryz.cells9] using hf 0 _ rfl
  have h1:DataW.trod enc Tp w 0 (fun _=>true) true n 35 [c1]=some y1:=by simpa [Tryz.cells35] using hf 1 _ rfl
  obtain ⟨g,rfl,hg⟩:=Gs h0
  obtain ⟨k,rfl,hk⟩:=FG Tryz.underlying35 rfl h1
  have hk:(k:Int)≤18446744073709551615:=hk
  refine ⟨(g,k),rfl,show k < 18446744073709551616 by omega,?_⟩
  simp only [List.map_cons,List.map_nil,Rows.uptoBulk,Rows.uptoBulkAll]
  omega
theorem Xp {cs:List Value} {y:DataW H × List MemPlace} (h:DataW.trod enc Tp w 0 (fun _=>true) true q 5 cs=some y):∃ k:Nat,cs=cB k∧k < 256∧1≤Rows.uptoBulk y.1:=by
 obtain ⟨k,rfl,_,wk⟩:=DataW.trod_int Tryz.underlying5 h
 simp only [Lit.wf,Bool.and_eq_true,decide_eq_true_eq] at wk
 have k0:0≤k:=wk.1
 have k1:k≤255:=wk.2
 refine ⟨k.toNat,?_,by omega,one_le _⟩
 unfold cB
 rw [Int.toNat_of_nonneg k0]
theorem QR {cs:List Value} {y:DataW H × List MemPlace} (h:DataW.trod enc Tp w 0 (fun _=>true) true q 3 cs=some y):∃ k:Int,cs=cI k∧(-9223372036854775808≤k∧k≤9223372036854775807)∧1≤Rows.uptoBulk y.1:=by
 obtain ⟨k,rfl,_,wk⟩:=DataW.trod_int Tryz.underlying3 h
 simp only [Lit.wf,Bool.and_eq_true,decide_eq_true_eq] at wk
 exact ⟨k,rfl,wk,one_le _⟩
theorem AcQ {β:Type} (l:List β):(l.map fun _=>1).sum=l.length:=by
 induction l with
 | nil=>rfl
 | cons x l ih=>simp only [List.map_cons,List.sum_cons,ih,List.length_cons];omega
theorem Uo {cs:List Value} {y:DataW H × List MemPlace} (h:DataW.trod enc Tp w 0 (fun _=>true) true q 38 cs=some y):
  ∃ (c:Ax) (vr:Value) (L:Arg),cs=c.cells vr∧c.Wf∧D4 w cR vr c.refs L∧szC c+1≤Rows.uptoBulk y.1:=by
 obtain ⟨xs,n,_,rfl,hl,hlen,hf⟩:=DataW.trod_struct Tryz.underlying38 h
 have hl:cs.length=12:=hl.trans Tryz.cells38
 match cs,hl,xs,hlen with
 | [c0,c1,c2,c3,c4,c5,c6,c7,c8,c9,c10,c11],_,[y0,y1,y2,y3,y4,y5,y6,y7,y8,y9],_=>
  have h0:DataW.trod enc Tp w 0 (fun _=>true) true n 5 [c0]=some y0:=by simpa [Tryz.cells5] using hf 0 _ rfl
  have h1:DataW.trod enc Tp w 0 (fun _=>true) true n 35 [c1]=some y1:=by simpa [Tryz.cells35] using hf 1 _ rfl
  have h2:DataW.trod enc Tp w 0 (fun _=>true) true n 9 [c2]=some y2:=by simpa [Tryz.cells9] using hf 2 _ rfl
  have h3:DataW.trod enc Tp w 0 (fun _=>true) true n 9 [c3]=some y3:=by simpa [Tryz.cells9] using hf 3 _ rfl
  have h4:DataW.trod enc Tp w 0 (fun _=>true) true n 32 [c4,c5,c6]=some y4:=by simpa [Tryz.cells32] using hf 4 _ rfl
  have h5:DataW.trod enc Tp w 0 (fun _=>true) true n 30 [c7]=some y5:=by simpa [Tryz.cells30] using hf 5 _ rfl
  have h6:DataW.trod enc Tp w 0 (fun _=>true) true n 4 [c8]=some y6:=by simpa [Tryz.cells4] using hf 6 _ rfl
  have h7:DataW.trod enc Tp w 0 (fun _=>true) true n 4 [c9]=some y7:=by simpa [Tryz.cells4] using hf 7 _ rfl
  have h8:DataW.trod enc Tp w 0 (fun _=>true) true n 36 [c10]=some y8:=by simpa [Tryz.cells36] using hf 8 _ rfl
  have h9:DataW.trod enc Tp w 0 (fun _=>true) true n 9 [c11]=some y9:=by simpa [Tryz.cells9] using hf 9 _ rfl
  obtain ⟨k0,rfl,w0⟩:=FG Tryz.underlying5 rfl h0
  obtain ⟨k1,rfl,w1⟩:=FG Tryz.underlying35 rfl h1
  obtain ⟨g2,rfl,b2⟩:=Gs h2
  obtain ⟨g3,rfl,b3⟩:=Gs h3
  obtain ⟨x,hx,wx⟩:=QQ h4
  simp only [Nm.cells,List.cons.injEq,and_true] at hx
  obtain ⟨rfl,rfl,rfl⟩:=hx
  obtain ⟨k5,rfl,w5⟩:=FG Tryz.underlying30 rfl h5
  obtain ⟨a6,e6,_⟩:=DataW.trod_bool Tryz.underlying4 h6
  obtain ⟨a7,e7,_⟩:=DataW.trod_bool Tryz.underlying4 h7
  cases e6;cases e7
  obtain ⟨s,l,L,e8,hs,hok,hb⟩:=JW (f:=cR) (ok:=fun r=>U64 r.2) (m:=fun r=>(bl r.1).length+1) (⟨⟨[]⟩⟩,0) Tryz.underlying36 (by rw [Tryz.cells54];decide) (fun f=>by rw [Tryz.cells54];rfl) (fun q cs y hy=>VK hy) h8
  cases e8
  obtain ⟨g9,rfl,b9⟩:=Gs h9
  have w0:(k0:Int)≤255:=w0
  have w1:(k1:Int)≤18446744073709551615:=w1
  have w5:(k5:Int)≤4294967295:=w5
  refine ⟨⟨k0,k1,g2,g3,x,k5,a6,a7,l,g9⟩,c10,L,rfl,⟨show k0 < 256 by omega,show k1 < 18446744073709551616 by omega,wx,show k5 < 4294967296 by omega,hok⟩,hs,?_⟩
  have hz:szC ⟨k0,k1,g2,g3,x,k5,a6,a7,l,g9⟩=(bl g2).length+(bl g3).length+(bl g9).length+(l.map fun r=>(bl r.1).length+1).sum:=rfl
  rw [hz]
  simp only [List.map_cons,List.map_nil,Rows.uptoBulk,Rows.uptoBulkAll]
  omega
theorem Xq {cs:List Value} {y:DataW H × List MemPlace} (h:DataW.trod enc Tp w 0 (fun _=>true) true q 40 cs=some y):
  ∃ (v:EvD) (vn vk vr:Value) (L1 L2 L3:Arg),cs=v.cells vn vk vr∧v.Wf∧D4 w cB vn v.nodes L1∧D4 w cI vk v.keep L2∧D4 w cR vr v.call.refs L3∧szV v≤Rows.uptoBulk y.1:=by
 obtain ⟨xs,n,_,rfl,hl,hlen,hf⟩:=DataW.trod_struct Tryz.underlying40 h
 have hl:cs.length=23:=hl.trans Tryz.cells40
 match cs,hl,xs,hlen with
 | [c0,c1,c2,c3,c4,c5,c6,c7,c8,c9,c10,c11,c12,c13,c14,c15,c16,c17,c18,c19,c20,c21,c22],_,[y0,y1,y2,y3,y4,y5,y6,y7,y8,y9],_=>
  have h0:DataW.trod enc Tp w 0 (fun _=>true) true n 5 [c0]=some y0:=by simpa [Tryz.cells5] using hf 0 _ rfl
  have h1:DataW.trod enc Tp w 0 (fun _=>true) true n 5 [c1]=some y1:=by simpa [Tryz.cells5] using hf 1 _ rfl
  have h2:DataW.trod enc Tp w 0 (fun _=>true) true n 5 [c2]=some y2:=by simpa [Tryz.cells5] using hf 2 _ rfl
  have h3:DataW.trod enc Tp w 0 (fun _=>true) true n 3 [c3]=some y3:=by simpa [Tryz.cells3] using hf 3 _ rfl
  have h4:DataW.trod enc Tp w 0 (fun _=>true) true n 32 [c4,c5,c6]=some y4:=by simpa [Tryz.cells32] using hf 4 _ rfl
  have h5:DataW.trod enc Tp w 0 (fun _=>true) true n 33 [c7]=some y5:=by simpa [Tryz.cells33] using hf 5 _ rfl
  have h6:DataW.trod enc Tp w 0 (fun _=>true) true n 34 [c8]=some y6:=by simpa [Tryz.cells34] using hf 6 _ rfl
  have h7:DataW.trod enc Tp w 0 (fun _=>true) true n 9 [c9]=some y7:=by simpa [Tryz.cells9] using hf 7 _ rfl
  have h8:DataW.trod enc Tp w 0 (fun _=>true) true n 4 [c10]=some y8:=by simpa [Tryz.cells4] using hf 8 _ rfl
  have h9:DataW.trod enc Tp w 0 (fun _=>true) true n 38 [c11,c12,c13,c14,c15,c16,c17,c18,c19,c20,c21,c22]=some y9:=by simpa [Tryz.cells38] using hf 9 _ rfl
  obtain ⟨k0,rfl,w0⟩:=FG Tryz.underlying5 rfl h0
  obtain ⟨k1,rfl,w1⟩:=FG Tryz.underlying5 rfl h1
  obtain ⟨k2,rfl,w2⟩:=FG Tryz.underlying5 rfl h2
  obtain ⟨k3,e3,w3,_⟩:=QR h3
  cases e3
  obtain ⟨x,hx,wx⟩:=QQ h4
  simp only [Nm.cells,List.cons.injEq,and_true] at hx
  obtain ⟨rfl,rfl,rfl⟩:=hx
  obtain ⟨s1,l1,L1,e5,hs1,ok1,b5⟩:=JW (f:=cB) (ok:=fun k=>k < 256) (m:=fun _=>1) 0 Tryz.underlying33 (by rw [Tryz.cells5];decide) (fun f=>by rw [Tryz.cells5];rfl) (fun q cs y hy=>Xp hy) h5
  cases e5
  obtain ⟨s2,l2,L2,e6,hs2,ok2,b6⟩:=JW (f:=cI) (ok:=fun k=> -9223372036854775808≤k∧k≤9223372036854775807) (m:=fun _=>1) 0 Tryz.underlying34 (by rw [Tryz.cells3];decide) (fun f=>by rw [Tryz.cells3];rfl) (fun q cs y hy=>QR hy) h6
  cases e6
  obtain ⟨g7,rfl,b7⟩:=Gs h7
  obtain ⟨a8,e8,_⟩:=DataW.trod_bool Tryz.underlying4 h8
  cases e8
  obtain ⟨c,vr,L3,hc,wc,hs3,b9⟩:=Uo h9
  simp only [Ax.cells,List.cons.injEq,and_true] at hc
  obtain ⟨rfl,rfl,rfl,rfl,rfl,rfl,rfl,rfl,rfl,rfl,rfl,rfl⟩:=hc
  rw [AcQ] at b5 b6
  have w0:(k0:Int)≤255:=w0
  have w1:(k1:Int)≤255:=w1
  have w2:(k2:Int)≤255:=w2
  refine ⟨⟨k0,k1,k2,k3,x,l1,l2,g7,a8,c⟩,c7,c8,c21,L1,L2,L3,rfl,⟨show k0 < 256 by omega,show k1 < 256 by omega,show k2 < 256 by omega,w3,wx,ok1,ok2,wc⟩,hs1,hs2,hs3,?_⟩
  have hz:szV ⟨k0,k1,k2,k3,x,l1,l2,g7,a8,c⟩=(bl g7).length+l1.length+l2.length+szC c:=rfl
  rw [hz]
  simp only [List.map_cons,List.map_nil,Rows.uptoBulk,Rows.uptoBulkAll]
  omega
end
theorem Sg {β:Type} {f:β→List Value} {k:Nat} (hlen:∀ x,(f x).length=k+1) {l:List β} {s':Value} {L:List Arg} {j:Nat} (hk:Tp.globals.size+L.length+1≤Al) (h:(l=[]∧∃ o c,s'=.slice o 0 c)∨∃ c p e,s'=.slice (some ⟨Tp.globals.size+j,0,none⟩) l.length c∧L[j]? =some (p,some (flat f l,e))):
  ∃ F,RdE k f (wR Tp.globals.size OQ L) s' l F∧∀ x∈F,x∈[Tp.globals.size+L.length]:=by
 rcases h with ⟨hl,h⟩ | ⟨c,p,e,rfl,hj⟩
 ·exact ⟨[],.inl ⟨hl,rfl,h⟩,by simp⟩
 ·exact ⟨_,Xr hlen hk hj,by simp⟩
theorem U9 (k:Nat):(cB k).all (AB 4)=true:=rfl
theorem U8 (k:Int):(cI k).all (AB 4)=true:=rfl
theorem U7 (r:ByteArray × Nat):(cR r).all (AB 4)=true:=rfl
theorem PG {W:World} (hW:Mj W) (hp:Pow W) {v:EvD} {vn vk vr:Value} {L1 L2 L3:Arg} (hv:v.Wf) (h1:D4 W cB vn v.nodes L1) (h2:D4 W cI vk v.keep L2) (h3:D4 W cR vr v.call.refs L3) (hz:szV v < 1200000):
  Calls Tp 4 #[.agg ⟨v.cells vn vk vr⟩] W fun e W'=>e=.returned (.bool true)∧Low W W':=by
 have hW':=hW
 obtain ⟨a,b,fr,fr',⟨g1,g2⟩,g3,g4⟩:=hW
 have hk:Tp.globals.size+[(((a.block,a.off),none):Arg),((b.block,b.off),none),L1,L2,L3].length+1≤Al:=by rw [Tryz.nG];show 8+5+1≤Al;decide
 obtain ⟨n',v1,r1⟩:=h1.rel (P:=Tp) (L:=[(((a.block,a.off),none):Arg),((b.block,b.off),none),L1,L2,L3]) (j:=2) rfl
 obtain ⟨k',v2,r2⟩:=h2.rel (P:=Tp) (L:=[(((a.block,a.off),none):Arg),((b.block,b.off),none),L1,L2,L3]) (j:=3) rfl
 obtain ⟨q',v3,r3⟩:=h3.rel (P:=Tp) (L:=[(((a.block,a.off),none):Arg),((b.block,b.off),none),L1,L2,L3]) (j:=4) rfl
 refine Mb (args:=[.agg ⟨v.cells n' k' q'⟩]) g1 g2 g3 g4 ⟨_,rfl⟩ hk (fun j p cs e hj=>?_) (.cons (.agg (.cons (.int _ _) (.cons (.int _ _) (.cons (.int _ _) (.cons (.int _ _) (.cons (.int _ _) (.cons (.string _) (.cons (.string _) (.cons v1 (.cons v2 (.cons (.string _) (.cons (.bool _)
  (.cons (.int _ _) (.cons (.int _ _) (.cons (.string _) (.cons (.string _) (.cons (.int _ _) (.cons (.string _) (.cons (.string _) (.cons (.int _ _) (.cons (.bool _) (.cons (.bool _) (.cons v3 (.cons (.string _) .nil)))))))))))))))))))))))) .nil)
  (wc4 hp (XD hW' hp _) (Yx _ (by show 8+5≤Al;decide)) hv ⟨Sg (fun _=>rfl) hk r1,Sg (fun _=>rfl) hk r2,Sg (fun _=>rfl) hk r3⟩ hz (MR okE hk) ?_)
 ·match j,hj with
  | 0,hj=>simp at hj
  | 1,hj=>simp at hj
  | 2,hj=>exact h1.args U9 (by simpa using hj)
  | 3,hj=>exact h2.args U8 (by simpa using hj)
  | 4,hj=>exact h3.args U7 (by simpa using hj)
  | j+5,hj=>simp at hj
 ·show Tp.globals.size+5+1+200000000000 < Al
  rw [Tryz.nG];decide
def Sw:Value:=.agg #[.int .u8 0,.int .u8 0,.int .u8 0,.int .i64 0,.int .u32 0,.string .empty,.string .empty,.slice none 0 0,.slice none 0 0,.string .empty,.bool false,
 .int .u8 0,.int .u64 0,.string .empty,.string .empty,.int .u32 0,.string .empty,.string .empty,.int .u32 0,.bool false,.bool false,.slice none 0 0,.string .empty]
theorem reads (os:Os) {H:Type} (enc:TypeId × Value→H):∃ places,DataW.whole enc Tp ((WH os).forCall (fun _ _=>0) ⟨#[],#[Sw],[]⟩).memory Tryz.f4.params.toList Rows.scriptPrintsSpec.vars false #[Sw].toList 8=
  some ([.agg [.lit (.int .u8 0),.lit (.int .u8 0),.lit (.int .u8 0),.lit (.int .i64 0),.agg [.lit (.int .u32 0),.lit (.string []),.lit (.string [])],.nil,.nil,.lit (.string []),.lit (.bool false),
   .agg [.lit (.int .u8 0),.lit (.int .u64 0),.lit (.string []),.lit (.string []),.agg [.lit (.int .u32 0),.lit (.string []),.lit (.string [])],.lit (.int .u32 0),.lit (.bool false),.lit (.bool false),.nil,.lit (.string [])]]],[],places):=⟨[],by kernel_rfl⟩
theorem Jl (os:Os) (started:os.Started) (H:Type) (enc:TypeId × Value→H) (F:Stop.Interp):
  ReturnsInHanded {} Tryz.checked os 4 .any ((Rows.OpenSpec.upto Rows.scriptPrintsSpec).preRow enc Tp Tryz.f4 Rows.scriptPrintsUptoRow.domain false Rows.scriptPrintsUptoRow.laid) (((Rows.OpenSpec.upto Rows.scriptPrintsSpec).at F).post enc Tp Tryz.f4 false true false false):=by
 obtain ⟨places,hx⟩:=reads os enc
 refine returnsInHanded_of_row (C:=Tryz.checked) (s:=Rows.OpenSpec.upto Rows.scriptPrintsSpec) Tryz.own started (by kernel_rfl) Tryz.func4
  (witness_row_atRef (enc:=enc) (C:=Tryz.checked) false (WH os) #[Sw] rfl (by kernel_rfl) (by kernel_rfl) (by kernel_rfl)
   (OpenSpec.preRow_of_cond 8 hx (by kernel_rfl) (fun k hk=>by cases hk;kernel_rfl) (by kernel_rfl) (WG os _))) ?_
 intro W base args ds gs before hval0 hW _ hcond _ hL hsh _
 have hb0:Rows.uptoBulkAll (ds++gs)≤1048576:=of_decide_eq_true (hcond _ rfl)
 have hval:∀ (j:Nat) t v,Tryz.f4.params[j]? =some t→args[j]? =some v→Value.okWide Tp W .any base t v:=hval0
 have hW':=hW
 obtain ⟨p,q,hA0,hV,rfl,hfz,hnd⟩:=hW
 have hA:DataW.TrodAll enc Tp W 0 (fun _=>true) true Tryz.f4.params.toList args.toList ds p:=hA0
 rw [Tryz.params4] at hA hval
 obtain ⟨v0,d0,rfl,rfl,h0⟩:=trodAll_one hA
 obtain ⟨rfl,rfl⟩:=trodVars_none hV
 have hr0:=h0
 obtain ⟨fuel,hf⟩:=hr0
 obtain ⟨⟨cs⟩,rfl,_⟩:=okWide_struct Tryz.underlying40 (hval 0 40 v0 rfl rfl)
 obtain ⟨v,vn,vk,vr,L1,L2,L3,he,hv,s1,s2,s3,hz⟩:=Xq (cs:=cs) hf
 have he:cs=v.cells vn vk vr:=he
 subst he
 have hz:szV v < 1200000:=by
  have hz:szV v≤Rows.uptoBulk d0:=hz
  simp only [List.append_nil,Rows.uptoBulkAll] at hb0
  omega
 clear hA0 hval0 hb0
 simp only [List.append_nil] at hW'
 have hlt:∀ x∈p,x.block < W.heap.size:=fun x hx=>by simpa using hW'.lt x hx
 refine (PG (Wl hsh hL) (Zi hL) hv s1 s2 s3 hz).mono fun e W' ⟨he,hb0⟩=>?_
 subst he
 have hb:=hb0.1
 exact ⟨_,rfl,Of (pa:=p) (pv:=[]) hW' (fun _ _ _=>trodAll_mk1 (shut_bool Tryz.underlying4 _)) (fun sp hsp=>trodAll_mk1
   (WideElems.Trod_stays Tryz.laidOut (by kernel_rfl) (of_decide_eq_true (by kernel_rfl)) h0 (fun x hx=>hb.same (hlt x hx)) (fun x hx=>hsp x (by simpa using hx)))) (fun _ _=>rfl) (by simp) hb
  (ok_one (by kernel_rfl) rfl (okWide_bool_mk Tryz.underlying4 _))⟩
theorem scriptPrints_holds:Rows.ScriptPrintsUptoSaid:=
 OpenClaim.holds_of_cond 4 Tryz.f4 rfl rfl rfl rfl rfl rfl rfl ⟨rfl,rfl,rfl,rfl,rfl⟩ rfl rfl rfl rfl rfl (by kernel_rfl) Tryz.func4 (by kernel_rfl)
  (of_decide_eq_true (by kernel_rfl)) (by unfold Func.isWrapper;first | (rw [if_pos (by decide+kernel)];kernel_rfl) | (rw [if_neg (by decide+kernel)];exact ⟨rfl,rfl⟩))
  (fun os started H enc _ F=>by rw [OpenClaim.pre_eq_preRow];exact Jl os started H enc F)
theorem scriptPrints_card:Rows.ScriptPrintsUptoCardSaid:=
 Claim7.holds_tied_plain_at .later [] [.data,.data,.data,.data,.sentinel,.sentinel,.pinned] true (true, "da46332cc93e85645593edd53063953065bcb73bad7ce245735f98f837272f36") true
  scriptPrints_holds (fun _ h=>by cases h) (by kernel_rfl) (fun _ h=>by cases h) scriptPrintsUpto_row_tie rfl ⟨rfl,rfl⟩ (by kernel_rfl) rfl
  (fun f fn hf hfn=>by
   obtain rfl:f=4:=Option.some.inj ((show Tp.funcNamed "posthouse/posthouselaw31.ScriptPrints"=some 4 by kernel_rfl).symm.trans hf) |>.symm
   obtain rfl:fn=Tryz.f4:=(Option.some.inj (Tryz.func4.symm.trans hfn)).symm
   exact ⟨by kernel_rfl,fun j t ht=>by
    rw [Tryz.params4] at ht
    have hm:t∈[40]:=by simpa using Array.mem_of_getElem? ht
    have hall:([40].all fun u=>!Tp.wantsStandIn u)=true:=by kernel_rfl
    exact (show Tp.wantsStandIn t=false by simpa using List.all_eq_true.1 hall t hm)⟩)
  (by kernel_rfl)
#print axioms scriptPrints_card
end Go.Proofs.YtebidlpekphaoaaGreatDoor
