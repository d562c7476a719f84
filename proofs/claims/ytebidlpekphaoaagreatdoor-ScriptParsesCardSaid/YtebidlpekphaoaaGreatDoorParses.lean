/-
  This text shows that the statement ScriptParsesCardSaid holds of the program. Conditions: none for the last theorem, those that each theorem states for the others.
-/
import Derived.Test.YtebidlpekphaoaaGreatDoorPe
import Derived.ChangeMaps5
import Derived.Deep.Strs
import Derived.LaidMore
import Derived.Lib.LaidTab
import Derived.Lib.SmallJoins
import Derived.SevenTiedAt
import Derived.Stop.LaidErr
import Derived.Test.YtebidlpekphaoaaGreatDoorCards
import Derived.Test.YtebidlpekphaoaaGreatDoorTie
set_option maxRecDepth 100000
namespace Go.Proofs.YtebidlpekphaoaaGreatDoor
open Go.Abs
def Rt (c0:Ax) (ls:List ByteArray):Prop:=c0.Wf∧CB c0=some (Bv c0,Bc)∧(partsOf c0.what).1≠[]∧ls=(Bv c0).map txt
def HW {β:Type} (R:Word→β→Prop):List ByteArray→List β→Prop
 | [],[]=>True
 | w::r,x::l=>R (bl w) x∧HW R r l
 | _,_=>False
theorem HW.snoc {β:Type} {R:Word→β→Prop} {w:ByteArray} {x:β}:∀ {ws:List ByteArray} {l:List β},HW R ws l→R (bl w) x→HW R (ws++[w]) (l++[x])
 | [],[],_,h=>⟨h,trivial⟩
 | _::r,_::l,h,h2=>⟨h.1,HW.snoc h.2 h2⟩
 | [],_::_,h,_=>h.elim
 | _::_,[],h,_=>h.elim
theorem HW.eq {β:Type} {R:Word→β→Prop} {f:β→Word} {P:β→Prop} (hR:∀ y x,P y→R (f y) x→x=y):∀ {ys l:List β},(∀ y∈ys,P y)→HW R ((ys.map f).map txt) l→l=ys
 | [],[],_,_=>rfl
 | [],_::_,_,h=>h.elim
 | _::_,[],_,h=>h.elim
 | y::ys,x::l,hp,h=>by
  rw [hR y x (hp y (by simp)) h.1,HW.eq hR (fun y hy=>hp y (List.mem_cons_of_mem _ hy)) h.2]
theorem HW.len {β:Type} {R:Word→β→Prop}:∀ {ws:List ByteArray} {l:List β},HW R ws l→l.length=ws.length
 | [],[],_=>rfl
 | _::r,_::l,h=>by rw [Lc,Lc,HW.len h.2]
 | [],_::_,h=>h.elim
 | _::_,[],h=>h.elim
def JQ (ls:List ByteArray) (how:List UInt8) (a i:Nat) (c:Ax):Prop:=∀ c0,Rt c0 ls→how=(partsOf c0.what).2∧(∃ ws left,goC c0 (how.drop i) ws left=some (Bv c0,Bc)∧MC c left c0)∧ls.drop a=((how.drop i).flatMap (Ca c0)).map txt
theorem QQ {c:Ax} {h:UInt8} {wl:List Word} (h82:h≠82) (hl:Dk c h=some wl):∃ w,wl=[w]:=by
 by_cases h88:h=88
 ·subst h88
  have hl:(if okX c.x=true then some [Cs c.x] else none)=some wl:=hl
  split at hl
  ·cases hl;exact ⟨_,rfl⟩
  ·cases hl
 ·unfold Dk at hl
  simp only [h82,h88,if_false] at hl
  repeat' split at hl
  all_goals (cases hl;exact ⟨_,rfl⟩)
theorem Ch {α:Type} {l:List α} {i:Nat} {x:α} (h:l[i]? =some x):l.drop i=x::l.drop (i+1):=by
 obtain ⟨hlt,e⟩:=Gs.1 h
 rw [List.drop_eq_getElem_cons hlt,e]
theorem JQ.step {ls:List ByteArray} {how:List UInt8} {a i:Nat} {c c':Ax} {h:UInt8} {w:ByteArray} (j:JQ ls how a i c) (hi:how[i]? =some h) (h82:h≠82) (hat:ls[a]? =some w) (V:∀ c0 left,c0.Wf→Dk c0 h=some [bl w]→MC c left c0→MC c' (Dh left h) c0):JQ ls how (a+1) (i+1) c':=by
 intro c0 hg
 obtain ⟨h1,⟨ws,left,h2,h3⟩,h4⟩:=j c0 hg
 rw [Ch hi] at h2 h4
 unfold goC at h2
 cases hl:Dk c0 h with
 | none=>rw [hl] at h2;cases h2
 | some wl=>
  rw [hl] at h2
  obtain ⟨w0,rfl⟩:=QQ h82 hl
  have hwc:Ca c0 h=[w0]:=by unfold Ca;rw [hl];rfl
  rw [Ch hat,List.flatMap_cons,hwc,List.map_append] at h4
  simp only [Mc,Mn,List.cons_append,List.nil_append,Li] at h4
  obtain ⟨e,h4⟩:=h4
  refine ⟨h1,⟨_,_,h2,V c0 left hg.1 ?_ h3⟩,h4⟩
  rw [hl,e];rfl
theorem VA {how:List UInt8} {i:Nat} (hlast:GU how=true) (hi:how[i]? =some 82):how.drop (i+1)=[]:=by
 have:∀ (hs:List UInt8) (k:Nat),GU hs=true→hs[k]? =some 82→hs.drop (k+1)=[]:=by
  intro hs
  induction hs with
  | nil=>intro k _ h;simp at h
  | cons x r ih=>
   intro k hh hk
   simp only [GU,Bq,Bool.or_eq_true,bne_iff_ne,ne_eq,List.isEmpty_iff] at hh
   match k with
   | 0=>
    simp only [List.getElem?_cons_zero,Oi] at hk
    rcases hh.1 with h | h
    ·exact absurd hk h
    ·rw [h];rfl
   | k+1=>exact ih k hh.2 (by simpa using hk)
 exact this how i hlast hi
theorem JQ.refs {ls:List ByteArray} {how:List UInt8} {a i:Nat} {c:Ax} {l:List (ByteArray × Nat)} (j:JQ ls how a i c) (hi:how[i]? =some 82) (hlast:GU how=true) (hl:HW Xc (ls.drop a) l):JQ ls how ls.length (i+1) { c with refs:=l }:=by
 intro c0 hg
 obtain ⟨h1,⟨ws,left,h2,h3⟩,h4⟩:=j c0 hg
 have hd0:=VA hlast hi
 rw [Ch hi,hd0] at h2 h4
 have h4:ls.drop a=(c0.refs.map Dn).map txt:=by
  rw [h4]
  simp [On]
 have h2:some (ws++c0.refs.map Dn,Dh left 82)=some (Bv c0,Bc):=h2
 have hll:l=c0.refs:=by
  rw [h4] at hl
  have hwf:=hg.1.refs
  exact HW.eq (f:=Dn) (P:=fun r=>U64 r.2) (fun y x hy hx=>hx.2.2 y hy rfl) hwf hl
 refine ⟨h1,⟨ws++c0.refs.map Dn,Dh left 82,?_,?_⟩,?_⟩
 ·rw [hd0];exact h2
 ·exact ⟨h3.what,h3.ses,h3.queue,h3.tag,h3.x,h3.n,h3.a,h3.b,fun _=>hll,h3.body⟩
 ·rw [hd0];simp
theorem JQ.done {ls:List ByteArray} {how:List UInt8} {a i:Nat} {c:Ax} (j:JQ ls how a i c) (hend:how.length≤i∨ls.length≤a) (hr:(82:UInt8)∈how.drop i→c.refs=[]):∀ c0,Rt c0 ls→c=c0:=by
 intro c0 hg
 obtain ⟨h1,⟨ws,left,h2,h3⟩,h4⟩:=j c0 hg
 rcases hend with he | he
 ·rw [List.drop_eq_nil_of_le he] at h2
  simp only [goC,Oi,Pj] at h2
  rw [h2.2] at h3
  exact h3.done
 ·rw [List.drop_eq_nil_of_le he] at h4
  cases hd:how.drop i with
  | nil=>
   rw [hd] at h2
   simp only [goC,Oi,Pj] at h2
   rw [h2.2] at h3
   exact h3.done
  | cons x r=>
   rw [hd] at h2 h4 hr
   have h4:((x::r).flatMap (Ca c0)).map txt=[]:=h4.symm
   rw [List.map_eq_nil_iff,List.flatMap_cons,List.append_eq_nil_iff] at h4
   unfold goC at h2
   cases hl:Dk c0 x with
   | none=>rw [hl] at h2;cases h2
   | some wl=>
    rw [hl] at h2
    have hwc:Ca c0 x=wl:=by unfold Ca;rw [hl];rfl
    by_cases hx:x=82
    ·subst hx
     have hcr:=hr (by simp)
     have hrz:c0.refs=[]:=by
      have:=h4.1
      rw [On,List.map_eq_nil_iff] at this
      exact this
     cases r with
     | nil=>
      simp only [goC,Oi,Pj] at h2
      have m:MC c (Dh left 82) c0:=⟨h3.what,h3.ses,h3.queue,h3.tag,h3.x,h3.n,h3.a,h3.b,fun _=>by rw [hcr,hrz],h3.body⟩
      rw [h2.2] at m
      exact m.done
     | cons y r2=>
      exfalso
      have hlast:=Nh c0.what
      rw [← h1] at hlast
      have:GU (how.drop i)=true:=by
       have:∀ (hs:List UInt8) (k:Nat),GU hs=true→GU (hs.drop k)=true:=by
        intro hs
        induction hs with
        | nil=>intro k _;simp [GU]
        | cons x r ih=>
         intro k hh
         match k with
         | 0=>exact hh
         | k+1=>
          simp only [GU,Bq] at hh
          exact ih k hh.2
       exact this how i hlast
      rw [hd] at this
      simp [GU] at this
    ·obtain ⟨w0,rfl⟩:=QQ hx hl
     rw [hwc] at h4
     cases h4.1
structure JS (A0 A:AW) (ls:List ByteArray) (how:List UInt8) (z q:Nat) (a i:Nat) (c:Ax) (vr:Value):Prop where
 l:Go.Abs.AD A q (c.cells vr) 38
 zr:Go.Abs.AD A z (Bc.cells vN) 38
 own:∃ F,CZ 54 1 cR A vr c.refs F∧(∀ x∈F,A0.next≤x)∧q∉F∧z∉F
 k:Ay A0 A []
 f:AH A
 hq:A0.next≤q
 hz:A0.next≤z
 n1:z≠q
 wf:c.Wf
 sz:szC c+Ba (ls.drop a)≤Ba ls
 nx:A.next+1200 * Ba (ls.drop a)≤A0.next+100+1200 * Ba ls
 j:JQ ls how a i c
 r82:(82:UInt8)∈how.drop i→c.refs=[]
theorem JS.set {A0 A A1 A2:AW} {ls:List ByteArray} {how:List UInt8} {z q a i m:Nat} {c c':Ax} {vr:Value} {h:UInt8} {w:ByteArray} (s:JS A0 A ls how z q a i c vr) (hi:how[i]? =some h) (h82:h≠82) (hat:ls[a]? =some w) (g:Grow A A1 m) (hm:m≤1200 * (bl w).length+1100) (l2:Go.Abs.AD A2 q (c'.cells vr) 38) (k2:Ay A1 A2 [q]) (n2:A2.next=A1.next) (f2:AH A2)
  (V:∀ c0 left,c0.Wf→Dk c0 h=some [bl w]→MC c left c0→MC c' (Dh left h) c0) (hr:c'.refs=c.refs) (hw:c'.Wf) (hz:szC c'≤szC c+(bl w).length):JS A0 A2 ls how z q (a+1) (i+1) c' vr:=by
 obtain ⟨F,o1,o2,o3,o4⟩:=s.own
 have e:Ba (ls.drop a)=(bl w).length+1+Ba (ls.drop (a+1)):=by rw [Ch hat];rfl
 have hn:=g.next
 have h1:=s.sz
 have h2:=s.nx
 refine ⟨l2,(s.zr.keeps g.keeps (by simp)).keeps k2 (by simp [s.n1]),⟨F,?_,o2,o3,o4⟩,(s.k.trans g.keeps (by simp)).trans k2 fun x hx=>.inr (by rw [Ms.1 hx];exact s.hq),f2,s.hq,s.hz,s.n1,hw,by omega,by omega,s.j.step hi h82 hat V,fun hm=>?_⟩
 ·rw [hr]
  exact (o1.keeps g.keeps (by simp)).keeps k2 fun x hx hm=>o3 (by rw [← Ms.1 hm];exact hx)
 ·rw [hr]
  exact s.r82 (by rw [Ch hi];exact List.mem_cons_of_mem _ hm)
theorem KE {x:Ax} {b:Bool} {y n:Word} {w:ByteArray} {h:UInt8} (hl:Dk x h=some [bl w]) (e:Dk x h=some [Cd b y n]):bl w=Cd b y n:=by
 rw [hl] at e
 simpa using e
theorem XF {x:Ax} {a b:Bool} {w0 w1 w2 w3:Word} {w:ByteArray} {h:UInt8} (hl:Dk x h=some [bl w]) (e:Dk x h=some [EW a b w0 w1 w2 w3]):bl w=EW a b w0 w1 w2 w3:=by
 rw [hl] at e
 simpa using e
theorem Tx (n:Nat):IntKind.u32.wrap (n:Int)=((n % 4294967296:Nat):Int):=by
 simp [IntKind.wrap,IntKind.bits,IntKind.signed]
theorem AaX (s:ByteArray) (n:Int):AR Tp (BA (Tm.fill ⟨1,.nil⟩ 0 [.agg ⟨[.string s,.int .u64 n]⟩])) (.buildSlice 36 1 #[(0,.tmp 0)])=some (.slice [.string s,.int .u64 n] 54 1):=by kernel_rfl
theorem Aa1 {A:AW} {q:Nat} {p:ByteArray × Nat} {P:Prop} (h:A.get q=some (.row (cR p) 54 q 0 false)) (hp:P):Bz (AR Tp (BA (Tm.fill ⟨1,.nil⟩ 0 [.agg ⟨cR p⟩])) (.buildSlice 36 1 #[(0,.tmp 0)])) A (.slice (some ⟨q,0,none⟩) 1 1) P:=by
 refine ⟨⟨_,AaX _ _,?_⟩,hp⟩
 simp only [B8,Eo,h,cR,Em,FU,IQ,Bool.and_self,Option.isNone_none,Nat.beq_refl]
section
variable {W0:World} {m0:Inj Tp}
set_option maxHeartbeats 8000000 in
theorem AbO {v:Value} {ls:List ByteArray} {F:List Nat} {A:AW} {K:Value→AW→Prop} (hrd:RdE 0 cS A v ls F) (hls:Ba ls < 10000000) (hf:AH A) (hA:A.next+2000 * Ba ls+100000 < Ap)
  (hk:∀ A' c vr G,(∀ c0,Rt c0 ls→c=c0)→c.Wf→szC c≤Ba ls→RdE 1 cR A' vr c.refs G→(∀ x∈G,A.next≤x∧x < A'.next)→Grow A A' (1200 * Ba ls+200)→K (.agg ⟨c.cells vr⟩) A'):
  Wc Tp Aw W0 m0 43 [v] A K:=by
 have hmx:Ap=1099511627776:=rfl
 have hlw:=HM ls
 have wlen:∀ {a:Nat} {w:ByteArray},ls[a]? =some w→(bl w).length+1+Ba (ls.drop (a+1))≤Ba ls:=fun {a w} h=>by
  have e:Ba (ls.drop a)=(bl w).length+1+Ba (ls.drop (a+1)):=by rw [Ch h];rfl
  have:∀ (l:List ByteArray) (k:Nat),Ba (l.drop k)≤Ba l:=by
   intro l
   induction l with
   | nil=>intro k;simp
   | cons x r ih=>
    intro k
    match k with
    | 0=>exact Nl _
    | k+1=>
     have:=ih k
     show Ba (r.drop k)≤(bl x).length+1+Ba r
     omega
  have:=this ls a
  omega
 let vb:=(ls[1]?).elim 0 fun w=>Fq (bl w)
 have hvb:vb≤21:=by
  show (ls[1]?).elim 0 (fun w=>Fq (bl w))≤21
  cases ls[1]? with
  | none=>exact Nat.zero_le _
  | some w=>exact Kl _
 have hpl:=OA vb
 let how:=(partsOf vb).2
 let I:Nat→Nat→List Value→AW→Prop:=fun g id vals A'=>
  (id=0∧2≤ls.length∧∃ (n q s0:Nat),vals=[v,pP A.next 0,pP q 0,.string (txt (partsOf (if vb < n then vb else 0)).2),.int .u8 (n:Int)]∧1≤n∧n≤22∧Go.Abs.AD A' q (({ Bc with ses:=s0,what:=if vb < n then vb else 0 }:Ax).cells vN) 38∧Go.Abs.AD A' A.next (Bc.cells vN) 38∧Grow A A' 10∧A.next < q∧s0 < 18446744073709551616∧(∀ w,ls[0]? =some w→s0=CY (bl w))∧g=1000000000 - n)∨
  (id=2∧∃ (a i q:Nat) (c:Ax) (vr:Value),vals=[v,pP A.next 0,pP q 0,.string (txt how),.int .i64 (a:Int),.int .i64 (i:Int)]∧i≤how.length∧JS A A' ls how A.next q a i c vr∧g=(how.length - i) * 100000000)∨
  (id=5∧∃ (a0 a i q:Nat) (c:Ax) (vr:Value) (l:List (ByteArray × Nat)),vals=[v,pP A.next 0,pP q 0,.string (txt how),.int .i64 (a:Int),.int .i64 (i:Int)]∧how[i]? =some 82∧a0≤a∧a≤ls.length∧HW Xc ((ls.drop a0).take (a - a0)) l∧c.refs=l∧
   (∃ c1:Ax,c1.refs=[]∧c={ c1 with refs:=l }∧JQ ls how a0 i c1)∧Go.Abs.AD A' q (c.cells vr) 38∧Go.Abs.AD A' A.next (Bc.cells vN) 38∧(∃ F,CZ 54 1 cR A' vr l F∧(∀ x∈F,A.next≤x)∧q∉F∧A.next∉F)∧Ay A A' []∧AH A'∧A.next < q∧c.Wf∧szC c+Ba (ls.drop a)≤Ba ls∧A'.next+1200 * Ba (ls.drop a)≤A.next+100+1200 * Ba ls∧g=(how.length - i) * 100000000 - 1 - a)
 have ret:∀ {B:AW} {q:Nat} {c:Ax} {vr:Value} {G:List Nat},Go.Abs.AD B q (c.cells vr) 38→Go.Abs.AD B A.next (Bc.cells vN) 38→(∀ c0,Rt c0 ls→c=c0)→c.Wf→szC c≤Ba ls→CZ 54 1 cR B vr c.refs G→(∀ x∈G,A.next≤x)→A.next∉G→Grow A B (1200 * Ba ls+200)→(Ab (At Tp B 38 (pP q 0)) fun t4=>Bb (AB Tp B 38 (pP A.next 0) t4) fun At5=>Ab (At Tp At5 38 (pP A.next 0)) fun t6=>K t6 At5):=fun {B q c vr G} r z hc hw hs ho hG hGA g=>by
  have hone:=ho.one
  have nb:=g.next
  refine Aa (BY r (DX _ hone.2) rfl (Iv _ _)) ?_
  refine storeAll (n:=12) (new:=c.cells vr) z g.Az (by omega) (GJ _ _ _) rfl rfl (CX _ hone.1) fun C l2 k2 n2 f2=>?_
  refine Aa (BY l2 (DX _ hone.2) rfl (Iv _ _)) ?_
  have ho2:=ho.keeps k2 (fun x hx hm=>hGA (by rw [← Ms.1 hm];exact hx))
  exact hk C c vr G hc hw hs (CZ.rd (fun _=>rfl) ho2) (fun x hx=>⟨hG x hx,ho2.lt x hx⟩) ((g.own k2 (fun x hx=>by rw [Ms.1 hx];exact Nl _) (m:=0) (by omega) f2).more (by omega))
 refine w43 _ _ (c43 (I:=I) ?_) ?_
 ·rintro g id vals A' d (⟨rfl,h2l,n,q,s0,rfl,hn1,hn2,r,z,gr,hq,hs0,hs1,rfl⟩ | ⟨rfl,a,i,q,c,vr,rfl,hi,s,rfl⟩ | ⟨rfl,a0,a,i,q,c,vr,l,rfl,hp0,ha0,hal,hall,hrl,hc1,r,z,⟨F1,o1,o2,o3,o4⟩,kk,ff,hq,hwf,hsz,hnx,rfl⟩) hd
  ·rw [Aau]
   simp only [L43,Mc,Mn,Li,and_true] at hd
   obtain ⟨d0,d2,d3,d4,d5⟩:=hd
   simp only [d0,d2,d3,d4,d5]
   have ng:=gr.next
   obtain ⟨w1,hw1⟩:∃ w,ls[1]? =some w:=⟨_,Ge (by omega)⟩
   have hvbw:vb=Fq (bl w1):=by
    show (ls[1]?).elim 0 (fun w=>Fq (bl w))=_
    rw [hw1];rfl
   have e2:n≤21→IntKind.u8.wrap ((n:Int)+1)=((n+1:Nat):Int):=fun h=>by simp [IntKind.wrap,IntKind.bits,IntKind.signed];omega
   refine Aa Fl (Aq.2 ⟨fun hle=>?_,fun hgt=>?_⟩)
   ·have hle:n≤21:=by omega
    obtain ⟨ad,a1,a2⟩:=ES.at Hh (hrd.keeps gr.keeps (by simp)) hw1 rfl
    refine Zj (Aa Cw (Aa Cv (Aa (v:=.pointer (some ad)) a1 (Aa a2 (Aa AX (Aj.2 ⟨fun h=>?_,fun h=>?_⟩))))))
    ·have h:(partsOf n).1=bl w1:=eq_of_beq h
     have hv:vb=n:=by rw [hvbw,← h];exact MM hn1 hle
     refine Aa (DJ _ 0) (Go.Abs.AD.store (n:=1) (off:=0) (v:=.int .u8 (n:Int)) r gr.Az (by omega) (Gk _ _ _) rfl (show 0+1≤12 by decide) rfl fun A2 l2 k2 n2 f2=>?_)
     refine Aa Av ?_
     rw [e2 hle]
     have ew:(if vb < n+1 then vb else 0)=n:=by rw [if_pos (by omega),hv]
     refine Ah.2 ⟨1000000000 - (n+1),by omega,.inl ⟨rfl,h2l,n+1,q,s0,by rw [ew],by omega,by omega,?_,z.keeps k2 (by simp;omega),(gr.own k2 (fun x hx=>by rw [Ms.1 hx];omega) (m:=0) (by omega) f2),hq,hs0,hs1,rfl⟩⟩
     rw [ew];exact l2
    ·have h:((partsOf n).1==bl w1)=false:=h
     have hv:vb≠n:=fun e=>by
      have hz:Fq (bl w1)≠0:=by omega
      have:=TG hz
      rw [← hvbw,e] at this
      rw [this] at h;simp at h
     refine Aa Av ?_
     rw [e2 hle]
     have ew:(if vb < n+1 then vb else 0)=(if vb < n then vb else 0):=by
      by_cases hh:vb < n
      ·rw [if_pos hh,if_pos (by omega)]
      ·rw [Ff hh,Ff (by omega)]
     refine Ah.2 ⟨1000000000 - (n+1),by omega,.inl ⟨rfl,h2l,n+1,q,s0,by rw [ew],by omega,by omega,?_,z,gr,hq,hs0,hs1,rfl⟩⟩
     rw [ew];exact r
   ·have hn22:n=22:=by omega
    subst hn22
    rw [if_pos (by omega)] at r ⊢
    have hdr2:Ba (ls.drop 2)≤Ba ls:=by
     have:=wlen (a:=1) hw1
     simp only [Nat.reduceAdd] at this
     omega
    refine Ah.2 ⟨(how.length - 0) * 100000000,by show ((partsOf vb).2.length - 0) * 100000000 < _;omega,.inr (.inl ⟨rfl,2,0,q,_,vN,rfl,Nat.zero_le _,⟨r,z,⟨[],.nil _,by simp,by simp,by simp⟩,gr.keeps,gr.Az,by omega,Nl _,by omega,⟨by show vb < 256;omega,hs0,show DY.f < _ by decide,by show (0:Nat) < _;omega,fun r hr=>by cases hr⟩,by show 0+_≤_;omega,by omega,?_,fun _=>rfl⟩,rfl⟩)⟩
    intro c0 hg
    obtain ⟨g1,g2,g3,g4⟩:=hg
    have hw0:w1=txt (partsOf c0.what).1:=by
     rw [g4] at hw1
     have:((Bv c0).map txt)[1]? =some (txt (partsOf c0.what).1):=rfl
     rw [this] at hw1
     exact (Option.some.inj hw1).symm
    obtain ⟨q1,q2⟩:=M6 g3
    have hvc:vb=c0.what:=by rw [hvbw,hw0];exact MM q1 q2
    have hs:s0=c0.ses:=by
     rw [hs1 (txt (Lib.decDigits c0.ses)) (by rw [g4];rfl),Cp,Ey _ g1.ses]
    have eh:how=(partsOf c0.what).2:=by show (partsOf vb).2=_;rw [hvc]
    refine ⟨eh,⟨JK c0,zC c0,?_,?_⟩,?_⟩
    ·rw [eh];exact g2
    ·exact ⟨hvc,hs,fun h=>h.symm,fun h=>h.symm,fun h=>h.symm,fun h=>h.symm,fun h=>h.symm,fun h=>h.symm,fun h=>h.symm,fun h=>h.symm⟩
    ·rw [eh,g4];rfl
  ·rw [Aat]
   simp only [L43,Mc,Mn,Li,and_true] at hd
   obtain ⟨d0,d2,d3,d4,d8,d9⟩:=hd
   simp only [d0,d2,d3,d4,d8,d9]
   have hnx:=s.nx
   have hsz:=s.sz
   have hpl:how.length≤3:=hpl
   have fin:(how.length≤i∨ls.length≤a)→(Ab (At Tp A' 38 (pP q 0)) fun t4=>Bb (AB Tp A' 38 (pP A.next 0) t4) fun At5=>Ab (At Tp At5 38 (pP A.next 0)) fun t6=>K t6 At5):=fun he=>by
    obtain ⟨F1,o1,o2,o3,o4⟩:=s.own
    exact ret s.l s.zr (s.j.done he s.r82) s.wf (by omega) o1 o2 o4 ⟨s.k,s.f,by omega⟩
   refine Aa (Ef _ _) (Aa Be (Aq.2 ⟨fun hlt=>?_,fun hge=>fin (.inl ?_)⟩))
   ·have hlt:i < how.length:=by have:(i:Int) < (how.length:Int):=hlt;omega
    refine Aa (Hh.Gr hrd) (Aa Be (Aq.2 ⟨fun hla=>?_,fun hga=>fin (.inr (by omega))⟩))
    have hla:a < ls.length:=by omega
    obtain ⟨w,hw⟩:∃ w,ls[a]? =some w:=⟨_,Ge hla⟩
    obtain ⟨h,hp0,hmem⟩:=Z9 hlt
    have hwl:=wlen hw
    have edr:Ba (ls.drop a)=(bl w).length+1+Ba (ls.drop (a+1)):=by rw [Ch hw];rfl
    have ea:IntKind.i64.wrap ((a:Int)+1)=((a+1:Nat):Int):=wrap_i64 (by omega) (by omega)
    have e2:IntKind.i64.wrap ((i:Int)+1)=((i+1:Nat):Int):=wrap_i64 (by omega) (by omega)
    obtain ⟨ad,a1,a2⟩:=ES.at Hh (hrd.keeps s.k (by simp)) hw rfl
    have nxt:∀ {A2:AW} {c':Ax} {vr':Value},JS A A2 ls how A.next q (a+1) (i+1) c' vr'→∃ g2,g2 < (how.length - i) * 100000000∧I g2 2 [v,pP A.next 0,pP q 0,.string (txt how),.int .i64 ((a+1:Nat):Int),.int .i64 ((i+1:Nat):Int)] A2:=fun {A2 c' vr'} s2=>
     ⟨(how.length - (i+1)) * 100000000,by omega,.inr (.inl ⟨rfl,a+1,i+1,q,c',vr',rfl,by omega,s2,rfl⟩)⟩
    refine Aa (v:=.pointer (some ad)) a1 (Aa a2 (Aa Av ?_))
    rw [ea]
    refine Aa (ix9 (s:=txt how) hp0) ?_
    refine Aa Ai (Af.2 ⟨fun hc=>?_,fun hc81=>?_⟩)
    ·obtain rfl:h=81:=Cq (k:=81) (by decide) hc
     obtain ⟨u,e,hu⟩:=Jg (bl w)
     have htw:=HY hu
     refine P8 (s:=w) (u:=u) (e:=e) hu (by show (bl w).length < _;omega) s.f (by show _+200+20 * (bl w).length < _;omega) fun A1 g1=>?_
     have g1:Grow A' A1 (30+12 * (bl w).length):=g1
     have n1:=g1.next
     refine Aa Cw (Aa Cv (Aa (Cy _ 0) (Go.Abs.AD.store (n:=1) (off:=2) (v:=.string ⟨⟨u⟩⟩) (s.l.keeps g1.keeps (by simp)) g1.Az (by omega) (GI _ _ _) rfl (show 2+1≤12 by decide) rfl fun A2 l2 k2 n2 f2=>?_)))
     have hul:=htw.1
     have hq0:∀ c0:Ax,Dk c0 81=some [bl w]→txt u=c0.queue:=fun c0 hl=>by
      have hl:some [AV (bl c0.queue)]=some [bl w]:=hl
      simp only [Oi,Li,and_true] at hl
      rw [(htw.2 _ hl.symm).1];exact E3 _
     have hz:szC { c with queue:=txt u }≤szC c+(bl w).length:=by simp only [szC,Cp];omega
     simp only [FW,FV,GO,Ex,kW,Av,Ad,e2]
     exact Ah.2 (nxt (s.set (c':={ c with queue:=txt u }) (h:=81) hp0 (by decide) hw g1 (by omega) l2 k2 n2 f2 (fun c0 left _ hl m=>⟨m.what,m.ses,fun _=>(by rw [hq0 c0 hl]),m.tag,m.x,m.n,m.a,m.b,m.refs,m.body⟩) rfl ⟨s.wf.what,s.wf.ses,s.wf.x,s.wf.n,s.wf.refs⟩ hz))
    refine Aa Ai (Af.2 ⟨fun hc=>?_,fun hc84=>?_⟩)
    ·obtain rfl:h=84:=Cq (k:=84) (by decide) hc
     obtain ⟨u,e,hu⟩:=Jg (bl w)
     have htw:=HY hu
     refine P8 (s:=w) (u:=u) (e:=e) hu (by show (bl w).length < _;omega) s.f (by show _+200+20 * (bl w).length < _;omega) fun A1 g1=>?_
     have g1:Grow A' A1 (30+12 * (bl w).length):=g1
     have n1:=g1.next
     refine Aa Cw (Aa Cv (Aa (CG _ 0) (Go.Abs.AD.store (n:=1) (off:=3) (v:=.string ⟨⟨u⟩⟩) (s.l.keeps g1.keeps (by simp)) g1.Az (by omega) (GI _ _ _) rfl (show 3+1≤12 by decide) rfl fun A2 l2 k2 n2 f2=>?_)))
     have hul:=htw.1
     have hq0:∀ c0:Ax,Dk c0 84=some [bl w]→txt u=c0.tag:=fun c0 hl=>by
      have hl:some [AV (bl c0.tag)]=some [bl w]:=hl
      simp only [Oi,Li,and_true] at hl
      rw [(htw.2 _ hl.symm).1];exact E3 _
     have hz:szC { c with tag:=txt u }≤szC c+(bl w).length:=by simp only [szC,Cp];omega
     simp only [FW,FV,GO,Ex,kW,Av,Ad,e2]
     exact Ah.2 (nxt (s.set (c':={ c with tag:=txt u }) (h:=84) hp0 (by decide) hw g1 (by omega) l2 k2 n2 f2 (fun c0 left _ hl m=>⟨m.what,m.ses,m.queue,fun _=>(by rw [hq0 c0 hl]),m.x,m.n,m.a,m.b,m.refs,m.body⟩) rfl ⟨s.wf.what,s.wf.ses,s.wf.x,s.wf.n,s.wf.refs⟩ hz))
    refine Aa Ai (Af.2 ⟨fun hc=>?_,fun hc66=>?_⟩)
    ·obtain rfl:h=66:=Cq (k:=66) (by decide) hc
     obtain ⟨u,e,hu⟩:=Jg (bl w)
     have htw:=HY hu
     refine P8 (s:=w) (u:=u) (e:=e) hu (by show (bl w).length < _;omega) s.f (by show _+200+20 * (bl w).length < _;omega) fun A1 g1=>?_
     have g1:Grow A' A1 (30+12 * (bl w).length):=g1
     have n1:=g1.next
     refine Aa Cw (Aa Cv (Aa (Ei _ 0) (Go.Abs.AD.store (n:=1) (off:=11) (v:=.string ⟨⟨u⟩⟩) (s.l.keeps g1.keeps (by simp)) g1.Az (by omega) (GI _ _ _) rfl (show 11+1≤12 by decide) rfl fun A2 l2 k2 n2 f2=>?_)))
     have hul:=htw.1
     have hq0:∀ c0:Ax,Dk c0 66=some [bl w]→txt u=c0.body:=fun c0 hl=>by
      have hl:some [AV (bl c0.body)]=some [bl w]:=hl
      simp only [Oi,Li,and_true] at hl
      rw [(htw.2 _ hl.symm).1];exact E3 _
     have hz:szC { c with body:=txt u }≤szC c+(bl w).length:=by simp only [szC,Cp];omega
     simp only [FW,FV,GO,Ex,kW,Av,Ad,e2]
     exact Ah.2 (nxt (s.set (c':={ c with body:=txt u }) (h:=66) hp0 (by decide) hw g1 (by omega) l2 k2 n2 f2 (fun c0 left _ hl m=>⟨m.what,m.ses,m.queue,m.tag,m.x,m.n,m.a,m.b,m.refs,fun _=>(by rw [hq0 c0 hl])⟩) rfl ⟨s.wf.what,s.wf.ses,s.wf.x,s.wf.n,s.wf.refs⟩ hz))
    refine Aa Ai (Af.2 ⟨fun hc=>?_,fun hc78=>?_⟩)
    ·obtain rfl:h=78:=Cq (k:=78) (by decide) hc
     refine Pc (s:=w) (by omega) (Co (HR _ _ _) ?_)
     rw [Tx]
     refine Aa (C4 _ 0) (Go.Abs.AD.store (n:=1) (off:=7) (v:=.int .u32 ((CY (bl w) % 4294967296:Nat):Int)) s.l s.f (by omega) (Ql _ _ _) rfl (show 7+1≤12 by decide) rfl fun A2 l2 k2 n2 f2=>?_)
     have hz:szC { c with n:=CY (bl w) % 4294967296 }≤szC c+(bl w).length:=by simp only [szC];omega
     simp only [FW,FV,GO,Ex,kW,Av,Ad,e2]
     refine Ah.2 (nxt (s.set (c':={ c with n:=CY (bl w) % 4294967296 }) (h:=78) hp0 (by decide) hw (Grow.refl s.f) (by omega) l2 k2 n2 f2 (fun c0 left hc0 hl m=>⟨m.what,m.ses,m.queue,m.tag,m.x,fun _=>?_,m.a,m.b,m.refs,m.body⟩) rfl ⟨s.wf.what,s.wf.ses,s.wf.x,Nat.mod_lt _ (by decide),s.wf.refs⟩ hz))
     have hl:some [Lib.decDigits c0.n]=some [bl w]:=hl
     simp only [Oi,Li,and_true] at hl
     have:=hc0.n
     show CY (bl w) % 4294967296=c0.n
     rw [← hl,Ey _ (by omega)];omega
    refine Aa Ai (Af.2 ⟨fun hc=>?_,fun hc88=>?_⟩)
    ·obtain rfl:h=88:=Cq (k:=88) (by decide) hc
     refine Zt (s:=w) (by omega) s.f (by omega) fun A1 x e hx g1=>?_
     have n1:=g1.next
     refine Aa Cw (Aa Cv (Aa (DD _ 0) (Go.Abs.AD.store (n:=3) (off:=4) (v:=.agg ⟨x.cells⟩) (s.l.keeps g1.keeps (by simp)) g1.Az (by omega) (FR _ _ _) rfl (show 4+3≤12 by decide) rfl fun A2 l2 k2 n2 f2=>?_)))
     have hz:szC { c with x:=x }≤szC c+(bl w).length:=by simp only [szC];omega
     simp only [FW,FV,GO,Ex,kW,Av,Ad,e2]
     refine Ah.2 (nxt (s.set (c':={ c with x:=x }) (h:=88) hp0 (by decide) hw g1 (by omega) l2 k2 n2 f2 (fun c0 left hc0 hl m=>⟨m.what,m.ses,m.queue,m.tag,fun _=>?_,m.n,m.a,m.b,m.refs,m.body⟩) rfl ⟨s.wf.what,s.wf.ses,hx.1,s.wf.n,s.wf.refs⟩ hz))
     have hl:(if okX c0.x=true then some [Cs c0.x] else none)=some [bl w]:=hl
     split at hl
     ·rename_i hok
      simp only [Oi,Li,and_true] at hl
      exact hx.2 c0.x hc0.x hok hl.symm
     ·cases hl
    refine Aa Ai (Af.2 ⟨fun hc=>?_,fun hc101=>?_⟩)
    ·obtain rfl:h=101:=Cq (k:=101) (by decide) hc
     have hz:∀ b:Bool,szC { c with a:=b }≤szC c+(bl w).length:=fun b=>by simp only [szC];omega
     have put:∀ (b:Bool),(∀ c0:Ax,Dk c0 101=some [bl w]→b=c0.a)→(Ab (Ac Tp 38 (pP q 0) 6) fun t44=>Bb (AB Tp A' 4 t44 (.bool b)) fun At45=>Ab (Ag Tp .add 3 (.tmp 47) (.const (.int .i64 1)) (.int .i64 (i:Int)) (.int .i64 1)) fun t46=>AZ (T43 2) (T43 2) (∃ g2,g2 < (how.length - i) * 100000000∧I g2 2 [v,pP A.next 0,pP q 0,.string (txt how),.int .i64 ((a+1:Nat):Int),t46] At45)):=fun b hb=>by
      refine Aa (BF _ 0) (Go.Abs.AD.store (n:=1) (off:=8) (v:=.bool b) s.l s.f (by omega) (EL _ _ _) rfl (show 8+1≤12 by decide) rfl fun A2 l2 k2 n2 f2=>?_)
      simp only [Av,Ad,e2]
      exact Ah.2 (nxt (s.set (c':={ c with a:=b }) (h:=101) hp0 (by decide) hw (Grow.refl s.f) (by omega) l2 k2 n2 f2 (fun c0 left _ hl m=>⟨m.what,m.ses,m.queue,m.tag,m.x,m.n,fun _=>hb c0 hl,m.b,m.refs,m.body⟩) rfl ⟨s.wf.what,s.wf.ses,s.wf.x,s.wf.n,s.wf.refs⟩ (hz b)))
     refine Aa AX (Aj.2 ⟨fun h1=>put true fun c0 hl=>?_,fun h1=>Aa AX (Aj.2 ⟨fun h2=>put true fun c0 hl=>?_,fun h2=>Aa AX (put _ fun c0 hl=>?_)⟩)⟩)
     ·have h1:(bl w==Dg)=true:=h1
      have hl:=KE hl (show Dk c0 101=some [Cd c0.a Dg Qa] from rfl)
      rw [hl] at h1;revert h1;cases c0.a <;> decide
     ·have h1:(bl w==Dg)=false:=h1
      have h2:(bl w==Et)=true:=h2
      have hl:=KE hl (show Dk c0 101=some [Cd c0.a Dg Qa] from rfl)
      rw [hl] at h1 h2;revert h1 h2;cases c0.a <;> decide
     ·have h1:(bl w==Dg)=false:=h1
      have h2:(bl w==Et)=false:=h2
      show (bl w==IJ)=c0.a
      have hl:=KE hl (show Dk c0 101=some [Cd c0.a Dg Qa] from rfl)
      rw [hl] at h1 h2 ⊢;revert h1 h2;cases c0.a <;> decide
    refine Aa Ai (Af.2 ⟨fun hc=>?_,fun hc109=>?_⟩)
    ·obtain rfl:h=109:=Cq (k:=109) (by decide) hc
     have hz:∀ b:Bool,szC { c with a:=b }≤szC c+(bl w).length:=fun b=>by simp only [szC];omega
     have put:∀ (b:Bool),(∀ c0:Ax,Dk c0 109=some [bl w]→b=c0.a)→(Ab (Ac Tp 38 (pP q 0) 6) fun t44=>Bb (AB Tp A' 4 t44 (.bool b)) fun At45=>Ab (Ag Tp .add 3 (.tmp 47) (.const (.int .i64 1)) (.int .i64 (i:Int)) (.int .i64 1)) fun t46=>AZ (T43 2) (T43 2) (∃ g2,g2 < (how.length - i) * 100000000∧I g2 2 [v,pP A.next 0,pP q 0,.string (txt how),.int .i64 ((a+1:Nat):Int),t46] At45)):=fun b hb=>by
      refine Aa (BF _ 0) (Go.Abs.AD.store (n:=1) (off:=8) (v:=.bool b) s.l s.f (by omega) (EL _ _ _) rfl (show 8+1≤12 by decide) rfl fun A2 l2 k2 n2 f2=>?_)
      simp only [Av,Ad,e2]
      exact Ah.2 (nxt (s.set (c':={ c with a:=b }) (h:=109) hp0 (by decide) hw (Grow.refl s.f) (by omega) l2 k2 n2 f2 (fun c0 left _ hl m=>⟨m.what,m.ses,m.queue,m.tag,m.x,m.n,fun _=>hb c0 hl,m.b,m.refs,m.body⟩) rfl ⟨s.wf.what,s.wf.ses,s.wf.x,s.wf.n,s.wf.refs⟩ (hz b)))
     refine Aa AX (Aj.2 ⟨fun h1=>put true fun c0 hl=>?_,fun h1=>Aa AX (Aj.2 ⟨fun h2=>put true fun c0 hl=>?_,fun h2=>Aa AX (put _ fun c0 hl=>?_)⟩)⟩)
     ·have h1:(bl w==Dg)=true:=h1
      have hl:=KE hl (show Dk c0 109=some [Cd c0.a Et LJ] from rfl)
      rw [hl] at h1;revert h1;cases c0.a <;> decide
     ·have h1:(bl w==Dg)=false:=h1
      have h2:(bl w==Et)=true:=h2
      have hl:=KE hl (show Dk c0 109=some [Cd c0.a Et LJ] from rfl)
      rw [hl] at h1 h2;revert h1 h2;cases c0.a <;> decide
     ·have h1:(bl w==Dg)=false:=h1
      have h2:(bl w==Et)=false:=h2
      show (bl w==IJ)=c0.a
      have hl:=KE hl (show Dk c0 109=some [Cd c0.a Et LJ] from rfl)
      rw [hl] at h1 h2 ⊢;revert h1 h2;cases c0.a <;> decide
    refine Aa Ai (Af.2 ⟨fun hc=>?_,fun hc100=>?_⟩)
    ·obtain rfl:h=100:=Cq (k:=100) (by decide) hc
     have hz:∀ b:Bool,szC { c with a:=b }≤szC c+(bl w).length:=fun b=>by simp only [szC];omega
     have put:∀ (b:Bool),(∀ c0:Ax,Dk c0 100=some [bl w]→b=c0.a)→(Ab (Ac Tp 38 (pP q 0) 6) fun t44=>Bb (AB Tp A' 4 t44 (.bool b)) fun At45=>Ab (Ag Tp .add 3 (.tmp 47) (.const (.int .i64 1)) (.int .i64 (i:Int)) (.int .i64 1)) fun t46=>AZ (T43 2) (T43 2) (∃ g2,g2 < (how.length - i) * 100000000∧I g2 2 [v,pP A.next 0,pP q 0,.string (txt how),.int .i64 ((a+1:Nat):Int),t46] At45)):=fun b hb=>by
      refine Aa (BF _ 0) (Go.Abs.AD.store (n:=1) (off:=8) (v:=.bool b) s.l s.f (by omega) (EL _ _ _) rfl (show 8+1≤12 by decide) rfl fun A2 l2 k2 n2 f2=>?_)
      simp only [Av,Ad,e2]
      exact Ah.2 (nxt (s.set (c':={ c with a:=b }) (h:=100) hp0 (by decide) hw (Grow.refl s.f) (by omega) l2 k2 n2 f2 (fun c0 left _ hl m=>⟨m.what,m.ses,m.queue,m.tag,m.x,m.n,fun _=>hb c0 hl,m.b,m.refs,m.body⟩) rfl ⟨s.wf.what,s.wf.ses,s.wf.x,s.wf.n,s.wf.refs⟩ (hz b)))
     refine Aa AX (Aj.2 ⟨fun h1=>put true fun c0 hl=>?_,fun h1=>Aa AX (Aj.2 ⟨fun h2=>put true fun c0 hl=>?_,fun h2=>Aa AX (put _ fun c0 hl=>?_)⟩)⟩)
     ·have h1:(bl w==Dg)=true:=h1
      have hl:=KE hl (show Dk c0 100=some [Cd c0.a IJ II] from rfl)
      rw [hl] at h1;revert h1;cases c0.a <;> decide
     ·have h1:(bl w==Dg)=false:=h1
      have h2:(bl w==Et)=true:=h2
      have hl:=KE hl (show Dk c0 100=some [Cd c0.a IJ II] from rfl)
      rw [hl] at h1 h2;revert h1 h2;cases c0.a <;> decide
     ·have h1:(bl w==Dg)=false:=h1
      have h2:(bl w==Et)=false:=h2
      show (bl w==IJ)=c0.a
      have hl:=KE hl (show Dk c0 100=some [Cd c0.a IJ II] from rfl)
      rw [hl] at h1 h2 ⊢;revert h1 h2;cases c0.a <;> decide
    refine Aa Ai (Af.2 ⟨fun hc=>?_,fun hc115=>?_⟩)
    ·obtain rfl:h=115:=Cq (k:=115) (by decide) hc
     have hz:∀ x y:Bool,szC { c with a:=x,b:=y }≤szC c+(bl w).length:=fun x y=>by simp only [szC];omega
     have put:∀ {A1:AW} (x y:Bool),Go.Abs.AD A1 q (({ c with a:=x }:Ax).cells vr) 38→Ay A' A1 [q]→A1.next=A'.next→AH A1→(∀ c0:Ax,Dk c0 115=some [bl w]→x=c0.a∧y=c0.b)→(Ab (Ac Tp 38 (pP q 0) 7) fun t44=>Bb (AB Tp A1 4 t44 (.bool y)) fun At45=>Ab (Ag Tp .add 3 (.tmp 47) (.const (.int .i64 1)) (.int .i64 (i:Int)) (.int .i64 1)) fun t46=>AZ (T43 2) (T43 2) (∃ g2,g2 < (how.length - i) * 100000000∧I g2 2 [v,pP A.next 0,pP q 0,.string (txt how),.int .i64 ((a+1:Nat):Int),t46] At45)):=fun {A1} x y l1 k1 n1 f1 hb=>by
      refine Aa (Db _ 0) (Go.Abs.AD.store (n:=1) (off:=9) (v:=.bool y) l1 f1 (by omega) (EL _ _ _) rfl (show 9+1≤12 by decide) rfl fun A2 l2 k2 n2 f2=>?_)
      simp only [Av,Ad,e2]
      exact Ah.2 (nxt (s.set (c':={ c with a:=x,b:=y }) (h:=115) hp0 (by decide) hw (Grow.refl s.f) (by omega) l2 (k1.trans k2 fun x hx=>.inl hx) (by omega) f2 (fun c0 left _ hl m=>⟨m.what,m.ses,m.queue,m.tag,m.x,m.n,fun _=>(hb c0 hl).1,fun _=>(hb c0 hl).2,m.refs,m.body⟩) rfl ⟨s.wf.what,s.wf.ses,s.wf.x,s.wf.n,s.wf.refs⟩ (hz x y)))
     have second:∀ {A1:AW} (x:Bool),Go.Abs.AD A1 q (({ c with a:=x }:Ax).cells vr) 38→Ay A' A1 [q]→A1.next=A'.next→AH A1→x=((bl w==E2) || ((bl w==FP) || (bl w==Dl)))→(Ab (Ag Tp .eql 9 (.tmp 125) (.const (.string ⟨⟨[114,101,115,117,109,101]⟩⟩)) (.string w) (.string ⟨⟨[114,101,115,117,109,101]⟩⟩)) fun t85=>Ae t85 (Ab (Ac Tp 38 (pP q 0) 7) fun t86=>Bb (AB Tp A1 4 t86 (.bool true)) fun At87=>Ab (Ag Tp .add 3 (.tmp 47) (.const (.int .i64 1)) (.int .i64 (i:Int)) (.int .i64 1)) fun t88=>AZ (T43 2) (T43 2) (∃ g2,g2 < (how.length - i) * 100000000∧I g2 2 [v,(pP A.next 0),(pP q 0),(.string (txt how)),(.int .i64 ((a+1:Nat):Int)),t88] At87)) (Ab (Ag Tp .eql 9 (.tmp 128) (.const (.string ⟨⟨[115,117,115,112,101,110,100]⟩⟩)) (.string w) (.string ⟨⟨[115,117,115,112,101,110,100]⟩⟩)) fun t89=>Ae t89 (Ab (Ac Tp 38 (pP q 0) 7) fun t90=>Bb (AB Tp A1 4 t90 (.bool true)) fun At91=>Ab (Ag Tp .add 3 (.tmp 47) (.const (.int .i64 1)) (.int .i64 (i:Int)) (.int .i64 1)) fun t92=>AZ (T43 2) (T43 2) (∃ g2,g2 < (how.length - i) * 100000000∧I g2 2 [v,(pP A.next 0),(pP q 0),(.string (txt how)),(.int .i64 ((a+1:Nat):Int)),t92] At91)) (Ab (Ag Tp .eql 9 (.tmp 132) (.const (.string ⟨⟨[98,111,116,104]⟩⟩)) (.string w) (.string ⟨⟨[98,111,116,104]⟩⟩)) fun t93=>Ab (Ac Tp 38 (pP q 0) 7) fun t94=>Bb (AB Tp A1 4 t94 t93) fun At95=>Ab (Ag Tp .add 3 (.tmp 47) (.const (.int .i64 1)) (.int .i64 (i:Int)) (.int .i64 1)) fun t96=>AZ (T43 2) (T43 2) (∃ g2,g2 < (how.length - i) * 100000000∧I g2 2 [v,(pP A.next 0),(pP q 0),(.string (txt how)),(.int .i64 ((a+1:Nat):Int)),t96] At95)))):=fun {A1} x l1 k1 n1 f1 hx=>by
      have key:∀ (y:Bool),y=((bl w==C9) || ((bl w==CV) || (bl w==Dl)))→∀ c0:Ax,Dk c0 115=some [bl w]→x=c0.a∧y=c0.b:=fun y hy c0 hl=>by
       have hl:=XF hl (show Dk c0 115=some [EW c0.a c0.b MJ E2 C9 Dl] from rfl)
       rw [hx,hy,hl];cases c0.a <;> cases c0.b <;> decide
      refine Aa AX (Aj.2 ⟨fun h1=>put x true l1 k1 n1 f1 (key _ ?_),fun h1=>Aa AX (Aj.2 ⟨fun h2=>put x true l1 k1 n1 f1 (key _ ?_),fun h2=>Aa AX (put x _ l1 k1 n1 f1 (key _ ?_))⟩)⟩)
      ·have h1:(bl w==C9)=true:=h1
       rw [h1];rfl
      ·have h1:(bl w==C9)=false:=h1
       have h2:(bl w==CV)=true:=h2
       rw [h1,h2];rfl
      ·have h1:(bl w==C9)=false:=h1
       have h2:(bl w==CV)=false:=h2
       rw [h1,h2];rfl
     refine Aa AX (Aj.2 ⟨fun h1=>Aa (BF _ 0) (Go.Abs.AD.store (n:=1) (off:=8) (v:=.bool true) s.l s.f (by omega) (EL _ _ _) rfl (show 8+1≤12 by decide) rfl fun A1 l1 k1 n1 f1=>second true l1 k1 n1 f1 ?_),fun h1=>Aa AX (Aj.2 ⟨fun h2=>Aa (BF _ 0) (Go.Abs.AD.store (n:=1) (off:=8) (v:=.bool true) s.l s.f (by omega) (EL _ _ _) rfl (show 8+1≤12 by decide) rfl fun A1 l1 k1 n1 f1=>second true l1 k1 n1 f1 ?_),fun h2=>Aa AX (Aa (BF _ 0) (Go.Abs.AD.store (n:=1) (off:=8) (v:=.bool (bl w==Dl)) s.l s.f (by omega) (EL _ _ _) rfl (show 8+1≤12 by decide) rfl fun A1 l1 k1 n1 f1=>second (bl w==Dl) l1 k1 n1 f1 ?_))⟩)⟩)
     ·have h1:(bl w==E2)=true:=h1
      rw [h1];rfl
     ·have h1:(bl w==E2)=false:=h1
      have h2:(bl w==FP)=true:=h2
      rw [h1,h2];rfl
     ·have h1:(bl w==E2)=false:=h1
      have h2:(bl w==FP)=false:=h2
      rw [h1,h2];rfl
    refine Aa Ai (Af.2 ⟨fun hc=>?_,fun hc102=>?_⟩)
    ·obtain rfl:h=102:=Cq (k:=102) (by decide) hc
     have hz:∀ x y:Bool,szC { c with a:=x,b:=y }≤szC c+(bl w).length:=fun x y=>by simp only [szC];omega
     have put:∀ {A1:AW} (x y:Bool),Go.Abs.AD A1 q (({ c with a:=x }:Ax).cells vr) 38→Ay A' A1 [q]→A1.next=A'.next→AH A1→(∀ c0:Ax,Dk c0 102=some [bl w]→x=c0.a∧y=c0.b)→(Ab (Ac Tp 38 (pP q 0) 7) fun t44=>Bb (AB Tp A1 4 t44 (.bool y)) fun At45=>Ab (Ag Tp .add 3 (.tmp 47) (.const (.int .i64 1)) (.int .i64 (i:Int)) (.int .i64 1)) fun t46=>AZ (T43 2) (T43 2) (∃ g2,g2 < (how.length - i) * 100000000∧I g2 2 [v,pP A.next 0,pP q 0,.string (txt how),.int .i64 ((a+1:Nat):Int),t46] At45)):=fun {A1} x y l1 k1 n1 f1 hb=>by
      refine Aa (Db _ 0) (Go.Abs.AD.store (n:=1) (off:=9) (v:=.bool y) l1 f1 (by omega) (EL _ _ _) rfl (show 9+1≤12 by decide) rfl fun A2 l2 k2 n2 f2=>?_)
      simp only [Av,Ad,e2]
      exact Ah.2 (nxt (s.set (c':={ c with a:=x,b:=y }) (h:=102) hp0 (by decide) hw (Grow.refl s.f) (by omega) l2 (k1.trans k2 fun x hx=>.inl hx) (by omega) f2 (fun c0 left _ hl m=>⟨m.what,m.ses,m.queue,m.tag,m.x,m.n,fun _=>(hb c0 hl).1,fun _=>(hb c0 hl).2,m.refs,m.body⟩) rfl ⟨s.wf.what,s.wf.ses,s.wf.x,s.wf.n,s.wf.refs⟩ (hz x y)))
     have second:∀ {A1:AW} (x:Bool),Go.Abs.AD A1 q (({ c with a:=x }:Ax).cells vr) 38→Ay A' A1 [q]→A1.next=A'.next→AH A1→x=((bl w==E2) || ((bl w==FP) || (bl w==Dl)))→(Ab (Ag Tp .eql 9 (.tmp 125) (.const (.string ⟨⟨[114,101,115,117,109,101]⟩⟩)) (.string w) (.string ⟨⟨[114,101,115,117,109,101]⟩⟩)) fun t85=>Ae t85 (Ab (Ac Tp 38 (pP q 0) 7) fun t86=>Bb (AB Tp A1 4 t86 (.bool true)) fun At87=>Ab (Ag Tp .add 3 (.tmp 47) (.const (.int .i64 1)) (.int .i64 (i:Int)) (.int .i64 1)) fun t88=>AZ (T43 2) (T43 2) (∃ g2,g2 < (how.length - i) * 100000000∧I g2 2 [v,(pP A.next 0),(pP q 0),(.string (txt how)),(.int .i64 ((a+1:Nat):Int)),t88] At87)) (Ab (Ag Tp .eql 9 (.tmp 128) (.const (.string ⟨⟨[115,117,115,112,101,110,100]⟩⟩)) (.string w) (.string ⟨⟨[115,117,115,112,101,110,100]⟩⟩)) fun t89=>Ae t89 (Ab (Ac Tp 38 (pP q 0) 7) fun t90=>Bb (AB Tp A1 4 t90 (.bool true)) fun At91=>Ab (Ag Tp .add 3 (.tmp 47) (.const (.int .i64 1)) (.int .i64 (i:Int)) (.int .i64 1)) fun t92=>AZ (T43 2) (T43 2) (∃ g2,g2 < (how.length - i) * 100000000∧I g2 2 [v,(pP A.next 0),(pP q 0),(.string (txt how)),(.int .i64 ((a+1:Nat):Int)),t92] At91)) (Ab (Ag Tp .eql 9 (.tmp 132) (.const (.string ⟨⟨[98,111,116,104]⟩⟩)) (.string w) (.string ⟨⟨[98,111,116,104]⟩⟩)) fun t93=>Ab (Ac Tp 38 (pP q 0) 7) fun t94=>Bb (AB Tp A1 4 t94 t93) fun At95=>Ab (Ag Tp .add 3 (.tmp 47) (.const (.int .i64 1)) (.int .i64 (i:Int)) (.int .i64 1)) fun t96=>AZ (T43 2) (T43 2) (∃ g2,g2 < (how.length - i) * 100000000∧I g2 2 [v,(pP A.next 0),(pP q 0),(.string (txt how)),(.int .i64 ((a+1:Nat):Int)),t96] At95)))):=fun {A1} x l1 k1 n1 f1 hx=>by
      have key:∀ (y:Bool),y=((bl w==C9) || ((bl w==CV) || (bl w==Dl)))→∀ c0:Ax,Dk c0 102=some [bl w]→x=c0.a∧y=c0.b:=fun y hy c0 hl=>by
       have hl:=XF hl (show Dk c0 102=some [EW c0.a c0.b IK FP CV Dl] from rfl)
       rw [hx,hy,hl];cases c0.a <;> cases c0.b <;> decide
      refine Aa AX (Aj.2 ⟨fun h1=>put x true l1 k1 n1 f1 (key _ ?_),fun h1=>Aa AX (Aj.2 ⟨fun h2=>put x true l1 k1 n1 f1 (key _ ?_),fun h2=>Aa AX (put x _ l1 k1 n1 f1 (key _ ?_))⟩)⟩)
      ·have h1:(bl w==C9)=true:=h1
       rw [h1];rfl
      ·have h1:(bl w==C9)=false:=h1
       have h2:(bl w==CV)=true:=h2
       rw [h1,h2];rfl
      ·have h1:(bl w==C9)=false:=h1
       have h2:(bl w==CV)=false:=h2
       rw [h1,h2];rfl
     refine Aa AX (Aj.2 ⟨fun h1=>Aa (BF _ 0) (Go.Abs.AD.store (n:=1) (off:=8) (v:=.bool true) s.l s.f (by omega) (EL _ _ _) rfl (show 8+1≤12 by decide) rfl fun A1 l1 k1 n1 f1=>second true l1 k1 n1 f1 ?_),fun h1=>Aa AX (Aj.2 ⟨fun h2=>Aa (BF _ 0) (Go.Abs.AD.store (n:=1) (off:=8) (v:=.bool true) s.l s.f (by omega) (EL _ _ _) rfl (show 8+1≤12 by decide) rfl fun A1 l1 k1 n1 f1=>second true l1 k1 n1 f1 ?_),fun h2=>Aa AX (Aa (BF _ 0) (Go.Abs.AD.store (n:=1) (off:=8) (v:=.bool (bl w==Dl)) s.l s.f (by omega) (EL _ _ _) rfl (show 8+1≤12 by decide) rfl fun A1 l1 k1 n1 f1=>second (bl w==Dl) l1 k1 n1 f1 ?_))⟩)⟩)
     ·have h1:(bl w==E2)=true:=h1
      rw [h1];rfl
     ·have h1:(bl w==E2)=false:=h1
      have h2:(bl w==FP)=true:=h2
      rw [h1,h2];rfl
     ·have h1:(bl w==E2)=false:=h1
      have h2:(bl w==FP)=false:=h2
      rw [h1,h2];rfl
    refine Aa Ai (Af.2 ⟨fun hc=>?_,fun hc82=>?_⟩)
    ·obtain rfl:h=82:=Cq (k:=82) (by decide) hc
     refine Aa DS ?_
     have es:IntKind.i64.wrap (((a+1:Nat):Int) - 1)=(a:Int):=by rw [wrap_i64 (by omega) (by omega)];omega
     rw [es]
     have hrn:c.refs=[]:=s.r82 (by rw [Ch hp0];simp)
     obtain ⟨F1,o1,o2,o3,o4⟩:=s.own
     rw [hrn] at o1
     exact Ah.2 ⟨(how.length - i) * 100000000 - 1 - a,by omega,.inr (.inr ⟨rfl,a,a,i,q,c,vr,[],rfl,hp0,Nl _,by omega,by rw [Nat.sub_self,List.take_zero];exact trivial,hrn,⟨c,hrn,by rw [← hrn],s.j⟩,s.l,s.zr,⟨F1,o1,o2,o3,o4⟩,s.k,s.f,by have:=s.hq;have:=s.n1;omega,s.wf,s.sz,s.nx,rfl⟩)⟩
    rcases OH _ h hmem with rfl | rfl | rfl | rfl | rfl | rfl | rfl | rfl | rfl | rfl | rfl
    ·exact absurd rfl hc81
    ·exact absurd rfl hc84
    ·exact absurd rfl hc66
    ·exact absurd rfl hc78
    ·exact absurd rfl hc88
    ·exact absurd rfl hc101
    ·exact absurd rfl hc109
    ·exact absurd rfl hc100
    ·exact absurd rfl hc115
    ·exact absurd rfl hc102
    ·exact absurd rfl hc82
   ·have hge:¬ ((i:Int) < (how.length:Int)):=hge
    omega
  ·rw [Aas]
   simp only [L43,Mc,Mn,Li,and_true] at hd
   obtain ⟨d0,d2,d3,d4,d8,d9⟩:=hd
   simp only [d0,d2,d3,d4,d8,d9]
   have hlt:=(Gs.1 hp0).1
   have hpl:how.length≤3:=hpl
   have hone:=o1.one
   have e2:IntKind.i64.wrap ((i:Int)+1)=((i+1:Nat):Int):=wrap_i64 (by omega) (by omega)
   have lw:∀ {B:AW},Go.Abs.AD B q (c.cells vr) 38→At Tp B 36 (pP q 10)=some vr:=fun {B} r=>Ja r hone.2
   refine Aa (Hh.Gr (hrd.keeps kk (by simp))) (Aa Be (Aq.2 ⟨fun hla=>?_,fun hga=>?_⟩))
   ·have hla:a < ls.length:=by omega
    obtain ⟨w,hw⟩:∃ w,ls[a]? =some w:=⟨_,Ge hla⟩
    have hwl:=wlen hw
    have edr:Ba (ls.drop a)=(bl w).length+1+Ba (ls.drop (a+1)):=by rw [Ch hw];rfl
    have ea:IntKind.i64.wrap ((a:Int)+1)=((a+1:Nat):Int):=wrap_i64 (by omega) (by omega)
    obtain ⟨ad,a1,a2⟩:=ES.at Hh (hrd.keeps kk (by simp)) hw rfl
    refine Aa (C0 _ 0) (Aa (lw r) (Aa (v:=.pointer (some ad)) a1 (Aa a2 (AbC (s:=w) (by omega) ff (by omega) fun A1 rf hrf g1=>?_))))
    have n1:=g1.next
    have r1:=r.keeps g1.keeps (by simp)
    refine ck (lw r1) (ck (C0 _ 0) (Bs (V7 _ _ _) rfl g1.Az (by omega) fun A2 m2=>?_))
    have n2:=m2.next
    have k2:=m2.keeps g1.Az
    have r2:=r1.keeps k2 (by simp)
    have a3:=a2
    have K2:Ay A' A2 []:=g1.keeps.trans k2 (by simp)
    obtain ⟨ad2,b1,b2⟩:=ES.at Hh ((hrd.keeps kk (by simp)).keeps K2 (by simp)) hw rfl
    have ead:ad2=ad:=by
     rw [a1] at b1
     simpa using b1.symm
    subst ead
    refine Aa1 (p:=rf) m2.row (ck b2 (ck b1 (Ao.2 (Ao.2 (ck (lw r2) (ck (C0 _ 0) ?_))))))
    have o2':=(o1.keeps g1.keeps (by simp)).keeps k2 (by simp)
    have hll:=hall.len
    rw [List.length_take,List.length_drop] at hll
    refine CZ.append I3 (p:=rf) o2' m2.BU m2.Az (by omega) (by omega) fun v' A3 F3 q3 k3 hF3 n3 f3=>?_
    have hqF:q∉F3:=fun hm=>by
     rcases hF3 q hm with e | e
     ·exact o3 e
     ·have:=r2.lt;omega
    have hzF:A.next∉F3:=fun hm=>by
     rcases hF3 _ hm with e | e
     ·exact o4 e
     ·have:=r2.lt;omega
    have hle:A.next≤A'.next:=kk.next
    have hle2:=K2.next
    have q3one:=q3.one
    have qv:v'.cells.toList=[v']:=by obtain ⟨_,_,e⟩:=(CZ.rd (fun _=>rfl) q3).slice;rw [e];rfl
    refine Aa (C0 _ 0) (Go.Abs.AD.store (n:=1) (off:=10) (v:=v') (r2.keeps k3 o3) f3 (by omega) (Qk _ _ _) (by rw [qv];rfl) (show 10+1≤12 by decide) (by rw [qv];simp [q3one.1]) fun A4 l4 k4 n4 f4=>?_)
    rw [qv] at l4
    refine Aa Av ?_
    rw [ea]
    obtain ⟨c1,c2,c3,c4⟩:=hc1
    have hsz2:szC { c with refs:=l++[rf] }+Ba (ls.drop (a+1))≤Ba ls:=by
     have e1:szR (l++[rf])=szR l+((bl rf.1).length+1):=by simp [szR]
     have:=hrf.2.1
     simp only [szC,hrl] at hsz
     simp only [szC,e1]
     omega
    refine Ah.2 ⟨(how.length - i) * 100000000 - 1 - (a+1),by omega,.inr (.inr ⟨rfl,a0,a+1,i,q,{ c with refs:=l++[rf] },v',l++[rf],rfl,hp0,by omega,by omega,?_,rfl,⟨c1,c2,by rw [c3],c4⟩,l4,?_,⟨F3,q3.keeps k4 (fun x hx hm=>hqF (by rw [← Ms.1 hm];exact hx)),fun x hx=>?_,hqF,hzF⟩,?_,f4,hq,⟨hwf.what,hwf.ses,hwf.x,hwf.n,fun x hx=>?_⟩,hsz2,by omega,rfl⟩)⟩
    ·have e:(ls.drop a0).take (a+1 - a0)=(ls.drop a0).take (a - a0)++[w]:=by
      rw [show a+1 - a0=(a - a0)+1 by omega]
      refine Bm ?_
      rw [List.getElem?_drop,show a0+(a - a0)=a by omega];exact hw
     rw [e]
     exact hall.snoc hrf
    ·exact ((z.keeps K2 (by simp)).keeps k3 o4).keeps k4 (by simp;omega)
    ·rcases hF3 x hx with e | e
     ·exact o2 x e
     ·omega
    ·exact ((kk.trans K2 (by simp)).trans k3 fun x hx=>.inr (o2 x hx)).trans k4 fun x hx=>.inr (by rw [Ms.1 hx];omega)
    ·rcases List.mem_append.1 hx with hx | hx
     ·exact hwf.refs x (by rw [hrl];exact hx)
     ·rw [Ms.1 hx];exact hrf.1
   ·have hae:a=ls.length:=by omega
    subst hae
    have hlast:=Nh vb
    have hd0:=VA hlast hp0
    rw [List.take_of_length_le (by rw [List.length_drop];omega)] at hall
    obtain ⟨c1,c2,c3,c4⟩:=hc1
    have j2:=c4.refs hp0 hlast hall
    rw [← c3] at j2
    simp only [Av,Ad,e2]
    exact Ah.2 ⟨(how.length - (i+1)) * 100000000,by omega,.inr (.inl ⟨rfl,ls.length,i+1,q,c,vr,rfl,by omega,⟨r,z,⟨F1,by rw [hrl];exact o1,o2,o3,o4⟩,kk,ff,by omega,Nl _,by omega,hwf,hsz,hnx,j2,fun hm=>by rw [hd0] at hm;cases hm⟩,rfl⟩)⟩
 rw [e43]
 refine AI Gc hf (by omega) rfl fun A1 m1=>?_
 have n1:=m1.next
 refine AI Gc m1.Az (by omega) rfl fun A2 m2=>?_
 have n2:=m2.next
 have k2:=m2.keeps m1.Az
 have K2:Ay A A2 []:=(m1.keeps hf).trans k2 (by simp)
 have z2:Go.Abs.AD A2 A.next (Bc.cells vN) 38:=m1.BU.keeps k2 (by simp)
 have q2:Go.Abs.AD A2 A1.next (Bc.cells vN) 38:=m2.BU
 refine Aa (Hh.Gr hrd) (Aa Be (Aq.2 ⟨fun h=>?_,fun h=>?_⟩))
 ·refine ret (G:=[]) q2 z2 (fun c0 hg=>?_) Lh (Nat.zero_le _) (.nil _) (by simp) (by simp) ⟨K2,m2.Az,by omega⟩
  have:2≤ls.length:=by rw [hg.2.2.2,List.length_map];simp [Bv]
  omega
 ·have h2l:2≤ls.length:=by omega
  obtain ⟨w,hw⟩:∃ w,ls[0]? =some w:=⟨_,Ge (by omega)⟩
  have hwl:=wlen hw
  obtain ⟨ad,a1,a2⟩:=ES.at Hh (hrd.keeps K2 (by simp)) hw rfl
  refine Aa (v:=.pointer (some ad)) a1 (Aa a2 (Pc (s:=w) (by omega) (Aa (FM _ 0) (Go.Abs.AD.store (n:=1) (off:=1) (v:=.int .u64 (CY (bl w):Int)) q2 m2.Az (by omega) (Xp _ _ _) rfl (show 1+1≤12 by decide) rfl fun A3 l3 k3 n3 f3=>?_))))
  have ew:(if vb < 1 then vb else 0)=0:=by
   by_cases hh:vb < 1
   ·rw [if_pos hh];omega
   ·rw [Ff hh]
  refine Ah.2 ⟨_,.inl ⟨rfl,h2l,1,A1.next,CY (bl w),by rw [ew];rfl,by omega,by omega,?_,z2.keeps k3 (by simp;omega),⟨K2.trans k3 fun x hx=>.inr (by rw [Ms.1 hx];omega),f3,by omega⟩,by omega,S5 _,fun w2 hw2=>?_,rfl⟩⟩
  ·rw [ew];exact l3
  ·rw [hw] at hw2
   rw [Option.some.inj hw2]
end
def Wn (e0:EvD) (ls:List ByteArray):Prop:=e0.Wf∧DL e0=some (Bh e0)∧ls=(Bh e0).map txt
def JR (ls:List ByteArray) (how:List UInt8) (a i:Nat) (v:EvD):Prop:=∀ e0,Wn e0 ls→how=(Ak e0.kind).2∧(∃ ws left,goE e0 (how.drop i) ws left=some (Bh e0,BQ)∧ME v left e0)∧(i < how.length→ls.drop a=((how.drop i).flatMap (B5 e0)).map txt)
theorem QP {v:EvD} {h:UInt8} {wl:List Word} (h98:h≠98) (h107:h≠107) (h67:h≠67) (hl:FC v h=some wl):∃ w,wl=[w]:=by
 by_cases h88:h=88
 ·subst h88
  have hl:(if okX v.x=true then some [Cs v.x] else none)=some wl:=hl
  split at hl
  ·cases hl;exact ⟨_,rfl⟩
  ·cases hl
 ·unfold FC at hl
  simp only [h98,h107,h67,h88,if_false] at hl
  repeat' split at hl
  all_goals (cases hl;exact ⟨_,rfl⟩)
theorem EM {how:List UInt8} {i:Nat} {h:UInt8} (hlast:Hr how=true) (hi:how[i]? =some h) (hh:h=98∨h=107∨h=67):how.drop (i+1)=[]:=by
 have:∀ (hs:List UInt8) (k:Nat),Hr hs=true→hs[k]? =some h→hs.drop (k+1)=[]:=by
  intro hs
  induction hs with
  | nil=>intro k _ h;simp at h
  | cons x r ih=>
   intro k hl hk
   simp only [Hr,Bq,Bool.or_eq_true,Bool.not_eq_true',Bool.or_eq_false_iff,beq_eq_false_iff_ne,ne_eq,List.isEmpty_iff] at hl
   match k with
   | 0=>
    simp only [List.getElem?_cons_zero,Oi] at hk
    subst hk
    rcases hl.1 with h2 | h2
    ·rcases hh with h | h | h
     ·exact absurd h h2.1.1
     ·exact absurd h h2.1.2
     ·exact absurd h h2.2
    ·rw [h2];rfl
   | k+1=>exact ih k hl.2 (by simpa using hk)
 exact this how i hlast hi
theorem JR.step {ls:List ByteArray} {how:List UInt8} {a i:Nat} {v v':EvD} {h:UInt8} {w:ByteArray} (j:JR ls how a i v) (hi:how[i]? =some h) (hh:h≠98∧h≠107∧h≠67) (hat:ls[a]? =some w) (V:∀ e0 left,e0.Wf→FC e0 h=some [bl w]→ME v left e0→ME v' (Hi e0 h left) e0):JR ls how (a+1) (i+1) v':=by
 intro e0 hg
 obtain ⟨h1,⟨ws,left,h2,h3⟩,h4⟩:=j e0 hg
 have h4:=h4 (Gs.1 hi).1
 rw [Ch hi] at h2 h4
 unfold goE at h2
 cases hl:FC e0 h with
 | none=>rw [hl] at h2;cases h2
 | some wl=>
  rw [hl] at h2
  obtain ⟨w0,rfl⟩:=QP hh.1 hh.2.1 hh.2.2 hl
  have hwc:=HL hl
  rw [Ch hat,List.flatMap_cons,hwc,List.map_append] at h4
  simp only [Mc,Mn,List.cons_append,List.nil_append,Li] at h4
  obtain ⟨e,h4⟩:=h4
  refine ⟨h1,⟨_,_,h2,V e0 left hg.1 ?_ h3⟩,fun _=>h4⟩
  rw [hl,e];rfl
theorem JR.nodes {ls:List ByteArray} {how:List UInt8} {a i:Nat} {v:EvD} {l:List Nat} (j:JR ls how a i v) (hi:how[i]? =some 98) (hlast:Hr how=true) (hl:HW (fun w n=>∀ m,m < 256→w=Lib.decDigits m→n=m) (ls.drop a) l):JR ls how ls.length (i+1) { v with nodes:=l }:=by
 intro e0 hg
 obtain ⟨h1,⟨ws,left,h2,h3⟩,h4⟩:=j e0 hg
 have h4:=h4 (Gs.1 hi).1
 have hd0:=EM hlast hi (.inl rfl)
 rw [Ch hi,hd0] at h2 h4
 have h4:ls.drop a=(e0.nodes.map Lib.decDigits).map txt:=by
  rw [h4]
  show List.map txt (B5 e0 98++[])=_
  rw [List.append_nil];rfl
 have h2:some (ws++e0.nodes.map Lib.decDigits,Hi e0 98 left)=some (Bh e0,BQ):=h2
 have hll:l=e0.nodes:=by
  rw [h4] at hl
  exact HW.eq (f:=Lib.decDigits) (P:=fun k=>k < 256) (fun y x hy hx=>hx y hy rfl) hg.1.nodes hl
 refine ⟨h1,⟨ws++e0.nodes.map Lib.decDigits,Hi e0 98 left,?_,?_⟩,fun h=>?_⟩
 ·rw [hd0];exact h2
 ·exact ⟨h3.kind,h3.node,h3.to,h3.n,h3.x,fun _=>hll,h3.Bd,h3.s,h3.a,h3.call⟩
 ·rw [hd0];simp
theorem JR.Bd {ls:List ByteArray} {how:List UInt8} {a i:Nat} {v:EvD} {l:List Int} (j:JR ls how a i v) (hi:how[i]? =some 107) (hlast:Hr how=true) (hl:HW Xa (ls.drop a) l):JR ls how ls.length (i+1) { v with Bd:=l }:=by
 intro e0 hg
 obtain ⟨h1,⟨ws,left,h2,h3⟩,h4⟩:=j e0 hg
 have h4:=h4 (Gs.1 hi).1
 have hd0:=EM hlast hi (.inr (.inl rfl))
 rw [Ch hi,hd0] at h2 h4
 have h4:ls.drop a=(e0.Bd.map Lib.itoa).map txt:=by
  rw [h4]
  show List.map txt (B5 e0 107++[])=_
  rw [List.append_nil];rfl
 have h2:some (ws++e0.Bd.map Lib.itoa,Hi e0 107 left)=some (Bh e0,BQ):=h2
 have hll:l=e0.Bd:=by
  rw [h4] at hl
  exact HW.eq (f:=Lib.itoa) (P:=fun k=>Mx k) (fun y x hy hx=>hx.2 y hy rfl) hg.1.Bd hl
 refine ⟨h1,⟨ws++e0.Bd.map Lib.itoa,Hi e0 107 left,?_,?_⟩,fun h=>?_⟩
 ·rw [hd0];exact h2
 ·exact ⟨h3.kind,h3.node,h3.to,h3.n,h3.x,h3.nodes,fun _=>hll,h3.s,h3.a,h3.call⟩
 ·rw [hd0];simp
theorem JR.call {ls:List ByteArray} {how:List UInt8} {a i a':Nat} {v:EvD} {c:Ax} (j:JR ls how a i v) (hi:how[i]? =some 67) (hlast:Hr how=true) (hc:∀ c0,Rt c0 (ls.drop a)→c=c0):JR ls how a' (i+1) { v with call:=c }:=by
 intro e0 hg
 obtain ⟨h1,⟨ws,left,h2,h3⟩,h4⟩:=j e0 hg
 have hd0:=EM hlast hi (.inr (.inr rfl))
 have h4:=h4 (Gs.1 hi).1
 rw [Ch hi,hd0] at h2 h4
 have h4:ls.drop a=(Bv e0.call).map txt:=by
  rw [h4]
  show List.map txt (B5 e0 67++[])=_
  rw [List.append_nil];rfl
 unfold goE at h2
 have h2:(match FC e0 67 with | none=>none | some w=>some (ws++w,Hi e0 67 left))=some (Bh e0,BQ):=h2
 cases hw:CB e0.call with
 | none=>
  exfalso
  have hl:FC e0 67=none:=by
   show (match CB e0.call with | some (ws,_)=>if (partsOf e0.call.what).1=[] then none else some ws | none=>none)=none
   rw [hw]
  rw [hl] at h2;cases h2
 | some p=>
  obtain ⟨wl,lc⟩:=p
  have hl:FC e0 67=(if (partsOf e0.call.what).1=[] then none else some wl):=by
   show (match CB e0.call with | some (ws,_)=>if (partsOf e0.call.what).1=[] then none else some ws | none=>none)=_
   rw [hw]
  have hcl:Hi e0 67 left={ left with call:=lc }:=by
   show (match CB e0.call with | some (_,c)=>{ left with call:=c } | none=>left)=_
   rw [hw]
  by_cases hv:(partsOf e0.call.what).1=[]
  ·rw [hl,if_pos hv] at h2;cases h2
  ·rw [hl,Ff hv,hcl] at h2
   simp only [Oi,Pj] at h2
   have hlc:lc=Bc:=by
    have:=congrArg EvD.call h2.2
    exact this
   subst hlc
   have ew:=IG hw
   subst ew
   have hcc:=hc e0.call ⟨hg.1.call,hw,hv,h4⟩
   refine ⟨h1,⟨Bh e0,BQ,?_,?_⟩,fun h=>?_⟩
   ·rw [hd0];rfl
   ·rw [← h2.2]
    exact ⟨h3.kind,h3.node,h3.to,h3.n,h3.x,h3.nodes,h3.Bd,h3.s,h3.a,fun _=>hcc⟩
   ·have:=congrArg List.length hd0
    rw [List.length_drop] at this
    simp at this
    omega
theorem JR.done {ls:List ByteArray} {how:List UInt8} {a i:Nat} {v:EvD} (j:JR ls how a i v) (hend:how.length≤i∨ls.length≤a) (hr:(98:UInt8)∈how.drop i→v.nodes=[]) (hk:(107:UInt8)∈how.drop i→v.Bd=[]):∀ e0,Wn e0 ls→v=e0:=by
 intro e0 hg
 obtain ⟨h1,⟨ws,left,h2,h3⟩,h4⟩:=j e0 hg
 have zero:how.drop i=[]→v=e0:=fun hd=>by
  rw [hd] at h2
  simp only [goE,Oi,Pj] at h2
  rw [h2.2] at h3
  exact h3.done
 by_cases he:how.length≤i
 ·exact zero (List.drop_eq_nil_of_le he)
 ·have hla:ls.length≤a:=hend.resolve_left he
  have h4:=h4 (by omega)
  rw [List.drop_eq_nil_of_le hla] at h4
  cases hd:how.drop i with
  | nil=>exact zero hd
  | cons x r=>
   rw [hd] at h2 h4 hr hk
   have h4:((x::r).flatMap (B5 e0)).map txt=[]:=h4.symm
   rw [List.map_eq_nil_iff,List.flatMap_cons,List.append_eq_nil_iff] at h4
   have hx0:how[i]? =some x:=by
    have:=congrArg (fun l:List UInt8=>l[0]?) hd
    simpa using this
   have hlast:=KK e0.kind
   rw [← h1] at hlast
   have hr0:x=98∨x=107∨x=67→r=[]:=fun hh=>by
    have:=EM hlast hx0 hh
    rw [← List.drop_drop,hd] at this
    simpa using this
   unfold goE at h2
   cases hl:FC e0 x with
   | none=>rw [hl] at h2;cases h2
   | some wl=>
    rw [hl] at h2
    have hwc:=HL hl
    by_cases hx:x=98
    ·subst hx
     obtain rfl:=hr0 (.inl rfl)
     have hcr:=hr (by simp)
     have hrz:e0.nodes=[]:=by
      have h5:e0.nodes.map Lib.decDigits=[]:=h4.1
      exact List.map_eq_nil_iff.1 h5
     simp only [goE,Oi,Pj] at h2
     have m:ME v (Hi e0 98 left) e0:=⟨h3.kind,h3.node,h3.to,h3.n,h3.x,fun _=>by rw [hcr,hrz],h3.Bd,h3.s,h3.a,h3.call⟩
     rw [h2.2] at m
     exact m.done
    ·by_cases hx2:x=107
     ·subst hx2
      obtain rfl:=hr0 (.inr (.inl rfl))
      have hcr:=hk (by simp)
      have hrz:e0.Bd=[]:=by
       have h5:e0.Bd.map Lib.itoa=[]:=h4.1
       exact List.map_eq_nil_iff.1 h5
      simp only [goE,Oi,Pj] at h2
      have m:ME v (Hi e0 107 left) e0:=⟨h3.kind,h3.node,h3.to,h3.n,h3.x,h3.nodes,fun _=>by rw [hcr,hrz],h3.s,h3.a,h3.call⟩
      rw [h2.2] at m
      exact m.done
     ·exfalso
      by_cases hx3:x=67
      ·subst hx3
       have h5:Bv e0.call=[]:=h4.1
       simp [Bv] at h5
      ·obtain ⟨w0,rfl⟩:=QP hx hx2 hx3 hl
       rw [hwc] at h4
       cases h4.1
structure JB (A0 A:AW) (ls:List ByteArray) (q:Nat) (v:EvD) (vn vk vr:Value):Prop where
 l:Go.Abs.AD A q (v.cells vn vk vr) 40
 fam:∃ F1 F2 F3,CZ 5 0 cB A vn v.nodes F1∧CZ 3 0 cI A vk v.Bd F2∧RdE 1 cR A vr v.call.refs F3∧(∀ x∈F1,A0.next≤x∧x≠q∧x∉F2∧x∉F3)∧(∀ x∈F2,A0.next≤x∧x≠q∧x∉F3)∧(∀ x∈F3,A0.next≤x∧x≠q)
 k:Ay A0 A []
 f:AH A
 hq:A0.next≤q
 wf:v.Wf
 sz:szV v≤Ba ls
 nx:A.next≤A0.next+500+2500 * Ba ls
structure JT (A0 A:AW) (ls:List ByteArray) (how:List UInt8) (q:Nat) (a i:Nat) (v:EvD) (vn vk vr:Value):Prop where
 b:JB A0 A ls q v vn vk vr
 sz1:i < how.length→szV v+Ba (ls.drop a)≤Ba ls
 nx1:i < how.length→A.next+1200 * Ba (ls.drop a)≤A0.next+100+1200 * Ba ls
 j:JR ls how a i v
 r98:(98:UInt8)∈how.drop i→v.nodes=[]
 r107:(107:UInt8)∈how.drop i→v.Bd=[]
theorem JB.one {A0 A:AW} {ls:List ByteArray} {q:Nat} {v:EvD} {vn vk vr:Value} (s:JB A0 A ls q v vn vk vr):(AL vn=true∧isTuple vn=false)∧(AL vk=true∧isTuple vk=false)∧(AL vr=true∧isTuple vr=false):=by
 obtain ⟨F1,F2,F3,o1,o2,o3,_⟩:=s.fam
 exact ⟨o1.one,o2.one,o3.one⟩
theorem JB.rd {A0 A:AW} {ls:List ByteArray} {q:Nat} {v:EvD} {vn vk vr:Value} (s:JB A0 A ls q v vn vk vr):∃ G,RdV A v vn vk vr G∧∀ x∈G,A0.next≤x:=by
 obtain ⟨F1,F2,F3,o1,o2,o3,a1,a2,a3⟩:=s.fam
 refine ⟨F1++F2++F3,⟨⟨F1,CZ.rd (fun _=>rfl) o1,fun x hx=>by simp [hx]⟩,⟨F2,CZ.rd (fun _=>rfl) o2,fun x hx=>by simp [hx]⟩,⟨F3,o3,fun x hx=>by simp [hx]⟩⟩,fun x hx=>?_⟩
 simp only [List.mem_append] at hx
 rcases hx with (hx | hx) | hx
 ·exact (a1 x hx).1
 ·exact (a2 x hx).1
 ·exact (a3 x hx).1
theorem JT.set {A0 A A1 A2:AW} {ls:List ByteArray} {how:List UInt8} {q a i m:Nat} {v v':EvD} {vn vk vr:Value} {h:UInt8} {w:ByteArray} (s:JT A0 A ls how q a i v vn vk vr) (hi:how[i]? =some h) (hh:h≠98∧h≠107∧h≠67) (hat:ls[a]? =some w) (g:Grow A A1 m) (hm:m≤1200 * (bl w).length+1100) (l2:Go.Abs.AD A2 q (v'.cells vn vk vr) 40) (k2:Ay A1 A2 [q]) (n2:A2.next=A1.next) (f2:AH A2)
  (V:∀ e0 left,e0.Wf→FC e0 h=some [bl w]→ME v left e0→ME v' (Hi e0 h left) e0) (hr:v'.nodes=v.nodes∧v'.Bd=v.Bd∧v'.call=v.call) (hw:v'.Wf) (hz:szV v'≤szV v+(bl w).length):JT A0 A2 ls how q (a+1) (i+1) v' vn vk vr:=by
 obtain ⟨F1,F2,F3,o1,o2,o3,a1,a2,a3⟩:=s.b.fam
 have hlt:=(Gs.1 hi).1
 have e:Ba (ls.drop a)=(bl w).length+1+Ba (ls.drop (a+1)):=by rw [Ch hat];rfl
 have hn:=g.next
 have h1:=s.sz1 hlt
 have h2:=s.nx1 hlt
 refine ⟨⟨l2,⟨F1,F2,F3,?_,?_,?_,a1,a2,a3⟩,(s.b.k.trans g.keeps (by simp)).trans k2 fun x hx=>.inr (by rw [Ms.1 hx];exact s.b.hq),f2,s.b.hq,hw,by omega,by omega⟩,fun _=>by omega,fun _=>by omega,s.j.step hi hh hat V,fun hm=>?_,fun hm=>?_⟩
 ·rw [hr.1];exact (o1.keeps g.keeps (by simp)).keeps k2 fun x hx hm=>(a1 x hx).2.1 (Ms.1 hm)
 ·rw [hr.2.1];exact (o2.keeps g.keeps (by simp)).keeps k2 fun x hx hm=>(a2 x hx).2.1 (Ms.1 hm)
 ·rw [hr.2.2];exact (o3.keeps g.keeps (by simp)).keeps k2 fun x hx hm=>(a3 x hx).2 (Ms.1 hm)
 ·rw [hr.1];exact s.r98 (by rw [Ch hi];exact List.mem_cons_of_mem _ hm)
 ·rw [hr.2.1];exact s.r107 (by rw [Ch hi];exact List.mem_cons_of_mem _ hm)
theorem UZ {A:AW} {v:Value} {ls:List ByteArray} {F:List Nat} (h:CZ 9 0 cS A v ls F) {a:Nat} (h1:1≤a) (ha:a < ls.length):∃ v',Br Tp A 56 v (some (.int .i64 (a:Int))) none none=some v'∧∀ {B:AW},Ay A B []→RdE 0 cS B v' (ls.drop a) F:=by
 rcases h with ⟨_,h2,_⟩ | ⟨b,f,rfl,h2,rfl⟩
 ·omega
 ·have hrow:JA A (some ⟨b,0,none⟩) 9=true:=by unfold JA;simp only [h2.row];exact beq_true.2 rfl
  have hm:JG (some ⟨b,0,none⟩) (a * 1)=some ⟨b,a,none⟩:=by
   show some (bif Nat.beq (a * 1) 0 then (⟨b,0,none⟩:Addr) else ⟨b,0+a * 1,none⟩)=_
   cases hb:Nat.beq (a * 1) 0 with
   | true=>have:=Nb hb;omega
   | false=>rw [Cf,Nat.zero_add,Nat.mul_one]
  refine ⟨.slice (some ⟨b,a,none⟩) (ls.length - a) (BH+(ls.length - a)),?_,fun {B} k=>?_⟩
  ·show Br Tp A 56 _ (some (.int .i64 (.ofNat a))) none none=_
   unfold Br
   simp only [Wx,sz9,Bt.2 (show BH≤BH+ls.length by omega),Ct,bounds,Is,EQ,Nat.add_sub_cancel_left,Bt.2 (show a≤ls.length by omega),Bt.2 (Nl ls.length),Option.isSome_none,Bool.not_false,Bool.or_true,hrow,Bool.and_self,hm]
  ·refine .inr ⟨b,a,_,_,_,f,0,false,by rw [List.length_drop],k.get b _ h2.row h2.ltf (by simp),Nat.lt_of_lt_of_le h2.ltf k.next,rfl,fun i p hi=>?_⟩
   rw [List.getElem?_drop] at hi
   have:=GC (f:=cS) (n:=1) (fun _=>rfl) ls (a+i) p hi
   rw [Nat.mul_one] at this
   simpa using this
theorem Kh (n:Nat):IntKind.u8.wrap (n:Int)=((n % 256:Nat):Int):=by
 simp [IntKind.wrap,IntKind.bits,IntKind.signed]
theorem AaZ (n:Int):AR Tp (BA (Tm.fill ⟨1,.nil⟩ 0 [.int .u8 n])) (.buildSlice 33 1 #[(0,.tmp 0)])=some (.slice [.int .u8 n] 5 1):=by kernel_rfl
theorem Aa3 {A:AW} {q:Nat} {n:Int} {P:Prop} (h:A.get q=some (.row [.int .u8 n] 5 q 0 false)) (hp:P):Bz (AR Tp (BA (Tm.fill ⟨1,.nil⟩ 0 [.int .u8 n])) (.buildSlice 33 1 #[(0,.tmp 0)])) A (.slice (some ⟨q,0,none⟩) 1 1) P:=by
 refine ⟨⟨_,AaZ _,?_⟩,hp⟩
 simp only [B8,Eo,h,Em,IQ,Bool.and_self,Option.isNone_none,Nat.beq_refl]
theorem AaY (n:Int):AR Tp (BA (Tm.fill ⟨1,.nil⟩ 0 [.int .i64 n])) (.buildSlice 34 1 #[(0,.tmp 0)])=some (.slice [.int .i64 n] 3 1):=by kernel_rfl
theorem Aa2 {A:AW} {q:Nat} {n:Int} {P:Prop} (h:A.get q=some (.row [.int .i64 n] 3 q 0 false)) (hp:P):Bz (AR Tp (BA (Tm.fill ⟨1,.nil⟩ 0 [.int .i64 n])) (.buildSlice 34 1 #[(0,.tmp 0)])) A (.slice (some ⟨q,0,none⟩) 1 1) P:=by
 refine ⟨⟨_,AaY _,?_⟩,hp⟩
 simp only [B8,Eo,h,Em,IQ,Bool.and_self,Option.isNone_none,Nat.beq_refl]
structure BS (A:AW) (s:ByteArray) (A1:AW) (v0:Value):Prop where
 own:∃ F,CZ 9 0 cS A1 v0 ((AS 32 (bl s)).map txt) F
 z:Go.Abs.AD A1 A.next (BQ.cells vN vN vN) 40
 g:Grow A A1 (2 * (bl s).length+10)
 lt:A.next < A1.next
section
variable {W0:World} {m0:Inj Tp}
set_option maxHeartbeats 8000000 in
theorem ZC {s:ByteArray} {A:AW} {K:Value→AW→Prop} (hl:(bl s).length < 4000000) (hf:AH A) (hA:A.next+60000000000 < Ap)
  (h0:(∀ v,¬ Er v (bl s))→∀ A',Grow A A' 50000000000→K (.tuple ⟨[.agg ⟨BQ.cells vN vN vN⟩,.int .i64 310]⟩) A')
  (h1:∀ v vn vk vr G A',Er v (bl s)→(∀ u,Er u (bl s)→u=v)→szV v≤(bl s).length+1→RdV A' v vn vk vr G→(∀ x∈G,A.next≤x)→Grow A A' 50000000000→K (.tuple ⟨[.agg ⟨v.cells vn vk vr⟩,.int .i64 0]⟩) A'):
  Wc Tp Aw W0 m0 17 [.string s] A K:=by
 have hmx:Ap=1099511627776:=rfl
 generalize hlsd:(AS 32 (bl s)).map txt=ls
 have hlw:Ba ls=(bl s).length+1:=by rw [← hlsd];exact KI 32 (bl s)
 have hll:=HM ls
 have hne:1≤ls.length:=by rw [← hlsd,List.length_map,H6];omega
 have wlen:∀ {a:Nat} {w:ByteArray},ls[a]? =some w→(bl w).length+1+Ba (ls.drop (a+1))≤Ba ls:=fun {a w} h=>by
  have e:Ba (ls.drop a)=(bl w).length+1+Ba (ls.drop (a+1)):=by rw [Ch h];rfl
  have:∀ (l:List ByteArray) (k:Nat),Ba (l.drop k)≤Ba l:=by
   intro l
   induction l with
   | nil=>intro k;simp
   | cons x r ih=>
    intro k
    match k with
    | 0=>exact Nl _
    | k+1=>
     have:=ih k
     show Ba (r.drop k)≤(bl x).length+1+Ba r
     omega
  have:=this ls a
  omega
 have good:∀ u,Er u (bl s)→Wn u ls:=fun u ⟨a,b,c⟩=>⟨a,b,by rw [← hlsd,← c,IN]⟩
 obtain ⟨w0,hw0⟩:∃ w,ls[0]? =some w:=⟨_,Ge (by omega)⟩
 let vb:=Fp (bl w0)
 have hvb:vb≤17:=Kk _
 let how:=(Ak vb).2
 have hpl:how.length≤3:=OZ vb
 have hlast:Hr how=true:=KK vb
 let I:Nat→Nat→List Value→AW→Prop:=fun g id vals A'=>
  (id=0∧∃ (A1:AW) (v0:Value) (n:Nat),BS A s A1 v0∧vals=[.string s,pP A.next 0,v0,pP A1.next 0,.string (txt (Ak (if vb < n then vb else 0)).2),.int .u8 (n:Int)]∧1≤n∧n≤18∧Go.Abs.AD A' A1.next (({ BQ with kind:=if vb < n then vb else 0 }:EvD).cells vN vN vN) 40∧Grow A1 A' 10∧g=1000000000 - n)∨
  (id=2∧∃ (A1:AW) (v0:Value) (a i:Nat) (v:EvD) (vn vk vr:Value),BS A s A1 v0∧vals=[.string s,pP A.next 0,v0,pP A1.next 0,.string (txt how),.int .i64 (a:Int),.int .i64 (i:Int)]∧1≤a∧a≤ls.length+5∧i≤how.length∧JT A1 A' ls how A1.next a i v vn vk vr∧g=(how.length - i) * 100000000)∨
  (id=5∧∃ (A1:AW) (v0:Value) (a0 a i:Nat) (v:EvD) (vn vk vr:Value) (l:List Nat),BS A s A1 v0∧vals=[.string s,pP A.next 0,v0,pP A1.next 0,.string (txt how),.int .i64 (a:Int),.int .i64 (i:Int)]∧how[i]? =some 98∧1≤a0∧a0≤a∧a≤ls.length∧HW (fun w n=>∀ m,m < 256→w=Lib.decDigits m→n=m) ((ls.drop a0).take (a - a0)) l∧v.nodes=l∧
   (∃ v1:EvD,v={ v1 with nodes:=l }∧JR ls how a0 i v1)∧JB A1 A' ls A1.next v vn vk vr∧szV v+Ba (ls.drop a)≤Ba ls∧A'.next+1200 * Ba (ls.drop a)≤A1.next+100+1200 * Ba ls∧g=(how.length - i) * 100000000 - 1 - a)∨
  (id=7∧∃ (A1:AW) (v0:Value) (a0 a i:Nat) (v:EvD) (vn vk vr:Value) (l:List Int),BS A s A1 v0∧vals=[.string s,pP A.next 0,v0,pP A1.next 0,.string (txt how),.int .i64 (a:Int),.int .i64 (i:Int)]∧how[i]? =some 107∧1≤a0∧a0≤a∧a≤ls.length∧HW Xa ((ls.drop a0).take (a - a0)) l∧v.Bd=l∧
   (∃ v1:EvD,v={ v1 with Bd:=l }∧JR ls how a0 i v1)∧JB A1 A' ls A1.next v vn vk vr∧szV v+Ba (ls.drop a)≤Ba ls∧A'.next+1200 * Ba (ls.drop a)≤A1.next+100+1200 * Ba ls∧g=(how.length - i) * 100000000 - 1 - a)
 refine w17 _ _ (c17 (I:=I) ?_) ?_
 ·rintro g id vals A' d (⟨rfl,A1,v0,n,bs,rfl,hn1,hn2,r,gr,rfl⟩ | ⟨rfl,A1,v0,a,i,v,vn,vk,vr,bs,rfl,ha1,ha2,hi,t,rfl⟩ | ⟨rfl,A1,v0,a0,a,i,v,vn,vk,vr,l,bs,rfl,hp0,h1a,ha0,hal,hall,hrl,hc1,t,hsz,hnx,rfl⟩ | ⟨rfl,A1,v0,a0,a,i,v,vn,vk,vr,l,bs,rfl,hp0,h1a,ha0,hal,hall,hrl,hc1,t,hsz,hnx,rfl⟩) hd
  ·rw [AaI]
   simp only [L17,Mc,Mn,Li,and_true] at hd
   obtain ⟨d0,d2,d4,d5,d6,d7⟩:=hd
   simp only [d0,d2,d4,d5,d6,d7]
   have ng:=gr.next
   have nb:=bs.g.next
   obtain ⟨F0,hv0⟩:=bs.own
   rw [hlsd] at hv0
   have hrd:RdE 0 cS A1 v0 ls F0:=CZ.rd (fun _=>rfl) hv0
   have e2:n≤17→IntKind.u8.wrap ((n:Int)+1)=((n+1:Nat):Int):=fun h=>by simp [IntKind.wrap,IntKind.bits,IntKind.signed];omega
   refine Aa Fl (Aq.2 ⟨fun hle=>?_,fun hgt=>?_⟩)
   ·have hle:n≤17:=by omega
    obtain ⟨ad,a1,a2⟩:=ES.at Hh (hrd.keeps gr.keeps (by simp)) hw0 rfl
    refine Zy (Aa Cw (Aa Cv (Aa (v:=.pointer (some ad)) a1 (Aa a2 (Aa AX (Aj.2 ⟨fun h=>?_,fun h=>?_⟩))))))
    ·have h:(Ak n).1=bl w0:=eq_of_beq h
     have hv:vb=n:=by show Fp (bl w0)=n;rw [← h];exact ML hn1 hle
     refine Aa (DQ _ 0) (Go.Abs.AD.store (n:=1) (off:=0) (v:=.int .u8 (n:Int)) r gr.Az (by omega) (Gk _ _ _) rfl (show 0+1≤23 by decide) rfl fun A2 l2 k2 n2 f2=>?_)
     refine Aa Av ?_
     rw [e2 hle]
     have ew:(if vb < n+1 then vb else 0)=n:=by rw [if_pos (by omega),hv]
     refine Ah.2 ⟨1000000000 - (n+1),by omega,.inl ⟨rfl,A1,v0,n+1,bs,by rw [ew],by omega,by omega,?_,(gr.own k2 (fun x hx=>by rw [Ms.1 hx];exact Nl _) (m:=0) (by omega) f2),rfl⟩⟩
     rw [ew];exact l2
    ·have h:((Ak n).1==bl w0)=false:=h
     have hv:vb≠n:=fun e=>by
      have hz:Fp (bl w0)≠0:=by show vb≠0;omega
      have:=TF hz
      have e:Fp (bl w0)=n:=e
      rw [e] at this
      rw [this] at h;simp at h
     refine Aa Av ?_
     rw [e2 hle]
     have ew:(if vb < n+1 then vb else 0)=(if vb < n then vb else 0):=by
      by_cases hh:vb < n
      ·rw [if_pos hh,if_pos (by omega)]
      ·rw [Ff hh,Ff (by omega)]
     refine Ah.2 ⟨1000000000 - (n+1),by omega,.inl ⟨rfl,A1,v0,n+1,bs,by rw [ew],by omega,by omega,?_,gr,rfl⟩⟩
     rw [ew];exact r
   ·have hn22:n=18:=by omega
    subst hn22
    rw [if_pos (by omega)] at r ⊢
    have hdr1:Ba (ls.drop 1)≤Ba ls:=by
     have:=wlen (a:=0) hw0
     simp only [Nat.zero_add] at this
     omega
    have wf0:BQ.Wf:=⟨by decide,by decide,by decide,by decide,show DY.f < _ by decide,fun r hr=>(by cases hr),fun r hr=>(by cases hr),Lh⟩
    refine Ah.2 ⟨(how.length - 0) * 100000000,by omega,.inr (.inl ⟨rfl,A1,v0,1,0,_,vN,vN,vN,bs,rfl,by omega,by omega,Nat.zero_le _,⟨⟨r,⟨[],[],[],.nil _,.nil _,.nil _ _ _,by simp,by simp,by simp⟩,gr.keeps,gr.Az,Nl _,⟨by show vb < 256;omega,wf0.node,wf0.to,wf0.n,wf0.x,wf0.nodes,wf0.Bd,wf0.call⟩,Nat.zero_le _,by omega⟩,fun _=>by show 0+_≤_;omega,fun _=>by omega,?_,fun _=>rfl,fun _=>rfl⟩,rfl⟩)⟩
    intro e0 hg
    obtain ⟨g1,g2,g4⟩:=hg
    obtain ⟨_,g5,g3⟩:=C6.1 g2
    have hw0':w0=txt (Ak e0.kind).1:=by
     rw [g4] at hw0
     have:((Bh e0).map txt)[0]? =some (txt (Ak e0.kind).1):=rfl
     rw [this] at hw0
     exact (Option.some.inj hw0).symm
    obtain ⟨q1,q2⟩:=Ke g3
    have hvc:vb=e0.kind:=by show Fp (bl w0)=_;rw [hw0'];exact ML q1 q2
    have eh:how=(Ak e0.kind).2:=by show (Ak vb).2=_;rw [hvc]
    refine ⟨eh,⟨[(Ak e0.kind).1],zE e0,?_,?_⟩,fun _=>?_⟩
    ·rw [eh];exact g5
    ·exact ⟨hvc,fun h=>h.symm,fun h=>h.symm,fun h=>h.symm,fun h=>h.symm,fun h=>h.symm,fun h=>h.symm,fun h=>h.symm,fun h=>h.symm,fun h=>h.symm⟩
    ·rw [eh,g4];rfl
  ·rw [AaH]
   simp only [L17,Mc,Mn,Li,and_true] at hd
   obtain ⟨d0,d2,d4,d5,d6,d10,d11⟩:=hd
   simp only [d0,d2,d4,d5,d6,d10,d11]
   have nb:=bs.g.next
   have tnx:=t.b.nx
   obtain ⟨F0,hv0⟩:=bs.own
   rw [hlsd] at hv0
   have hrd:RdE 0 cS A1 v0 ls F0:=CZ.rd (fun _=>rfl) hv0
   have fin:(how.length≤i∨ls.length≤a)→(Ab (At Tp A' 40 (pP A1.next 0)) fun t56=>Wc Tp Aw W0 m0 14 [t56] A' fun t57 At57=>Ab (BC t57 0) fun t58=>Ab (BC t57 1) fun t59=>Ab (Ag Tp .neq 3 (.tmp 147) (.const (.int .i64 0)) t59 (.int .i64 0)) fun t60=>Ae t60 (Ab (Bo Tp 40 []) fun t61=>Bb (AB Tp At57 40 (pP A.next 0) t61) fun At62=>Ab (At Tp At62 40 (pP A.next 0)) fun t63=>K (.tuple ⟨[t63,(.int .i64 310)]⟩) At62) (Ab (Ag Tp .neq 9 (.tmp 150) (.tmp 151) t58 (.string s)) fun t64=>Ae t64 (Ab (Bo Tp 40 []) fun t65=>Bb (AB Tp At57 40 (pP A.next 0) t65) fun At66=>Ab (At Tp At66 40 (pP A.next 0)) fun t67=>K (.tuple ⟨[t67,(.int .i64 310)]⟩) At66) (Ab (At Tp At57 40 (pP A1.next 0)) fun t68=>Bb (AB Tp At57 40 (pP A.next 0) t68) fun At69=>Ab (At Tp At69 40 (pP A.next 0)) fun t70=>K (.tuple ⟨[t70,(.int .i64 0)]⟩) At69))):=fun he=>by
    obtain ⟨G,hR,hG⟩:=t.b.rd
    obtain ⟨o1,o2,o3⟩:=t.b.one
    have hdone:=t.j.done he t.r98 t.r107
    have hle:=Ll t.b.wf
    have hleC:=OL t.b.wf.call
    have hrl:=Hu v.call.refs
    have tsz:=t.b.sz
    have hszv:szV v=(bl v.s).length+v.nodes.length+v.Bd.length+szC v.call:=rfl
    have hszc:szC v.call=(bl v.call.queue).length+(bl v.call.tag).length+(bl v.call.body).length+szR v.call.refs:=rfl
    have zA:Go.Abs.AD A' A.next (BQ.cells vN vN vN) 40:=bs.z.keeps t.b.k (by simp)
    have kAA:Ay A A' []:=bs.g.keeps.trans t.b.k (by simp)
    refine Aa (BY t.b.l (D7 v o1.2 o2.2 o3.2) rfl (Gi _ _)) ?_
    have bad:∀ {B:AW},Grow A' B 30000000000→(∀ v,¬ Er v (bl s))→(Ab (Bo Tp 40 []) fun t=>Bb (AB Tp B 40 (pP A.next 0) t) fun C=>Ab (At Tp C 40 (pP A.next 0)) fun t=>K (.tuple ⟨[t,.int .i64 310]⟩) C):=fun {B} g hno=>by
     have gn:=g.next
     exact Aa SK (SY (A:=A) (N:=50000000000) ⟨kAA.trans g.keeps (by simp),g.Az,by omega⟩ (zA.keeps g.keeps (by simp)) rfl (Nl _) (by omega) rfl rfl fun C gC _=>h0 hno C gC)
    refine AbY t.b.wf hR (by omega) (by omega) (by omega) t.b.f (by omega) (fun hno B gB=>?_) (fun hyes B gB=>?_)
    ·have nB:=gB.next
     refine Aa Cw (Aa Cv (Aa BV (Bw.2 ⟨fun _=>bad (gB.more (by omega)) (fun u hu=>?_),fun h=>absurd h (by decide)⟩)))
     have:=hdone u (good u hu)
     subst this
     rw [hu.2.1] at hno;cases hno
    ·have nB:=gB.next
     refine Aa Cw (Aa Cv (Aa BV (Bw.2 ⟨fun h=>absurd rfl h,fun _=>?_⟩)))
     refine Aa CP (Aj.2 ⟨fun h=>bad (gB.more (by omega)) (fun u hu=>?_),fun h=>?_⟩)
     ·have:=hdone u (good u hu)
      subst this
      have h:(!(BP ((Bh v).map txt)==bl s))=true:=h
      rw [hu.2.2] at h;simp at h
     ·have h:(!(BP ((Bh v).map txt)==bl s))=false:=h
      have e:BP ((Bh v).map txt)=bl s:=by simpa using h
      refine Aa (BY (t.b.l.keeps gB.keeps (by simp)) (D7 v o1.2 o2.2 o3.2) rfl (Gi _ _)) ?_
      have hAG:A.next < A1.next:=bs.lt
      have gB2:Grow A' B 30000000000:=gB.more (by omega)
      have nB2:=gB2.next
      have hB5:B.next≤A.next+50000000000:=by clear nB gB gB2;omega
      refine SY (A:=A) (N:=50000000000) ⟨kAA.trans gB.keeps (by simp),gB.Az,hB5⟩ (zA.keeps gB.keeps (by simp)) rfl (Nl _) (by clear nB nB2;omega) (Ep v o1.1 o2.1 o3.1) (D7 v o1.2 o2.2 o3.2) fun C gC kC=>?_
      exact h1 v vn vk vr G C ⟨t.b.wf,hyes,e⟩ (fun u hu=>(hdone u (good u hu)).symm) (by omega) ((hR.keeps gB.keeps (by simp)).keeps kC fun y hy=>by have:=hG y hy;simp;omega) (fun y hy=>by have:=hG y hy;omega) gC
   refine Aa (Ef _ _) (Aa Be (Aq.2 ⟨fun hlt=>?_,fun hge=>fin (.inl ?_)⟩))
   ·have hlt:i < how.length:=by have:(i:Int) < (how.length:Int):=hlt;omega
    have tsz1:=t.sz1 hlt
    have tnx1:=t.nx1 hlt
    refine Aa (Hh.Gr hrd) (Aa Be (Aq.2 ⟨fun hla=>?_,fun hga=>fin (.inr (by omega))⟩))
    have hla:a < ls.length:=by omega
    obtain ⟨w,hw⟩:∃ w,ls[a]? =some w:=⟨_,Ge hla⟩
    obtain ⟨h,hp0,hmem⟩:=Z8 hlt
    have hwl:=wlen hw
    have edr:Ba (ls.drop a)=(bl w).length+1+Ba (ls.drop (a+1)):=by rw [Ch hw];rfl
    have ea:IntKind.i64.wrap ((a:Int)+1)=((a+1:Nat):Int):=wrap_i64 (by omega) (by omega)
    have e2:IntKind.i64.wrap ((i:Int)+1)=((i+1:Nat):Int):=wrap_i64 (by omega) (by omega)
    have es:IntKind.i64.wrap (((a+1:Nat):Int) - 1)=(a:Int):=by rw [wrap_i64 (by omega) (by omega)];omega
    obtain ⟨ad,a1,a2⟩:=ES.at Hh (hrd.keeps t.b.k (by simp)) hw rfl
    have nxt:∀ {A2:AW} {v':EvD} {vn' vk' vr':Value},JT A1 A2 ls how A1.next (a+1) (i+1) v' vn' vk' vr'→∃ g2,g2 < (how.length - i) * 100000000∧I g2 2 [.string s,pP A.next 0,v0,pP A1.next 0,.string (txt how),.int .i64 ((a+1:Nat):Int),.int .i64 ((i+1:Nat):Int)] A2:=fun {A2 v' vn' vk' vr'} s2=>
     ⟨(how.length - (i+1)) * 100000000,by omega,.inr (.inl ⟨rfl,A1,v0,a+1,i+1,v',vn',vk',vr',bs,rfl,by omega,by omega,by omega,s2,rfl⟩)⟩
    refine Aa (v:=.pointer (some ad)) a1 (Aa a2 (Aa Av ?_))
    rw [ea]
    refine Aa (ix9 (s:=txt how) hp0) ?_
    refine Aa Ai (Af.2 ⟨fun hc=>?_,fun hc110=>?_⟩)
    ·obtain rfl:h=110:=Cq (k:=110) (by decide) hc
     refine Pc (s:=w) (by omega) (Co (Ik _ _ _) ?_)
     rw [Kh]
     refine Aa (BE _ 0) (Go.Abs.AD.store (n:=1) (off:=1) (v:=.int .u8 ((CY (bl w) % 256:Nat):Int)) t.b.l t.b.f (by omega) (Gk _ _ _) rfl (show 1+1≤23 by decide) rfl fun A2 l2 k2 n2 f2=>?_)
     have hz:szV { v with node:=CY (bl w) % 256 }≤szV v+(bl w).length:=by simp only [szV];omega
     simp only [E7,Du,kW,Av,Ad,e2]
     refine Ah.2 (nxt (t.set (v':={ v with node:=CY (bl w) % 256 }) (h:=110) hp0 ⟨by decide,by decide,by decide⟩ hw (Grow.refl t.b.f) (by omega) l2 k2 n2 f2 (fun e0 left he0 hl m=>⟨m.kind,fun _=>?_,m.to,m.n,m.x,m.nodes,m.Bd,m.s,m.a,m.call⟩) ⟨rfl,rfl,rfl⟩ ⟨t.b.wf.kind,Nat.mod_lt _ (by decide),t.b.wf.to,t.b.wf.n,t.b.wf.x,t.b.wf.nodes,t.b.wf.Bd,t.b.wf.call⟩ hz))
     have hl:some [Lib.decDigits e0.node]=some [bl w]:=hl
     simp only [Oi,Li,and_true] at hl
     have:=he0.node
     show CY (bl w) % 256=e0.node
     rw [← hl,Ey _ (by omega)];omega
    refine Aa Ai (Af.2 ⟨fun hc=>?_,fun hc116=>?_⟩)
    ·obtain rfl:h=116:=Cq (k:=116) (by decide) hc
     refine Pc (s:=w) (by omega) (Co (Ik _ _ _) ?_)
     rw [Kh]
     refine Aa (CU _ 0) (Go.Abs.AD.store (n:=1) (off:=2) (v:=.int .u8 ((CY (bl w) % 256:Nat):Int)) t.b.l t.b.f (by omega) (Gk _ _ _) rfl (show 2+1≤23 by decide) rfl fun A2 l2 k2 n2 f2=>?_)
     have hz:szV { v with to:=CY (bl w) % 256 }≤szV v+(bl w).length:=by simp only [szV];omega
     simp only [E7,Du,kW,Av,Ad,e2]
     refine Ah.2 (nxt (t.set (v':={ v with to:=CY (bl w) % 256 }) (h:=116) hp0 ⟨by decide,by decide,by decide⟩ hw (Grow.refl t.b.f) (by omega) l2 k2 n2 f2 (fun e0 left he0 hl m=>⟨m.kind,m.node,fun _=>?_,m.n,m.x,m.nodes,m.Bd,m.s,m.a,m.call⟩) ⟨rfl,rfl,rfl⟩ ⟨t.b.wf.kind,t.b.wf.node,Nat.mod_lt _ (by decide),t.b.wf.n,t.b.wf.x,t.b.wf.nodes,t.b.wf.Bd,t.b.wf.call⟩ hz))
     have hl:some [Lib.decDigits e0.to]=some [bl w]:=hl
     simp only [Oi,Li,and_true] at hl
     have:=he0.to
     show CY (bl w) % 256=e0.to
     rw [← hl,Ey _ (by omega)];omega
    refine Aa Ai (Af.2 ⟨fun hc=>?_,fun hc105=>?_⟩)
    ·obtain rfl:h=105:=Cq (k:=105) (by decide) hc
     refine Zu (s:=w) (by omega) fun n hn=>?_
     refine Aa (BG _ 0) (Go.Abs.AD.store (n:=1) (off:=3) (v:=.int .i64 n) t.b.l t.b.f (by omega) (Mj _ _ _) rfl (show 3+1≤23 by decide) rfl fun A2 l2 k2 n2 f2=>?_)
     have hz:szV { v with n:=n }≤szV v+(bl w).length:=by simp only [szV];omega
     simp only [E7,Du,kW,Av,Ad,e2]
     refine Ah.2 (nxt (t.set (v':={ v with n:=n }) (h:=105) hp0 ⟨by decide,by decide,by decide⟩ hw (Grow.refl t.b.f) (by omega) l2 k2 n2 f2 (fun e0 left he0 hl m=>⟨m.kind,m.node,m.to,fun _=>?_,m.x,m.nodes,m.Bd,m.s,m.a,m.call⟩) ⟨rfl,rfl,rfl⟩ ⟨t.b.wf.kind,t.b.wf.node,t.b.wf.to,hn.1,t.b.wf.x,t.b.wf.nodes,t.b.wf.Bd,t.b.wf.call⟩ hz))
     have hl:some [Lib.itoa e0.n]=some [bl w]:=hl
     simp only [Oi,Li,and_true] at hl
     exact hn.2 e0.n he0.n hl.symm
    refine Aa Ai (Af.2 ⟨fun hc=>?_,fun hc88=>?_⟩)
    ·obtain rfl:h=88:=Cq (k:=88) (by decide) hc
     refine Zt (s:=w) (by omega) t.b.f (by omega) fun A1x x e hx g1=>?_
     have n1:=g1.next
     refine Aa Cw (Aa Cv (Aa (DC _ 0) (Go.Abs.AD.store (n:=3) (off:=4) (v:=.agg ⟨x.cells⟩) (t.b.l.keeps g1.keeps (by simp)) g1.Az (by omega) (FR _ _ _) rfl (show 4+3≤23 by decide) rfl fun A2 l2 k2 n2 f2=>?_)))
     have hz:szV { v with x:=x }≤szV v+(bl w).length:=by simp only [szV];omega
     simp only [E7,Du,kW,Av,Ad,e2]
     refine Ah.2 (nxt (t.set (v':={ v with x:=x }) (h:=88) hp0 ⟨by decide,by decide,by decide⟩ hw g1 (by omega) l2 k2 n2 f2 (fun e0 left he0 hl m=>⟨m.kind,m.node,m.to,m.n,fun _=>?_,m.nodes,m.Bd,m.s,m.a,m.call⟩) ⟨rfl,rfl,rfl⟩ ⟨t.b.wf.kind,t.b.wf.node,t.b.wf.to,t.b.wf.n,hx.1,t.b.wf.nodes,t.b.wf.Bd,t.b.wf.call⟩ hz))
     have hl:(if okX e0.x=true then some [Cs e0.x] else none)=some [bl w]:=hl
     split at hl
     ·rename_i hok
      simp only [Oi,Li,and_true] at hl
      exact hx.2 e0.x he0.x hok hl.symm
     ·cases hl
    refine Aa Ai (Af.2 ⟨fun hc=>?_,fun hc99=>?_⟩)
    ·obtain rfl:h=99:=Cq (k:=99) (by decide) hc
     refine Aa AX (Aa (Dz _ 0) (Go.Abs.AD.store (n:=1) (off:=10) (v:=.bool (bl w==Da)) t.b.l t.b.f (by omega) (EL _ _ _) rfl (show 10+1≤23 by decide) rfl fun A2 l2 k2 n2 f2=>?_))
     have hz:szV { v with a:=bl w==Da }≤szV v+(bl w).length:=by simp only [szV];omega
     simp only [E7,Du,kW,Av,Ad,e2]
     refine Ah.2 (nxt (t.set (v':={ v with a:=bl w==Da }) (h:=99) hp0 ⟨by decide,by decide,by decide⟩ hw (Grow.refl t.b.f) (by omega) l2 k2 n2 f2 (fun e0 left he0 hl m=>⟨m.kind,m.node,m.to,m.n,m.x,m.nodes,m.Bd,m.s,fun _=>?_,m.call⟩) ⟨rfl,rfl,rfl⟩ ⟨t.b.wf.kind,t.b.wf.node,t.b.wf.to,t.b.wf.n,t.b.wf.x,t.b.wf.nodes,t.b.wf.Bd,t.b.wf.call⟩ hz))
     have hl:some [Cd e0.a Da MK]=some [bl w]:=hl
     simp only [Oi,Li,and_true] at hl
     show (bl w==Da)=e0.a
     rw [← hl];cases e0.a <;> decide
    refine Aa Ai (Af.2 ⟨fun hc=>?_,fun hc83=>?_⟩)
    ·obtain rfl:h=83:=Cq (k:=83) (by decide) hc
     obtain ⟨u,e,hu⟩:=Jg (bl w)
     have htw:=HY hu
     refine P8 (s:=w) (u:=u) (e:=e) hu (by show (bl w).length < _;omega) t.b.f (by show _+200+20 * (bl w).length < _;omega) fun A1x g1=>?_
     have g1:Grow A' A1x (30+12 * (bl w).length):=g1
     have n1:=g1.next
     refine Aa Cw (Aa Cv (Aa (Eh _ 0) (Go.Abs.AD.store (n:=1) (off:=9) (v:=.string ⟨⟨u⟩⟩) (t.b.l.keeps g1.keeps (by simp)) g1.Az (by omega) (GI _ _ _) rfl (show 9+1≤23 by decide) rfl fun A2 l2 k2 n2 f2=>?_)))
     have hul:=htw.1
     have hz:szV { v with s:=txt u }≤szV v+(bl w).length:=by simp only [szV,Cp];omega
     simp only [E7,Du,kW,Av,Ad,e2]
     refine Ah.2 (nxt (t.set (v':={ v with s:=txt u }) (h:=83) hp0 ⟨by decide,by decide,by decide⟩ hw g1 (by omega) l2 k2 n2 f2 (fun e0 left he0 hl m=>⟨m.kind,m.node,m.to,m.n,m.x,m.nodes,m.Bd,fun _=>?_,m.a,m.call⟩) ⟨rfl,rfl,rfl⟩ ⟨t.b.wf.kind,t.b.wf.node,t.b.wf.to,t.b.wf.n,t.b.wf.x,t.b.wf.nodes,t.b.wf.Bd,t.b.wf.call⟩ hz))
     have hl:some [AV (bl e0.s)]=some [bl w]:=hl
     simp only [Oi,Li,and_true] at hl
     show txt u=e0.s
     rw [(htw.2 _ hl.symm).1];exact E3 _
    refine Aa Ai (Af.2 ⟨fun hc=>?_,fun hc98=>?_⟩)
    ·obtain rfl:h=98:=Cq (k:=98) (by decide) hc
     refine Aa DS ?_
     rw [es]
     have hrn:v.nodes=[]:=t.r98 (by rw [Ch hp0];simp)
     exact Ah.2 ⟨(how.length - i) * 100000000 - 1 - a,by omega,.inr (.inr (.inl ⟨rfl,A1,v0,a,a,i,v,vn,vk,vr,[],bs,rfl,hp0,ha1,Nl _,by omega,by rw [Nat.sub_self,List.take_zero];exact trivial,hrn,⟨v,by rw [← hrn],t.j⟩,t.b,tsz1,tnx1,rfl⟩))⟩
    refine Aa Ai (Af.2 ⟨fun hc=>?_,fun hc107=>?_⟩)
    ·obtain rfl:h=107:=Cq (k:=107) (by decide) hc
     refine Aa DS ?_
     rw [es]
     have hrn:v.Bd=[]:=t.r107 (by rw [Ch hp0];simp)
     exact Ah.2 ⟨(how.length - i) * 100000000 - 1 - a,by omega,.inr (.inr (.inr ⟨rfl,A1,v0,a,a,i,v,vn,vk,vr,[],bs,rfl,hp0,ha1,Nl _,by omega,by rw [Nat.sub_self,List.take_zero];exact trivial,hrn,⟨v,by rw [← hrn],t.j⟩,t.b,tsz1,tnx1,rfl⟩))⟩
    refine Aa Ai (Af.2 ⟨fun hc=>?_,fun hc67=>?_⟩)
    ·obtain rfl:h=67:=Cq (k:=67) (by decide) hc
     refine Aa DS ?_
     rw [es]
     obtain ⟨v2,q1,q2⟩:=UZ (hv0.keeps t.b.k (by simp)) ha1 hla
     refine Aa q1 ?_
     have hdl:Ba (ls.drop a)≤Ba ls:=by omega
     refine AbO (q2 (.refl _ _)) (by omega) t.b.f (by omega) fun A2 c vr2 G2 hc hcw hcs hcr hcG g2=>?_
     have n2:=g2.next
     have hco:=hcr.one
     refine Aa (Dj _ 0) (Go.Abs.AD.store (n:=12) (off:=11) (v:=.agg ⟨c.cells vr2⟩) (t.b.l.keeps g2.keeps (by simp)) g2.Az (by omega) (GJ _ _ _) rfl (show 11+12≤23 by decide) (CX _ hco.1) fun A3 l3 k3 n3 f3=>?_)
     simp only [E7,Du,kW,Av,Ad,e2]
     obtain ⟨F1,F2,F3,o1,o2,_,b1,b2,_⟩:=t.b.fam
     have hF1:=o1.lt
     have hF2:=o2.lt
     have hrow:=t.b.l.lt
     have hG2:A1.next∉G2:=fun hm=>by have:=hcG _ hm;omega
     have hle:=t.b.k.next
     have hd0:=EM hlast hp0 (.inr (.inr rfl))
     have hz:szV { v with call:=c }≤Ba ls:=by simp only [szV] at tsz1 ⊢;omega
     have hlen:¬ (i+1 < how.length):=fun h=>by
      have:=congrArg List.length hd0
      rw [List.length_drop] at this;simp at this;omega
     refine Ah.2 (nxt (v':={ v with call:=c }) (vn':=vn) (vk':=vk) (vr':=vr2) ⟨⟨l3,⟨F1,F2,G2,(o1.keeps g2.keeps (by simp)).keeps k3 (fun x hx hm=>(b1 x hx).2.1 (Ms.1 hm)),(o2.keeps g2.keeps (by simp)).keeps k3 (fun x hx hm=>(b2 x hx).2.1 (Ms.1 hm)),hcr.keeps k3 (fun x hx hm=>hG2 (by rw [← Ms.1 hm];exact hx)),fun x hx=>⟨(b1 x hx).1,(b1 x hx).2.1,(b1 x hx).2.2.1,fun hm=>(by have:=hcG x hm;have:=hF1 x hx;omega)⟩,fun x hx=>⟨(b2 x hx).1,(b2 x hx).2.1,fun hm=>(by have:=hcG x hm;have:=hF2 x hx;omega)⟩,fun x hx=>⟨(by have:=hcG x hx;omega),fun e=>hG2 (by rw [← e];exact hx)⟩⟩,(t.b.k.trans g2.keeps (by simp)).trans k3 fun x hx=>.inr (by rw [Ms.1 hx];exact Nl _),f3,Nl _,⟨t.b.wf.kind,t.b.wf.node,t.b.wf.to,t.b.wf.n,t.b.wf.x,t.b.wf.nodes,t.b.wf.Bd,hcw⟩,hz,by omega⟩,fun h=>absurd h hlen,fun h=>absurd h hlen,t.j.call hp0 hlast hc,fun hm=>(by rw [hd0] at hm;cases hm),fun hm=>(by rw [hd0] at hm;cases hm)⟩)
    rcases OI _ h hmem with rfl | rfl | rfl | rfl | rfl | rfl | rfl | rfl | rfl
    ·exact absurd rfl hc110
    ·exact absurd rfl hc116
    ·exact absurd rfl hc105
    ·exact absurd rfl hc88
    ·exact absurd rfl hc99
    ·exact absurd rfl hc83
    ·exact absurd rfl hc98
    ·exact absurd rfl hc107
    ·exact absurd rfl hc67
   ·have hge:¬ ((i:Int) < (how.length:Int)):=hge
    omega
  ·rw [AaG]
   simp only [L17,Mc,Mn,Li,and_true] at hd
   obtain ⟨d0,d2,d4,d5,d6,d10,d11⟩:=hd
   simp only [d0,d2,d4,d5,d6,d10,d11]
   have nb:=bs.g.next
   have hlt:=(Gs.1 hp0).1
   obtain ⟨F0,hv0⟩:=bs.own
   rw [hlsd] at hv0
   have hrd:RdE 0 cS A1 v0 ls F0:=CZ.rd (fun _=>rfl) hv0
   obtain ⟨o1,o2,o3⟩:=t.one
   have e2:IntKind.i64.wrap ((i:Int)+1)=((i+1:Nat):Int):=wrap_i64 (by omega) (by omega)
   refine Aa (Hh.Gr (hrd.keeps t.k (by simp))) (Aa Be (Aq.2 ⟨fun hla=>?_,fun hga=>?_⟩))
   ·have hla:a < ls.length:=by omega
    obtain ⟨w,hw⟩:∃ w,ls[a]? =some w:=⟨_,Ge hla⟩
    have hwl:=wlen hw
    have edr:Ba (ls.drop a)=(bl w).length+1+Ba (ls.drop (a+1)):=by rw [Ch hw];rfl
    have ea:IntKind.i64.wrap ((a:Int)+1)=((a+1:Nat):Int):=wrap_i64 (by omega) (by omega)
    obtain ⟨ad,a1,a2⟩:=ES.at Hh (hrd.keeps t.k (by simp)) hw rfl
    refine Aa (DB _ 0) (Aa (Ko t.l o1.2) (Aa (v:=.pointer (some ad)) a1 (Aa a2 (Pc (s:=w) (by omega) ?_))))
    refine ck (Ko t.l o1.2) (ck (DB _ 0) ?_)
    refine Co (Ik _ _ _) ?_
    rw [Kh]
    refine Bs (SE _ _) rfl t.f (by omega) fun A2 m2=>?_
    have n2:=m2.next
    have k2:=m2.keeps t.f
    have r2:=t.l.keeps k2 (by simp)
    obtain ⟨ad2,b1,b2⟩:=ES.at Hh ((hrd.keeps t.k (by simp)).keeps k2 (by simp)) hw rfl
    have ead:ad2=ad:=by
     rw [a1] at b1
     simpa using b1.symm
    subst ead
    refine Aa3 m2.row (ckb (by rw [Ik,Kh]) (ck b2 (ck b1 (Ao.2 (Ao.2 (ck (Ko r2 o1.2) (ck (DB _ 0) ?_)))))))
    obtain ⟨F1,F2,F3,z1,z2,z3,y1,y2,y3⟩:=t.fam
    have x1:=z1.lt
    have x2:=z2.lt
    have x3:=z3.fam
    have q1:=z1
    have q2:∀ x∈F1,A1.next≤x:=fun x hx=>(y1 x hx).1
    have q3:A1.next∉F1:=fun hm=>(y1 _ hm).2.1 rfl
    have hll2:=hall.len
    rw [List.length_take,List.length_drop] at hll2
    rw [hrl] at q1
    refine ES.append I6 (p:=CY (bl w) % 256) (q1.keeps k2 (by simp)) m2.BU m2.Az (by omega) (by omega) fun v' A3 F3n p3 k3 hF3 n3 f3=>?_
    have hqF:A1.next∉F3n:=fun hm=>by
     rcases hF3 _ hm with e | e
     ·exact q3 e
     ·have:=r2.lt;omega
    have hle:A1.next≤A'.next:=t.k.next
    have hle2:=k2.next
    have p3o:=p3.one
    have qv:v'.cells.toList=[v']:=by obtain ⟨_,_,e⟩:=(CZ.rd (fun _=>rfl) p3).slice;rw [e];rfl
    refine Aa (DB _ 0) (Go.Abs.AD.store (n:=1) (off:=7) (v:=v') (r2.keeps k3 q3) f3 (by omega) (MS _ _ _) (by rw [qv];rfl) (show 7+1≤23 by decide) (by rw [qv];simp [p3o.1]) fun A4 l4 k4 n4 f4=>?_)
    rw [qv] at l4
    refine Aa Av ?_
    rw [ea]
    obtain ⟨c1,c3,c4⟩:=hc1
    have K4:Ay A' A4 (A1.next::F1):=((k2.more (T:=A1.next::F1) (by simp)).trans k3 fun y hy=>.inl (List.mem_cons_of_mem _ hy)).trans k4 fun y hy=>.inl (by rw [Ms.1 hy];simp)
    have hsz2:szV { v with nodes:=l++[CY (bl w) % 256] }+Ba (ls.drop (a+1))≤Ba ls:=by
     simp only [szV,hrl] at hsz
     simp only [szV,Lq,Lc,Ln]
     omega
    have nq:∀ {F:List Nat},A1.next∉F→∀ x∈F,x∉[A1.next]:=fun hF x hx hm=>hF (by rw [← Ms.1 hm];exact hx)
    refine Ah.2 ⟨(how.length - i) * 100000000 - 1 - (a+1),by omega,.inr (.inr (.inl ⟨rfl,A1,v0,a0,a+1,i,{ v with nodes:=l++[CY (bl w) % 256] },v',vk,vr,l++[CY (bl w) % 256],bs,rfl,hp0,h1a,by omega,by omega,?_,rfl,⟨c1,by rw [c3],c4⟩,⟨l4,?_,?_,f4,Nl _,⟨t.wf.kind,t.wf.node,t.wf.to,t.wf.n,t.wf.x,fun x hx=>?_,t.wf.Bd,t.wf.call⟩,by omega,by omega⟩,hsz2,by omega,rfl⟩))⟩
    ·have e:(ls.drop a0).take (a+1 - a0)=(ls.drop a0).take (a - a0)++[w]:=by
      rw [show a+1 - a0=(a - a0)+1 by omega]
      refine Bm ?_
      rw [List.getElem?_drop,show a0+(a - a0)=a by omega];exact hw
     rw [e]
     exact hall.snoc (fun m hm e=>by rw [e,Ey _ (by omega)];omega)
    ·refine ⟨F3n,F2,F3,(p3.keeps k4 (fun x hx hm=>hqF (by rw [← Ms.1 hm];exact hx))),(z2.keeps K4 (fun x hx hm=>by rcases List.mem_cons.1 hm with e | e;exact (y2 x hx).2.1 e;exact (y1 x e).2.2.1 hx)),(z3.keeps K4 (fun x hx hm=>by rcases List.mem_cons.1 hm with e | e;exact (y3 x hx).2 e;exact (y1 x e).2.2.2 hx)),fun x hx=>?_,y2,y3⟩
     rcases hF3 x hx with e | e
     ·exact y1 x e
     ·exact ⟨by omega,by have:=t.l.lt;omega,fun hm=>by have:=x2 x hm;omega,fun hm=>by have:=x3 x hm;omega⟩
    ·exact t.k.trans K4 fun x hx=>.inr (by
      rcases List.mem_cons.1 hx with h | h
      ·rw [h];exact Nl _
      ·exact q2 x h)
    ·rcases List.mem_append.1 hx with hx | hx
     ·exact t.wf.nodes x (by rw [hrl];exact hx)
     ·rw [Ms.1 hx];exact Nat.mod_lt _ (by decide)
   ·have hae:a=ls.length:=by omega
    subst hae
    have hd0:=EM hlast hp0 (.inl rfl)
    rw [List.take_of_length_le (by rw [List.length_drop];omega)] at hall
    obtain ⟨c1,c3,c4⟩:=hc1
    have j2:=c4.nodes hp0 hlast hall
    rw [← c3] at j2
    have hlen:¬ (i+1 < how.length):=fun h=>by
     have:=congrArg List.length hd0
     rw [List.length_drop] at this;simp at this;omega
    simp only [Av,Ad,e2]
    exact Ah.2 ⟨(how.length - (i+1)) * 100000000,by omega,.inr (.inl ⟨rfl,A1,v0,ls.length,i+1,v,vn,vk,vr,bs,rfl,by omega,by omega,by omega,⟨t,fun h=>absurd h hlen,fun h=>absurd h hlen,j2,fun hm=>(by rw [hd0] at hm;cases hm),fun hm=>(by rw [hd0] at hm;cases hm)⟩,rfl⟩)⟩
  ·rw [AaF]
   simp only [L17,Mc,Mn,Li,and_true] at hd
   obtain ⟨d0,d2,d4,d5,d6,d10,d11⟩:=hd
   simp only [d0,d2,d4,d5,d6,d10,d11]
   have nb:=bs.g.next
   have hlt:=(Gs.1 hp0).1
   obtain ⟨F0,hv0⟩:=bs.own
   rw [hlsd] at hv0
   have hrd:RdE 0 cS A1 v0 ls F0:=CZ.rd (fun _=>rfl) hv0
   obtain ⟨o1,o2,o3⟩:=t.one
   have e2:IntKind.i64.wrap ((i:Int)+1)=((i+1:Nat):Int):=wrap_i64 (by omega) (by omega)
   refine Aa (Hh.Gr (hrd.keeps t.k (by simp))) (Aa Be (Aq.2 ⟨fun hla=>?_,fun hga=>?_⟩))
   ·have hla:a < ls.length:=by omega
    obtain ⟨w,hw⟩:∃ w,ls[a]? =some w:=⟨_,Ge hla⟩
    have hwl:=wlen hw
    have edr:Ba (ls.drop a)=(bl w).length+1+Ba (ls.drop (a+1)):=by rw [Ch hw];rfl
    have ea:IntKind.i64.wrap ((a:Int)+1)=((a+1:Nat):Int):=wrap_i64 (by omega) (by omega)
    obtain ⟨ad,a1,a2⟩:=ES.at Hh (hrd.keeps t.k (by simp)) hw rfl
    refine Aa (DA _ 0) (Aa (Km t.l o2.2) (Aa (v:=.pointer (some ad)) a1 (Aa a2 (Zu (s:=w) (by omega) fun nn hnn=>?_))))
    refine ck (Km t.l o2.2) (ck (DA _ 0) ?_)
    refine Bs (V8 _ _) rfl t.f (by omega) fun A2 m2=>?_
    have n2:=m2.next
    have k2:=m2.keeps t.f
    have r2:=t.l.keeps k2 (by simp)
    obtain ⟨ad2,b1,b2⟩:=ES.at Hh ((hrd.keeps t.k (by simp)).keeps k2 (by simp)) hw rfl
    have ead:ad2=ad:=by
     rw [a1] at b1
     simpa using b1.symm
    subst ead
    refine Aa2 m2.row (ck b2 (ck b1 (Ao.2 (Ao.2 (ck (Km r2 o2.2) (ck (DA _ 0) ?_))))))
    obtain ⟨F1,F2,F3,z1,z2,z3,y1,y2,y3⟩:=t.fam
    have x1:=z1.lt
    have x2:=z2.lt
    have x3:=z3.fam
    have q1:=z2
    have q2:∀ x∈F2,A1.next≤x:=fun x hx=>(y2 x hx).1
    have q3:A1.next∉F2:=fun hm=>(y2 _ hm).2.1 rfl
    have hll2:=hall.len
    rw [List.length_take,List.length_drop] at hll2
    rw [hrl] at q1
    refine ES.append I5 (p:=nn) (q1.keeps k2 (by simp)) m2.BU m2.Az (by omega) (by omega) fun v' A3 F3n p3 k3 hF3 n3 f3=>?_
    have hqF:A1.next∉F3n:=fun hm=>by
     rcases hF3 _ hm with e | e
     ·exact q3 e
     ·have:=r2.lt;omega
    have hle:A1.next≤A'.next:=t.k.next
    have hle2:=k2.next
    have p3o:=p3.one
    have qv:v'.cells.toList=[v']:=by obtain ⟨_,_,e⟩:=(CZ.rd (fun _=>rfl) p3).slice;rw [e];rfl
    refine Aa (DA _ 0) (Go.Abs.AD.store (n:=1) (off:=8) (v:=v') (r2.keeps k3 q3) f3 (by omega) (UU _ _ _) (by rw [qv];rfl) (show 8+1≤23 by decide) (by rw [qv];simp [p3o.1]) fun A4 l4 k4 n4 f4=>?_)
    rw [qv] at l4
    refine Aa Av ?_
    rw [ea]
    obtain ⟨c1,c3,c4⟩:=hc1
    have K4:Ay A' A4 (A1.next::F2):=((k2.more (T:=A1.next::F2) (by simp)).trans k3 fun y hy=>.inl (List.mem_cons_of_mem _ hy)).trans k4 fun y hy=>.inl (by rw [Ms.1 hy];simp)
    have hsz2:szV { v with Bd:=l++[nn] }+Ba (ls.drop (a+1))≤Ba ls:=by
     simp only [szV,hrl] at hsz
     simp only [szV,Lq,Lc,Ln]
     omega
    have nq:∀ {F:List Nat},A1.next∉F→∀ x∈F,x∉[A1.next]:=fun hF x hx hm=>hF (by rw [← Ms.1 hm];exact hx)
    refine Ah.2 ⟨(how.length - i) * 100000000 - 1 - (a+1),by omega,.inr (.inr (.inr ⟨rfl,A1,v0,a0,a+1,i,{ v with Bd:=l++[nn] },vn,v',vr,l++[nn],bs,rfl,hp0,h1a,by omega,by omega,?_,rfl,⟨c1,by rw [c3],c4⟩,⟨l4,?_,?_,f4,Nl _,⟨t.wf.kind,t.wf.node,t.wf.to,t.wf.n,t.wf.x,t.wf.nodes,fun x hx=>?_,t.wf.call⟩,by omega,by omega⟩,hsz2,by omega,rfl⟩))⟩
    ·have e:(ls.drop a0).take (a+1 - a0)=(ls.drop a0).take (a - a0)++[w]:=by
      rw [show a+1 - a0=(a - a0)+1 by omega]
      refine Bm ?_
      rw [List.getElem?_drop,show a0+(a - a0)=a by omega];exact hw
     rw [e]
     exact hall.snoc hnn
    ·refine ⟨F1,F3n,F3,(z1.keeps K4 (fun x hx hm=>by rcases List.mem_cons.1 hm with e | e;exact (y1 x hx).2.1 e;exact (y1 x hx).2.2.1 e)),(p3.keeps k4 (fun x hx hm=>hqF (by rw [← Ms.1 hm];exact hx))),(z3.keeps K4 (fun x hx hm=>by rcases List.mem_cons.1 hm with e | e;exact (y3 x hx).2 e;exact (y2 x e).2.2 hx)),fun x hx=>⟨(y1 x hx).1,(y1 x hx).2.1,fun hm=>?_,(y1 x hx).2.2.2⟩,fun x hx=>?_,y3⟩
     ·rcases hF3 x hm with e | e
      ·exact (y1 x hx).2.2.1 e
      ·have:=x1 x hx;omega
     ·rcases hF3 x hx with e | e
      ·exact y2 x e
      ·exact ⟨by omega,by have:=t.l.lt;omega,fun hm=>by have:=x3 x hm;omega⟩
    ·exact t.k.trans K4 fun x hx=>.inr (by
      rcases List.mem_cons.1 hx with h | h
      ·rw [h];exact Nl _
      ·exact q2 x h)
    ·rcases List.mem_append.1 hx with hx | hx
     ·exact t.wf.Bd x (by rw [hrl];exact hx)
     ·rw [Ms.1 hx];exact hnn.1
   ·have hae:a=ls.length:=by omega
    subst hae
    have hd0:=EM hlast hp0 (.inr (.inl rfl))
    rw [List.take_of_length_le (by rw [List.length_drop];omega)] at hall
    obtain ⟨c1,c3,c4⟩:=hc1
    have j2:=c4.Bd hp0 hlast hall
    rw [← c3] at j2
    have hlen:¬ (i+1 < how.length):=fun h=>by
     have:=congrArg List.length hd0
     rw [List.length_drop] at this;simp at this;omega
    simp only [Av,Ad,e2]
    exact Ah.2 ⟨(how.length - (i+1)) * 100000000,by omega,.inr (.inl ⟨rfl,A1,v0,ls.length,i+1,v,vn,vk,vr,bs,rfl,by omega,by omega,by omega,⟨t,fun h=>absurd h hlen,fun h=>absurd h hlen,j2,fun hm=>(by rw [hd0] at hm;cases hm),fun hm=>(by rw [hd0] at hm;cases hm)⟩,rfl⟩)⟩
 rw [e17]
 refine AI EK hf (by omega) rfl fun B1 m1=>?_
 have n1:=m1.next
 refine AbP (by omega) m1.Az (by omega) fun A1 v0 F0 hv0 hF0 g1=>?_
 have n2:=g1.next
 have hlt:A.next < A1.next:=by have:=g1.le;omega
 have bs:BS A s A1 v0:=⟨⟨F0,hv0⟩,m1.BU.keeps g1.keeps (by simp),⟨(m1.keeps hf).trans g1.keeps (by simp),g1.Az,by omega⟩,hlt⟩
 refine AI EK g1.Az (by omega) rfl fun A2 m2=>?_
 have n3:=m2.next
 have ew:(if vb < 1 then vb else 0)=0:=by
  by_cases hh:vb < 1
  ·rw [if_pos hh];omega
  ·rw [Ff hh]
 refine Ah.2 ⟨_,.inl ⟨rfl,A1,v0,1,bs,by rw [ew];rfl,by omega,by omega,?_,(Grow.made m2 g1.Az).more (by omega),rfl⟩⟩
 rw [ew];exact m2.BU
end
theorem Qb {v:EvD} {vn vk vr:Value} {A:AW} {b:Nat} {e:TypeId} (h:Go.Abs.AD A b (v.cells vn vk vr) e) (hv:isTuple vr=false):At Tp A 36 (pP b 21)=some (vr):=by
 rw [XB,AF h.row]
 exact Ci rfl hv
theorem WU {c d:Ax} (h1:c.what=d.what) (h2:c.ses=d.ses) (h3:c.queue=d.queue) (h4:c.tag=d.tag) (h5:c.x=d.x) (h6:c.n=d.n) (h7:c.a=d.a) (h8:c.b=d.b) (h9:c.refs=d.refs) (h10:c.body=d.body):c=d:=by
 cases c;cases d
 simp only at h1 h2 h3 h4 h5 h6 h7 h8 h9 h10
 simp only [h1,h2,h3,h4,h5,h6,h7,h8,h9,h10]
theorem Aba {v w:EvD} (h1:v.kind=w.kind) (h2:v.node=w.node) (h3:v.to=w.to) (h4:v.n=w.n) (h5:v.x=w.x) (h6:v.nodes=w.nodes) (h7:v.Bd=w.Bd) (h8:v.s=w.s) (h9:v.a=w.a) (h10:v.call=w.call):v=w:=by
 cases v;cases w
 simp only at h1 h2 h3 h4 h5 h6 h7 h8 h9 h10
 simp only [h1,h2,h3,h4,h5,h6,h7,h8,h9,h10]
section
variable {W0:World} {m0:Inj Tp}
set_option maxHeartbeats 4000000 in
theorem ZD {v w:EvD} {vn vk vr wn wk wr:Value} {G H:List Nat} {A:AW} {K:Value→AW→Prop} (hv:RdV A v vn vk vr G) (hw:RdV A w wn wk wr H) (hf:AH A) (hA:A.next+10 < Ap) (hl:szV v < 900000000) (hm:szV w < 900000000)
  (hk:∀ A' (b:Bool),(b=true↔v=w)→Grow A A' 10→K (.bool b) A'):Wc Tp Aw W0 m0 16 [.agg ⟨v.cells vn vk vr⟩,.agg ⟨w.cells wn wk wr⟩] A K:=by
 obtain ⟨⟨vn1,vn2⟩,⟨vk1,vk2⟩,vr1,vr2⟩:=hv.one
 obtain ⟨⟨wn1,wn2⟩,⟨wk1,wk2⟩,wr1,wr2⟩:=hw.one
 have hl1:=Hu v.call.refs
 have hl2:szV v=(bl v.s).length+v.nodes.length+v.Bd.length+((bl v.call.queue).length+(bl v.call.tag).length+(bl v.call.body).length+szR v.call.refs):=rfl
 have hm1:=Hu w.call.refs
 have hm2:szV w=(bl w.s).length+w.nodes.length+w.Bd.length+((bl w.call.queue).length+(bl w.call.tag).length+(bl w.call.body).length+szR w.call.refs):=rfl
 let B:AW→Prop:=fun A'=>Go.Abs.AD A' A.next (v.cells vn vk vr) 40∧Go.Abs.AD A' (A.next+1) (w.cells wn wk wr) 40∧Grow A A' 2∧v.nodes.length=w.nodes.length∧v.Bd.length=w.Bd.length∧v.call.refs.length=w.call.refs.length
 let I:Nat→Nat→List Value→AW→Prop:=fun g id vals A'=>
  (id=0∧∃ i:Nat,vals=[pP A.next 0,pP (A.next+1) 0,.int .i64 (i:Int)]∧i≤v.nodes.length∧v.nodes.take i=w.nodes.take i∧B A'∧g=2000000000+(v.nodes.length - i))∨
  (id=2∧∃ i:Nat,vals=[pP A.next 0,pP (A.next+1) 0,.int .i64 (i:Int)]∧i≤v.Bd.length∧v.Bd.take i=w.Bd.take i∧v.nodes=w.nodes∧B A'∧g=1000000000+(v.Bd.length - i))∨
  (id=4∧∃ i:Nat,vals=[pP A.next 0,pP (A.next+1) 0,.int .i64 (i:Int)]∧i≤v.call.refs.length∧v.call.refs.take i=w.call.refs.take i∧v.nodes=w.nodes∧v.Bd=w.Bd∧B A'∧g=v.call.refs.length - i)
 have noB:∀ {A':AW} {P:Prop},Grow A A' 2→(v=w→P)→¬ P→K (.bool false) A':=fun {A' P} g h1 h2=>hk A' false ⟨fun h=>(by cases h),fun h=>absurd (h1 h) h2⟩ (g.more (by omega))
 refine w16 _ _ _ (c16 (I:=I) ?_) ?_
 ·rintro g id vals A' d (⟨rfl,i,rfl,hi,he,⟨r1,r2,gr,q1,q2,q3⟩,rfl⟩ | ⟨rfl,i,rfl,hi,he,e1,⟨r1,r2,gr,q1,q2,q3⟩,rfl⟩ | ⟨rfl,i,rfl,hi,he,e1,e2',⟨r1,r2,gr,q1,q2,q3⟩,rfl⟩) hd
  ·rw [AaL]
   simp only [L16,Mc,Mn,Li,and_true] at hd
   obtain ⟨d2,d3,d5⟩:=hd
   simp only [d2,d3,d5]
   obtain ⟨Fa,ha,_⟩:=(hv.keeps gr.keeps (by simp)).n
   obtain ⟨Fb,hb,_⟩:=(hw.keeps gr.keeps (by simp)).n
   refine Aa (DB _ 0) (Aa (Ko r1 vn2) (Aa (I6.Gr ha) (Aa Be (Aq.2 ⟨fun hlt=>?_,fun hge=>?_⟩))))
   ·have hlt:i < v.nodes.length:=by omega
    have hp:=Ge hlt
    have hq:=Ge (l:=w.nodes) (i:=i) (by omega)
    have e2:IntKind.i64.wrap ((i:Int)+1)=((i+1:Nat):Int):=wrap_i64 (by omega) (by omega)
    obtain ⟨a,a1,a2⟩:=ES.at I6 ha hp rfl
    obtain ⟨b,b1,b2⟩:=ES.at I6 hb hq rfl
    refine Aa (DB _ 0) (Aa (Ko r1 vn2) (Aa a1 (Aa a2 (Aa (DB _ 0) (Aa (Ko r2 wn2) (Aa b1 (Aa b2 (Aa BV (Bw.2 ⟨fun hn=>?_,fun hn=>?_⟩)))))))))
    ·exact noB gr (P:=v.nodes[i]? =w.nodes[i]?) (fun h=>by rw [h]) (fun h=>by rw [hp,hq] at h;simp only [Oi] at h;exact hn (by rw [h]))
    ·simp only [Av,Ad,e2]
     exact Ah.2 ⟨2000000000+(v.nodes.length - (i+1)),by omega,.inl ⟨rfl,i+1,rfl,by omega,Jj hp hq he (by omega),⟨r1,r2,gr,q1,q2,q3⟩,rfl⟩⟩
   ·have hil:i=v.nodes.length:=by omega
    subst hil
    rw [List.take_length,q1,List.take_length] at he
    exact Ah.2 ⟨1000000000+(v.Bd.length - 0),by omega,.inr (.inl ⟨rfl,0,rfl,by omega,by simp,he,⟨r1,r2,gr,q1,q2,q3⟩,rfl⟩)⟩
  ·rw [AaK]
   simp only [L16,Mc,Mn,Li,and_true] at hd
   obtain ⟨d2,d3,d5⟩:=hd
   simp only [d2,d3,d5]
   obtain ⟨Fa,ha,_⟩:=(hv.keeps gr.keeps (by simp)).k
   obtain ⟨Fb,hb,_⟩:=(hw.keeps gr.keeps (by simp)).k
   refine Aa (DA _ 0) (Aa (Km r1 vk2) (Aa (I5.Gr ha) (Aa Be (Aq.2 ⟨fun hlt=>?_,fun hge=>?_⟩))))
   ·have hlt:i < v.Bd.length:=by omega
    have hp:=Ge hlt
    have hq:=Ge (l:=w.Bd) (i:=i) (by omega)
    have e2:IntKind.i64.wrap ((i:Int)+1)=((i+1:Nat):Int):=wrap_i64 (by omega) (by omega)
    obtain ⟨a,a1,a2⟩:=ES.at I5 ha hp rfl
    obtain ⟨b,b1,b2⟩:=ES.at I5 hb hq rfl
    refine Aa (DA _ 0) (Aa (Km r1 vk2) (Aa a1 (Aa a2 (Aa (DA _ 0) (Aa (Km r2 wk2) (Aa b1 (Aa b2 (Aa BV (Bw.2 ⟨fun hn=>?_,fun hn=>?_⟩)))))))))
    ·exact noB gr (P:=v.Bd[i]? =w.Bd[i]?) (fun h=>by rw [h]) (fun h=>by rw [hp,hq] at h;simp only [Oi] at h;exact hn (by rw [h]))
    ·simp only [Av,Ad,e2]
     exact Ah.2 ⟨1000000000+(v.Bd.length - (i+1)),by omega,.inr (.inl ⟨rfl,i+1,rfl,by omega,Jj hp hq he (by omega),e1,⟨r1,r2,gr,q1,q2,q3⟩,rfl⟩)⟩
   ·have hil:i=v.Bd.length:=by omega
    subst hil
    rw [List.take_length,q2,List.take_length] at he
    exact Ah.2 ⟨v.call.refs.length - 0,by omega,.inr (.inr ⟨rfl,0,rfl,by omega,by simp,e1,he,⟨r1,r2,gr,q1,q2,q3⟩,rfl⟩)⟩
  ·rw [AaJ]
   simp only [L16,Mc,Mn,Li,and_true] at hd
   obtain ⟨d2,d3,d5⟩:=hd
   simp only [d2,d3,d5]
   obtain ⟨Fa,ha,_⟩:=(hv.keeps gr.keeps (by simp)).r
   obtain ⟨Fb,hb,_⟩:=(hw.keeps gr.keeps (by simp)).r
   have fa2:∀ b:Nat,Ac Tp 38 (pP b 11) 8=some (pP b 21):=fun b=>C0 b 11
   refine Aa (Dj _ 0) (Aa (fa2 _) (Aa (Qb r1 vr2) (Aa (ha.len I3) (Aa Be (Aq.2 ⟨fun hlt=>?_,fun hge=>?_⟩)))))
   ·have hlt:i < v.call.refs.length:=by omega
    have hp:=Ge hlt
    have hq:=Ge (l:=w.call.refs) (i:=i) (by omega)
    have e2:IntKind.i64.wrap ((i:Int)+1)=((i+1:Nat):Int):=wrap_i64 (by omega) (by omega)
    obtain ⟨a,oa,a1,_,a2⟩:=ha.at I3 hp
    obtain ⟨b,ob,b1,_,b2⟩:=hb.at I3 hq
    refine Aa (Dj _ 0) (Aa (fa2 _) (Aa (Qb r1 vr2) (Aa a1 (Aa a2 (Aa (Dj _ 0) (Aa (fa2 _) (Aa (Qb r2 wr2) (Aa b1 (Aa b2 (Aa (Z6 _ _ _ _) (Aj.2 ⟨fun hn=>?_,fun hn=>?_⟩)))))))))))
    ·exact noB gr (P:=v.call.refs[i]? =w.call.refs[i]?) (fun h=>by rw [h]) (fun h=>by rw [hp,hq] at h;simp only [Oi] at h;rw [h,Jn.2 rfl] at hn;cases hn)
    ·simp only [Av,Ad,e2]
     exact Ah.2 ⟨v.call.refs.length - (i+1),by omega,.inr (.inr ⟨rfl,i+1,rfl,by omega,Jj hp hq he (Jn.1 (by simpa using hn)),e1,e2',⟨r1,r2,gr,q1,q2,q3⟩,rfl⟩)⟩
   ·have hil:i=v.call.refs.length:=by omega
    subst hil
    rw [List.take_length,q3,List.take_length] at he
    have ng:=gr.next
    have le0:=gr.le
    have f0:=gr.Az
    refine AI Gc f0 (by omega) rfl fun A3 m3=>OW m3.row ?_
    have n3:=m3.next
    refine AI Gc m3.Az (by omega) rfl fun A4 m4=>OW m4.row ?_
    have n4:=m4.next
    have k3:=m3.keeps f0
    have k4:=m4.keeps m3.Az
    have hr1:=r1.lt
    have hr2:=r2.lt
    have c4:=m3.BU.keeps k4 (by simp)
    have e4:=(r1.keeps k3 (by simp)).keeps k4 (by simp)
    have f4:=(r2.keeps k3 (by simp)).keeps k4 (by simp)
    refine OW c4.row (Aa (Dj _ 0) (Aa (Kp e4 vr2) (Aa (Dj _ 0) (Aa (Kp f4 wr2) ?_))))
    refine storeAll (n:=12) (new:=v.call.cells vr) c4 m4.Az (by omega) (GJ _ _ _) rfl rfl (CX _ vr1) fun A5 c5 k5 n5 f5=>?_
    have q5:=f4.keeps k5 (by simp;omega)
    refine ck (Kp q5 wr2) (ck (Dj _ 0) ?_)
    refine storeAll (n:=12) (new:=w.call.cells wr) (m4.BU.keeps k5 (by simp;omega)) f5 (by omega) (GJ _ _ _) rfl rfl (CX _ wr1) fun A6 d6 k6 n6 f6=>?_
    have c6:=c5.keeps k6 (by simp;omega)
    have e6:=(e4.keeps k5 (by simp;omega)).keeps k6 (by simp;omega)
    have q6:=q5.keeps k6 (by simp;omega)
    have g6:Grow A A6 10:=by
     refine ⟨?_,f6,by omega⟩
     have a:=(gr.keeps.trans k3 (by simp)).trans k4 (by simp)
     exact (a.trans k5 fun x hx=>.inr (by rw [Ms.1 hx];omega)).trans k6 fun x hx=>.inr (by rw [Ms.1 hx];omega)
    have no:∀ {P:Prop},(v=w→P)→¬ P→K (.bool false) A6:=fun h1 h2=>hk A6 false ⟨fun h=>(by cases h),fun h=>absurd (h1 h) h2⟩ g6
    refine Aa (DQ _ 0) (Aa (Mi e6) (Aa (DQ _ 0) (Aa (Mi q6) (Aa Ai (Af.2 ⟨fun he_kind=>?_,fun h=>no (P:=v.kind=w.kind) (fun e=>by rw [e]) fun e=>h (by rw [e])⟩)))))
    have he_kind:v.kind=w.kind:=by omega
    refine Aa (BE _ 0) (Aa (FQ e6) (Aa (BE _ 0) (Aa (FQ q6) (Aa Ai (Af.2 ⟨fun he_node=>?_,fun h=>no (P:=v.node=w.node) (fun e=>by rw [e]) fun e=>h (by rw [e])⟩)))))
    have he_node:v.node=w.node:=by omega
    refine Aa (CU _ 0) (Aa (Ju e6) (Aa (CU _ 0) (Aa (Ju q6) (Aa Ai (Af.2 ⟨fun he_to=>?_,fun h=>no (P:=v.to=w.to) (fun e=>by rw [e]) fun e=>h (by rw [e])⟩)))))
    have he_to:v.to=w.to:=by omega
    refine Aa (BG _ 0) (Aa (EZ e6) (Aa (BG _ 0) (Aa (EZ q6) (Aa Ai (Af.2 ⟨fun he_n=>?_,fun h=>no (P:=v.n=w.n) (fun e=>by rw [e]) fun e=>h (by rw [e])⟩)))))
    refine Aa (DC _ 0) (Aa (Mh e6) (Aa (DC _ 0) (Aa (Mh q6) (Aa (VR _ _ _ _) (Aj.2 ⟨fun he_x=>?_,fun h=>no (P:=v.x=w.x) (fun e=>by rw [e]) fun e=>by rw [e,Dr.2 rfl] at h;cases h⟩)))))
    have he_x:v.x=w.x:=Dr.1 he_x
    refine Aa (Eh _ 0) (Aa (NV e6) (Aa (Eh _ 0) (Aa (NV q6) (Aa AX (Aj.2 ⟨fun he_s=>?_,fun h=>no (P:=v.s=w.s) (fun e=>by rw [e]) fun e=>by rw [e] at h;simp at h⟩)))))
    have he_s:v.s=w.s:=ED (eq_of_beq he_s)
    refine Aa (Dz _ 0) (Aa (HE e6) (Aa (Dz _ 0) (Aa (HE q6) (Aa (eqB _ _ _ _) (Aj.2 ⟨fun he_a=>?_,fun h=>no (P:=v.a=w.a) (fun e=>by rw [e]) fun e=>by rw [e] at h;simp at h⟩)))))
    have he_a:v.a=w.a:=eq_of_beq he_a
    refine Aa (DJ _ 0) (Aa (NO c6) (Aa (DJ _ 0) (Aa (NO d6) (Aa Ai (Af.2 ⟨fun hc_what=>?_,fun h=>no (P:=v.call.what=w.call.what) (fun e=>by rw [e]) fun e=>h (by rw [e])⟩)))))
    have hc_what:v.call.what=w.call.what:=by omega
    refine Aa (FM _ 0) (Aa (Rh c6) (Aa (FM _ 0) (Aa (Rh d6) (Aa Ai (Af.2 ⟨fun hc_ses=>?_,fun h=>no (P:=v.call.ses=w.call.ses) (fun e=>by rw [e]) fun e=>h (by rw [e])⟩)))))
    have hc_ses:v.call.ses=w.call.ses:=by omega
    refine Aa (Cy _ 0) (Aa (Jz c6) (Aa (Cy _ 0) (Aa (Jz d6) (Aa AX (Aj.2 ⟨fun hc_queue=>?_,fun h=>no (P:=v.call.queue=w.call.queue) (fun e=>by rw [e]) fun e=>by rw [e] at h;simp at h⟩)))))
    have hc_queue:v.call.queue=w.call.queue:=ED (eq_of_beq hc_queue)
    refine Aa (CG _ 0) (Aa (Jy c6) (Aa (CG _ 0) (Aa (Jy d6) (Aa AX (Aj.2 ⟨fun hc_tag=>?_,fun h=>no (P:=v.call.tag=w.call.tag) (fun e=>by rw [e]) fun e=>by rw [e] at h;simp at h⟩)))))
    have hc_tag:v.call.tag=w.call.tag:=ED (eq_of_beq hc_tag)
    refine Aa (DD _ 0) (Aa (Mv c6) (Aa (DD _ 0) (Aa (Mv d6) (Aa (VR _ _ _ _) (Aj.2 ⟨fun hc_x=>?_,fun h=>no (P:=v.call.x=w.call.x) (fun e=>by rw [e]) fun e=>by rw [e,Dr.2 rfl] at h;cases h⟩)))))
    have hc_x:v.call.x=w.call.x:=Dr.1 hc_x
    refine Aa (C4 _ 0) (Aa (Kf c6) (Aa (C4 _ 0) (Aa (Kf d6) (Aa Ai (Af.2 ⟨fun hc_n=>?_,fun h=>no (P:=v.call.n=w.call.n) (fun e=>by rw [e]) fun e=>h (by rw [e])⟩)))))
    have hc_n:v.call.n=w.call.n:=by omega
    refine Aa (BF _ 0) (Aa (HD c6) (Aa (BF _ 0) (Aa (HD d6) (Aa (eqB _ _ _ _) (Aj.2 ⟨fun hc_a=>?_,fun h=>no (P:=v.call.a=w.call.a) (fun e=>by rw [e]) fun e=>by rw [e] at h;simp at h⟩)))))
    have hc_a:v.call.a=w.call.a:=eq_of_beq hc_a
    refine Aa (Db _ 0) (Aa (LB c6) (Aa (Db _ 0) (Aa (LB d6) (Aa (eqB _ _ _ _) (Aj.2 ⟨fun hc_b=>?_,fun h=>no (P:=v.call.b=w.call.b) (fun e=>by rw [e]) fun e=>by rw [e] at h;simp at h⟩)))))
    have hc_b:v.call.b=w.call.b:=eq_of_beq hc_b
    refine Aa (Ei _ 0) (Aa (JU c6) (Aa (Ei _ 0) (Aa (JU d6) ?_)))
    refine Aa AX (hk A6 _ ⟨fun h=>?_,fun h=>by rw [h];exact beq_self_eq_true _⟩ g6)
    have hc_body:v.call.body=w.call.body:=ED (eq_of_beq h)
    exact Aba he_kind he_node he_to he_n he_x e1 e2' he_s he_a (WU hc_what hc_ses hc_queue hc_tag hc_x hc_n hc_a hc_b he hc_body)
 ·rw [e16]
  refine BX (cs:=v.cells vn vk vr) hf (by omega) (Ep v vn1 vk1 vr1) fun A1 m1=>?_
  have n1:=m1.next
  refine BX (cs:=w.cells wn wk wr) m1.Az (by omega) (Ep w wn1 wk1 wr1) fun A2 m2=>?_
  have n2:=m2.next
  have k2:=m2.keeps m1.Az
  have r1:=m1.BU.keeps k2 (by simp)
  rw [n1]
  have r2:Go.Abs.AD A2 (A.next+1) (w.cells wn wk wr) 40:=by rw [← n1];exact m2.BU
  have gr:Grow A A2 2:=⟨(m1.keeps hf).trans k2 (by simp),m2.Az,by omega⟩
  obtain ⟨F1,a1,_⟩:=(hv.keeps gr.keeps (by simp)).n
  obtain ⟨F2,a2,_⟩:=(hw.keeps gr.keeps (by simp)).n
  obtain ⟨F3,a3,_⟩:=(hv.keeps gr.keeps (by simp)).k
  obtain ⟨F4,a4,_⟩:=(hw.keeps gr.keeps (by simp)).k
  obtain ⟨F5,a5,_⟩:=(hv.keeps gr.keeps (by simp)).r
  obtain ⟨F6,a6,_⟩:=(hw.keeps gr.keeps (by simp)).r
  have fa2:∀ b:Nat,Ac Tp 38 (pP b 11) 8=some (pP b 21):=fun b=>C0 b 11
  refine Aa (DB _ 0) (Aa (Ko r1 vn2) (Aa (I6.Gr a1) (Aa (DB _ 0) (Aa (Ko r2 wn2) (Aa (I6.Gr a2) (Aa BV (Bw.2 ⟨fun hn=>?_,fun hn=>?_⟩)))))))
  ·exact noB gr (P:=v.nodes.length=w.nodes.length) (fun h=>by rw [h]) (fun h=>hn (by rw [h]))
  refine Aa (DA _ 0) (Aa (Km r1 vk2) (Aa (I5.Gr a3) (Aa (DA _ 0) (Aa (Km r2 wk2) (Aa (I5.Gr a4) (Aa BV (Bw.2 ⟨fun hn2=>?_,fun hn2=>?_⟩)))))))
  ·exact noB gr (P:=v.Bd.length=w.Bd.length) (fun h=>by rw [h]) (fun h=>hn2 (by rw [h]))
  refine Aa (Dj _ 0) (Aa (fa2 _) (Aa (Qb r1 vr2) (Aa (a5.len I3) (Aa (Dj _ 0) (Aa (fa2 _) (Aa (Qb r2 wr2) (Aa (a6.len I3) (Aa BV (Bw.2 ⟨fun hn3=>?_,fun hn3=>?_⟩)))))))))
  ·exact noB gr (P:=v.call.refs.length=w.call.refs.length) (fun h=>by rw [h]) (fun h=>hn3 (by rw [h]))
  exact Ah.2 ⟨_,.inl ⟨rfl,0,rfl,by omega,by simp,⟨r1,r2,gr,by omega,by omega,by omega⟩,rfl⟩⟩
end
section
variable {W0:World} {m0:Inj Tp}
theorem wc5 {s:ByteArray} {A:AW} (hp:Pow W0) (hhd:KC.Holds Tp W0 m0 ⟨7,[],[.bool true]⟩) (hg:GE A) (hf:AH A) (hA:A.next+200000000000 < Ap):Wc Tp Aw W0 m0 5 [.string s] A fun r _=>r=.bool true:=by
 have hmx:Ap=1099511627776:=rfl
 refine w5 _ _ (AA (S:=fun _ _ _=>False) fun _ _ _ h=>h) ?_
 rw [e5]
 refine Aa (Ef _ _) (Aa DK (Aq.2 ⟨fun _=>PB hhd _ rfl,fun hle=>?_⟩))
 have hl:(bl s).length≤3000:=by show s.data.toList.length≤3000;omega
 by_cases hx:∃ v,Er v (bl s)
 ·obtain ⟨v,hv⟩:=hx
  refine UF hp hg (by omega) hf (by omega) (fun hno _ _=>absurd hv (hno v)) (fun x wn wk wr H A1 hLx hu hsx hR hH g1=>?_)
  obtain rfl:=hu v hv
  have n1:=g1.next
  have ho:=hR.one
  refine Aa rfl (Aa rfl (AI EK g1.Az (by omega) rfl fun A2 m2=>?_))
  have n2:=m2.next
  have k2:=m2.keeps g1.Az
  refine storeAll (n:=23) (new:=v.cells wn wk wr) m2.BU m2.Az (by omega) (HG _ _ _) rfl rfl (Ep v ho.1.1 ho.2.1.1 ho.2.2.1) fun A3 r3 k3 n3 f3=>?_
  have K3:Ay A1 A3 []:=k2.trans k3 fun y hy=>.inr (by rw [Ms.1 hy];omega)
  refine ZC (by omega) f3 (by omega) (fun hno _ _=>absurd hv (hno v)) (fun x un uk ur H2 A4 hLy hu2 hsy hR2 hH2 g4=>?_)
  obtain rfl:=hu x hLy
  have n4:=g4.next
  have ho2:=hR2.one
  refine Aa rfl (Aa rfl (AI EK g4.Az (by omega) rfl fun A5 m5=>?_))
  have n5:=m5.next
  have k5:=m5.keeps g4.Az
  refine storeAll (n:=23) (new:=x.cells un uk ur) m5.BU m5.Az (by omega) (HG _ _ _) rfl rfl (Ep x ho2.1.1 ho2.2.1.1 ho2.2.2.1) fun A6 r6 k6 n6 f6=>?_
  have K6:Ay A4 A6 []:=k5.trans k6 fun y hy=>.inr (by rw [Ms.1 hy];omega)
  have K36:Ay A3 A6 []:=g4.keeps.trans K6 (by simp)
  have r36:=r3.keeps K36 (by simp)
  refine Aa (BY r36 (D7 x ho.1.2 ho.2.1.2 ho.2.2.2) rfl (Gi _ _)) (Aa (BY r6 (D7 x ho2.1.2 ho2.2.1.2 ho2.2.2.2) rfl (Gi _ _)) ?_)
  have hR6:=(hR.keeps K3 (by simp)).keeps K36 (by simp)
  refine ZD hR6 (hR2.keeps K6 (by simp)) f6 (by omega) (by omega) (by omega) fun A7 b7 hb7 g7=>?_
  have hbt:=hb7.2 rfl
  subst hbt
  have n7:=g7.next
  refine Aa D6 (Aj.2 ⟨fun h=>(by cases h),fun _=>Aa BV (Bw.2 ⟨fun h=>absurd rfl h,fun _=>Aa BV (Bw.2 ⟨fun h=>absurd rfl h,fun _=>?_⟩)⟩)⟩)
  refine Aa (BY (r36.keeps g7.keeps (by simp)) (D7 x ho.1.2 ho.2.1.2 ho.2.2.2) rfl (Gi _ _)) ?_
  have G7:Grow A A7 60000000000:=⟨((g1.keeps.trans K3 (by simp)).trans K36 (by simp)).trans g7.keeps (by simp),g7.Az,by omega⟩
  have hrefs:x.call.refs.length+x.nodes.length+x.Bd.length≤10000:=by
   have hq:=Hu x.call.refs
   have hm2:szV x=(bl x.s).length+x.nodes.length+x.Bd.length+((bl x.call.queue).length+(bl x.call.tag).length+(bl x.call.body).length+szR x.call.refs):=rfl
   omega
  refine ZF hp (hg.keeps G7.keeps (by simp)) hv.1 (hR6.keeps g7.keeps (by simp)) (by omega) g7.Az (by omega) (fun hno A8 g8=>?_) (fun hpr A8 g8=>?_)
  ·have:=hv.2.1;rw [hno] at this;cases this
  ·have e:(txt (BP ((Bh x).map txt))).data.toList=s.data.toList:=hv.2.2
   have q1:(s.data.toList==s.data.toList)=true:=by simp
   refine Aa rfl (Aa rfl (Aa Ai (Af.2 ⟨fun _=>?_,fun h=>absurd rfl h⟩)))
   exact Aa (by rw [AX,e,q1]) (Aj.2 ⟨fun _=>PB hhd _ rfl,fun h=>(by cases h)⟩)
 ·have hx:∀ v,¬ Er v (bl s):=fun v hv=>hx ⟨v,hv⟩
  refine UF hp hg (by omega) hf (by omega) (fun hno A1 g1=>?_) (fun x _ _ _ _ _ hLx=>absurd hLx (hx x))
  have n1:=g1.next
  have ho:=(RdV.none A1 (v:=BQ) rfl rfl rfl)
  refine Aa rfl (Aa rfl (AI EK g1.Az (by omega) rfl fun A2 m2=>?_))
  have n2:=m2.next
  have k2:=m2.keeps g1.Az
  refine storeAll (n:=23) (new:=BQ.cells vN vN vN) m2.BU m2.Az (by omega) (HG _ _ _) rfl rfl rfl fun A3 r3 k3 n3 f3=>?_
  refine ZC (by omega) f3 (by omega) (fun hno A4 g4=>?_) (fun x _ _ _ _ _ hLx=>absurd hLx (hx x))
  have n4:=g4.next
  refine Aa rfl (Aa rfl (AI EK g4.Az (by omega) rfl fun A5 m5=>?_))
  have n5:=m5.next
  have k5:=m5.keeps g4.Az
  refine storeAll (n:=23) (new:=BQ.cells vN vN vN) m5.BU m5.Az (by omega) (HG _ _ _) rfl rfl rfl fun A6 r6 k6 n6 f6=>?_
  have K6:Ay A4 A6 []:=k5.trans k6 fun y hy=>.inr (by rw [Ms.1 hy];omega)
  have r36:=r3.keeps (g4.keeps.trans K6 (by simp)) (by simp)
  refine Aa (BY r36 (D7 BQ rfl rfl rfl) rfl (Gi _ _)) (Aa (BY r6 (D7 BQ rfl rfl rfl) rfl (Gi _ _)) ?_)
  have hz0:szV BQ=0:=rfl
  refine ZD (RdV.none A6 (v:=BQ) rfl rfl rfl) (RdV.none A6 (v:=BQ) rfl rfl rfl) f6 (by omega) (by omega) (by omega) fun A7 b7 hb7 g7=>?_
  have hbt:=hb7.2 rfl
  subst hbt
  refine Aa D6 (Aj.2 ⟨fun h=>(by cases h),fun _=>Aa BV (Bw.2 ⟨fun h=>absurd rfl h,fun _=>Aa BV (Bw.2 ⟨fun _=>PB hhd _ rfl,fun h=>absurd h (by decide)⟩)⟩)⟩)
end
section
variable (W0:World) (m0:Inj Tp) (S:Nat→List Value→AW→Prop) (Q:Value→AW→Prop)
theorem e7 (A:AW):gE W0 m0 S Q 7 67 Tz Lz [] A=(cW W0 m0 8 [(.string ⟨⟨[97,32,98]⟩⟩)] A fun t0 At0=>cW W0 m0 8 [(.string ⟨⟨[]⟩⟩)] At0 fun t1 At1=>cW W0 m0 9 [(.string ⟨⟨[37,50]⟩⟩)] At1 fun t2 At2=>xW t2 0 fun t3=>xW t2 1 fun t4=>Ab (Bo Tp 38 [(0,(.int .u8 3)),(1,(.int .u64 2)),(2,(.string ⟨⟨[113]⟩⟩)),(5,(.int .u32 9))]) fun t5=>Ab (Bo Tp 40 [(0,(.int .u8 16)),(1,(.int .u8 1)),(9,t5)]) fun t6=>cW W0 m0 13 [t6] At2 fun t7 At7=>xW t7 0 fun t8=>xW t7 1 fun t9=>cW W0 m0 15 [(.string ⟨⟨[116,97,107,101,32,48,32,49,32,48]⟩⟩)] At7 fun t10 At10=>xW t10 0 fun t11=>xW t10 1 fun t12=>Al (BM Tp At10 40) fun t13 At13=>sW At13 40 t13 t11 fun At14=>cW W0 m0 15 [(.string ⟨⟨[116,97,107,101,32,48,32,49]⟩⟩)] At14 fun t15 At15=>xW t15 0 fun t16=>xW t15 1 fun t17=>Al (BM Tp At15 40) fun t18 At18=>sW At18 40 t18 t16 fun At19=>Ab (Ag Tp .eql 9 (.tmp 31) (.const (.string ⟨⟨[97,37,50,48,98]⟩⟩)) t0 (.string ⟨⟨[97,37,50,48,98]⟩⟩)) fun t20=>Ae t20 (Ab (Ag Tp .eql 9 (.tmp 34) (.const (.string ⟨⟨[37]⟩⟩)) t1 (.string ⟨⟨[37]⟩⟩)) fun t21=>Ae t21 (kW .eql 24 38 (.int .i64 310) t4 fun t22=>Ae t22 (kW .eql 24 42 (.int .i64 0) t9 fun t23=>Ae t23 (Ab (Ag Tp .eql 9 (.tmp 46) (.const (.string ⟨⟨[99,97,108,108,32,49,32,50,32,100,101,99,108,97,114,101,32,113,32,57]⟩⟩)) t8 (.string ⟨⟨[99,97,108,108,32,49,32,50,32,100,101,99,108,97,114,101,32,113,32,57]⟩⟩)) fun t24=>Ae t24 (kW .eql 24 50 (.int .i64 0) t12 fun t25=>Ae t25 (fW 40 t13 0 fun t26=>lW At19 5 t26 fun t27=>kW .eql 5 55 (.int .u8 3) t27 fun t28=>Ae t28 (fW 40 t13 2 fun t29=>lW At19 5 t29 fun t30=>kW .eql 5 60 (.int .u8 1) t30 fun t31=>Ae t31 (kW .eql 24 64 (.int .i64 310) t17 fun t32=>Q t32 At19) (Q (.bool false) At19)) (Q (.bool false) At19)) (Q (.bool false) At19)) (Q (.bool false) At19)) (Q (.bool false) At19)) (Q (.bool false) At19)) (Q (.bool false) At19)) (Q (.bool false) At19)):=by kernel_rfl
theorem w7:Wf0 7 67 Tz Lz:=wf0 (by kernel_rfl) (by decide) rfl
end
theorem dd1 {u:Nat} (h:u < 10):Lib.decDigits u=[UInt8.ofNat (48+u)]:=by
 rw [Lib.decDigits,dif_pos h]
def evT:EvD:={ BQ with kind:=3,to:=1 }
def evC:EvD:={ BQ with kind:=16,node:=1,call:={ Bc with what:=3,ses:=2,queue:=⟨⟨[113]⟩⟩,n:=9 } }
theorem Um:DL evT=some (Bh evT):=C6.2 ⟨rfl,rfl,by decide⟩
theorem Un:DL evC=some (Bh evC):=C6.2 ⟨rfl,rfl,by decide⟩
theorem YJ:evT.Wf:=⟨by decide,by decide,by decide,by decide,(by decide:(0:Nat) < 4294967296),fun _ h=>(by cases h),fun _ h=>(by cases h),⟨by decide,by decide,(by decide:(0:Nat) < 4294967296),by decide,fun _ h=>(by cases h)⟩⟩
theorem YK:evC.Wf:=⟨by decide,by decide,by decide,by decide,(by decide:(0:Nat) < 4294967296),fun _ h=>(by cases h),fun _ h=>(by cases h),⟨by decide,by decide,(by decide:(0:Nat) < 4294967296),by decide,fun _ h=>(by cases h)⟩⟩
theorem VO:BP ((Bh evT).map txt)=[116,97,107,101,32,48,32,49,32,48]:=by
 have h:Bh evT=[[116,97,107,101],Lib.decDigits 0,Lib.decDigits 1,Lib.itoa 0]:=rfl
 have h2:Lib.itoa 0=Lib.decDigits 0:=rfl
 rw [h,h2,dd1 (by decide),dd1 (by decide)]
 rfl
theorem VP:BP ((Bh evC).map txt)=[99,97,108,108,32,49,32,50,32,100,101,99,108,97,114,101,32,113,32,57]:=by
 have h:Bh evC=[[99,97,108,108],Lib.decDigits 1,Lib.decDigits 2,[100,101,99,108,97,114,101],[113],Lib.decDigits 9]:=rfl
 rw [h,dd1 (by decide),dd1 (by decide),dd1 (by decide)]
 rfl
theorem AaQ:∀ k:Nat,(Ak k).1=[116,97,107,101]→k=3:=by
 intro k h
 by_cases hk:k < 18
 ·have:∀ k,k < 18→(Ak k).1=[116,97,107,101]→k=3:=by decide
  exact this k hk h
 ·have:Ak k=([],[]):=by
   unfold Ak
   rw [List.getD_eq_getElem?_getD,List.getElem?_eq_none (by show 18≤k;omega)];rfl
  rw [this] at h;cases h
theorem RB (v:EvD):¬ Er v [116,97,107,101,32,48,32,49]:=by
 rintro ⟨_,_,h⟩
 have hs:=IN v
 rw [h] at hs
 have hs:[[116,97,107,101],[48],[49]]=Bh v:=hs
 have hk:v.kind=3:=AaQ v.kind (by unfold Bh at hs;exact (List.cons.inj hs).1.symm)
 have hl:(Bh v).length=4:=by unfold Bh;rw [hk];rfl
 rw [← hs] at hl
 cases hl
theorem AaW:Bo Tp 38 [(0,(.int .u8 3)),(1,(.int .u64 2)),(2,(.string ⟨⟨[113]⟩⟩)),(5,(.int .u32 9))]=some (.agg ⟨evC.call.cells vN⟩):=by kernel_rfl
theorem AaV:Bo Tp 40 [(0,(.int .u8 16)),(1,(.int .u8 1)),(9,.agg ⟨evC.call.cells vN⟩)]=some (.agg ⟨evC.cells vN vN vN⟩):=by kernel_rfl
section
variable {W0:World} {m0:Inj Tp}
theorem wc7 {A:AW} (hp:Pow W0) (hg:GE A) (hf:AH A) (hA:A.next+20000000000 < Ap):Wc Tp Aw W0 m0 7 [] A fun r _=>r=.bool true:=by
 have hmx:Ap=1099511627776:=rfl
 refine w7 _ (AA (S:=fun _ _ _=>False) fun _ _ _ h=>h) ?_
 rw [e7]
 refine wc8 (by decide) hf (by show A.next+100+10 * 3 < Ap;omega) fun A1 g1=>?_
 have n1:A1.next≤A.next+(20+10 * 3):=g1.next
 refine wc8 (by decide) g1.Az (by show A1.next+100+10 * 0 < Ap;omega) fun A2 g2=>?_
 have n2:A2.next≤A1.next+(20+10 * 0):=g2.next
 refine wc9 (by decide) g2.Az (by show A2.next+200+20 * 2 < Ap;omega) (fun _ l _ h=>absurd h (SO (by decide) (NK (by decide) (by decide)) l)) fun A3 g3 _=>?_
 have n3:A3.next≤A2.next+(30+12 * 2):=g3.next
 have G3:Grow A A3 200:=((g1.trans g2).trans g3).more (by show (20+10 * 3)+(20+10 * 0)+(30+12 * 2)≤200;omega)
 refine Aa rfl (Aa rfl (Aa AaW (Aa AaV ?_)))
 refine ZF hp (hg.keeps G3.keeps (by simp)) YK (RdV.none A3 (v:=evC) rfl rfl rfl) (by decide) g3.Az (by omega) (fun h=>by rw [Un] at h;cases h) fun _ A4 g4=>?_
 have n4:=g4.next
 have G4:=G3.trans g4
 refine Aa rfl (Aa rfl ?_)
 have hT:Er evT (bl ⟨⟨[116,97,107,101,32,48,32,49,32,48]⟩⟩):=⟨YJ,Um,VO⟩
 refine UF hp (hg.keeps G4.keeps (by simp)) (by decide) g4.Az (by show A4.next+500 * 10+100000 < Ap;omega) (fun hno _ _=>absurd hT (hno evT)) fun v wn wk wr H A5 _ hu _ hR _ g5=>?_
 obtain rfl:=hu evT hT
 have n5:A5.next≤A4.next+(400 * 10+50000):=g5.next
 have G5:=G4.trans g5
 have ho:=hR.one
 refine Aa rfl (Aa rfl (AI EK g5.Az (by omega) rfl fun A6 m6=>?_))
 have n6:=m6.next
 have k6:=m6.keeps g5.Az
 refine storeAll (n:=23) (new:=evT.cells wn wk wr) m6.BU m6.Az (by omega) (HG _ _ _) rfl rfl (Ep evT ho.1.1 ho.2.1.1 ho.2.2.1) fun A7 r7 k7 n7 f7=>?_
 have K7:Ay A5 A7 []:=k6.trans k7 fun y hy=>.inr (by rw [Ms.1 hy];omega)
 refine UF hp (hg.keeps (G5.keeps.trans K7 (by simp)) (by simp)) (by decide) f7 (by show A7.next+500 * 8+100000 < Ap;omega) (fun _ A8 g8=>?_) fun v _ _ _ _ _ h=>absurd h (RB v)
 have n8:A8.next≤A7.next+(400 * 8+50000):=g8.next
 refine Aa rfl (Aa rfl (AI EK g8.Az (by omega) rfl fun A9 m9=>?_))
 have n9:=m9.next
 have k9:=m9.keeps g8.Az
 refine storeAll (n:=23) (new:=BQ.cells vN vN vN) m9.BU m9.Az (by omega) (HG _ _ _) rfl rfl rfl fun B rB kB nB fB=>?_
 have KB:Ay A7 B []:=(g8.keeps.trans k9 (by simp)).trans kB fun y hy=>.inr (by have:=g8.le;rw [Ms.1 hy];omega)
 have r:=r7.keeps KB (by simp)
 have yes:∀ {t:TypeId} {xo yo:Operand} {x:List UInt8},Ag Tp .eql t xo yo (.string ⟨⟨x⟩⟩) (.string ⟨⟨x⟩⟩)=some (.bool true):=fun {t xo yo x}=>by rw [AX];simp
 have t {p q:Prop} (h:p):Ae (.bool true) p q:=Aj.2 ⟨fun _=>h,fun h=>(by cases h)⟩
 have hj:(txt (BP ((Bh evC).map txt)))=⟨⟨[99,97,108,108,32,49,32,50,32,100,101,99,108,97,114,101,32,113,32,57]⟩⟩:=by rw [VP];rfl
 rw [hj]
 refine Aa yes (t (Aa yes (t (Aa rfl (t (Aa rfl (t (Aa yes (t (Aa rfl (t ?_)))))))))))
 refine Aa (DQ _ 0) (Aa (Mi r) (Aa rfl (t (Aa (CU _ 0) (Aa (Ju r) (Aa rfl (t (Aa rfl rfl))))))))
end
end Go.Proofs.YtebidlpekphaoaaGreatDoor
namespace Go.Abs
open Go.ChangeShapes Go.WideShapes Go.ChangeAt Go.RowKit
def okB (n:Nat) (l:List (Nat × List Value × TypeId)):Bool:=Nat.ble n Ap&&l.all fun x=>Nat.blt x.1 n
def Wm (P:Program) (W:World) (L:List Arg) (l:List (Nat × List Value × TypeId)):Prop:=∀ x∈l,∃ (cs':Array Value) (fr:Nat × Nat),W.heap[x.1]? =some (.cells cs' x.2.2 fr)∧∀ (i:Nat) v,x.2.1[i]? =some v→∃ v',cs'[i]? =some v'∧AQ (mR P L) v v'
section
variable {P:Program} {W:World} {gl:List (Nat × List Value × TypeId)} {L:List Arg}
theorem Pe {n:Nat} (hok:okB n gl=true) (hk:n+L.length≤Ap) {i:Nat} {o:AO} (h:(wR n gl L).get i=some o):
  (∃ x∈gl,x.1=i∧i < n∧o=.row x.2.1 x.2.2 i 0 true)∨∃ j p cs e,i=n+j∧L[j]? =some (p,some (cs,e))∧o=.row cs e (n+L.length) 0 true:=by
 have h:(Og (n+L.length) n L (MY gl)).get? i=some o:=h
 rw [Jb _ L n _ _ hk] at h
 unfold okB at hok
 simp only [Bq,List.all_eq_true] at hok
 obtain ⟨hn,hl⟩:=hok
 have hn:=Bt.1 hn
 have glob:(MY gl).get? i=some o→∃ x∈gl,x.1=i∧i < n∧o=.row x.2.1 x.2.2 i 0 true:=by
  intro h
  obtain ⟨x,hx,rfl,rfl⟩:=Ox gl (fun x hx=>Nat.lt_of_lt_of_le (AE.1 (hl x hx)) hn) i o h
  exact ⟨x,hx,rfl,AE.1 (hl x hx),rfl⟩
 split at h
 ·exact .inl (glob h)
 ·split at h
  ·rename_i hi p cs e hq
   cases h
   exact .inr ⟨i - n,p,cs,e,by omega,hq,rfl⟩
  ·exact .inl (glob h)
theorem MI {n:Nat} (hok:okB n gl=true) (hk:n+L.length+1≤Ap):AH (wR n gl L):=by
 refine ⟨fun i hi=>?_,fun i hi=>?_⟩
 ·have hi:n+L.length+1≤i:=hi
  show ((Trie.nil:Trie (List Nat)).put depth (n+L.length) _).get? i=none
  rw [Trie.get?_put depth _ _ i _ (by unfold depth Ap at *;omega),Ff (by omega)]
  rfl
 ·have hi:n+L.length+1≤i:=hi
  cases hq:(wR n gl L).get i with
  | none=>rfl
  | some o=>
   rcases Pe hok (by omega) hq with ⟨x,_,_,h,_⟩ | ⟨j,p,cs,e,rfl,h,_⟩
   ·omega
   ·have:=(Gs.1 h).1
    omega
theorem ZX (hok:okB P.globals.size gl=true) (hk:P.globals.size+L.length+1≤Ap) (hW:Wm P W L gl) (hA:Abq P W L):Rel (mR P L) (wR P.globals.size gl L) W:=by
 have hget:=fun {i:Nat} {o:AO} (h:(wR P.globals.size gl L).get i=some o)=>Pe hok (by omega) h
 have hlen:(L.map (·.1)).length=L.length:=List.length_map _
 have harg:∀ {j:Nat} {p:Nat × Nat} {q:Option (List Value × TypeId)},L[j]? =some (p,q)→mR P L (P.globals.size+j)=some p:=by
  intro j p q h
  show mA P _ _=_
  rw [R7,List.getElem?_map,h]
  rfl
 refine ⟨?_,?_,?_,?_,?_,hk,?_⟩
 ·intro i o c d hi hm
  rcases hget hi with ⟨x,hx,rfl,hlt,rfl⟩ | ⟨j,p,cs,e,rfl,hj,rfl⟩
  ·have hm:mA P (L.map (·.1)) x.1=some (c,d):=hm
   rw [Pw hlt] at hm
   cases hm
   obtain ⟨cs',fr,hc,hv'⟩:=hW x hx
   refine ⟨_,hc,cs',fr,rfl,fun i v hv=>?_⟩
   obtain ⟨v',g1,g2⟩:=hv' i v hv
   exact ⟨v',by simpa using g1,fun _=>g2,fun h=>by cases h⟩
  ·rw [harg hj] at hm
   cases hm
   obtain ⟨cs',fr,h1,h2,h3⟩:=hA j _ cs e hj
   refine ⟨_,h1,cs',fr,rfl,fun i v hv=>?_⟩
   obtain ⟨v',g1,g2⟩:=h3 i v hv
   exact ⟨v',g1,fun _=>g2,fun h=>by cases h⟩
 ·intro i cs e b ro hi c d hm
  rcases hget hi with ⟨x,hx,rfl,hlt,_⟩ | ⟨j,p,cs2,e2,rfl,hj,he⟩
  ·have hm:mA P (L.map (·.1)) x.1=some (c,d):=hm
   rw [Pw hlt] at hm
   cases hm
   rfl
  ·have:=(Gs.1 hj).1
   simp only [AO.row.injEq] at he
   omega
 ·intro i j oi oj c di dj hij hi hj hmi hmj
  refine .inl ?_
  rcases hget hi with ⟨x,hx,rfl,hlt,rfl⟩ | ⟨j,p,cs2,e2,rfl,_,rfl⟩ <;> rcases hget hj with ⟨y,hy,rfl,hlt2,rfl⟩ | ⟨j2,p2,cs3,e3,rfl,_,rfl⟩ <;> exact ⟨rfl,rfl⟩
 ·intro i o f b hi hf
  have hmem:∀ f,(wR P.globals.size gl L).members f=if f=P.globals.size+L.length then (List.range L.length).map (P.globals.size+·) else [f]:=by
   intro f
   show (match ((Trie.nil:Trie (List Nat)).put depth (P.globals.size+L.length) _).get? f with | some l=>l | none=>[f])=_
   rw [Trie.get?_put depth _ _ f _ (by unfold depth Ap at *;omega)]
   by_cases h:f=P.globals.size+L.length
   ·rw [if_pos h,if_pos h]
   ·rw [Ff h,Ff h];rfl
  rcases hget hi with ⟨x,hx,rfl,hlt,rfl⟩ | ⟨j,p,cs2,e2,rfl,hj,rfl⟩
  ·simp only [AO.fam,Oi,Pj] at hf
   obtain ⟨rfl,rfl⟩:=hf
   rw [hmem,Ff (by omega)]
   exact ⟨by simp,by show x.1 < P.globals.size+L.length+1;omega⟩
  ·simp only [AO.fam,Oi,Pj] at hf
   obtain ⟨rfl,rfl⟩:=hf
   have:=(Gs.1 hj).1
   rw [hmem,if_pos rfl]
   exact ⟨List.mem_map.2 ⟨j,List.mem_range.2 this,rfl⟩,by show _ < P.globals.size+L.length+1;omega⟩
 ·intro i hi
  have hi:P.globals.size+L.length+1≤i:=hi
  have hf:=MI (n:=P.globals.size) hok hk
  refine ⟨hf.get i hi,?_,hf.fams i hi⟩
  show (if i < P.globals.size then some (i,0) else (L.map (·.1))[i - P.globals.size]?)=none
  rw [Ff (by omega)]
  exact List.getElem?_eq_none (by omega)
 ·intro i cs e f b ro c d hi hm
  rcases hget hi with ⟨x,hx,rfl,hlt,he⟩ | ⟨j,p,cs2,e2,rfl,hj,he⟩
  ·cases he
   have hm:mA P (L.map (·.1)) x.1=some (c,d):=hm
   rw [Pw hlt] at hm
   cases hm
   obtain ⟨cs',fr,hc,_⟩:=hW x hx
   exact ⟨fun h=>absurd rfl h,_,_,fr,hc,by show 0+0≤_;omega,fun h=>by cases h⟩
  ·cases he
   rw [harg hj] at hm
   cases hm
   obtain ⟨cs',fr,h1,h2,h3⟩:=hA j _ _ _ hj
   exact ⟨fun h=>absurd rfl h,cs',_,fr,h1,by show _+0≤_;omega,fun h=>by cases h⟩
theorem Xt (hok:okB P.globals.size gl=true) (hk:P.globals.size+L.length≤Ap) (c:Nat):¬ Own (mR P L) (wR P.globals.size gl L) c:=by
 rintro ⟨i,o,d,hi,hro,_⟩
 rcases Pe hok hk hi with ⟨x,hx,rfl,hlt,rfl⟩ | ⟨j,p,cs2,e2,rfl,_,rfl⟩ <;> cases hro
theorem VD {R:World→Prop} (hR:∀ W W':World,R W→Go.RowKit.Below W.heap.size W W'→R W') {g:FuncId} (hg:g≠J2) (h:∀ W,R W→Calls P g #[] W fun e W'=>e=.returned (.bool true)∧Low W W') {W0:World} (hW:R W0) (m0:Inj P):
  KC.Holds P W0 m0 ⟨g,[],[.bool true]⟩:=by
 refine ⟨fun e=>absurd e hg,fun _=>?_⟩
 intro m args' W _ hb ha
 cases ha
 refine (h W (hR W0 W hW hb)).mono ?_
 rintro e W' ⟨rfl,hb'⟩
 exact ⟨_,by simp,rfl,hb'⟩
variable {X:Bx} {W0:World} {m0:Inj P}
end
end Go.Abs
namespace Go.Proofs.YtebidlpekphaoaaGreatDoor
open Go Go.Abs Go.ChangeShapes Go.WideShapes Go.ChangeAt Go.RowKit Go.Joins Go.Deep
def Mf (W:World):Prop:=∃ (a b:Addr) (fr fr':Nat × Nat),(a.spot=none∧W.heap[4]? =some (.cells #[.iface 185 (.pointer (some a))] 72 fr))∧b.spot=none∧W.heap[5]? =some (.cells #[.iface 185 (.pointer (some b))] 72 fr')
theorem Tryz.nG:Tp.globals.size=8:=by kernel_rfl
def Qp:List (Nat × List Value × TypeId):=[(4,[.iface 185 (pP 8 0)],72),(5,[.iface 185 (pP 9 0)],72)]
theorem okE:okB Tp.globals.size Qp=true:=by rw [Tryz.nG];rfl
theorem XE (L:List Arg) (hk:8+L.length≤Ap):GE (wR Tp.globals.size Qp L):=by
 rw [Tryz.nG]
 refine ⟨⟨8,4,0,true,?_,?_,by decide⟩,⟨9,5,0,true,?_,?_,by decide⟩,?_⟩
 ·show (Og _ 8 L _).get? 4=_
  rw [Jb _ L 8 _ _ hk,if_pos (by decide)];rfl
 ·show 4 < 8+L.length+1;omega
 ·show (Og _ 8 L _).get? 5=_
  rw [Jb _ L 8 _ _ hk,if_pos (by decide)];rfl
 ·show 5 < 8+L.length+1;omega
 ·show 8≤8+L.length+1;omega
theorem L6 {W:World} {L:List Arg} {g:FuncId} {args args':List Value} {a b:Addr} {fr fr':Nat × Nat} (ha4:a.spot=none) (h4:W.heap[4]? =some (.cells #[.iface 185 (.pointer (some a))] 72 fr)) (hb5:b.spot=none) (h5:W.heap[5]? =some (.cells #[.iface 185 (.pointer (some b))] 72 fr'))
  (hL:∃ R,L=((a.block,a.off),none)::((b.block,b.off),none)::R) (hk:Tp.globals.size+L.length+1≤Ap) (hA:Abq Tp W L) (ha:AJ (mR Tp L) args args') (h:Wc Tp Aw W (mR Tp L) g args (wR Tp.globals.size Qp L) fun v _=>v=.bool true):
  Calls Tp g ⟨args'⟩ W fun e W'=>e=.returned (.bool true)∧Low W W':=by
 have hW:Wm Tp W L Qp:=by
  obtain ⟨R,rfl⟩:=hL
  have m8:mR Tp (((a.block,a.off),none)::((b.block,b.off),none)::R) 8=some (a.block,a.off):=by
   have:=R7 (P:=Tp) (l:=((((a.block,a.off),none)::((b.block,b.off),none)::R:List Arg)).map (·.1)) (i:=0)
   rw [Tryz.nG] at this
   exact this
  have m9:mR Tp (((a.block,a.off),none)::((b.block,b.off),none)::R) 9=some (b.block,b.off):=by
   have:=R7 (P:=Tp) (l:=((((a.block,a.off),none)::((b.block,b.off),none)::R:List Arg)).map (·.1)) (i:=1)
   rw [Tryz.nG] at this
   exact this
  intro x hx
  simp only [Qp,List.mem_cons,List.not_mem_nil,or_false] at hx
  rcases hx with rfl | rfl
  ·refine ⟨_,fr,h4,fun i v hv=>?_⟩
   match i,hv with
   | 0,hv=>
    obtain rfl:Value.iface 185 (pP 8 0)=v:=by simpa using hv
    exact ⟨_,rfl,.iface 185 (.ptr ⟨rfl,ha4,a.off,m8,rfl⟩)⟩
   | i+1,hv=>simp at hv
  ·refine ⟨_,fr',h5,fun i v hv=>?_⟩
   match i,hv with
   | 0,hv=>
    obtain rfl:Value.iface 185 (pP 9 0)=v:=by simpa using hv
    exact ⟨_,rfl,.iface 185 (.ptr ⟨rfl,hb5,b.off,m9,rfl⟩)⟩
   | i+1,hv=>simp at hv
 refine (Rg gP h (ZX okE hk hW hA) (fun i hi=>Pw hi) (Xt okE (by omega)) ha).mono ?_
 rintro e w' ⟨v,v',m',A',rfl,rfl,h2,h3⟩
 cases h2
 exact ⟨rfl,YA h3 (Xt okE (by omega))⟩
theorem Mf.grow {W W':World} (h:Mf W) (hb:Go.RowKit.Below W.heap.size W W'):Mf W':=by
 obtain ⟨a,b,fr,fr',⟨h1,h2⟩,h3,h4⟩:=h
 exact ⟨a,b,fr,fr',⟨h1,by rw [hb.block 4 (Array.getElem?_eq_some_iff.1 h2).1];exact h2⟩,h3,by rw [hb.block 5 (Array.getElem?_eq_some_iff.1 h4).1];exact h4⟩
theorem Sc {W:World} (hW:Mf W) (hp:Pow W):Calls Tp 7 #[] W fun e W'=>e=.returned (.bool true)∧Low W W':=by
 obtain ⟨a,b,fr,fr',⟨h1,h2⟩,h3,h4⟩:=hW
 have hk:Tp.globals.size+[(((a.block,a.off),none):Arg),((b.block,b.off),none)].length+1≤Ap:=by rw [Tryz.nG];show 8+2+1≤Ap;decide
 refine L6 (args:=[]) h1 h2 h3 h4 ⟨[],rfl⟩ hk (fun j p cs e hj=>?_) .nil (wc7 hp (XE _ (by show 8+2≤Ap;decide)) (MI okE hk) ?_)
 ·match j,hj with
  | 0,hj=>simp at hj
  | 1,hj=>simp at hj
  | j+2,hj=>simp at hj
 ·show Tp.globals.size+2+1+20000000000 < Ap
  rw [Tryz.nG];decide
theorem WN {W:World} (hW:Mf W) (hp:Pow W) (m:Inj Tp):KC.Holds Tp W m ⟨7,[],[.bool true]⟩:=
 VD (R:=fun W=>Mf W∧Pow W) (fun _ _ h hb=>⟨h.1.grow hb,h.2.grow hb⟩) (by decide) (fun _ h=>Sc h.1 h.2) ⟨hW,hp⟩ m
theorem Tryz.own:ownKnob Tp.godebug=none:=by kernel_rfl
theorem Tryz.laidOut:laidOutB Tp=true:=by kernel_rfl
theorem gES:Tp.globalNamed "strconv.ErrSyntax"=some 4:=by kernel_rfl
theorem gER:Tp.globalNamed "strconv.ErrRange"=some 5:=by kernel_rfl
theorem WO:(Tp.globals[4]?).map (·.type)=some 72:=by kernel_rfl
theorem WQ:(Tp.globals[5]?).map (·.type)=some 72:=by kernel_rfl
theorem Ts:Tp.cellsOf 187=1:=by kernel_rfl
theorem Tryz.cells9:Tp.cellsOf 9=1:=by kernel_rfl
theorem star: "*"++ "errors.errorString"= "*errors.errorString":=by decide
theorem U2 (u:TypeId) (h:Tp.typeName? 3 u=some "*errors.errorString"):u=185:=
 typeName_ptr_named (nm:= "errors.errorString") (by rw [star];kernel_rfl) (by kernel_rfl) (by decide) u (by rw [star];exact h)
theorem SS {W:World} {a:Addr} {v:Value} (hc:W.cell? a=some v):a.spot=none:=by
 unfold World.cell? at hc
 split at hc
 ·split at hc
  ·cases hc
  ·rename_i hsp
   cases hq:a.spot with
   | none=>rfl
   | some x=>rw [hq] at hsp;simp at hsp
 ·cases hc
abbrev PA:List (String × DataW Unit):=[("math/bits.deBruijn32tab",Rows.laid_math_bits_deBruijn32tab),("math/bits.deBruijn64tab",Rows.laid_math_bits_deBruijn64tab),("internal/strconv.uint64pow10",Rows.laid_internal_strconv_uint64pow10),("unicode/utf8.acceptRanges",Rows.laid_unicode_utf8_acceptRanges),("strconv.ErrRange",Rows.laid_strconv_ErrRange),("strconv.ErrSyntax",Rows.laid_strconv_ErrSyntax),("unicode/utf8.first",Rows.laid_unicode_utf8_first)]
theorem VB {W:World} (hsh:W.ShapedOpen Tp) (h:laidMetH Tp PA W):Mf W:=by
 rw [MakeChecks.laidMetH_plain _ _ _ (by kernel_rfl)] at h
 obtain ⟨a,s,hv,hc,_,_⟩:=laid_sentinel h.tail.tail.tail.tail.tail gES WO Tryz.underlying72 U2 Tryz.underlying185 Tryz.underlying187 rfl rfl Tryz.underlying9 Ts Tryz.cells9
 obtain ⟨fr,hw⟩:=OS hsh (g:=4) (t:=72) (name:= "strconv.ErrSyntax") gES (by rw [Tryz.nG];decide) (by kernel_rfl) hv
 obtain ⟨b,s',hv',hc',_,_⟩:=laid_sentinel h.tail.tail.tail.tail gER WQ Tryz.underlying72 U2 Tryz.underlying185 Tryz.underlying187 rfl rfl Tryz.underlying9 Ts Tryz.cells9
 obtain ⟨fr',hw'⟩:=OS hsh (g:=5) (t:=72) (name:= "strconv.ErrRange") gER (by rw [Tryz.nG];decide) (by kernel_rfl) hv'
 exact ⟨a,b,fr,fr',⟨SS hc,hw⟩,SS hc',hw'⟩
theorem ZY:(Rows.laid_internal_strconv_uint64pow10:DataW Unit)=Lib.tabData .u64 Lib.pow10Tab:=by kernel_rfl
theorem Yq {W:World} (h:laidMetH Tp PA W):Pow W:=by
 rw [MakeChecks.laidMetH_plain _ _ _ (by kernel_rfl)] at h
 have h2:laidMet Tp (("internal/strconv.uint64pow10",Rows.laid_internal_strconv_uint64pow10)::[("unicode/utf8.acceptRanges",Rows.laid_unicode_utf8_acceptRanges),("strconv.ErrRange",Rows.laid_strconv_ErrRange),("strconv.ErrSyntax",Rows.laid_strconv_ErrSyntax),("unicode/utf8.first",Rows.laid_unicode_utf8_first)]) W:=h.tail.tail
 rw [ZY] at h2
 exact Lib.tabIs_of_head (g:=1) (t:=171) (n:=20) (by kernel_rfl) (by kernel_rfl) Tryz.underlying171 (by kernel_rfl) (by kernel_rfl) (by kernel_rfl) h2
noncomputable def XK (os:Os):World:={ World.doorLaid Tp 400 os with heap:=(World.doorLaid Tp 400 os).heap.set! 2 (.cells ⟨Go.Pinned.utf8FirstZ.map fun (n:Nat)=>Value.int .u8 n⟩ 175 (0,0)) }
theorem VV (os:Os) (args:Array Value):laidMetH Tp PA ((XK os).forCall (fun _ _=>0) ⟨#[],args,[]⟩).memory:=
 laidMetH_of_parts3 (fuel:=8) (laidMet_of_run' 8 (by kernel_rfl) (by kernel_rfl)) (by kernel_rfl) (by kernel_rfl)
theorem Pt {W:World} (hW:Mf W) (hp:Pow W) (s:ByteArray):Calls Tp 5 #[.string s] W fun e W'=>e=.returned (.bool true)∧Low W W':=by
 have hW':=hW
 obtain ⟨a,b,fr,fr',⟨h1,h2⟩,h3,h4⟩:=hW
 have hk:Tp.globals.size+[(((a.block,a.off),none):Arg),((b.block,b.off),none)].length+1≤Ap:=by rw [Tryz.nG];show 8+2+1≤Ap;decide
 refine L6 (args:=[.string s]) h1 h2 h3 h4 ⟨[],rfl⟩ hk (fun j p cs e hj=>?_) (.cons (.string _) .nil) (wc5 hp (WN hW' hp _) (XE _ (by show 8+2≤Ap;decide)) (MI okE hk) ?_)
 ·match j,hj with
  | 0,hj=>simp at hj
  | 1,hj=>simp at hj
  | j+2,hj=>simp at hj
 ·show Tp.globals.size+2+1+200000000000 < Ap
  rw [Tryz.nG];decide
theorem Jv (os:Os) (started:os.Started) (H:Type) (enc:TypeId × Value→H):
  ReturnsInHanded {} Tryz.checked os 5 .any (fun w args=>(Rows.scriptParsesSpec.pre enc Tp Tryz.f5 [] false w args∧laidMetH Tp Rows.scriptParsesRow.laid w)∧sizedMet enc Tp Tryz.f5 (OpenSpec.ofChange Rows.scriptParsesSpec) false w args)
   (Rows.scriptParsesSpec.post enc Tp Tryz.f5 false true false false):=by
 refine GM (C:=Tryz.checked) (X:=fun w _=>laidMetH Tp Rows.scriptParsesRow.laid w) (fun _ _ _ hh h=>h.of_heap hh) Tryz.own started (by kernel_rfl) Tryz.func5
  (ChangeSpec.witness_shaped (enc:=enc) (C:=Tryz.checked) (os:=os) (X:=fun w _=>laidMetH Tp Rows.scriptParsesRow.laid w) false (XK os) #[.string .empty] 8 rfl (World.shaped_of_RefB (by kernel_rfl) (by kernel_rfl)) (by kernel_rfl) (by kernel_rfl) (by kernel_rfl) (VV os _)) ?_
 intro W base args ds gs before hval0 hW _ _ hL hsh
 have hval:∀ (j:Nat) t v,Tryz.f5.params[j]? =some t→args[j]? =some v→Value.okWide Tp W .any base t v:=hval0
 have hW':=hW
 obtain ⟨p,q,hA0,hV,rfl,hfz,hnd⟩:=hW
 have hA:DataW.TrodAll enc Tp W 0 (fun _=>true) true Tryz.f5.params.toList args.toList ds p:=hA0
 rw [Tryz.params5] at hA hval
 obtain ⟨v0,d0,rfl,rfl,h0⟩:=trodAll_one hA
 obtain ⟨rfl,rfl⟩:=trodVars_none hV
 obtain ⟨s,rfl⟩:=okWide_string Tryz.underlying9 (hval 0 9 v0 rfl rfl)
 clear hA0 hval0
 simp only [List.append_nil] at hW'
 have hlt:∀ x∈p,x.block < W.heap.size:=fun x hx=>by simpa using hW'.lt x hx
 refine (Pt (VB hsh hL) (Yq hL) s).mono fun e W' ⟨he,hb0⟩=>?_
 subst he
 have hb:=hb0.1
 exact ⟨_,rfl,NY (pa:=p) (pv:=[]) hW' (fun _ _ _=>trodAll_mk1 (shut_bool Tryz.underlying4 _)) (fun sp hsp=>trodAll_mk1
   (WideElems.Trod_stays Tryz.laidOut (by kernel_rfl) (of_decide_eq_true (by kernel_rfl)) h0 (fun x hx=>hb.same (hlt x hx)) (fun x hx=>hsp x (by simpa using hx)))) (fun _ _=>rfl) (by simp) hb
  (ok_one (by kernel_rfl) rfl (okWide_bool_mk Tryz.underlying4 _))⟩
theorem scriptParses_holds:Rows.ScriptParsesSaid:=
 OpenClaim.holds_of_wide 5 Tryz.f5 rfl rfl rfl rfl rfl rfl rfl ⟨rfl,rfl,rfl,rfl,rfl⟩ rfl rfl rfl rfl rfl (by kernel_rfl) Tryz.func5 (by kernel_rfl)
  (of_decide_eq_true (by kernel_rfl)) (by unfold Func.isWrapper;first | (rw [if_pos (by decide+kernel)];kernel_rfl) | (rw [Ff (by decide+kernel)];exact ⟨rfl,rfl⟩))
  (fun os started H enc _=>Jv os started H enc)
theorem scriptParses_card:Rows.ScriptParsesCardSaid:=
 Claim7.holds_tied_plain_at .later [] [.data,.data,.data,.data,.sentinel,.sentinel,.pinned] true (true, "da46332cc93e85645593edd53063953065bcb73bad7ce245735f98f837272f36") true
  scriptParses_holds (fun _ h=>by cases h) (by kernel_rfl) (fun _ h=>by cases h) scriptParses_row_tie rfl ⟨rfl,rfl⟩ (by kernel_rfl) rfl
  (fun f fn hf hfn=>by
   obtain rfl:f=5:=Option.some.inj ((show Tp.funcNamed "posthouse/posthouselaw31.ScriptParses"=some 5 by kernel_rfl).symm.trans hf) |>.symm
   obtain rfl:fn=Tryz.f5:=(Option.some.inj (Tryz.func5.symm.trans hfn)).symm
   exact ⟨by kernel_rfl,fun j t ht=>by
    rw [Tryz.params5] at ht
    have hm:t∈[9]:=by simpa using Array.mem_of_getElem? ht
    have hall:([9].all fun u=>!Tp.wantsStandIn u)=true:=by kernel_rfl
    exact (show Tp.wantsStandIn t=false by simpa using List.all_eq_true.1 hall t hm)⟩)
  (by kernel_rfl)
#print axioms scriptParses_card
end Go.Proofs.YtebidlpekphaoaaGreatDoor
