/-
  This text prints what the functions reached ask of their memory, and shows what they answer. Conditions: none for the last theorem, those that each theorem states for the others.
-/
import Derived.Test.YtkjlldaddekegaaGreatDoorPj
set_option maxRecDepth 100000
set_option maxHeartbeats 1000000
namespace Go.Abs
open Go.ChangeShapes Go.WideShapes Go.ChangeAt Go.RowKit
def okB(n:Nat)(l:List (Nat × List Value × TypeId)):Bool:=Nat.ble n Ak&&l.all fun x=>Nat.blt x.1 n
def Wx(P:Program)(W:World)(L:List Arg)(l:List (Nat × List Value × TypeId)):Prop:=∀ x∈l,∃ (cs':Array Value) (fr:Nat × Nat),W.heap[x.1]? =some (.cells cs' x.2.2 fr)∧∀ (i:Nat) v,x.2.1[i]? =some v→∃ v',cs'[i]? =some v'∧AI (mR P L) v v'
section
variable {P:Program} {W:World} {gl:List (Nat × List Value × TypeId)} {L:List Arg}
theorem Oq{n:Nat}(hok:okB n gl=true)(hk:n+L.length≤Ak){i:Nat}{o:AO}(h:(wR n gl L).get i=some o):
  (∃ x∈gl,x.1=i∧i<n∧o=.row x.2.1 x.2.2 i 0 true)∨∃ j p cs e,i=n+j∧L[j]? =some (p,some (cs,e))∧o=.row cs e (n+L.length) 0 true:=by
 have h:(QM (n+L.length) n L (KR gl)).get? i=some o:=h;rw [Nh _ L n _ _ hk] at h;unfold okB at hok;simp only [Bq,List.all_eq_true] at hok;obtain ⟨hn,hl⟩:=hok;have hn:=Bj.1 hn;have glob:(KR gl).get? i=some o→∃ x∈gl,x.1=i∧i<n∧o=.row x.2.1 x.2.2 i 0 true:=by
  intro h;obtain ⟨x,hx,rfl,rfl⟩:=Ir gl (fun x hx=>Nat.lt_of_lt_of_le (Ax.1 (hl x hx)) hn) i o h;exact ⟨x,hx,rfl,Ax.1 (hl x hx),rfl⟩
 split at h
 ·exact .inl (glob h)
 ·split at h
  ·rename_i hi p cs e hq;cases h;exact .inr ⟨i-n,p,cs,e,by omega,hq,rfl⟩
  ·exact .inl (glob h)
theorem UJ{n:Nat}(hok:okB n gl=true)(hk:n+L.length+1≤Ak):AB (wR n gl L):=by
 refine ⟨fun i hi=>?_,fun i hi=>?_⟩
 ·have hi:n+L.length+1≤i:=hi;show ((Trie.nil:Trie (List Nat)).put depth (n+L.length) _).get? i=none;rw [Trie.get?_put depth _ _ i _ (by unfold depth Ak at *;omega),Ff (by omega)];rfl
 ·have hi:n+L.length+1≤i:=hi;cases hq:(wR n gl L).get i with
  |none=>rfl
  |some o=>
   rcases Oq hok (by omega) hq with ⟨x,_,_,h,_⟩ | ⟨j,p,cs,e,rfl,h,_⟩
   ·omega
   ·have:=(Gs.1 h).1
    omega
theorem AaQ(hok:okB P.globals.size gl=true)(hk:P.globals.size+L.length+1≤Ak)(hW:Wx P W L gl)(hA:Adh P W L):Rel (mR P L) (wR P.globals.size gl L) W:=by
 have hget:=fun {i:Nat} {o:AO} (h:(wR P.globals.size gl L).get i=some o)=>Oq hok (by omega) h;have hlen:(L.map (·.1)).length=L.length:=List.length_map _;have harg:∀ {j:Nat} {p:Nat × Nat} {q:Option (List Value × TypeId)},L[j]? =some (p,q)→mR P L (P.globals.size+j)=some p:=by
  intro j p q h;show mA P _ _=_;rw [RG,List.getElem?_map,h];rfl
 refine ⟨?_,?_,?_,?_,?_,hk,?_⟩
 ·intro i o c d hi hm;rcases hget hi with ⟨x,hx,rfl,hlt,rfl⟩ | ⟨j,p,cs,e,rfl,hj,rfl⟩
  ·have hm:mA P (L.map (·.1)) x.1=some (c,d):=hm;rw [OM hlt] at hm;cases hm;obtain ⟨cs',fr,hc,hv'⟩:=hW x hx;refine ⟨_,hc,cs',fr,rfl,fun i v hv=>?_⟩;obtain ⟨v',g1,g2⟩:=hv' i v hv;exact ⟨v',by simpa using g1,fun _=>g2,fun h=>by cases h⟩
  ·rw [harg hj] at hm;cases hm;obtain ⟨cs',fr,h1,h2,h3⟩:=hA j _ cs e hj;refine ⟨_,h1,cs',fr,rfl,fun i v hv=>?_⟩;obtain ⟨v',g1,g2⟩:=h3 i v hv;exact ⟨v',g1,fun _=>g2,fun h=>by cases h⟩
 ·intro i cs e b ro hi c d hm;rcases hget hi with ⟨x,hx,rfl,hlt,_⟩ | ⟨j,p,cs2,e2,rfl,hj,he⟩
  ·have hm:mA P (L.map (·.1)) x.1=some (c,d):=hm;rw [OM hlt] at hm;cases hm;rfl
  ·have:=(Gs.1 hj).1
   simp only [AO.row.injEq] at he;omega
 ·intro i j oi oj c di dj hij hi hj hmi hmj;refine .inl ?_;rcases hget hi with ⟨x,hx,rfl,hlt,rfl⟩ | ⟨j,p,cs2,e2,rfl,_,rfl⟩<;>rcases hget hj with ⟨y,hy,rfl,hlt2,rfl⟩ | ⟨j2,p2,cs3,e3,rfl,_,rfl⟩<;>exact ⟨rfl,rfl⟩
 ·intro i o f b hi hf;have hmem:∀ f,(wR P.globals.size gl L).members f=if f=P.globals.size+L.length then (List.range L.length).map (P.globals.size+·) else [f]:=by
   intro f;show (match ((Trie.nil:Trie (List Nat)).put depth (P.globals.size+L.length) _).get? f with | some l=>l | none=>[f])=_;rw [Trie.get?_put depth _ _ f _ (by unfold depth Ak at *;omega)];by_cases h:f=P.globals.size+L.length
   ·rw [if_pos h,if_pos h]
   ·rw [Ff h,Ff h];rfl
  rcases hget hi with ⟨x,hx,rfl,hlt,rfl⟩ | ⟨j,p,cs2,e2,rfl,hj,rfl⟩
  ·simp only [AO.fam,Oi,Pj] at hf;obtain ⟨rfl,rfl⟩:=hf;rw [hmem,Ff (by omega)];exact ⟨by simp,by show x.1<P.globals.size+L.length+1;omega⟩
  ·simp only [AO.fam,Oi,Pj] at hf;obtain ⟨rfl,rfl⟩:=hf
   have:=(Gs.1 hj).1
   rw [hmem,if_pos rfl];exact ⟨List.mem_map.2 ⟨j,List.mem_range.2 this,rfl⟩,by show _<P.globals.size+L.length+1;omega⟩
 ·intro i hi;have hi:P.globals.size+L.length+1≤i:=hi;have hf:=UJ (n:=P.globals.size) hok hk;refine ⟨hf.get i hi,?_,hf.fams i hi⟩;show (if i<P.globals.size then some (i,0) else (L.map (·.1))[i-P.globals.size]?)=none;rw [Ff (by omega)];exact List.getElem?_eq_none (by omega)
 ·intro i cs e f b ro c d hi hm;rcases hget hi with ⟨x,hx,rfl,hlt,he⟩ | ⟨j,p,cs2,e2,rfl,hj,he⟩
  ·cases he;have hm:mA P (L.map (·.1)) x.1=some (c,d):=hm;rw [OM hlt] at hm;cases hm;obtain ⟨cs',fr,hc,_⟩:=hW x hx;exact ⟨fun h=>absurd rfl h,_,_,fr,hc,by show 0+0≤_;omega,fun h=>by cases h⟩
  ·cases he;rw [harg hj] at hm;cases hm;obtain ⟨cs',fr,h1,h2,h3⟩:=hA j _ _ _ hj;exact ⟨fun h=>absurd rfl h,cs',_,fr,h1,by show _+0≤_;omega,fun h=>by cases h⟩
theorem Yn(hok:okB P.globals.size gl=true)(hk:P.globals.size+L.length≤Ak)(c:Nat):¬ Own (mR P L) (wR P.globals.size gl L) c:=by
 rintro ⟨i,o,d,hi,hro,_⟩;rcases Oq hok hk hi with ⟨x,hx,rfl,hlt,rfl⟩ | ⟨j,p,cs2,e2,rfl,_,rfl⟩<;>cases hro
variable {X:Bc} {W0:World} {m0:Inj P}
end
end Go.Abs
