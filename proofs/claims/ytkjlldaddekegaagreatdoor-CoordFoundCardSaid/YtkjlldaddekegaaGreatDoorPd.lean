/-
  This text prints what the functions reached ask of their memory, and shows what they answer. Conditions: none for the last theorem, those that each theorem states for the others.
-/
import Derived.Test.YtkjlldaddekegaaGreatDoorPc
import Derived.DeepKeys2
set_option maxRecDepth 100000
set_option maxHeartbeats 1000000
namespace Go.Abs
variable {i c:Nat} {b:UInt8} {A A':AW} {v:Value} {l:List UInt8} {F S:List Nat} {K:Value→AW→Prop}
def Az(l:List UInt8):List Value:=l.map fun b=>.int .u8 b.toNat
theorem C1(a b:List UInt8):Az (a++b)=Az a++Az b:=List.map_append
theorem AV(a:List UInt8):(Az a).length=a.length:=List.length_map _
theorem EN(a:List UInt8):(Az a).all AP=true:=by
 rw [List.all_eq_true];intro x hx;obtain ⟨b,_,rfl⟩:=List.mem_map.1 hx;rfl
theorem Hs(a:List UInt8):(Az a).all (fun v=>!isTuple v)=true:=by
 rw [List.all_eq_true];intro x hx;obtain ⟨b,_,rfl⟩:=List.mem_map.1 hx;rfl
theorem Se{a:List UInt8}(h:a[i]? =some b):(Az a)[i]? =some (.int .u8 b.toNat):=by
 unfold Az;rw [List.getElem?_map,h];rfl
theorem Gd:∀ l:List UInt8,Bv (Az l)=some l
 |[]=>rfl
 |b::r=>by
  show (match Bv (Az r) with | some l=>some (UInt8.ofNat ((b.toNat:Int)).toNat::l) | none=>none)=_;rw [Gd r]
  simp
theorem DW:∀ (l rest:List Value),l.all (fun v=>!isTuple v)=true→AZ (l++rest) l.length=some l
 |[],_,_=>by simp [AZ]
 |v::r,rest,h=>by
  simp only [List.all_cons,Bq,Bool.not_eq_true'] at h;simp [AZ,h.1,DW r rest h.2]
theorem KM:∀ (l rest:List Value),DO (l++rest) l.length=some l
 |[],_=>by simp [DO]
 |v::r,rest=>by simp [DO,KM r rest]
def RdB(A:AW)(v:Value)(l:List UInt8)(F:List Nat):Prop:=
 (l=[]∧F=[]∧∃ o c,v=.slice o 0 c)∨∃ r o c cs e f b ro rest,v=.slice (some ⟨r,o,none⟩) l.length c∧A.get r=some (.row cs e f b ro)∧f<A.next∧F=[f]∧cs.drop o=Az l++rest
theorem RdB.keeps(h:RdB A v l F)(k:AA A A' S)(hd:∀ x∈F,x∉S):RdB A' v l F:=by
 rcases h with h | ⟨r,o,c,cs,e,f,b,ro,rest,h1,h2,h3,rfl,h4⟩
 ·exact .inl h
 ·exact .inr ⟨r,o,c,cs,e,f,b,ro,rest,h1,k.get r _ h2 h3 (hd f (by simp)),Nat.lt_of_lt_of_le h3 k.next,rfl,h4⟩
theorem RdB.one(h:RdB A v l F):AP v=true∧isTuple v=false:=by
 rcases h with ⟨_,_,o,c,rfl⟩ | ⟨r,o,c,cs,e,f,b,ro,rest,rfl,_⟩<;>exact ⟨rfl,rfl⟩
theorem RdB.lt(h:RdB A v l F):∀ x∈F,x<A.next:=by
 rcases h with ⟨_,rfl,_⟩ | ⟨r,o,c,cs,e,f,b,ro,rest,_,_,h3,rfl,_⟩
 ·simp
 ·simpa using h3
theorem RdB.slice(h:RdB A v l F):∃ a c,v=.slice a l.length c:=by
 rcases h with ⟨rfl,_,o,c,rfl⟩ | ⟨r,o,c,cs,e,f,b,ro,rest,rfl,_⟩<;>exact ⟨_,_,rfl⟩
theorem RdB.src(h:RdB A v l F):DY A 1 v=some (l.length,Az l):=by
 rcases h with ⟨rfl,_,o,c,rfl⟩ | ⟨r,o,c,cs,e,f,b,ro,rest,rfl,h2,_,_,h4⟩
 ·cases o<;>rfl
 ·unfold DY;simp only [Nat.mul_one,BH h2,h4]
  have:=DW (Az l) rest (Hs l)
  rw [AV] at this;rw [this]
theorem RdB.cell{r o:Nat}(h:RdB A (.slice (some ⟨r,o,none⟩) l.length c) l F)(hi:l[i]? =some b):A.cell? ⟨r,o+i,none⟩=some (.int .u8 b.toNat):=by
 rcases h with ⟨rfl,_⟩ | ⟨r',o',c',cs,e,f,b',ro,rest,hv,h2,_,_,h4⟩
 ·simp at hi
 ·simp only [Value.slice.injEq,Oi,Addr.mk.injEq,and_true] at hv;obtain ⟨⟨rfl,rfl⟩,_⟩:=hv;rw [Ag h2];refine D8 ?_ rfl;rw [← List.getElem?_drop,h4,List.getElem?_append_left (by rw [AV];exact (Gs.1 hi).1)];exact Se hi
structure BT (P:Program) (tb ts tst:TypeId):Prop where
 sl:Bt P ts=some tb
 sz:szT P tb=some 1
 by_:Ex P tb=some 1
 hz:CE P tb 1=true
 us:P.underlying ts=some (.slice tb)
 ub:P.underlying tb=some (.int .u8)
 ust:P.underlying tst=some .string
 zt:C2 P tb=some (.int .u8 0)
 ln:∀ A a n c,Br P A ts (.slice a n c)=some (.int .i64 (n:Nat))
 ia:∀ b o n c i k,Aj P ts (.slice (some ⟨b,o,none⟩) n c) (.int k (.ofNat i))=(bif Nat.blt i n then some (.pointer (some (DM ⟨b,o,none⟩ (i*1)))) else none)
 ld:∀ A a,Ad P A tb (.pointer (some a))=A.cell? a
 st:∀ A a v,Am P A tb (.pointer (some a)) v=(bif Nat.beq v.cells.toList.length 1 then A.setCells a v.cells.toList else none)
section
variable {P:Program} {tb ts tst:TypeId}
theorem RdB.len(T:BT P tb ts tst)(h:RdB A v l F):Br P A ts v=some (.int .i64 (l.length:Nat)):=by
 obtain ⟨a,c,rfl⟩:=h.slice;exact T.ln _ _ _ _
theorem RdB.str(T:BT P tb ts tst)(h:RdB A v l F):AK P A ts tst v=.ok (.string ⟨⟨l⟩⟩) A:=by
 rcases h with ⟨rfl,_,o,c,rfl⟩ | ⟨r,o,c,cs,e,f,b,ro,rest,rfl,h2,_,_,h4⟩
 ·unfold AK;cases o with
  |none=>simp only [T.us,T.ust,T.ub];rfl
  |some a=>simp only [T.us,T.ust,T.ub,AW.cells?,Bv]
 ·unfold AK;simp only [T.us,T.ust,T.ub,BH h2,h4]
  have:=DW (Az l) rest (Hs l)
  rw [AV] at this;simp only [this,Gd]
theorem RdB.at{A:AW}{v:Value}{l:List UInt8}{F:List Nat}(T:BT P tb ts tst)(h:RdB A v l F){i:Nat}{b:UInt8}(hi:l[i]? =some b):
  ∃ a,Aj P ts v (.int .i64 (i:Int))=some (.pointer (some a))∧Ad P A tb (.pointer (some a))=some (.int .u8 b.toNat):=by
 have h0:=h;rcases h with ⟨rfl,_⟩ | ⟨r,o,c,cs,e,f,b',ro,rest,rfl,h2,h3,h5,h4⟩
 ·simp at hi
 ·have hlt:i<l.length:=(Gs.1 hi).1;refine ⟨DM ⟨r,o,none⟩ (i*1),?_,?_⟩
  ·show Aj P ts _ (.int .i64 (.ofNat i))=_;rw [T.ia,Ax.2 hlt,Ct]
  ·have e:DM ⟨r,o,none⟩ (i*1)=⟨r,o+i,none⟩:=by
    unfold DM;cases hb:Nat.beq (i*1) 0 with
    |true=>rw [Ct];have:=Nb hb;rw [Nat.mul_one] at this;rw [this];rfl
    |false=>rw [Cf,Nat.mul_one]
   rw [T.ld,e];exact h0.cell hi
theorem CU(T:BT P tb ts tst)(h:RdB A v l F):BF P A tb ts 1 v=some (l.length,Az l):=by
 unfold BF;rw [T.us];exact h.src
theorem L6{s:ByteArray}(T:BT P tb ts tst):BF P A tb tst 1 (.string s)=some (s.data.toList.length,Az s.data.toList):=by
 unfold BF;rw [T.ust];rfl
def Buf(tb:TypeId)(A:AW)(v:Value)(l:List UInt8)(F:List Nat):Prop:=
 (v=.slice none 0 0∧l=[]∧F=[])∨(∃ b f,v=.slice (some ⟨b,0,none⟩) l.length (Bo+l.length)∧Lp 0 A tb 1 l.length (Az l) b f∧F=[f])∨
 ∃ b c pad,v=.slice (some ⟨b,0,none⟩) l.length c∧c<room∧AF A b (Az l++pad) tb∧l.length+pad.length=c∧pad.all AP=true∧F=[b]
theorem Buf.nil(tb:TypeId)(A:AW):Buf tb A (.slice none 0 0) [] []:=.inl ⟨rfl,rfl,rfl⟩
theorem Buf.keeps(h:Buf tb A v l F)(k:AA A A' S)(hd:∀ x∈F,x∉S):Buf tb A' v l F:=by
 rcases h with h | ⟨b,f,rfl,h,rfl⟩ | ⟨b,c,pad,h1,h2,h3,h4,h5,rfl⟩
 ·exact .inl h
 ·have:=EA.keeps (v:=.slice (some ⟨b,0,none⟩) l.length (Bo+l.length)) (.inr ⟨b,f,rfl,h,rfl⟩) k hd
  rcases this with ⟨h1,_⟩ | ⟨b',f',h1,h2,h3⟩
  ·cases h1
  ·exact .inr (.inl ⟨b',f',h1,h2,h3⟩)
 ·exact .inr (.inr ⟨b,c,pad,h1,h2,h3.keeps k (hd b (by simp)),h4,h5,rfl⟩)
theorem Buf.rd(h:Buf tb A v l F):RdB A v l F:=by
 rcases h with ⟨rfl,rfl,rfl⟩ | ⟨b,f,rfl,h,rfl⟩ | ⟨b,c,pad,rfl,h2,h3,h4,h5,rfl⟩
 ·exact .inl ⟨rfl,rfl,none,0,rfl⟩
 ·exact .inr ⟨b,0,_,_,_,f,0,false,[],rfl,h.row,h.ltf,rfl,by simp⟩
 ·exact .inr ⟨b,0,_,_,_,b,0,false,pad,rfl,h3.row,h3.lt,rfl,by simp⟩
theorem EZ:∀ (a mid new rest:List Value),mid.length=new.length→Ee (a++(mid++rest)) a.length new=a++(new++rest)
 |a,[],[],rest,_=>by simp [Ee]
 |a,m::ms,n::ns,rest,h=>by
  simp only [Lc,Nat.add_right_cancel_iff] at h
  have:=EZ (a++[n]) ms ns rest h
  simp only [Ee];have e:(a++(m::ms++rest)).set a.length n=(a++[n])++(ms++rest):=by simp
  rw [e];have e2:a.length+1=(a++[n]).length:=by simp
  rw [e2,this]
  simp
 |a,[],_::_,rest,h=>by simp at h
 |a,_::_,[],rest,h=>by simp at h
theorem Cz {t2:TypeId} {x:Value} {new:List UInt8} (T:BT P tb ts tst) (h:Buf tb A v l F) (hx:BF P A tb t2 1 x=some (new.length,Az new)) (hf:AB A) (hmax:A.next<Ak) (hr:l.length+new.length<room)
  (hk:∀ v' A' F',Buf tb A' v' (l++new) F'→AA A A' F→(∀ x∈F',x∈F∨A.next≤x)→A'.next≤A.next+1→AB A'→K v' A'):Al (AT P A ts t2 v x) K:=by
 have hroom:(Nat.blt (l.length+new.length) room&&Nat.blt ((l.length+new.length)*1) room&&CE P tb 1)=true:=by rw [Nat.mul_one,Ax.2 hr,T.hz];rfl
 rcases Nat.eq_zero_or_pos new.length with h0 | hpos
 ·have hnew:new=[]:=List.eq_nil_of_length_eq_zero h0;subst hnew;obtain ⟨a,c,rfl⟩:=h.rd.slice;have e:AT P A ts t2 (.slice a l.length c) x=.ok (.slice a l.length c) A:=by
   unfold AT;simp only [T.sl,T.sz,T.by_,hx];simp only [Ln] at hroom ⊢;rw [hroom];rfl
  rw [e];refine AR.2 (hk _ A F (by rw [List.append_nil];exact h) (.refl _ _) (fun x hx=>.inl hx) (by omega) hf)
 ·obtain ⟨m,hm⟩:∃ m,new.length=m+1:=⟨new.length-1,by omega⟩;rcases h with ⟨rfl,rfl,rfl⟩ | ⟨b,f,rfl,ho,rfl⟩ | ⟨b,c,pad,rfl,hc,h3,h4,h5,rfl⟩
  ·have hx':BF P A tb t2 (0+1) x=some (m+1,Az new):=by rw [← hm];exact hx
   rw [hm] at hroom;rw [Ii T.sl T.sz T.by_ hx' hroom hmax];have hfp:=hf.push (.row (Az new) tb A.next 0 false) hmax;have hrow:(A.push (.row (Az new) tb A.next 0 false)).get A.next=some (.row (Az new) tb A.next 0 false):=by rw [AW.Cg _ hmax,if_pos rfl]
   refine AR.2 (hk _ _ [A.next] (.inr (.inl ⟨A.next,A.next,by simp [hm],?_,rfl⟩)) ((AW.Cv _ hmax).keeps hf) (fun x hx=>.inr (by simp at hx;omega)) (by rw [AW.Co];omega) hfp);refine ⟨by simp [hm],by rw [hrow];rfl,by simp [AV],Nat.zero_le _,Nat.zero_le _,by rw [AW.Co];omega,fun i hi=>?_⟩
   have:(A.push (.row (Az new) tb A.next 0 false)).members A.next=[A.next]:=hf.alone (Nl _)
   rw [this] at hi;obtain rfl:i=A.next:=by simpa using hi
   exact ⟨Nat.zero_le _,by rw [AW.Co];omega,_,_,_,_,hrow⟩
  ·have hx':BF P A tb t2 (0+1) x=some (m+1,Az new):=by rw [← hm];exact hx
   refine J6 (P:=P) (size:=0) T.sl T.sz T.by_ T.hz hx' (by rw [AV,hm];omega) (EN new) (.inr ⟨b,f,rfl,ho,rfl⟩) hf hmax (by omega) (by omega) fun v' A' F' hv hk' hF' hn hf'=>?_;refine hk v' A' F' ?_ hk' (fun x hx=>?_) (by omega) hf'
   ·rcases hv with ⟨_,hz,_⟩ | ⟨b',f',h1,h2,h3⟩
    ·omega
    ·refine .inr (.inl ⟨b',f',?_,?_,h3⟩)
     ·rw [h1,Lq,hm]
     ·rw [Lq,hm,C1];exact h2
   ·rcases hF' x hx with h | h
    ·exact .inl h
    ·exact .inr (by omega)
  ·have hlen:(Az l++pad).length=c:=by rw [Lq,AV];exact h4
   have hcu:Nat.ble Bo c=false:=BA.2 (by unfold room at hc;unfold Bo;omega);by_cases hfit:l.length+new.length≤c
   ·
    have hb:=h3.lt;obtain ⟨A',h1,w⟩:=DP (new:=Az new) (off:=l.length) h3.row h3.mem (by rw [hlen,AV];exact hfit) (EN new) (by omega);have e:AT P A ts t2 (.slice (some ⟨b,0,none⟩) l.length c) x=.ok (.slice (some ⟨b,0,none⟩) (l.length+new.length) c) A':=by
     unfold AT;simp only [T.sl,T.sz,T.by_,hx];rw [hroom];rw [hm];have ha:DM ⟨b,0,none⟩ (l.length*1)=⟨b,l.length,none⟩:=by
      unfold DM;cases hb:Nat.beq (l.length*1) 0 with
      |true=>rw [Ct];have:=Nb hb;rw [Nat.mul_one] at this;rw [this]
      |false=>rw [Cf,Nat.mul_one,Nat.zero_add]
     have hfit':Nat.ble (l.length+(m+1)) c=true:=Bj.2 (by omega);simp only [hcu,Cf,hfit',Ct,ha,h1,Bool.not_true]
    rw [e];have hcs:Ee (Az l++pad) l.length (Az new)=Az (l++new)++pad.drop new.length:=by
     have hp:pad=pad.take new.length++pad.drop new.length:=(List.take_append_drop _ _).symm
     conv=>lhs;rw [hp]
     have hl2:l.length=(Az l).length:=(AV l).symm
     conv=>lhs;arg 2;rw [hl2]
     rw [EZ (Az l) (pad.take new.length) (Az new) (pad.drop new.length) (by rw [List.length_take,AV];omega),C1,Mw]
    refine AR.2 (hk _ A' [b] (.inr (.inr ⟨b,c,pad.drop new.length,by rw [Lq],hc,?_,by rw [Lq,List.length_drop];omega,?_,rfl⟩)) (w.keeps h3.row) (fun x hx=>.inl hx) (by rw [w.next];omega) (w.Ao hf h3.row))
    ·rw [← hcs];exact ⟨w.row,by rw [w.mem];exact h3.mem,by rw [w.next];exact h3.lt⟩
    ·rw [List.all_eq_true] at h5 ⊢;exact fun x hx=>h5 x (List.mem_of_mem_drop hx)
   ·
    have hold:(match (some ⟨b,0,none⟩:Option Addr) with | some a=>A.CS a (l.length*1) | none=>some [])=some (Az l):=by
     show A.CS ⟨b,0,none⟩ (l.length*1)=_;rw [Nat.mul_one];unfold AW.CS;cases hl:l.length with
     |zero=>
      have:l=[]:=List.eq_nil_of_length_eq_zero hl
      subst this;rfl
     |succ k=>
      simp only [h3.row,List.drop_zero]
      have:=KM (Az l) pad
      rw [AV,hl] at this;exact this
    have hnew:A.new (.row (Az l++Az new) tb A.next 0 false)=some (A.next,A.push (.row (Az l++Az new) tb A.next 0 false)):=by
     unfold AW.new;simp only [Ax.2 hmax,Ct];rfl
    have e:AT P A ts t2 (.slice (some ⟨b,0,none⟩) l.length c) x=.ok (.slice (some ⟨A.next,0,none⟩) (l.length+new.length) (Bo+(l.length+new.length))) (A.push (.row (Az l++Az new) tb A.next 0 false)):=by
     unfold AT;simp only [T.sl,T.sz,T.by_,hx];rw [hroom];rw [hm];have hfit':Nat.ble (l.length+(m+1)) c=false:=BA.2 (by omega);simp only [hcu,Cf,hfit',Bool.not_true];simp only at hold;rw [hold];simp only [hnew]
    rw [e];have hfp:=hf.push (.row (Az l++Az new) tb A.next 0 false) hmax;have hrow:(A.push (.row (Az l++Az new) tb A.next 0 false)).get A.next=some (.row (Az l++Az new) tb A.next 0 false):=by rw [AW.Cg _ hmax,if_pos rfl]
    refine AR.2 (hk _ _ [A.next] (.inr (.inl ⟨A.next,A.next,by rw [Lq],?_,rfl⟩)) (((AW.Cv _ hmax).keeps hf).more (by simp)) (fun x hx=>.inr (by simp at hx;omega)) (by rw [AW.Co];omega) hfp);refine ⟨by rw [Lq];omega,by rw [hrow,C1],by rw [AV,Nat.mul_one],Nat.zero_le _,Nat.zero_le _,by rw [AW.Co];omega,fun i hi=>?_⟩
    have:(A.push (.row (Az l++Az new) tb A.next 0 false)).members A.next=[A.next]:=hf.alone (Nl _)
    rw [this] at hi;obtain rfl:i=A.next:=by simpa using hi
    exact ⟨Nat.zero_le _,by rw [AW.Co];omega,_,_,_,_,hrow⟩
theorem I2(v:Value):∀ n,DC [v] n=List.replicate n v
 |0=>rfl
 |n+1=>by rw [DC,I2 v n];rfl
theorem GQ {k k2:IntKind} {n:Nat} (T:BT P tb ts tst) (hf:AB A) (hmax:A.next<Ak) (hn:n≤c) (hc:c<room)
  (hk:∀ A',Made A A' (List.replicate c (.int .u8 0)) tb→K (.slice (some ⟨A.next,0,none⟩) n c) A'):Al (Cs P A ts (.int k (n:Int)) (.int k2 (c:Int))) K:=by
 have hz:E4 P tb 1 c=some (List.replicate c (.int .u8 0)):=by
  unfold E4;rw [T.zt];cases c with
  |zero=>rfl
  |succ c=>
   have:Nat.beq ((c+1)*1) 0=false:=beq_false.2 (by omega)
   simp only [this,Cf];show (bif Nat.beq 1 1 then some (DC [.int .u8 0] (c+1)) else none)=_;rw [I2];rfl
 have hnr:A.newRow (List.replicate c (.int .u8 0)) tb=some (⟨A.next,0,none⟩,A.push (.row (List.replicate c (.int .u8 0)) tb A.next 0 false)):=by
  unfold AW.newRow AW.new
  have:(List.replicate c (Value.int .u8 0)).all AP=true:=by
   rw [List.all_eq_true];intro x hx;rw [List.eq_of_mem_replicate hx];rfl
  simp only [this,Ct,Ax.2 hmax];rfl
 have e:Cs P A ts (.int k (n:Int)) (.int k2 (c:Int))=.ok (.slice (some ⟨A.next,0,none⟩) n c) (A.push (.row (List.replicate c (.int .u8 0)) tb A.next 0 false)):=by
  show Cs P A ts (.int k (.ofNat n)) (.int k2 (.ofNat c))=_;unfold Cs;simp only [T.sl,T.sz,T.by_,Nat.mul_one,Bj.2 hn,Ax.2 hc,Bool.and_self,Ct,hz,hnr]
 rw [e];exact AR.2 (hk _ ⟨AW.Cv _ hmax,rfl,by rw [AW.Cg _ hmax,if_pos rfl],hf.alone (Nl _),hf.push _ hmax⟩)
theorem Made.ZN(m:Made A A' (List.replicate c (.int .u8 0)) tb)(hc:c<room):Buf tb A' (.slice (some ⟨A.next,0,none⟩) 0 c) [] [A.next]:=
 .inr (.inr ⟨A.next,c,List.replicate c (.int .u8 0),rfl,hc,m.Bk,by simp,by rw [List.all_eq_true];intro x hx;rw [List.eq_of_mem_replicate hx];rfl,rfl⟩)
end
variable {A:AW} {v:Value} {l:List UInt8} {F:List Nat} {a:Option Addr} {len n:Nat}
def RdS(tb:TypeId)(A:AW)(v:Value)(l:List UInt8)(F:List Nat):Prop:=
 (l=[]∧F=[]∧∃ o c,v=.slice o 0 c∧c<Bo∧(o=none→c=0))∨∃ r o c C cs f b ro rest,v=.slice (some ⟨r,o,none⟩) l.length C∧(C=Bo+c∨(C=c∧c<Bo))∧l.length≤c∧A.get r=some (.row cs tb f b ro)∧f<A.next∧F=[f]∧cs.drop o=Az l++rest
theorem RdS.rd{tb:TypeId}(h:RdS tb A v l F):RdB A v l F:=by
 rcases h with ⟨h1,h2,o,c,h3,_⟩ | ⟨r,o,c,C,cs,f,b,ro,rest,h1,_,_,h2,h3,h4,h5⟩
 ·exact .inl ⟨h1,h2,o,c,h3⟩
 ·exact .inr ⟨r,o,C,cs,tb,f,b,ro,rest,h1,h2,h3,h4,h5⟩
theorem RdS.keeps{tb:TypeId}{A':AW}{S:List Nat}(h:RdS tb A v l F)(k:AA A A' S)(hd:∀ x∈F,x∉S):RdS tb A' v l F:=by
 rcases h with h | ⟨r,o,c,C,cs,f,b,ro,rest,h1,h0,h6,h2,h3,rfl,h5⟩
 ·exact .inl h
 ·exact .inr ⟨r,o,c,C,cs,f,b,ro,rest,h1,h0,h6,k.get r _ h2 h3 (hd f (by simp)),Nat.lt_of_lt_of_le h3 k.next,rfl,h5⟩
theorem RdS.nil(tb:TypeId)(A:AW):RdS tb A (.slice none 0 0) [] []:=.inl ⟨rfl,rfl,none,0,rfl,by decide,fun _=>rfl⟩
theorem Buf.rdS{tb:TypeId}(h:Buf tb A v l F):RdS tb A v l F:=by
 rcases h with ⟨rfl,rfl,rfl⟩ | ⟨b,f,rfl,ho,rfl⟩ | ⟨b,c,pad,rfl,hc,hr,hl,ho,rfl⟩
 ·exact .nil _ _
 ·exact .inr ⟨b,0,l.length,_,_,f,0,false,[],rfl,.inl rfl,Nl _,ho.row,ho.ltf,rfl,by simp⟩
 ·have:c<Bo:=by have h1:room=68719476736:=rfl;have h2:Bo=18446744073709551616:=rfl;omega
  exact .inr ⟨b,0,c,c,_,b,0,false,pad,rfl,.inr ⟨rfl,this⟩,by omega,hr.row,hr.lt,rfl,by simp⟩
section
variable {P:Program} {tb ts tst:TypeId}
theorem FN(r o n:Nat):Hy (some ⟨r,o,none⟩) (n*1)=some ⟨r,o+n,none⟩:=by
 show some (bif Nat.beq (n*1) 0 then (⟨r,o,none⟩:Addr) else ⟨r,o+n*1,none⟩)=_;rw [Nat.mul_one];cases n<;>rfl
theorem Of{o:Option Addr}(c:Nat)(hz:o=none→c=0):(bif Nat.beq c 0 then o else Hy o (0*1))=none→c=0:=by
 cases o with
 |none=>exact fun _=>hz rfl
 |some a=>cases Nat.beq c 0<;>(intro h;cases h)
theorem Ih(l:List UInt8)(n:Nat):Az (l.take n)=(Az l).take n:=List.map_take
theorem Gw(l:List UInt8)(n:Nat):Az (l.drop n)=(Az l).drop n:=List.map_drop
theorem KO(T:BT P tb ts tst){C:Nat}(hc:C<Bo)(hn:n≤C):Cc P A ts (.slice a len C) none (some (.int .i64 (.ofNat n))) none=some (.slice (bif Nat.beq C 0 then a else Hy a (0*1)) n C):=by
 unfold Cc;simp only [T.us,T.sz,BA.2 hc,Cf,bounds,IQ,EP,Bj.2 hn,Nat.sub_zero,Option.isSome_some,Option.isSome_none,Bool.not_false,Bool.or_true,Ct]
theorem L7(T:BT P tb ts tst){c:Nat}(hr:JF A a tb=true)(hn:n≤c):Cc P A ts (.slice a len (Bo+c)) none (some (.int .i64 (.ofNat n))) none=some (.slice (Hy a (0*1)) n (Bo+c)):=by
 unfold Cc;simp only [T.us,T.sz,Bj.2 (show Bo≤Bo+c from Nat.le_add_right _ _),Ct,bounds,IQ,EP,Nat.add_sub_cancel_left,Bj.2 hn,Nat.sub_zero,Option.isSome_some,Option.isSome_none,Bool.not_false,Bool.or_true,hr,Bool.and_self]
theorem RdS.to(T:BT P tb ts tst)(h:RdS tb A v l F)(hn:n≤l.length):∃ v',Cc P A ts v none (some (.int .i64 (n:Int))) none=some v'∧RdS tb A v' (l.take n) F:=by
 show ∃ v',Cc P A ts v none (some (.int .i64 (.ofNat n))) none=some v'∧_;rcases h with ⟨rfl,rfl,o,c,rfl,hc,hz⟩ | ⟨r,o,c,C,cs,f,b,ro,rest,rfl,hC,hl,h2,h3,rfl,h5⟩
 ·have hn0:n=0:=Nat.le_zero.1 hn;refine ⟨_,KO T hc (by omega),.inl ⟨List.take_nil,rfl,_,c,by rw [hn0],hc,Of c hz⟩⟩
 ·have hd:cs.drop o=Az (l.take n)++(Az (l.drop n)++rest):=by
   rw [h5,Ih,Gw,← Mw,List.take_append_drop]
  have hlen:(l.take n).length=n:=by rw [List.length_take];omega
  rcases hC with rfl | ⟨rfl,hc⟩
  ·refine ⟨_,L7 T (by unfold JF;simp only [h2];exact beq_true.2 rfl) (by omega),?_⟩;rw [FN,Nat.add_zero];exact .inr ⟨r,o,c,Bo+c,cs,f,b,ro,_,by rw [hlen],.inl rfl,by omega,h2,h3,rfl,hd⟩
  ·refine ⟨_,KO T hc (by omega),?_⟩;rw [FN,Nat.add_zero];refine .inr ⟨r,o,C,C,cs,f,b,ro,_,?_,.inr ⟨rfl,hc⟩,by omega,h2,h3,rfl,hd⟩;rw [hlen];cases Nat.beq C 0
   ·rw [Cf]
   ·rw [Ct]
theorem RdS.from(T:BT P tb ts tst)(h:RdS tb A v l F)(hn:n≤l.length):∃ v',Cc P A ts v (some (.int .i64 (n:Int))) none none=some v'∧RdS tb A v' (l.drop n) F:=by
 have hc0:Bo=18446744073709551616:=rfl;show ∃ v',Cc P A ts v (some (.int .i64 (.ofNat n))) none none=some v'∧_;rcases h with ⟨rfl,rfl,o,c,rfl,hc,hz⟩ | ⟨r,o,c,C,cs,f,b,ro,rest,rfl,hC,hl,h2,h3,rfl,h5⟩
 ·obtain rfl:n=0:=by simpa using hn
  refine ⟨.slice (bif Nat.beq c 0 then o else Hy o (0*1)) 0 c,?_,.inl ⟨rfl,rfl,_,c,rfl,hc,Of c hz⟩⟩;unfold Cc;simp only [T.us,T.sz,BA.2 hc,Cf,bounds,IQ,EP,Bj.2 (Nl 0),Nat.sub_zero,Option.isSome_none,Bool.not_false,Bool.or_true,Ct]
 ·have hd:cs.drop (o+n)=Az (l.drop n)++rest:=by
   rw [← List.drop_drop,h5,Gw,List.drop_append_of_le_length (by rw [AV];exact hn)]
  have hlen:(l.drop n).length=l.length-n:=List.length_drop;rcases hC with rfl | ⟨rfl,hc⟩
  ·refine ⟨.slice (Hy (some ⟨r,o,none⟩) (n*1)) (l.length-n) (Bo+(c-n)),?_,?_⟩
   ·unfold Cc;have hr:JF A (some ⟨r,o,none⟩) tb=true:=by unfold JF;simp only [h2];exact beq_true.2 rfl
    simp only [T.us,T.sz,Bj.2 (show Bo≤Bo+c by omega),Ct,bounds,IQ,EP,Nat.add_sub_cancel_left,Bj.2 hn,Bj.2 hl,Option.isSome_none,Bool.not_false,Bool.or_true,hr,Bool.and_self]
   ·rw [FN];exact .inr ⟨r,o+n,c-n,_,cs,f,b,ro,rest,by rw [hlen],.inl rfl,by omega,h2,h3,rfl,hd⟩
  ·refine ⟨.slice (bif Nat.beq C n then some ⟨r,o,none⟩ else Hy (some ⟨r,o,none⟩) (n*1)) (l.length-n) (C-n),?_,?_⟩
   ·unfold Cc;simp only [T.us,T.sz,BA.2 hc,Cf,bounds,IQ,EP,Bj.2 hn,Option.isSome_none,Bool.not_false,Bool.or_true,Ct]
   ·rw [FN];cases hb:Nat.beq C n with
    |false=>exact .inr ⟨r,o+n,C-n,C-n,cs,f,b,ro,rest,by rw [hlen,Cf],.inr ⟨rfl,by omega⟩,by omega,h2,h3,rfl,hd⟩
    |true=>
     have e:=Nb hb;have hnil:l.drop n=[]:=List.drop_eq_nil_of_le (by omega);refine .inr ⟨r,o,C-n,C-n,cs,f,b,ro,cs.drop o,by rw [hlen,Ct],.inr ⟨rfl,by omega⟩,by omega,h2,h3,rfl,?_⟩;rw [hnil];rfl
end
variable {A A':AW} {v x:Value} {l:List UInt8} {F:List Nat} {n b c cap m:Nat} {K:Value→AW→Prop} {t2 t:TypeId} {new:List Value}
section
variable {P:Program} {tb ts tst:TypeId}
theorem N6(a b:Nat):least a b=min a b:=Qc a b
theorem ZJ(A:AW)(a:Addr):A.cells? a 0=some []:=by unfold AW.cells?;rfl
theorem RdB.copy(h:RdB A v l F)(hn:n≤l.length):FE A 1 n v=some (Az (l.take n)):=by
 rcases h with ⟨rfl,_,o,c,rfl⟩ | ⟨r,o,c,cs,e,f,b,ro,rest,rfl,h2,_,_,h4⟩
 ·obtain rfl:n=0:=by simpa using hn
  cases o with
  |none=>rfl
  |some a=>exact ZJ A a
 ·unfold FE;simp only [Nat.mul_one,BH h2,h4];have e:Az l++rest=Az (l.take n)++(Az (l.drop n)++rest):=by rw [Ih,Gw,← Mw,List.take_append_drop]
  have:=DW (Az (l.take n)) (Az (l.drop n)++rest) (Hs _)
  rw [AV,List.length_take,Nat.min_eq_left hn] at this;rw [e,this]
theorem RdB.MH{A:AW}{v:Value}{l:List UInt8}{F:List Nat}(h:RdB A v l F):MH v=some l.length:=by
 obtain ⟨a,c,rfl⟩:=h.slice;rfl
theorem S1 {dl dc:Nat} {cs:List Value} (T:BT P tb ts tst) (hd:AF A b cs tb) (h:RdB A x l F) (hf:AB A) (hA:A.next≤Ak) (hcs:min l.length dl≤cs.length)
  (hk:∀ A' v,AF A' b (Ee cs 0 (Az (l.take (min l.length dl)))) tb→AA A A' [b]→A'.next=A.next→AB A'→K v A'):Al (G0 P A ts (.slice (some ⟨b,0,none⟩) dl dc) x) K:=by
 have hlt:=hd.lt;obtain ⟨A',h1,w⟩:=DP (new:=Az (l.take (min l.length dl))) (off:=0) hd.row hd.mem (by rw [AV,List.length_take];omega) (EN _) (by omega);have e:G0 P A ts (.slice (some ⟨b,0,none⟩) dl dc) x=.ok (.int .i64 (min l.length dl:Nat)) A':=by
  unfold G0;simp only [T.sl,T.sz,h.MH,N6,h.copy (show min l.length dl≤l.length by omega),h1]
 rw [e];exact AR.2 (hk A' _ ⟨w.row,by rw [w.mem];exact hd.mem,by rw [w.next];exact hd.lt⟩ (w.keeps hd.row) w.next (w.Ao hf hd.row))
structure Ss (tb:TypeId) (A:AW) (v:Value) (l:List UInt8) (c b:Nat):Prop where
 val:v=.slice (some ⟨b,0,none⟩) l.length (Bo+c)
 room:c<room
 row:∃ pad,AF A b (Az l++pad) tb∧l.length+pad.length=c∧pad.all AP=true
theorem Ss.buf(h:Ss tb A v l c b)(hl:l.length=c)(h0:0<c):Buf tb A v l [b]:=by
 obtain ⟨rfl,h2,pad,h3,h4,_⟩:=h;have hp:pad=[]:=List.eq_nil_of_length_eq_zero (by omega);subst hp;subst hl;rw [List.append_nil] at h3;refine .inr (.inl ⟨b,b,rfl,⟨h0,h3.row,by rw [AV,Nat.mul_one],Nat.zero_le _,Nat.zero_le _,h3.lt,fun i hi=>?_⟩,rfl⟩);rw [h3.mem] at hi;obtain rfl:i=b:=by simpa using hi
 exact ⟨Nat.zero_le _,h3.lt,_,_,_,_,h3.row⟩
def ZU(P:Program)(U:Nat)(w:AW)(t t2:TypeId)(s x:Value):R Value:=
 match Bt P t,s with
 |some e,.slice base n cap=>
  (match szT P e,Ex P e with
  |some 0,_=>.fail "append size 0"
  |some size,some bytes=>
   match BF P w e t2 size x with
   |none=>.fail "append source"
   |some (m,new)=>
    let need:=n+m
    bif !(Nat.blt need room&&Nat.blt (need*bytes) room&&CE P e size) then .fail "append room" else
    match m with
    |0=>.ok s w
    |_+1=>
     let lb:=bif Nat.ble U cap then cap-U else cap
     bif Nat.ble need lb then
      match base with
      |none=>.fail "append nil with room"
      |some a=>(match w.setCells (DM a (n*size)) new with
       |some w'=>.ok (.slice base need cap) w'
       |none=>.fail "append set")
     else bif Nat.ble U cap then
      match base with
      |none=>.fail "append nil with unknown capacity"
      |some a=>match a.spot,w.get a.block with
       |none,some (.row _ e' fam b0 false)=>
        bif !(Nat.beq e' e&&new.all AP) then .fail "append elements" else
        (match w.CS a (n*size) with
        |none=>.fail "append old cells"
        |some old=>
         match (BL (b0+a.off+n*size) (w.members fam) w).HY (old++new) e fam (b0+a.off) with
         |some (a',w')=>.ok (.slice (some a') need (U+need)) w'
         |none=>.fail "append new")
       |_,_=>.fail "append base row"
     else
      match (match base with | some a=>w.CS a (n*size) | none=>some []) with
      |none=>.fail "append old cells"
      |some old=>(match w.new (.row (old++new) e w.next 0 false) with
       |some (b,w')=>.ok (.slice (some ⟨b,0,none⟩) need (U+need)) w'
       |none=>.fail "append new")
  |_,_=>.fail "append type")
 |_,_=>.fail "append"
theorem XI(A:AW)(t t2:TypeId)(s x:Value):AT P A t t2 s x=ZU P Bo A t t2 s x:=rfl
theorem XH {U:Nat} (T:BT P tb ts tst) (hx:BF P A tb t2 1 x=some (m+1,new)) (hroom:(Nat.blt (n+(m+1)) Go.Abs.room&&Nat.blt ((n+(m+1))*1) Go.Abs.room&&CE P tb 1)=true)
  (hcap:Nat.ble U cap=true) (hfit:Nat.ble (n+(m+1)) (cap-U)=true) (h1:A.setCells ⟨b,n,none⟩ new=some A'):
  ZU P U A ts t2 (.slice (some ⟨b,0,none⟩) n cap) x=.ok (.slice (some ⟨b,0,none⟩) (n+(m+1)) cap) A':=by
 have ha:DM ⟨b,0,none⟩ (n*1)=⟨b,n,none⟩:=by
  unfold DM;cases hb:Nat.beq (n*1) 0 with
  |true=>rw [Ct];have:=Nb hb;rw [Nat.mul_one] at this;rw [this]
  |false=>rw [Cf,Nat.mul_one,Nat.zero_add]
 unfold ZU;simp only [T.sl,T.sz,T.by_,hx];rw [hroom];simp only [hcap,Ct,hfit,ha,h1,Bool.not_true,Cf]
theorem Sm (T:BT P tb ts tst) (hx:BF P A tb t2 1 x=some (m+1,new)) (hroom:(Nat.blt (n+(m+1)) Go.Abs.room&&Nat.blt ((n+(m+1))*1) Go.Abs.room&&CE P tb 1)=true)
  (hcap:Nat.ble Bo cap=true) (hfit:Nat.ble (n+(m+1)) (cap-Bo)=true) (h1:A.setCells ⟨b,n,none⟩ new=some A'):
  AT P A ts t2 (.slice (some ⟨b,0,none⟩) n cap) x=.ok (.slice (some ⟨b,0,none⟩) (n+(m+1)) cap) A':=
 (XI A ts t2 (.slice (some ⟨b,0,none⟩) n cap) x).trans (XH T hx hroom hcap hfit h1)
theorem appendCap {new:List UInt8} (T:BT P tb ts tst) (h:Ss tb A v l c b) (hx:BF P A tb t2 1 x=some (new.length,Az new)) (hf:AB A) (hA:A.next≤Ak) (hfit:l.length+new.length≤c)
  (hk:∀ A' v',Ss tb A' v' (l++new) c b→AA A A' [b]→A'.next=A.next→AB A'→K v' A'):Al (AT P A ts t2 v x) K:=by
 have hc:=h.room;have hroom:(Nat.blt (l.length+new.length) Go.Abs.room&&Nat.blt ((l.length+new.length)*1) Go.Abs.room&&CE P tb 1)=true:=by rw [Nat.mul_one,Ax.2 (by omega),T.hz];rfl
 obtain ⟨rfl,h2,pad,h3,h4,h5⟩:=h;have hlt:=h3.lt;rcases Nat.eq_zero_or_pos new.length with h0 | hpos
 ·have hnew:new=[]:=List.eq_nil_of_length_eq_zero h0;subst hnew;have e:AT P A ts t2 (.slice (some ⟨b,0,none⟩) l.length (Bo+c)) x=.ok (.slice (some ⟨b,0,none⟩) l.length (Bo+c)) A:=by
   unfold AT;simp only [T.sl,T.sz,T.by_,hx];rw [hroom];rfl
  rw [e];refine AR.2 (hk A _ ⟨by rw [List.append_nil],h2,pad,by rw [List.append_nil];exact h3,by rw [List.append_nil];exact h4,h5⟩ (.refl _ _) rfl hf)
 ·obtain ⟨m,hm⟩:∃ m,new.length=m+1:=⟨new.length-1,by omega⟩;obtain ⟨A',h1,w⟩:=DP (new:=Az new) (off:=l.length) h3.row h3.mem (by rw [Lq,AV,AV];omega) (EN new) (by omega);have e:AT P A ts t2 (.slice (some ⟨b,0,none⟩) l.length (Bo+c)) x=.ok (.slice (some ⟨b,0,none⟩) (l.length+new.length) (Bo+c)) A':=by
   rw [hm] at hx hroom;rw [hm];exact Sm T hx hroom (Bj.2 (Nat.le_add_right _ _)) (Bj.2 (by rw [Nat.add_sub_cancel_left,← hm];exact hfit)) h1
  rw [e];have hcs:Ee (Az l++pad) l.length (Az new)=Az (l++new)++pad.drop new.length:=by
   have hp:pad=pad.take new.length++pad.drop new.length:=(List.take_append_drop _ _).symm
   conv=>lhs;rw [hp]
   have hl2:l.length=(Az l).length:=(AV l).symm
   conv=>lhs;arg 2;rw [hl2]
   rw [EZ (Az l) (pad.take new.length) (Az new) (pad.drop new.length) (by rw [List.length_take,AV];omega),C1,Mw]
  refine AR.2 (hk A' _ ⟨by rw [Lq],h2,pad.drop new.length,?_,by rw [Lq,List.length_drop];omega,?_⟩ (w.keeps h3.row) w.next (w.Ao hf h3.row))
  ·rw [← hcs];exact ⟨w.row,by rw [w.mem];exact h3.mem,by rw [w.next];exact h3.lt⟩
  ·rw [List.all_eq_true] at h5 ⊢;exact fun x hx=>h5 x (List.mem_of_mem_drop hx)
theorem KH(n:Nat):Az (List.replicate n 0)=List.replicate n (.int .u8 0):=by
 unfold Az;rw [List.map_replicate];rfl
theorem Th{k:IntKind}(T:BT P tb ts tst)(ht:P.underlying t=some (.int k)){k2:IntKind}(hn:n<room):BF P A tb t 1 (.int k2 (n:Int))=some (n,Az (List.replicate n 0)):=by
 have hz:E4 P tb 1 n=some (List.replicate n (.int .u8 0)):=by
  unfold E4;rw [T.zt];cases n with
  |zero=>rfl
  |succ c=>
   have:Nat.beq ((c+1)*1) 0=false:=beq_false.2 (by omega)
   simp only [this,Cf];show (bif Nat.beq 1 1 then some (DC [.int .u8 0] (c+1)) else none)=_;rw [I2];rfl
 show BF P A tb t 1 (.int k2 (.ofNat n))=_;unfold BF;simp only [ht,Ax.2 hn,Ct,hz,KH]
theorem W4 {k:IntKind} (T:BT P tb ts tst) (ht:P.underlying t=some (.int k)) (hn:n<room) (h0:0<n) (hf:AB A) (hA:A.next<Ak)
  (hk:∀ A',Ss tb A' (.slice (some ⟨A.next,0,none⟩) 0 (Bo+n)) [] n A.next→AA A A' []→A'.next=A.next+1→AB A'→JF A' (some ⟨A.next,0,none⟩) tb=true→K (.slice (some ⟨A.next,0,none⟩) n (Bo+n)) A'):
  Al (AT P A ts t (.slice none 0 0) (.int .i64 (n:Int))) K:=by
 obtain ⟨m,rfl⟩:∃ m,n=m+1:=⟨n-1,by omega⟩;have hroom:(Nat.blt (0+(m+1)) room&&Nat.blt ((0+(m+1))*1) room&&CE P tb 1)=true:=by rw [Nat.mul_one,Nat.zero_add,Ax.2 hn,T.hz];rfl
 have e:=Ii (t:=ts) (A:=A) T.sl T.sz T.by_ (Th (A:=A) (k2:=.i64) T ht hn) hroom hA;rw [Nat.zero_add] at e;rw [e];have m1:Made A (A.push (.row (Az (List.replicate (m+1) 0)) tb A.next 0 false)) (Az (List.replicate (m+1) 0)) tb:=⟨AW.Cv _ hA,rfl,by rw [AW.Cg _ hA,if_pos rfl],hf.alone (Nl _),hf.push _ hA⟩;refine AR.2 (hk _ ⟨rfl,hn,Az (List.replicate (m+1) 0),m1.Bk,by rw [AV,List.length_replicate];simp,EN _⟩ (m1.keeps hf) m1.next m1.Ao ?_);unfold JF;simp only [m1.row];exact beq_true.2 rfl
end
end Go.Abs
namespace Go.Abs
open Go.ChangeShapes Go.WideShapes Go.ChangeAt Go.RowKit
abbrev Arg:=(Nat × Nat) × Option (List Value × TypeId)
def QM(F:Nat):Nat→List Arg→Trie AO→Trie AO
 |_,[],t=>t
 |j,(_,none)::r,t=>QM F (j+1) r t
 |j,(_,some (cs,e))::r,t=>(QM F (j+1) r t).put depth j (some (.row cs e F 0 true))
def wR(n:Nat)(gl:List (Nat × List Value × TypeId))(L:List Arg):AW:=
 ⟨QM (n+L.length) n L (KR gl),n+L.length+1,(Trie.nil:Trie (List Nat)).put depth (n+L.length) (some ((List.range L.length).map (n+·)))⟩
def mR(P:Program)(L:List Arg):Inj P:=mA P (L.map (·.1))
theorem Nh(F:Nat):∀ (L:List Arg) (j:Nat) (t:Trie AO) (i:Nat),j+L.length≤Ak→(QM F j L t).get? i=if i<j then t.get? i else match L[i-j]? with
  |some (_,some (cs,e))=>some (.row cs e F 0 true)
  |_=>t.get? i
 |[],j,t,i,_=>by simp [QM]
 |(p,none)::r,j,t,i,h=>by
  simp only [Lc] at h;simp only [QM];rw [Nh F r (j+1) t i (by omega)];by_cases h1:i<j
  ·rw [if_pos (by omega),if_pos h1]
  ·by_cases h2:i=j
   ·subst h2;rw [if_pos (by omega),Ff h1,Nat.sub_self];rfl
   ·rw [Ff (by omega),Ff h1,show i-j=(i-(j+1))+1 by omega,List.getElem?_cons_succ]
 |(p,some (cs,e))::r,j,t,i,h=>by
  simp only [Lc] at h;simp only [QM];rw [Trie.get?_put depth _ j i _ (by unfold depth Ak at *;omega),Nh F r (j+1) t i (by omega)];by_cases h1:i<j
  ·rw [Ff (by omega),if_pos (by omega),if_pos h1]
  ·by_cases h2:i=j
   ·subst h2;rw [if_pos rfl,Ff h1,Nat.sub_self];rfl
   ·rw [Ff h2,Ff (by omega),Ff h1,show i-j=(i-(j+1))+1 by omega,List.getElem?_cons_succ]
section
variable {P:Program} {W:World} {gl:List (Nat × List Value × TypeId)} {L:List Arg}
def Adh(P:Program)(W:World)(L:List Arg):Prop:=∀ (j:Nat) (p:Nat × Nat) (cs:List Value) (e:TypeId),L[j]? =some (p,some (cs,e))→∃ cs' fr,W.heap[p.1]? =some (.cells cs' e fr)∧p.2≤cs'.size∧
 ∀ i v,cs[i]? =some v→∃ v',cs'[p.2+i]? =some v'∧AI (mR P L) v v'
end
section
variable {H:Type} {enc:TypeId × Value→H} {P:Program}
def flat{β:Type}(f:β→List Value)(l:List β):List Value:=l.flatMap f
theorem DJ{β:Type}{f:β→List Value}{n:Nat}(hn:∀ b,(f b).length=n):∀ l:List β,(flat f l).length=l.length*n
 |[]=>by simp [flat]
 |b::r=>by
  have:=DJ hn r
  simp only [flat,List.flatMap_cons,Lq,hn,Lc] at *;rw [this,Nat.succ_mul];omega
theorem GS{β:Type}{f:β→List Value}{n:Nat}(hn:∀ b,(f b).length=n):∀ (l:List β) (i:Nat) (b:β),l[i]? =some b→∃ rest,(flat f l).drop (i*n)=f b++rest
 |[],i,b,h=>by simp at h
 |x::r,0,b,h=>by
  simp only [List.getElem?_cons_zero,Oi] at h;subst h;exact ⟨flat f r,by simp [flat]⟩
 |x::r,i+1,b,h=>by
  simp only [List.getElem?_cons_succ] at h;obtain ⟨rest,h2⟩:=GS hn r i b h;refine ⟨rest,?_⟩;rw [← h2];simp only [flat,List.flatMap_cons];rw [Nat.succ_mul,Nat.add_comm,← List.drop_drop,List.drop_append,hn,Nat.sub_self];rw [show List.drop n (f x)=[] from List.drop_eq_nil_of_le (by rw [hn];exact Nl _)]
  simp
theorem VN{β:Type}{f:β→List Value}{n:Nat}(hn:∀ b,(f b).length=n){l:List β}{i:Nat}{b:β}(h:l[i]? =some b){k:Nat}(hk:k<n):(flat f l)[i*n+k]? =(f b)[k]? :=by
 obtain ⟨rest,h2⟩:=GS hn l i b h;rw [← List.getElem?_drop,h2,List.getElem?_append_left (by rw [hn];exact hk)]
end
end Go.Abs
namespace Go.Abs
variable {A A':AW} {v:Value} {F S:List Nat} {o q:Nat} {e:TypeId}
structure ET (P:Program) (ts te:TypeId) (n:Nat) {β:Type} (f:β→List Value):Prop where
 us:P.underlying ts=some (.slice te)
 sz:szT P te=some (n+1)
 ag:MN P te=some true
 by':∃ b,Ex P te=some b∧b≤256
 hz:CE P te (n+1)=true
 len:∀ x,(f x).length=n+1
 one:∀ x,(f x).all AP=true
 noT:∀ x,(f x).all (fun v=>!isTuple v)=true
section
variable {P:Program} {ts te:TypeId} {n:Nat} {β:Type} {f:β→List Value}
def RdE(n:Nat)(f:β→List Value)(A:AW)(v:Value)(l:List β)(F:List Nat):Prop:=
 (l=[]∧F=[]∧∃ o c,v=.slice o 0 c)∨∃ r o c cs e g b ro,v=.slice (some ⟨r,o,none⟩) l.length c∧A.get r=some (.row cs e g b ro)∧g<A.next∧F=[g]∧∀ (i:Nat) p,l[i]? =some p→∃ rest,cs.drop (o+i*(n+1))=f p++rest
theorem RdE.keeps{l:List β}(h:RdE n f A v l F)(k:AA A A' S)(hd:∀ x∈F,x∉S):RdE n f A' v l F:=by
 rcases h with h | ⟨r,o,c,cs,e,g,b,ro,h1,h2,h3,rfl,h4⟩
 ·exact .inl h
 ·exact .inr ⟨r,o,c,cs,e,g,b,ro,h1,k.get r _ h2 h3 (hd g (by simp)),Nat.lt_of_lt_of_le h3 k.next,rfl,h4⟩
theorem RdE.one{l:List β}(h:RdE n f A v l F):AP v=true∧isTuple v=false:=by
 rcases h with ⟨_,_,o,c,rfl⟩ | ⟨r,o,c,cs,e,g,b,ro,rfl,_⟩<;>exact ⟨rfl,rfl⟩
theorem RdE.slice{l:List β}(h:RdE n f A v l F):∃ o c,v=.slice o l.length c:=by
 rcases h with ⟨rfl,_,o,c,rfl⟩ | ⟨r,o,c,cs,e,g,b,ro,rfl,_⟩<;>exact ⟨_,_,rfl⟩
theorem RdE.fam{l:List β}(h:RdE n f A v l F):∀ x∈F,x<A.next:=by
 rcases h with ⟨_,rfl,_⟩ | ⟨r,o,c,cs,e,g,b,ro,_,_,h3,rfl,_⟩
 ·simp
 ·simpa using h3
theorem RdE.nil(A:AW)(o:Option Addr)(c:Nat):RdE n f A (.slice o 0 c) [] []:=.inl ⟨rfl,rfl,o,c,rfl⟩
theorem RdE.len(T:ET P ts te n f){B:AW}{l:List β}(h:RdE n f A v l F):Br P B ts v=some (.int .i64 (l.length:Int)):=by
 obtain ⟨o,c,rfl⟩:=h.slice;unfold Br;simp only [T.us]
theorem Du:∀ (a rest:List Value),a.all (fun v=>!isTuple v)=true→AZ (a++rest) a.length=some a
 |[],rest,_=>by simp [AZ]
 |v::a,rest,h=>by
  simp only [List.all_cons,Bq,Bool.not_eq_true'] at h;rw [List.cons_append,Lc,L0 h.1,Du a rest h.2]
theorem JT(T:ET P ts te n f){b len c i:Nat}(hi:i<len):Aj P ts (.slice (some ⟨b,o,none⟩) len c) (.int .i64 (i:Int))=some (.pointer (some ⟨b,o+i*(n+1),none⟩)):=by
 show Aj P ts _ (.int .i64 (.ofNat i))=_;unfold Aj;simp only [T.us,Ax.2 hi,Ct,T.sz];unfold DM;cases hb:Nat.beq (i*(n+1)) 0 with
 |true=>rw [Ct,Nb hb,Nat.add_zero]
 |false=>rfl
theorem RdE.at(T:ET P ts te n f){A:AW}{v:Value}{l:List β}{F:List Nat}(h:RdE n f A v l F){i:Nat}{p:β}(hi:l[i]? =some p):
  ∃ r o,Aj P ts v (.int .i64 (i:Int))=some (.pointer (some ⟨r,o,none⟩))∧A.cells? ⟨r,o,none⟩ (n+1)=some (f p)∧Ad P A te (.pointer (some ⟨r,o,none⟩))=some (.agg ⟨f p⟩):=by
 rcases h with ⟨rfl,_⟩ | ⟨r,o,c,cs,e,g,b,ro,rfl,h2,h3,_,h4⟩
 ·simp at hi
 ·have hlt:i<l.length:=(Gs.1 hi).1;obtain ⟨rest,hr⟩:=h4 i p hi;have hc:A.cells? ⟨r,o+i*(n+1),none⟩ (n+1)=some (f p):=by
   rw [BH h2,hr]
   have:=Du (f p) rest (T.noT p)
   rwa [T.len] at this
  refine ⟨r,o+i*(n+1),JT T hlt,hc,?_⟩;show CC P A te _=_;unfold CC;simp only [T.ag,T.sz,hc]
theorem cell_of{r m:Nat}{cs:List Value}(h:A.cells? ⟨r,o,none⟩ (m+1)=some cs){k:Nat}(hk:cs[k]? =some v):A.cell? ⟨r,o+k,none⟩=some v:=by
 unfold AW.cells? at h;simp only at h;unfold AW.cell?;simp only;split at h
 ·rename_i cs0 e g b ro hg;have key:∀ (m o k:Nat) (l cs:List Value),AZ (l.drop o) m=some cs→cs[k]? =some v→cellOf l (o+k)=some v:=by
   intro m
   induction m with
   |zero=>intro o k l cs h hk;unfold AZ at h;simp at h;subst h;simp at hk
   |succ m ih=>
    intro o k l cs h hk;cases hl:l.drop o with
    |nil=>rw [hl] at h;unfold AZ at h;cases h
    |cons x r=>
     rw [hl] at h;unfold AZ at h;cases hx:isTuple x with
     |true=>rw [hx] at h;cases h
     |false=>
      rw [hx,Cf] at h;cases hr:AZ r m with
      |none=>rw [hr] at h;cases h
      |some q=>
       rw [hr] at h;simp only [Oi] at h;subst h;have hget:l[o]? =some x:=by
        have:(l.drop o)[0]? =some x:=by rw [hl];rfl
        rw [List.getElem?_drop,Nat.add_zero] at this;exact this
       have hr':l.drop (o+1)=r:=by
        have:=Qx hget
        rw [hl] at this
        simpa using this.symm
       cases k with
       |zero=>
        obtain rfl:x=v:=by simpa using hk
        exact D8 hget hx
       |succ k=>
        have:=ih (o+1) k l q (by rw [hr'];exact hr) (by simpa using hk)
        rw [show o+(k+1)=o+1+k by omega];exact this
  exact key (m+1) o k cs0 cs h hk
 ·cases h
def C4(te:TypeId)(n:Nat)(f:β→List Value)(A:AW)(v:Value)(l:List β)(F:List Nat):Prop:=EA A te (n+1) v l.length (flat f l) F
theorem IB(a b:List β):flat f (a++b)=flat f a++flat f b:=by simp [flat]
theorem C4.rd(hlen:∀ x,(f x).length=n+1){l:List β}(h:C4 te n f A v l F):RdE n f A v l F:=by
 rcases h with ⟨rfl,h2,_,rfl⟩ | ⟨b,g,rfl,h2,rfl⟩
 ·have:l=[]:=List.eq_nil_of_length_eq_zero h2
  subst this;exact .nil _ _ _
 ·exact .inr ⟨b,0,_,_,_,g,0,false,rfl,h2.row,h2.ltf,rfl,fun i p hi=>by rw [Nat.zero_add];exact GS hlen l i p hi⟩
theorem C4.keeps{l:List β}(h:C4 te n f A v l F)(k:AA A A' S)(hd:∀ x∈F,x∉S):C4 te n f A' v l F:=EA.keeps h k hd
theorem C4.nil(A:AW):C4 te n f A (.slice none 0 0) [] []:=EA.nil _ _ _
theorem C4.lt{l:List β}(h:C4 te n f A v l F):∀ x∈F,x<A.next:=EA.lt h
theorem C4.one{l:List β}(h:C4 te n f A v l F):AP v=true∧isTuple v=false:=EA.one h
theorem PG(T:ET P ts te n f){p:β}(hq:AF A q (f p) e):BF P A te ts (n+1) (.slice (some ⟨q,0,none⟩) 1 1)=some (0+1,f p):=by
 unfold BF;simp only [T.us];show DY A (n+1) (.slice (some ⟨q,0,none⟩) 1 1)=_;unfold DY
 have:=Du (f p) [] (T.noT p)
 rw [List.append_nil,T.len] at this;simp only [Nat.one_mul,BH hq.row,List.drop_zero,this]
theorem C4.append (T:ET P ts te n f) {l:List β} {p:β} {K:Value→AW→Prop} (h:C4 te n f A v l F) (hq:AF A q (f p) e) (hf:AB A) (hA:A.next<Ak) (hl:l.length<1000000)
  (hk:∀ v' A' F',C4 te n f A' v' (l++[p]) F'→AA A A' F→(∀ x∈F',x∈F∨x=A.next)→A'.next=A.next+1→AB A'→K v' A'):Al (AT P A ts ts v (.slice (some ⟨q,0,none⟩) 1 1)) K:=by
 have hroom:room=68719476736:=rfl;obtain ⟨b,hb,hb2⟩:=T.by'
 have hse:Bt P ts=some te:=by unfold Bt;rw [T.us]
 have hm:(l.length+(0+1))*b≤(l.length+(0+1))*256:=Nat.mul_le_mul_left _ hb2;refine J6 (m:=0) (size:=n) hse T.sz hb T.hz (PG T hq) (by rw [T.len];omega) (T.one p) h hf hA (by omega) (by omega) fun v' A' F' h1 h2 h3 h4 h5=>?_;refine hk v' A' F' ?_ h2 h3 h4 h5;show EA A' te (n+1) v' (l++[p]).length (flat f (l++[p])) F';rw [Lq,IB];have e:flat f [p]=f p:=by simp [flat]
 rw [e];exact h1
end
section
variable {P:Program} {ts te:TypeId} {n:Nat} {β:Type} {f:β→List Value}
theorem SS(hlen:∀ x,(f x).length=n+1){cs:List Value}:∀ (l:List β) (o:Nat),(∀ (i:Nat) p,l[i]? =some p→∃ rest,cs.drop (o+i*(n+1))=f p++rest)→∃ rest,cs.drop o=flat f l++rest
 |[],o,_=>⟨cs.drop o,by simp [flat]⟩
 |p::r,o,h=>by
  obtain ⟨rest0,h0⟩:=h 0 p rfl;obtain ⟨rest,h1⟩:=SS hlen r (o+(n+1)) fun i q hq=>by
   have:=h (i+1) q (by simpa using hq)
   rwa [Nat.succ_mul,show o+(i*(n+1)+(n+1))=o+(n+1)+i*(n+1) by omega] at this
  refine ⟨rest,?_⟩;rw [Nat.zero_mul,Nat.add_zero] at h0;have h2:cs.drop (o+(n+1))=rest0:=by
   rw [← List.drop_drop,h0,← hlen p,List.drop_left]
  rw [h2] at h1;rw [h0,h1];simp [flat]
theorem VM(h:∀ x,(f x).all (fun v=>!isTuple v)=true)(l:List β):(flat f l).all (fun v=>!isTuple v)=true:=by
 rw [List.all_eq_true];intro v hv;obtain ⟨b,_,hb⟩:=List.mem_flatMap.1 hv;exact List.all_eq_true.1 (h b) v hb
theorem MV(h:∀ x,(f x).all AP=true)(l:List β):(flat f l).all AP=true:=by
 rw [List.all_eq_true];intro v hv;obtain ⟨b,_,hb⟩:=List.mem_flatMap.1 hv;exact List.all_eq_true.1 (h b) v hb
theorem RdE.src(T:ET P ts te n f){A:AW}{x:Value}{l:List β}{F:List Nat}(h:RdE n f A x l F):BF P A te ts (n+1) x=some (l.length,flat f l):=by
 unfold BF;simp only [T.us];rcases h with ⟨rfl,_,o,c,rfl⟩ | ⟨r,o,c,cs,e,g,b,ro,rfl,h2,h3,_,h4⟩
 ·cases o with
  |none=>rfl
  |some a=>
   unfold DY;simp only [Nat.zero_mul];rfl
 ·show DY A (n+1) _=_;unfold DY;obtain ⟨rest,hr⟩:=SS T.len l o h4
  have:=Du (flat f l) rest (VM T.noT l)
  rw [DJ T.len] at this;simp only [BH h2,hr,this]
theorem C4.LU (T:ET P ts te n f) {A:AW} {v x:Value} {l l2:List β} {F F2:List Nat} {K:Value→AW→Prop} (h:C4 te n f A v l F) (hx:RdE n f A x l2 F2) (hf:AB A) (hA:A.next<Ak) (hl:l.length<1000000) (hl2:l2.length<1000000)
  (hk:∀ v' A' F',C4 te n f A' v' (l++l2) F'→AA A A' F→(∀ x∈F',x∈F∨x=A.next)→A'.next≤A.next+1→AB A'→K v' A'):Al (AT P A ts ts v x) K:=by
 have hroom:room=68719476736:=rfl;obtain ⟨b,hb,hb2⟩:=T.by'
 have hse:Bt P ts=some te:=by unfold Bt;rw [T.us]
 have hsrc:=hx.src T;cases l2 with
 |nil=>
  have hv:∃ o m c,v=.slice o m c∧m=l.length:=by
   rcases h with ⟨rfl,h2,_⟩ | ⟨b',g,rfl,_⟩
   ·exact ⟨_,_,_,rfl,h2.symm⟩
   ·exact ⟨_,_,_,rfl,rfl⟩
  obtain ⟨o,m,c,rfl,rfl⟩:=hv;have hm:(l.length+0)*b≤(l.length+0)*256:=Nat.mul_le_mul_left _ hb2;have e:AT P A ts ts (.slice o l.length c) x=.ok (.slice o l.length c) A:=by
   have hsrc:BF P A te ts (n+1) x=some (0,[]):=hsrc;unfold AT;simp only [hse,T.sz,hb,hsrc];rw [Ax.2 (show l.length+0<room by omega),Ax.2 (show (l.length+0)*b<room by omega),T.hz];rfl
  rw [e];refine AR.2 (hk _ A F ?_ (.refl _ _) (fun x hx=>.inl hx) (by omega) hf);rw [List.append_nil];exact h
 |cons p r=>
  rw [Lc] at hl2;have hm:(l.length+(r.length+1))*b≤(l.length+(r.length+1))*256:=Nat.mul_le_mul_left _ hb2;refine J6 (m:=r.length) (size:=n) hse T.sz hb T.hz hsrc (DJ T.len _) (MV T.one _) h hf hA (by omega) (by omega) fun v' A' F' h1 h2 h3 h4 h5=>?_;refine hk v' A' F' ?_ h2 h3 (by omega) h5;show EA A' te (n+1) v' (l++p::r).length (flat f (l++p::r)) F';rw [Lq,IB];exact h1
end
structure ES (P:Program) (ts te:TypeId) {β:Type} (f:β→List Value):Prop where
 us:P.underlying ts=some (.slice te)
 sz:szT P te=some 1
 by':∃ b,Ex P te=some b∧b≤256
 hz:CE P te 1=true
 ld:∀ A a,Ad P A te (.pointer (some a))=A.cell? a
 len:∀ x,(f x).length=1
 one:∀ x,(f x).all AP=true
 noT:∀ x,(f x).all (fun v=>!isTuple v)=true
section
variable {P:Program} {ts te:TypeId} {β:Type} {f:β→List Value}
theorem ES.Aa8(T:ES P ts te f){A B:AW}{v:Value}{l:List β}{F:List Nat}(h:RdE 0 f A v l F):Br P B ts v=some (.int .i64 (l.length:Int)):=by
 obtain ⟨o,c,rfl⟩:=h.slice;unfold Br;rw [T.us]
theorem ES.ia(T:ES P ts te f){b o len c i:Nat}(hi:i<len):Aj P ts (.slice (some ⟨b,o,none⟩) len c) (.int .i64 (i:Int))=some (.pointer (some ⟨b,o+i,none⟩)):=by
 show Aj P ts (.slice (some ⟨b,o,none⟩) len c) (.int .i64 (.ofNat i))=_;unfold Aj;simp only [T.us,T.sz,Ax.2 hi,Ct,Nat.mul_one];unfold DM;cases hb:Nat.beq i 0 with
 |true=>
  have:=Nb hb
  subst this
  simp
 |false=>simp
theorem ES.at(T:ES P ts te f){A:AW}{v:Value}{l:List β}{F:List Nat}(h:RdE 0 f A v l F){i:Nat}{p:β}(hi:l[i]? =some p){w:Value}(hw:f p=[w]):∃ a,Aj P ts v (.int .i64 (i:Int))=some (.pointer (some a))∧Ad P A te (.pointer (some a))=some w:=by
 have hlt:=(Gs.1 hi).1;rcases h with ⟨rfl,_⟩ | ⟨r,o,c,cs,e,g,b,ro,rfl,h2,h3,h4,h5⟩
 ·simp at hi
 ·obtain ⟨rest,hr⟩:=h5 i p hi;refine ⟨_,T.ia hlt,?_⟩;rw [T.ld,Ag h2];have hn:=T.noT p;rw [hw] at hr hn;have h1:cs[o+i]? =some w:=by
   have:=congrArg (fun l:List Value=>l[0]?) hr
   simpa using this
  exact D8 h1 (by simpa using hn)
end
variable {A A':AW} {r c i it m:Nat} {S:List Nat} {K:Value→AW→Prop}
structure En (α β:Type) where
 k:α
 v:β
 b:Nat
section
variable {α β:Type} (ke:α→Value) (ve:β→Value)
def En.entry(e:En α β):MapEntry:={ key:=ke e.k,val:=ve e.v,born:=e.b }
structure MT (P:Program) (t kt et:TypeId) (ke:α→Value) (keq:α→α→Bool):Prop where
 ty:P.underlying t=some (.map kt et)
 eq:∀ a b,eqA P kt (ke a) (ke b)=some (keq a b)
 dec:∀ {a b},keq a b=true↔a=b
 q:∀ e a,H3 P e kt (ke a)=true
 same:∀ a,(AG 4 (ke a)&&Instr.sameBits 10000 (ke a) (ke a))=true
structure Ef (A:AW) (r:Nat) (es:List (En α β)) (c:Nat):Prop where
 row:Sp A r (es.map (En.entry ke ve)) c
 lt:∀ e∈es,e.b<c
 nb:(es.map En.b).Nodup
 nk:(es.map En.k).Nodup
end
section
variable {P:Program} {X:Bc} {W0:World} {m0:Inj P} {α β:Type} {ke:α→Value} {ve:β→Value} {keq:α→α→Bool} {t kt et:TypeId}
theorem Ef.keeps{es:List (En α β)}(h:Ef ke ve A r es c)(k:AA A A' S)(hn:r∉S):Ef ke ve A' r es c:=⟨h.row.keeps k hn,h.lt,h.nb,h.nk⟩
theorem Ef.ltA{es:List (En α β)}(h:Ef ke ve A r es c):r<A.next:=h.row.lt
def KX(keq:α→α→Bool):List (En α β)→α→Option β
 |[],_=>none
 |e::es,k=>if keq k e.k=true then some e.v else KX keq es k
def atE(keq:α→α→Bool):List (En α β)→α→Nat→Option Nat
 |[],_,_=>none
 |e::es,k,i=>if keq k e.k=true then some i else atE keq es k (i+1)
theorem LK(T:MT P t kt et ke keq)(k:α):∀ (es:List (En α β)) (i:Nat),Gp P kt (ke k) (es.map (En.entry ke ve)) i=some (atE keq es k i)
 |[],i=>rfl
 |e::es,i=>by
  show (match eqA P kt (ke k) (ke e.k) with | some true=>some (some i) | some false=>Gp P kt (ke k) (es.map (En.entry ke ve)) (i+1) | none=>none)=_;rw [T.eq];unfold atE;cases h:keq k e.k with
  |true=>simp
  |false=>
   simp only [Bool.false_eq_true,if_false];exact LK T k es (i+1)
theorem LS{es:List (En α β)}{k:α}{j:Nat}(h:atE keq es k i=some j):i≤j∧j-i<es.length∧∃ e,es[j-i]? =some e∧keq k e.k=true∧KX keq es k=some e.v:=by
 induction es generalizing i with
 |nil=>cases h
 |cons e es ih=>
  unfold atE at h;unfold KX;split at h
  ·rename_i hk;cases h;rw [if_pos hk,Nat.sub_self];exact ⟨Nl _,by simp,e,rfl,hk,rfl⟩
  ·rename_i hk;obtain ⟨h1,h2,e',h3,h4,h5⟩:=ih h;refine ⟨by omega,by simp;omega,e',?_,h4,?_⟩
   ·rw [show j-i=(j-(i+1))+1 by omega];exact h3
   ·rw [Ff hk];exact h5
theorem Pb{es:List (En α β)}{k:α}(h:atE keq es k i=none):(∀ e∈es,keq k e.k=false)∧KX keq es k=none:=by
 induction es generalizing i with
 |nil=>exact ⟨by simp,rfl⟩
 |cons e es ih=>
  unfold atE at h;unfold KX;split at h
  ·cases h
  ·rename_i hk;obtain ⟨h1,h2⟩:=ih h;refine ⟨fun x hx=>?_,by rw [Ff hk];exact h2⟩;rcases Mk.1 hx with rfl | hx
   ·simpa using hk
   ·exact h1 x hx
theorem HZ(T:MT P t kt et ke keq):Dp P t=some (kt,et):=by unfold Dp;rw [T.ty]
theorem Ef.look(T:MT P t kt et ke keq){es:List (En α β)}(h:Ef ke ve A r es c){z:Value}(hz:C2 P et=some z)(k:α)(ok:Bool):
  C5 P A t (.map (some r)) (ke k) ok=some (match KX keq es k with | some v=>(bif ok then .tuple #[ve v,.bool true] else ve v) | none=>(bif ok then .tuple #[z,.bool false] else z)):=by
 unfold C5 Km;simp only [HZ T,h.row.row,T.q,Ct,LK T];cases ha:atE keq es k 0 with
 |none=>
  rw [(Pb ha).2];simp only [hz]
 |some i=>
  obtain ⟨_,_,e,h3,_,h5⟩:=LS ha;rw [Nat.sub_zero] at h3;rw [h5];simp only [List.getElem?_map,h3,Option.map_some];rfl
def JJ(keq:α→α→Bool):List (En α β)→α→β→Nat→List (En α β)
 |[],k,v,c=>[⟨k,v,c⟩]
 |e::es,k,v,c=>if keq k e.k=true then ⟨k,v,e.b⟩::es else e::JJ keq es k v c
theorem SC(k:α)(v:β)(c:Nat):∀ (es:List (En α β)) (i j:Nat),(∀ {a b},keq a b=true↔a=b)→atE keq es k i=some j→DE (es.map (En.entry ke ve)) (j-i) (ke k) (ve v)=(JJ keq es k v c).map (En.entry ke ve)
 |[],i,j,_,h=>by cases h
 |e::es,i,j,hd,h=>by
  unfold atE at h;unfold JJ;split at h
  ·rename_i hk;cases h;rw [if_pos hk,Nat.sub_self];rfl
  ·rename_i hk
   have:=(LS h).1
   rw [Ff hk,show j-i=(j-(i+1))+1 by omega];show e.entry ke ve::DE (es.map (En.entry ke ve)) (j-(i+1)) (ke k) (ve v)=_;rw [SC k v c es (i+1) j hd h];rfl
theorem JI{es:List (En α β)}{k:α}(hn:∀ e∈es,keq k e.k=false)(v:β)(c:Nat):JJ keq es k v c=es++[(⟨k,v,c⟩:En α β)]:=by
 induction es with
 |nil=>rfl
 |cons e es ih=>
  unfold JJ;rw [Ff (by rw [hn e List.mem_cons_self];simp),ih fun x hx=>hn x (List.mem_cons_of_mem _ hx)];rfl
theorem PY(k:α)(v:β)(c:Nat):∀ (es:List (En α β)),(∀ {a b},keq a b=true↔a=b)→(∃ e∈es,keq k e.k=true)→(JJ keq es k v c).map En.k=es.map En.k∧(JJ keq es k v c).map En.b=es.map En.b
 |[],_,h=>by obtain ⟨e,he,_⟩:=h;cases he
 |e::es,hd,h=>by
  unfold JJ;split
  ·rename_i hk;rw [Mc,Mc,Mc,Mc,← hd.1 hk];exact ⟨rfl,rfl⟩
  ·rename_i hk;obtain ⟨x,hx,h2⟩:=h;rcases Mk.1 hx with rfl | hx
   ·exact absurd h2 hk
   ·obtain ⟨h3,h4⟩:=PY k v c es hd ⟨x,hx,h2⟩;rw [Mc,Mc,Mc,Mc,h3,h4];exact ⟨rfl,rfl⟩
theorem Ef.put (T:MT P t kt et ke keq) {es:List (En α β)} (h:Ef ke ve A r es c) (hf:AB A) (hb:A.next≤Ak) {k:α} {v:β} {K:AW→Prop}
  (hk:∀ A' c',Ef ke ve A' r (JJ keq es k v c) c'→AA A A' [r]→A'.next=A.next→AB A'→K A'):AQ (BV P A t (.map (some r)) (ke k) (ve v)) K:=by
 unfold BV;simp only [HZ T,h.row.row,T.q,Ct,LK T];cases ha:atE keq es k 0 with
 |none=>
  obtain ⟨h1,h2⟩:=Pb ha;obtain ⟨g1,g2,g3,g4⟩:=h.row.put (es':=es.map (En.entry ke ve)++[{ key:=ke k,val:=ve v,born:=c }]) (c':=c+1) hf hb;simp only;refine GX.2 (hk _ (c+1) ⟨?_,?_,?_,?_⟩ g2 g3 g4)
  ·rw [JI h1,List.map_append];exact g1
  ·rw [JI h1];intro e he;rcases Mz.1 he with he | he
   ·have:=h.lt e he;omega
   ·rw [Ms.1 he];exact Nat.lt_succ_self c
  ·rw [JI h1,List.map_append,List.nodup_append];refine ⟨h.nb,by simp,fun a ha b hb=>?_⟩;obtain ⟨e,he,rfl⟩:=List.mem_map.1 ha
   have:=h.lt e he
   simp at hb;omega
  ·rw [JI h1,List.map_append,List.nodup_append];refine ⟨h.nk,by simp,fun a ha b hb=>?_⟩;obtain ⟨e,he,rfl⟩:=List.mem_map.1 ha
   have:=h1 e he
   simp at hb;subst hb;intro h0;rw [T.dec.2 h0.symm] at this;cases this
 |some i=>
  obtain ⟨_,_,e,h3,h4,_⟩:=LS ha;rw [Nat.sub_zero] at h3;have hke:k=e.k:=T.dec.1 h4;simp only [List.getElem?_map,h3,Option.map_some];have hs:(AG 4 (e.entry ke ve).key&&Instr.sameBits 10000 (e.entry ke ve).key (ke k))=true:=by
   show (AG 4 (ke e.k)&&Instr.sameBits 10000 (ke e.k) (ke k))=true;rw [hke];exact T.same _
  rw [hs,Ct];have hset:=SC (ke:=ke) (ve:=ve) k v c es 0 i T.dec ha;rw [Nat.sub_zero] at hset;rw [hset];obtain ⟨g1,g2,g3,g4⟩:=h.row.put (es':=(JJ keq es k v c).map (En.entry ke ve)) (c':=c) hf hb;obtain ⟨p1,p2⟩:=PY k v c es T.dec ⟨e,List.mem_of_getElem? h3,h4⟩;refine GX.2 (hk _ c ⟨g1,fun x hx=>?_,by rw [p2];exact h.nb,by rw [p1];exact h.nk⟩ g2 g3 g4)
  have:x.b∈(JJ keq es k v c).map En.b:=List.mem_map.2 ⟨x,hx,rfl⟩
  rw [p2] at this;obtain ⟨y,hy,hyb⟩:=List.mem_map.1 this
  have:=h.lt y hy
  omega
structure Iter (A:AW) (it m c:Nat) (vs:List (En α β)):Prop where
 get:A.get it=some (.mit (some m) c (vs.map En.b) c)
 lt:it<A.next
theorem Iter.keeps{vs:List (En α β)}(h:Iter A it m c vs)(k:AA A A' S)(hn:it∉S):Iter A' it m c vs:=⟨k.get it _ h.get h.lt hn,Nat.lt_of_lt_of_le h.lt k.next⟩
theorem Ef.range (T:MT P t kt et ke keq) {es:List (En α β)} (h:Ef ke ve A r es c) (hf:AB A) (hA:A.next<Ak) {K:Value→AW→Prop}
  (hk:∀ A',Iter (α:=α) (β:=β) A' A.next r c []→AA A A' []→A'.next=A.next+1→AB A'→K (.pointer (some ⟨A.next,0,none⟩)) A'):anW P X W0 m0 (Ri P A t (.map (some r))) K:=by
 unfold Ri AW.new;simp only [T.ty,h.row.row,Ax.2 hA,Ct];exact .inl ⟨_,_,rfl,hk (A.push (.mit (some r) c [] c)) ⟨by rw [AW.Cg _ hA,if_pos rfl];rfl,by rw [AW.Co];omega⟩ ((AW.Cv _ hA).keeps hf) rfl (hf.push _ hA)⟩
theorem U9{vs:List (En α β)}(h:Iter A it m c vs)(hf:AB A)(hA:A.next≤Ak)(e:En α β):Iter (A.put it (.mit (some m) c (vs.map En.b++[e.b]) c)) it m c (vs++[e])∧AA A (A.put it (.mit (some m) c (vs.map En.b++[e.b]) c)) [it]∧
  (A.put it (.mit (some m) c (vs.map En.b++[e.b]) c)).next=A.next∧AB (A.put it (.mit (some m) c (vs.map En.b++[e.b]) c)):=by
 have hlt:=h.lt;have hg:∀ i,(A.put it (.mit (some m) c (vs.map En.b++[e.b]) c)).get i=if i=it then some (.mit (some m) c (vs.map En.b++[e.b]) c) else A.get i:=fun i=>AW.Cp A it i _ (by omega)
 refine ⟨⟨by rw [hg,if_pos rfl,List.map_append];rfl,hlt⟩,⟨Nl _,fun i o hi _ hn=>?_,fun f _ _=>rfl⟩,rfl,⟨hf.fams,fun i hi=>?_⟩⟩
 ·rw [hg,Ff (fun e=>?_)]
  ·exact hi
  ·subst e;rw [h.get] at hi;cases hi;exact hn (Ms.2 rfl)
 ·have hi:A.next≤i:=hi;rw [hg,Ff (by omega)];exact hf.get i hi
theorem Yx{es:List (En α β)}(hn:(es.map En.b).Nodup):∀ {x y:En α β},x∈es→y∈es→x.b=y.b→x=y:=by
 induction es with
 |nil=>intro x y hx;cases hx
 |cons e es ih=>
  simp only [Mc,List.nodup_cons] at hn;intro x y hx hy hxy;rcases Mk.1 hx with hx | hx
  ·rcases Mk.1 hy with hy | hy
   ·rw [hx,hy]
   ·exact absurd (List.mem_map.2 ⟨y,hy,by rw [← hxy,hx]⟩) hn.1
  ·rcases Mk.1 hy with hy | hy
   ·exact absurd (List.mem_map.2 ⟨x,hx,by rw [hxy,hy]⟩) hn.1
   ·exact ih hn.2 hx hy hxy
theorem HW{γ δ:Type}(f:γ→δ):∀ {l:List γ},(l.map f).Nodup→l.Nodup
 |[],_=>List.nodup_nil
 |x::l,h=>by
  simp only [Mc,List.nodup_cons] at h;exact List.nodup_cons.2 ⟨fun hx=>h.1 (List.mem_map.2 ⟨x,hx,rfl⟩),HW f h.2⟩
theorem Ef.next {es vs:List (En α β)} (h:Ef ke ve A r es c) (hi:Iter A it r c vs) (hv:∀ e∈vs,e∈es) (hf:AB A) (hA:A.next≤Ak)
  (hmore:∀ e A',e∈es→e∉vs→Iter A' it r c (vs++[e])→AA A A' [it]→A'.next=A.next→AB A'→K (.tuple #[.bool true,ke e.k,ve e.v]) A') (hdone:(∀ e∈es,e∈vs)→K (.tuple #[.bool false]) A):
  anW P X W0 m0 (MA A (.pointer (some ⟨it,0,none⟩)) false) K:=by
 refine .inr (.inr (.inr ⟨it,A,by unfold MA;simp only [hi.get],r,c,vs.map En.b,c,es.map (En.entry ke ve),c,false,hi.get,h.row.row,?_,fun cd hcd=>?_⟩))
 ·cases hes:es with
  |nil=>simp
  |cons e es'=>
   have:e.b<c:=h.lt e (by rw [hes];simp)
   have hb:Nat.ble c e.b=false:=BA.2 this;simp [En.entry,hb]
 ·have inj:∀ {x y:En α β},x∈es→y∈es→x.b=y.b→x=y:=Yx h.nb;have seen:∀ e∈es,(vs.map En.b).contains e.b=true↔e∈vs:=by
   intro e he;rw [List.contains_iff_mem,List.mem_map];constructor
   ·rintro ⟨x,hx,hxe⟩;rw [← inj (hv x hx) he hxe];exact hx
   ·intro hv';exact ⟨e,hv',rfl⟩
  unfold O7 at hcd;rcases Mz.1 hcd with hcd | hcd
  ·split at hcd
   ·rename_i hem;obtain rfl:cd=none:=by simpa using hcd
    refine hdone fun e he=>?_;by_cases hin:e∈vs
    ·exact hin
    ·exfalso;have hc:(vs.map En.b).contains e.b=false:=by
      cases hcc:(vs.map En.b).contains e.b with
      |false=>rfl
      |true=>exact absurd ((seen e he).1 hcc) hin
     have:e.entry ke ve∈(((es.map (En.entry ke ve)).filter fun e=>!(vs.map En.b).contains e.born).filter fun e=>Nat.blt e.born c):=by
      rw [List.mem_filter,List.mem_filter];refine ⟨⟨List.mem_map.2 ⟨e,he,rfl⟩,?_⟩,Ax.2 (h.lt e he)⟩;show (!(vs.map En.b).contains e.b)=true;rw [hc];rfl
     rw [List.isEmpty_iff.1 hem] at this;cases this
   ·cases hcd
  ·obtain ⟨me,hme,rfl⟩:=List.mem_map.1 hcd;have hme2:me∈(es.map (En.entry ke ve)).filter fun e=>!(vs.map En.b).contains e.born:=by
    rcases Mz.1 hme with hme | hme
    ·exact (List.mem_filter.1 hme).1
    ·exact (List.mem_filter.1 hme).1
   obtain ⟨hm1,hm2⟩:=List.mem_filter.1 hme2;obtain ⟨e,he,rfl⟩:=List.mem_map.1 hm1;have hm2:(!(vs.map En.b).contains e.b)=true:=hm2;have hnv:e∉vs:=fun hin=>by rw [(seen e he).2 hin] at hm2;cases hm2
   obtain ⟨g1,g2,g3,g4⟩:=U9 hi hf hA e;exact hmore e _ he hnv g1 g2 g3 g4
theorem Qd(l:List Nat)(x:Nat):Jg (l++[x])=some x:=by
 induction l with
 |nil=>rfl
 |cons a l ih=>
  cases l with
  |nil=>rfl
  |cons b l=>exact ih
theorem Ef.entry{es vs:List (En α β)}(h:Ef ke ve A r es c){e:En α β}(hi:Iter A it r c (vs++[e]))(he:e∈es)(hk:K (.tuple #[ke e.k,ve e.v]) A):
  anW P X W0 m0 (R4 A (.pointer (some ⟨it,0,none⟩))) K:=by
 have hfind:∀ (l:List (En α β)) (i:Nat),e∈l→(l.map En.b).Nodup→∃ j,DK e.b (l.map (En.entry ke ve)) i=some (i+j)∧l[j]? =some e:=by
  intro l
  induction l with
  |nil=>intro i h;cases h
  |cons x l ih=>
   intro i hx hn;simp only [Mc,List.nodup_cons] at hn;by_cases hxb:x.b=e.b
   ·rcases Mk.1 hx with rfl | hx
    ·refine ⟨0,?_,rfl⟩;show (bif Nat.beq e.b e.b then some i else _)=_;rw [Nat.beq_refl];rfl
    ·exact absurd (List.mem_map.2 ⟨e,hx,hxb.symm⟩) hn.1
   ·rcases Mk.1 hx with rfl | hx
    ·exact absurd rfl hxb
    ·obtain ⟨j,h1,h2⟩:=ih (i+1) hx hn.2;refine ⟨j+1,?_,h2⟩;show (bif Nat.beq x.b e.b then some i else DK e.b (l.map (En.entry ke ve)) (i+1))=_
     have:Nat.beq x.b e.b=false:=by
      cases hb:Nat.beq x.b e.b with
      |false=>rfl
      |true=>exact absurd (Nb hb) hxb
     rw [this,Cf,h1,show i+1+j=i+(j+1) by omega]
 obtain ⟨j,h1,h2⟩:=hfind es 0 he h.nb;rw [Nat.zero_add] at h1;have hl:Jg ((vs++[e]).map En.b)=some e.b:=by rw [List.map_append];exact Qd _ _
 have e1:KE A (.pointer (some ⟨it,0,none⟩))=some (.tuple #[ke e.k,ve e.v]):=by
  unfold KE;simp only [hi.get,hl,h.row.row,Nat.beq_refl,Ct,h1,List.getElem?_map,h2,Option.map_some];rfl
 unfold R4;rw [e1];exact .inl ⟨_,_,rfl,hk⟩
theorem UM{es vs:List (En α β)}(hn:(es.map En.b).Nodup)(hvn:(vs.map En.b).Nodup)(h1:∀ e∈vs,e∈es)(h2:∀ e∈es,e∈vs):vs.Perm es:=by
 have n1:es.Nodup:=HW _ hn;have n2:vs.Nodup:=HW _ hvn;exact (List.perm_ext_iff_of_nodup n2 n1).2 fun e=>⟨h1 e,h2 e⟩
end
variable {A A':AW} {l D:Nat} {S:List Nat} {K:AW→Prop}
section
variable {P:Program} {X:Bc} {W0:World} {m0:Inj P}
theorem LH{i:Nat}{o o':AO}(h:A.get i=some o)(hfam:SV i o=i)(hlt:i<A.next)(hf:AB A)(hA:A.next≤Ak):(A.put i o').get i=some o'∧AA A (A.put i o') [i]∧(A.put i o').next=A.next∧AB (A.put i o'):=by
 have hg:∀ j,(A.put i o').get j=if j=i then some o' else A.get j:=fun j=>AW.Cp A i j _ (by omega)
 refine ⟨by rw [hg,if_pos rfl],⟨Nl _,fun j q hj _ hn=>?_,fun f _ _=>rfl⟩,rfl,⟨hf.fams,fun j hj=>?_⟩⟩
 ·rw [hg,Ff (fun e=>?_)]
  ·exact hj
  ·subst e;rw [h] at hj;cases hj;exact hn (by rw [hfam];exact Ms.2 rfl)
 ·have hj:A.next≤j:=hj;rw [hg,Ff (by omega)];exact hf.get j hj
structure GA (A:AW) (l:Nat) (r:GB):Prop where
 get:A.get l=some (.loop r)
 lt:l<A.next
theorem GA.keeps{r:GB}(h:GA A l r)(k:AA A A' S)(hn:l∉S):GA A' l r:=⟨k.get l _ h.get h.lt hn,Nat.lt_of_lt_of_le h.lt k.next⟩
structure Ui (A:AW) (D:Nat):Prop where
 get:A.get D=some (.deferred (some []))
 lt:D<A.next
theorem Ui.keeps(h:Ui A D)(k:AA A A' S)(hn:D∉S):Ui A' D:=⟨k.get D _ h.get h.lt hn,Nat.lt_of_lt_of_le h.lt k.next⟩
theorem RH {fn:FuncId} {tm:Tm} {ps:List Tmp} {assign body:Code} {K:Nat→Nat→AW→Prop} (hf:AB A) (hA:A.next+1<Ak)
  (hk:∀ A',Ui A' A.next→GA A' (A.next+1) { state:=.ready,pending:=none,fn:=fn,tm:=tm,params:=ps,assign:=assign,body:=body,defers:=A.next }→AA A A' []→A'.next=A.next+2→AB A'→K A.next (A.next+1) A'):
  Vv A fn tm ps assign body K:=by
 have e1:A.new (.deferred (some []))=some (A.next,A.push (.deferred (some []))):=by
  unfold AW.new;simp only [Ax.2 (show A.next<Ak by omega),Ct];rfl
 have f1:=hf.push (.deferred (some [])) (show A.next<Ak by omega);have k1:=(AW.Cv (A:=A) (.deferred (some [])) (show A.next<Ak by omega)).keeps hf;have n1:(A.push (.deferred (some []))).next=A.next+1:=rfl;generalize A.push (.deferred (some []))=A1 at e1 f1 k1 n1;refine ⟨A.next,A1,A1.next,A1.push (.loop { state:=.ready,pending:=none,fn:=fn,tm:=tm,params:=ps,assign:=assign,body:=body,defers:=A.next }),e1,?_,?_⟩
 ·unfold AW.new;simp only [Ax.2 (show A1.next<Ak by omega),Ct];rfl
 ·have k2:=(AW.Cv (A:=A1) (.loop { state:=.ready,pending:=none,fn:=fn,tm:=tm,params:=ps,assign:=assign,body:=body,defers:=A.next }) (show A1.next<Ak by omega)).keeps f1;have hD:Ui A1 A.next:=⟨by
   unfold AW.new at e1;rw [Ax.2 (show A.next<Ak by omega),Ct,Oi,Pj] at e1;rw [← e1.2];show (A.put A.next _).get A.next=_;rw [AW.Cp A A.next A.next _ (by omega),if_pos rfl],by omega⟩
  rw [n1];refine hk _ (hD.keeps k2 (by simp)) ⟨?_,?_⟩ (k1.trans k2 (by simp)) ?_ (f1.push _ (by omega))
  ·rw [← n1,AW.Cg _ (by omega),if_pos rfl]
  ·rw [AW.Co];omega
  ·rw [AW.Co];omega
theorem QL{r:GB}{K:AW→Prop}(h:GA A l r)(hs:r.state=.ready)(hf:AB A)(hA:A.next≤Ak)(hk:∀ A',GA A' l { r with state:=.busy }→AA A A' [l]→A'.next=A.next→AB A'→K A'):Sh A l K:=by
 obtain ⟨h1,h2,h3,h4⟩:=LH (o':=.loop { r with state:=.busy }) h.get rfl h.lt hf hA;exact ⟨r,h.get,hs,hk _ ⟨h1,h.lt⟩ h2 h3 h4⟩
theorem Qb{r:GB}{j:Option Code}{K:Value→AW→Prop}(h:GA A l r)(hf:AB A)(hA:A.next≤Ak)(hk:∀ A',GA A' l { r with state:=if j.isNone then .ready else .done,pending:=j }→AA A A' [l]→A'.next=A.next→AB A'→K (.bool j.isNone) A'):RJ A l j K:=by
 obtain ⟨h1,h2,h3,h4⟩:=LH (o':=.loop { r with state:=if j.isNone then .ready else .done,pending:=j }) h.get rfl h.lt hf hA;exact ⟨r,h.get,hk _ ⟨h1,h.lt⟩ h2 h3 h4⟩
theorem NI{r:GB}{p q:AW→Prop}(h:GA A l r)(hs:r.state≠ .busy)(hp:r.pending=none)(hf:AB A)(hA:A.next≤Ak)(hk:∀ A',AA A A' [l]→A'.next=A.next→AB A'→p A'):M7 A l p q:=by
 obtain ⟨h1,h2,h3,h4⟩:=LH (o':=.loop { r with state:=.exhausted }) h.get rfl h.lt hf hA;exact ⟨r,h.get,hs,.inl ⟨hp,hk _ h2 h3 h4⟩⟩
theorem Q6(h:Ui A D)(hf:AB A)(hA:A.next≤Ak)(hk:∀ A',AA A A' [D]→A'.next=A.next→AB A'→K A'):G8 [D] A K:=by
 obtain ⟨h1,h2,h3,h4⟩:=LH (o':=.deferred none) h.get rfl h.lt hf hA;exact ⟨h.get,hk _ h2 h3 h4⟩
theorem Pu{r:GB}{args:List Value}{K:Value→AW→Prop}(h:GA A l r)(hn:args.length=r.params.length)(hk:Pp P X W0 m0 l r.fn (CZ r.tm (r.params.zip args)) r.assign r.body A K):
  anW P X W0 m0 (EL P X A (.func (.yield l) #[] #[]) args) K:=by
 refine .inr (.inr (.inl ⟨l,r.fn,CZ r.tm (r.params.zip args),r.assign,r.body,A,?_,hk⟩));unfold EL BU;simp only [h.get];rw [show (#[]:Array Value).toList++args=args from rfl];rw [show Nat.beq args.length r.params.length=true by rw [hn,Nat.beq_refl]];rfl
end
end Go.Abs
namespace Go.Proofs.YtkjlldaddekegaaGreatDoor
open Go.Abs
structure Nm where
 f:Nat
 g:ByteArray
 b:ByteArray
def Nm.cells(p:Nm):List Value:=[.int .u32 (p.f:Int),.string p.g,.string p.b]
noncomputable def HD(a b:Nm):Bool:=@decide (a=b) (Classical.propDecidable _)
theorem H5{a b:Nm}:HD a b=true↔a=b:=by unfold HD;exact @decide_eq_true_iff _ (Classical.propDecidable _)
theorem S6{a b:ByteArray}(h:a.data.toList=b.data.toList):a=b:=by
 obtain ⟨⟨x⟩⟩:=a;obtain ⟨⟨y⟩⟩:=b;simp only at h;rw [h]
theorem Et(b o:Nat):Ac Tryz.prog 24 (.pointer (some ⟨b,o,none⟩)) 0=some (.pointer (some ⟨b,o,none⟩)):=by kernel_rfl
theorem Es(b o:Nat):Ac Tryz.prog 24 (.pointer (some ⟨b,o,none⟩)) 1=some (.pointer (some ⟨b,o+1,none⟩)):=by kernel_rfl
theorem Fu(b o:Nat):Ac Tryz.prog 24 (.pointer (some ⟨b,o,none⟩)) 2=some (.pointer (some ⟨b,o+2,none⟩)):=by kernel_rfl
theorem Cw(b o:Nat):Ac Tryz.prog 38 (.pointer (some ⟨b,o,none⟩)) 0=some (.pointer (some ⟨b,o,none⟩)):=by kernel_rfl
theorem Er(b o:Nat):Ac Tryz.prog 38 (.pointer (some ⟨b,o,none⟩)) 1=some (.pointer (some ⟨b,o+1,none⟩)):=by kernel_rfl
theorem Xl(b o:Nat):Ac Tryz.prog 46 (.pointer (some ⟨b,o,none⟩)) 0=some (.pointer (some ⟨b,o,none⟩)):=by kernel_rfl
theorem Xk(b o:Nat):Ac Tryz.prog 46 (.pointer (some ⟨b,o,none⟩)) 1=some (.pointer (some ⟨b,o+1,none⟩)):=by kernel_rfl
theorem Gq(b o:Nat):Ac Tryz.prog 50 (.pointer (some ⟨b,o,none⟩)) 0=some (.pointer (some ⟨b,o,none⟩)):=by kernel_rfl
theorem CG(b o:Nat):Ac Tryz.prog 50 (.pointer (some ⟨b,o,none⟩)) 1=some (.pointer (some ⟨b,o+3,none⟩)):=by kernel_rfl
theorem IE(b o:Nat):Ac Tryz.prog 50 (.pointer (some ⟨b,o,none⟩)) 2=some (.pointer (some ⟨b,o+4,none⟩)):=by kernel_rfl
theorem CF(b o:Nat):Ac Tryz.prog 50 (.pointer (some ⟨b,o,none⟩)) 3=some (.pointer (some ⟨b,o+5,none⟩)):=by kernel_rfl
theorem ID(b o:Nat):Ac Tryz.prog 50 (.pointer (some ⟨b,o,none⟩)) 4=some (.pointer (some ⟨b,o+6,none⟩)):=by kernel_rfl
theorem IC(b o:Nat):Ac Tryz.prog 50 (.pointer (some ⟨b,o,none⟩)) 5=some (.pointer (some ⟨b,o+7,none⟩)):=by kernel_rfl
theorem Xj(b o:Nat):Ac Tryz.prog 70 (.pointer (some ⟨b,o,none⟩)) 0=some (.pointer (some ⟨b,o,none⟩)):=by kernel_rfl
theorem Xi(b o:Nat):Ac Tryz.prog 70 (.pointer (some ⟨b,o,none⟩)) 3=some (.pointer (some ⟨b,o+3,none⟩)):=by kernel_rfl
theorem SY(b o:Nat):Ac Tryz.prog 79 (.pointer (some ⟨b,o,none⟩)) 0=some (.pointer (some ⟨b,o,none⟩)):=by kernel_rfl
theorem Xh(b o:Nat):Ac Tryz.prog 79 (.pointer (some ⟨b,o,none⟩)) 1=some (.pointer (some ⟨b,o+1,none⟩)):=by kernel_rfl
theorem SX(b o:Nat):Ac Tryz.prog 79 (.pointer (some ⟨b,o,none⟩)) 2=some (.pointer (some ⟨b,o+2,none⟩)):=by kernel_rfl
theorem D0(b o:Nat):Ac Tryz.prog 79 (.pointer (some ⟨b,o,none⟩)) 3=some (.pointer (some ⟨b,o+3,none⟩)):=by kernel_rfl
theorem Xg(b o:Nat):Ac Tryz.prog 79 (.pointer (some ⟨b,o,none⟩)) 4=some (.pointer (some ⟨b,o+4,none⟩)):=by kernel_rfl
theorem Xf(b o:Nat):Ac Tryz.prog 79 (.pointer (some ⟨b,o,none⟩)) 5=some (.pointer (some ⟨b,o+5,none⟩)):=by kernel_rfl
theorem OY(b o:Nat):Ac Tryz.prog 79 (.pointer (some ⟨b,o,none⟩)) 6=some (.pointer (some ⟨b,o+6,none⟩)):=by kernel_rfl
theorem Xe(b o:Nat):Ac Tryz.prog 79 (.pointer (some ⟨b,o,none⟩)) 7=some (.pointer (some ⟨b,o+7,none⟩)):=by kernel_rfl
theorem SW(b o:Nat):Ac Tryz.prog 83 (.pointer (some ⟨b,o,none⟩)) 0=some (.pointer (some ⟨b,o,none⟩)):=by kernel_rfl
theorem Xd(b o:Nat):Ac Tryz.prog 83 (.pointer (some ⟨b,o,none⟩)) 1=some (.pointer (some ⟨b,o+3,none⟩)):=by kernel_rfl
theorem VS(b o:Nat):Ac Tryz.prog 121 (.pointer (some ⟨b,o,none⟩)) 1=some (.pointer (some ⟨b,o+1,none⟩)):=by kernel_rfl
theorem M0(b o:Nat):Ac Tryz.prog 121 (.pointer (some ⟨b,o,none⟩)) 2=some (.pointer (some ⟨b,o+2,none⟩)):=by kernel_rfl
theorem Ib(b o:Nat):Ac Tryz.prog 135 (.pointer (some ⟨b,o,none⟩)) 0=some (.pointer (some ⟨b,o,none⟩)):=by kernel_rfl
theorem MZ(b o:Nat):Ac Tryz.prog 135 (.pointer (some ⟨b,o,none⟩)) 1=some (.pointer (some ⟨b,o+1,none⟩)):=by kernel_rfl
theorem Ds(b o:Nat):Ac Tryz.prog 135 (.pointer (some ⟨b,o,none⟩)) 2=some (.pointer (some ⟨b,o+4,none⟩)):=by kernel_rfl
theorem JY(b o:Nat):Ac Tryz.prog 159 (.pointer (some ⟨b,o,none⟩)) 0=some (.pointer (some ⟨b,o,none⟩)):=by kernel_rfl
theorem Qr(b o:Nat):Ac Tryz.prog 159 (.pointer (some ⟨b,o,none⟩)) 1=some (.pointer (some ⟨b,o+1,none⟩)):=by kernel_rfl
theorem Qq(b o:Nat):Ac Tryz.prog 159 (.pointer (some ⟨b,o,none⟩)) 2=some (.pointer (some ⟨b,o+2,none⟩)):=by kernel_rfl
theorem Abe(A:AW)(a:Addr):Ad Tryz.prog A 3 (.pointer (some a))=A.cell? a:=by kernel_rfl
theorem OT(A:AW)(a:Addr):Ad Tryz.prog A 4 (.pointer (some a))=A.cell? a:=by kernel_rfl
theorem DV(A:AW)(a:Addr):Ad Tryz.prog A 5 (.pointer (some a))=A.cell? a:=by kernel_rfl
theorem Kq(A:AW)(a:Addr):Ad Tryz.prog A 9 (.pointer (some a))=A.cell? a:=by kernel_rfl
theorem E9(A:AW)(a:Addr):Ad Tryz.prog A 22 (.pointer (some a))=A.cell? a:=by kernel_rfl
theorem Ec(A:AW)(a:Addr):Ad Tryz.prog A 24 (.pointer (some a))=(match A.cells? a 3 with | some l=>some (.agg ⟨l⟩) | none=>none):=by kernel_rfl
theorem Abf(A:AW)(a:Addr):Ad Tryz.prog A 25 (.pointer (some a))=A.cell? a:=by kernel_rfl
theorem MJ(A:AW)(a:Addr):Ad Tryz.prog A 27 (.pointer (some a))=A.cell? a:=by kernel_rfl
theorem E8(A:AW)(a:Addr):Ad Tryz.prog A 34 (.pointer (some a))=A.cell? a:=by kernel_rfl
theorem VC(A:AW)(a:Addr):Ad Tryz.prog A 41 (.pointer (some a))=A.cell? a:=by kernel_rfl
theorem E7(A:AW)(a:Addr):Ad Tryz.prog A 47 (.pointer (some a))=A.cell? a:=by kernel_rfl
theorem Eb(A:AW)(a:Addr):Ad Tryz.prog A 48 (.pointer (some a))=A.cell? a:=by kernel_rfl
theorem Abd(A:AW)(a:Addr):Ad Tryz.prog A 50 (.pointer (some a))=(match A.cells? a 8 with | some l=>some (.agg ⟨l⟩) | none=>none):=by kernel_rfl
theorem Abc(A:AW)(a:Addr):Ad Tryz.prog A 68 (.pointer (some a))=A.cell? a:=by kernel_rfl
theorem Yt(A:AW)(a:Addr):Ad Tryz.prog A 72 (.pointer (some a))=A.cell? a:=by kernel_rfl
theorem GR(A:AW)(a:Addr):Ad Tryz.prog A 75 (.pointer (some a))=A.cell? a:=by kernel_rfl
theorem Abb(A:AW)(a:Addr):Ad Tryz.prog A 76 (.pointer (some a))=A.cell? a:=by kernel_rfl
theorem Aba(A:AW)(a:Addr):Ad Tryz.prog A 77 (.pointer (some a))=A.cell? a:=by kernel_rfl
theorem RL(A:AW)(a:Addr):Ad Tryz.prog A 119 (.pointer (some a))=A.cell? a:=by kernel_rfl
theorem Hm(A:AW)(a:Addr):Ad Tryz.prog A 133 (.pointer (some a))=A.cell? a:=by kernel_rfl
theorem Zj(A:AW)(a:Addr):Ad Tryz.prog A 135 (.pointer (some a))=(match A.cells? a 5 with | some l=>some (.agg ⟨l⟩) | none=>none):=by kernel_rfl
theorem ML(A:AW)(a:Addr):Ad Tryz.prog A 223 (.pointer (some a))=A.cell? a:=by kernel_rfl
theorem Y3(A:AW)(a:Addr)(v:Value):Am Tryz.prog A 4 (.pointer (some a)) v=(bif Nat.beq v.cells.toList.length 1 then A.setCells a v.cells.toList else none):=by kernel_rfl
theorem UT(A:AW)(a:Addr)(v:Value):Am Tryz.prog A 9 (.pointer (some a)) v=(bif Nat.beq v.cells.toList.length 1 then A.setCells a v.cells.toList else none):=by kernel_rfl
theorem Ju(A:AW)(a:Addr)(v:Value):Am Tryz.prog A 22 (.pointer (some a)) v=(bif Nat.beq v.cells.toList.length 1 then A.setCells a v.cells.toList else none):=by kernel_rfl
theorem HO(A:AW)(a:Addr)(v:Value):Am Tryz.prog A 24 (.pointer (some a)) v=(bif Nat.beq v.cells.toList.length 3 then A.setCells a v.cells.toList else none):=by kernel_rfl
theorem UX(A:AW)(a:Addr)(v:Value):Am Tryz.prog A 34 (.pointer (some a)) v=(bif Nat.beq v.cells.toList.length 1 then A.setCells a v.cells.toList else none):=by kernel_rfl
theorem Yf(A:AW)(a:Addr)(v:Value):Am Tryz.prog A 41 (.pointer (some a)) v=(bif Nat.beq v.cells.toList.length 1 then A.setCells a v.cells.toList else none):=by kernel_rfl
theorem UW(A:AW)(a:Addr)(v:Value):Am Tryz.prog A 47 (.pointer (some a)) v=(bif Nat.beq v.cells.toList.length 1 then A.setCells a v.cells.toList else none):=by kernel_rfl
theorem UU(A:AW)(a:Addr)(v:Value):Am Tryz.prog A 48 (.pointer (some a)) v=(bif Nat.beq v.cells.toList.length 1 then A.setCells a v.cells.toList else none):=by kernel_rfl
theorem AaM(A:AW)(a:Addr)(v:Value):Am Tryz.prog A 50 (.pointer (some a)) v=(bif Nat.beq v.cells.toList.length 8 then A.setCells a v.cells.toList else none):=by kernel_rfl
theorem Ov(A:AW)(a:Addr)(v:Value):Am Tryz.prog A 133 (.pointer (some a)) v=(bif Nat.beq v.cells.toList.length 1 then A.setCells a v.cells.toList else none):=by kernel_rfl
theorem UZ(A:AW)(a:Addr)(v:Value):Am Tryz.prog A 135 (.pointer (some a)) v=(bif Nat.beq v.cells.toList.length 5 then A.setCells a v.cells.toList else none):=by kernel_rfl
theorem UY(A:AW)(a:Addr)(v:Value):Am Tryz.prog A 159 (.pointer (some a)) v=(bif Nat.beq v.cells.toList.length 4 then A.setCells a v.cells.toList else none):=by kernel_rfl
theorem Qi(b o n c i:Nat)(k:IntKind):Aj Tryz.prog 52 (.slice (some ⟨b,o,none⟩) n c) (.int k (.ofNat i))=(bif Nat.blt i n then some (.pointer (some (DM ⟨b,o,none⟩ (i*1)))) else none):=by kernel_rfl
theorem OP(A:AW)(s:ByteArray):Br Tryz.prog A 9 (.string s)=some (.int .i64 s.data.toList.length):=by kernel_rfl
theorem Aa6(A:AW)(a:Option Addr)(n c:Nat):Br Tryz.prog A 48 (.slice a n c)=some (.int .i64 n):=by kernel_rfl
theorem JQ(A:AW)(a:Option Addr)(n c:Nat):Br Tryz.prog A 52 (.slice a n c)=some (.int .i64 n):=by kernel_rfl
theorem EG:C2 Tryz.prog 24=some (.agg #[.int .u32 0,.string .empty,.string .empty]):=by kernel_rfl
theorem Sv:C2 Tryz.prog 135=some (.agg #[.int .u8 0,.int .u32 0,.string .empty,.string .empty,.int .u8 0]):=by kernel_rfl
theorem Su:C2 Tryz.prog 159=some (.agg #[.int .u8 0,.int .u8 0,.int .u8 0,.nilFunc]):=by kernel_rfl
theorem D2:C2 Tryz.prog 50=some (.agg #[.int .u32 0,.string .empty,.string .empty,.int .u8 0,.bool false,.slice none 0 0,.int .u32 0,.int .u32 0]):=by kernel_rfl
theorem Zz:quiet Tryz.prog (underlying 24)=some (.struct (Tryz.prog.fieldsOf 24)):=by kernel_rfl
noncomputable def F24(i:Nat):Field:=(Tryz.prog.fieldsOf 24).toList.getD i default
theorem ZA:(Tryz.prog.fieldsOf 24).toList=[F24 0,F24 1,F24 2]:=by kernel_rfl
theorem Mq(f:Int)(g b:ByteArray):quiet Tryz.prog (part (F24 0).type ⟨[.int .u32 f,.string g,.string b]⟩ (F24 0).offset)=some (.int .u32 f):=by kernel_rfl
theorem Mp(f:Int)(g b:ByteArray):quiet Tryz.prog (part (F24 1).type ⟨[.int .u32 f,.string g,.string b]⟩ (F24 1).offset)=some (.string g):=by kernel_rfl
theorem Mo(f:Int)(g b:ByteArray):quiet Tryz.prog (part (F24 2).type ⟨[.int .u32 f,.string g,.string b]⟩ (F24 2).offset)=some (.string b):=by kernel_rfl
theorem Q2:(F24 0).type=22:=by kernel_rfl
theorem Q1:(F24 1).type=9:=by kernel_rfl
theorem QZ:(F24 2).type=9:=by kernel_rfl
theorem ut9:quiet Tryz.prog (underlying 9)=some .string:=by kernel_rfl
theorem YX:quiet Tryz.prog (underlying 22)=some (.int .u32):=by kernel_rfl
def E6(f f':Int)(g g' b b':ByteArray):Bool:=f==f'&&(g.data.toList==g'.data.toList&&b.data.toList==b'.data.toList)
theorem OF(n:Nat)(f f':Int)(g g' b b':ByteArray):quiet Tryz.prog (Op.equalIn (n+1+1) 24 (.agg ⟨[.int .u32 f,.string g,.string b]⟩) (.agg ⟨[.int .u32 f',.string g',.string b']⟩))=some (E6 f f' g g' b b'):=by
 rw [JG (n+1) 24 _ _ Zz (by kernel_rfl),ZA];rw [DR (by kernel_rfl) (Mq f g b) (Mq f' g' b') (by rw [Q2];exact He n 22 _ _ _ _ YX)];rw [DR (by kernel_rfl) (Mp f g b) (Mp f' g' b') (by rw [Q1];exact Is ut9)];rw [DR (by kernel_rfl) (Mo f g b) (Mo f' g' b') (by rw [QZ];exact Is ut9)];unfold E6;cases f==f'<;>cases g.data.toList==g'.data.toList<;>cases b.data.toList==b'.data.toList<;>rfl
theorem GO{p q:Nm}:E6 (p.f:Int) (q.f:Int) p.g q.g p.b q.b=true↔p=q:=by
 unfold E6;simp only [Bq,beq_iff_eq];constructor
 ·rintro ⟨h1,h2,h3⟩;have h2:=S6 h2;have h3:=S6 h3;obtain ⟨f,g,b⟩:=p;obtain ⟨f',g',b'⟩:=q;simp only at h1 h2 h3
  have:f=f':=by omega
  rw [this,h2,h3]
 ·rintro rfl;exact ⟨rfl,rfl,rfl⟩
theorem U0(p q:Nm):E6 (p.f:Int) (q.f:Int) p.g q.g p.b q.b=HD p q:=by
 rw [Bool.eq_iff_iff,GO,H5]
def kN(p:Nm):Value:=.agg ⟨p.cells⟩
theorem Xo(p q:Nm):eqA Tryz.prog 24 (kN p) (kN q)=some (HD p q):=by
 unfold eqA;have hc:(AG 4 (kN p)&&AG 4 (kN q))=true:=rfl;rw [hc,Ct,← U0];exact OF 9998 _ _ _ _ _ _
theorem eqN(p q:Nm)(xo yo:Operand):Ah Tryz.prog .eql 24 xo yo (.agg ⟨p.cells⟩) (.agg ⟨q.cells⟩)=some (.bool (HD p q)):=by
 have hg:Dt Tryz.prog 24 xo yo (kN p) (kN q)=true:=by
  show (!Tryz.prog.eqGuardType Tryz.prog.depth 24)=true
  kernel_rfl
 show (bif Dt Tryz.prog 24 xo yo (kN p) (kN q) then (match eqA Tryz.prog 24 (kN p) (kN q) with | some b=>some (Value.bool b) | none=>none) else none)=_;rw [hg,Ct,Xo]
theorem Zb(p q:Nm)(xo yo:Operand):Ah Tryz.prog .neq 24 xo yo (.agg ⟨p.cells⟩) (.agg ⟨q.cells⟩)=some (.bool !(HD p q)):=by
 have hg:Dt Tryz.prog 24 xo yo (kN p) (kN q)=true:=by
  show (!Tryz.prog.eqGuardType Tryz.prog.depth 24)=true
  kernel_rfl
 show (bif Dt Tryz.prog 24 xo yo (kN p) (kN q) then (match eqA Tryz.prog 24 (kN p) (kN q) with | some b=>some (Value.bool !b) | none=>none) else none)=_;rw [hg,Ct,Xo]
theorem Abq(e:Bool)(p:Nm):H3 Tryz.prog e 24 (kN p)=true:=by
 cases e<;>kernel_rfl
theorem U2(p:Nm):(AG 4 (kN p)&&Instr.sameBits 10000 (kN p) (kN p))=true:=by
 have hs:Instr.sameBits 10000 (kN p) (kN p)=true:=by
  show Instr.sameBits (9999+1) (.agg ⟨p.cells⟩) (.agg ⟨p.cells⟩)=true;simp only [Nm.cells,Instr.sameBits,beq_self_eq_true,Bool.true_and];simp [Instr.sameBits,beq_toListBytes]
 rw [hs];rfl
def kU(n:Nat):Value:=.int .u8 (n:Int)
theorem AeH(a b:Nat):eqA Tryz.prog 5 (kU a) (kU b)=some (a==b):=by
 unfold eqA;have hc:(AG 4 (kU a)&&AG 4 (kU b))=true:=rfl;rw [hc,Ct];show quiet Tryz.prog (Op.equalIn (9999+1) 5 (.int .u8 (a:Int)) (.int .u8 (b:Int)))=_;rw [He 9999 5 .u8 .u8 _ _ (by kernel_rfl)]
 congr 1
 rw [Bool.eq_iff_iff,beq_iff_eq,beq_iff_eq];exact Int.ofNat_inj
theorem AeE(e:Bool)(n:Nat):H3 Tryz.prog e 5 (kU n)=true:=by
 cases e<;>kernel_rfl
theorem Y5(n:Nat):(AG 4 (kU n)&&Instr.sameBits 10000 (kU n) (kU n))=true:=by
 have hs:Instr.sameBits 10000 (kU n) (kU n)=true:=by
  show Instr.sameBits (9999+1) (.int .u8 (n:Int)) (.int .u8 (n:Int))=true;simp [Instr.sameBits]
 rw [hs];rfl
structure GV where
 x:Nm
 st:Nat
 pv:Value
 w:Nat
 t:Nat
def GV.cells(g:GV):List Value:=[.int .u32 (g.x.f:Int),.string g.x.g,.string g.x.b,.int .u8 (g.st:Int),.bool false,g.pv,.int .u32 (g.w:Int),.int .u32 (g.t:Int)]
def vG(g:GV):Value:=.agg ⟨g.cells⟩
def vI(n:Int):Value:=.int .i64 n
theorem mtG:MT Tryz.prog 75 24 50 kN HD:=⟨by kernel_rfl,Xo,H5,Abq,U2⟩
theorem mtA:MT Tryz.prog 77 5 3 kU (fun a b=>a==b):=⟨by kernel_rfl,AeH,fun {a b}=>by simp,AeE,Y5⟩
structure Pt where
 n:Nat
 x:Nm
def Pt.cells(p:Pt):List Value:=[.int .u8 (p.n:Int),.int .u32 (p.x.f:Int),.string p.x.g,.string p.x.b,.int .u8 0]
structure Ml where
 n:Nat
 k:Nat
 x:Nm
def Ml.cells(p:Ml):List Value:=[.int .u8 (p.n:Int),.int .u8 (p.k:Int),.int .u32 (p.x.f:Int),.string p.x.g,.string p.x.b,.int .u8 0,.int .u16 0,.slice none 0 0]
def bC(n:Nat):List Value:=[.int .u8 (n:Int)]
theorem etP:ET Tryz.prog 48 135 4 Pt.cells:=⟨by kernel_rfl,by kernel_rfl,by kernel_rfl,⟨56,by kernel_rfl,by decide⟩,by kernel_rfl,fun _=>rfl,fun _=>rfl,fun _=>rfl⟩
theorem etM:ET Tryz.prog 41 46 7 Ml.cells:=⟨by kernel_rfl,by kernel_rfl,by kernel_rfl,⟨88,by kernel_rfl,by decide⟩,by kernel_rfl,fun _=>rfl,fun _=>rfl,fun _=>rfl⟩
theorem etN:ET Tryz.prog 34 24 2 Nm.cells:=⟨by kernel_rfl,by kernel_rfl,by kernel_rfl,⟨40,by kernel_rfl,by decide⟩,by kernel_rfl,fun _=>rfl,fun _=>rfl,fun _=>rfl⟩
theorem etS:ES Tryz.prog 223 133 bC:=⟨by kernel_rfl,by kernel_rfl,⟨1,by kernel_rfl,by decide⟩,by kernel_rfl,fun A a=>by kernel_rfl,fun _=>rfl,fun _=>rfl,fun _=>rfl⟩
end Go.Proofs.YtkjlldaddekegaaGreatDoor
namespace Go.Abs
variable {A:AW} {v x:Value} {F:List Nat} {K:Value→AW→Prop}
section
variable {P:Program} {ts te:TypeId} {n:Nat} {β:Type} {f:β→List Value}
def BR(te:TypeId)(n:Nat)(f:β→List Value)(A:AW)(v:Value)(l:List β)(F:List Nat):Prop:=
 C4 te n f A v l F∨∃ b,v=.slice (some ⟨b,0,none⟩) l.length l.length∧l.length<1000000∧AF A b (flat f l) te∧F=[b]
theorem BR.nil(A:AW):BR te n f A (.slice none 0 0) [] []:=.inl (C4.nil A)
theorem BR.keeps{A':AW}{l:List β}{S:List Nat}(h:BR te n f A v l F)(k:AA A A' S)(hd:∀ x∈F,x∉S):BR te n f A' v l F:=by
 rcases h with h | ⟨b,h1,h0,h2,rfl⟩
 ·exact .inl (h.keeps k hd)
 ·exact .inr ⟨b,h1,h0,h2.keeps k (hd b (by simp)),rfl⟩
theorem BR.rd(hlen:∀ x,(f x).length=n+1){l:List β}(h:BR te n f A v l F):RdE n f A v l F:=by
 rcases h with h | ⟨b,rfl,h0,h2,rfl⟩
 ·exact h.rd hlen
 ·exact .inr ⟨b,0,_,_,_,b,0,false,rfl,h2.row,h2.lt,rfl,fun i p hi=>by rw [Nat.zero_add];exact GS hlen l i p hi⟩
theorem BR.lt{l:List β}(h:BR te n f A v l F):∀ x∈F,x<A.next:=by
 rcases h with h | ⟨b,h1,h0,h2,rfl⟩
 ·exact C4.lt h
 ·intro x hx;have:=Ms.1 hx;rw [this];exact h2.lt
theorem BR.slice{l:List β}(h:BR te n f A v l F):∃ o c,v=.slice o l.length c:=by
 rcases h with h | ⟨b,rfl,h0,h2,rfl⟩
 ·rcases h with ⟨rfl,h2,_⟩ | ⟨b',g,rfl,_⟩
  ·exact ⟨none,0,by rw [h2]⟩
  ·exact ⟨_,_,rfl⟩
 ·exact ⟨_,_,rfl⟩
theorem BR.S8 {t2:TypeId} (hus:P.underlying ts=some (.slice te)) (hsz:szT P te=some (n+1)) (hby:∃ b,Ex P te=some b∧b≤256) (hhz:CE P te (n+1)=true) (hlen:∀ x,(f x).length=n+1) (hone:∀ x,(f x).all AP=true)
  {l l2:List β} (h:BR te n f A v l F) (hx:BF P A te t2 (n+1) x=some (l2.length,flat f l2)) (hf:AB A) (hA:A.next<Ak) (hl:l.length<1000000) (hl2:l2.length<1000000)
  (hk:∀ v' A' F',BR te n f A' v' (l++l2) F'→AA A A' F→(∀ x∈F',x∈F∨x=A.next)→A'.next≤A.next+1→AB A'→K v' A'):Al (AT P A ts t2 v x) K:=by
 have hroom:room=68719476736:=rfl;obtain ⟨b,hb,hb2⟩:=hby;have hse:Bt P ts=some te:=by unfold Bt;rw [hus]
 cases l2 with
 |nil=>
  obtain ⟨o,c,rfl⟩:=h.slice;have hm:(l.length+0)*b≤(l.length+0)*256:=Nat.mul_le_mul_left _ hb2;have e:AT P A ts t2 (.slice o l.length c) x=.ok (.slice o l.length c) A:=by
   have hsrc:BF P A te t2 (n+1) x=some (0,[]):=hx;unfold AT;simp only [hse,hsz,hb,hsrc];rw [Ax.2 (show l.length+0<room by omega),Ax.2 (show (l.length+0)*b<room by omega),hhz];rfl
  rw [e];refine AR.2 (hk _ A F ?_ (.refl _ _) (fun x hx=>.inl hx) (by omega) hf);rw [List.append_nil];exact h
 |cons p r=>
  rw [Lc] at hl2;have hx:BF P A te t2 (n+1) x=some (r.length+1,flat f (p::r)):=hx;have hm:(l.length+(r.length+1))*b≤(l.length+(r.length+1))*256:=Nat.mul_le_mul_left _ hb2;rcases h with h | ⟨bb,rfl,h0,h2,rfl⟩
  ·refine J6 (m:=r.length) (size:=n) hse hsz hb hhz hx (DJ hlen _) (MV hone _) h hf hA (by omega) (by omega) fun v' A' F' h1 h2 h3 h4 h5=>?_;refine hk v' A' F' (.inl ?_) h2 h3 (by omega) h5;show EA A' te (n+1) v' (l++p::r).length (flat f (l++p::r)) F';rw [Lq,IB];exact h1
  ·have hcu:Nat.ble Bo l.length=false:=BA.2 (by unfold Bo;omega);have hold:A.CS ⟨bb,0,none⟩ (l.length*(n+1))=some (flat f l):=by
    rw [← DJ hlen];unfold AW.CS;cases hl:(flat f l).length with
    |zero=>
     have:flat f l=[]:=List.eq_nil_of_length_eq_zero hl
     rw [this]
    |succ k=>
     simp only [h2.row,List.drop_zero]
     have:=HM (flat f l)
     rw [hl] at this;exact this
   have hnew:A.new (.row (flat f l++flat f (p::r)) te A.next 0 false)=some (A.next,A.push (.row (flat f l++flat f (p::r)) te A.next 0 false)):=by
    unfold AW.new;simp only [Ax.2 hA,Ct];rfl
   have e:AT P A ts t2 (.slice (some ⟨bb,0,none⟩) l.length l.length) x=.ok (.slice (some ⟨A.next,0,none⟩) (l.length+(r.length+1)) (Bo+(l.length+(r.length+1)))) (A.push (.row (flat f l++flat f (p::r)) te A.next 0 false)):=by
    unfold AT;simp only [hse,hsz,hb,hx];rw [Ax.2 (show l.length+(r.length+1)<room by omega),Ax.2 (show (l.length+(r.length+1))*b<room by omega),hhz];have hfit':Nat.ble (l.length+(r.length+1)) l.length=false:=BA.2 (by omega);simp only [hcu,Cf,hfit',Bool.not_true,Bool.and_self];simp only [hold,hnew]
   rw [e,← IB];have hfp:=hf.push (.row (flat f (l++p::r)) te A.next 0 false) hA;have hrow:(A.push (.row (flat f (l++p::r)) te A.next 0 false)).get A.next=some (.row (flat f (l++p::r)) te A.next 0 false):=by rw [AW.Cg _ hA,if_pos rfl]
   refine AR.2 (hk _ _ [A.next] (.inl (.inr ⟨A.next,A.next,by simp,?_,rfl⟩)) (((AW.Cv _ hA).keeps hf).more (by simp)) (fun x hx=>.inr (by simpa using hx)) (by rw [AW.Co];omega) hfp);refine ⟨by rw [Lq,Lc];omega,hrow,by rw [DJ hlen],Nat.zero_le _,Nat.zero_le _,by rw [AW.Co];omega,fun i hi=>?_⟩
   have:(A.push (.row (flat f (l++p::r)) te A.next 0 false)).members A.next=[A.next]:=hf.alone (Nl _)
   rw [this] at hi;obtain rfl:i=A.next:=by simpa using hi
   exact ⟨Nat.zero_le _,by rw [AW.Co];omega,_,_,_,_,hrow⟩
theorem BR.LU (T:ET P ts te n f) {l l2:List β} {F2:List Nat} (h:BR te n f A v l F) (hx:RdE n f A x l2 F2) (hf:AB A) (hA:A.next<Ak) (hl:l.length<1000000) (hl2:l2.length<1000000)
  (hk:∀ v' A' F',BR te n f A' v' (l++l2) F'→AA A A' F→(∀ x∈F',x∈F∨x=A.next)→A'.next≤A.next+1→AB A'→K v' A'):Al (AT P A ts ts v x) K:=
 h.S8 T.us T.sz T.by' T.hz T.len T.one (hx.src T) hf hA hl hl2 hk
theorem BR.append (T:ET P ts te n f) {l:List β} {p:β} {q:Nat} {e:TypeId} (h:BR te n f A v l F) (hq:AF A q (f p) e) (hf:AB A) (hA:A.next<Ak) (hl:l.length<1000000)
  (hk:∀ v' A' F',BR te n f A' v' (l++[p]) F'→AA A A' F→(∀ x∈F',x∈F∨x=A.next)→A'.next≤A.next+1→AB A'→K v' A'):Al (AT P A ts ts v (.slice (some ⟨q,0,none⟩) 1 1)) K:=by
 refine h.S8 (l2:=[p]) T.us T.sz T.by' T.hz T.len T.one ?_ hf hA hl (by simp) hk
 have:=PG T hq
 rw [this];simp [flat]
end
end Go.Abs
namespace Go.Proofs.YtkjlldaddekegaaGreatDoor
open Go.Abs
variable {A A' B C:AW} {n m q:Nat} {cs:List Value} {e:TypeId} {F s Fp:List Nat} {K:Value→AW→Prop} {v w x:Value}
structure Grow (A A':AW) (n:Nat):Prop where
 keeps:AA A A' []
 Ao:AB A'
 next:A'.next≤A.next+n
theorem Grow.le(h:Grow A A' n):A.next≤A'.next:=h.keeps.next
theorem Grow.refl(hf:AB A):Grow A A 0:=⟨.refl _ _,hf,Nl _⟩
theorem Grow.trans(h:Grow A B n)(k:Grow B C m):Grow A C (n+m):=⟨h.keeps.trans k.keeps (by simp),k.Ao,by have:=h.next;have:=k.next;omega⟩
theorem Grow.more(h:Grow A B n)(hm:n≤m):Grow A B m:=⟨h.keeps,h.Ao,by have:=h.next;omega⟩
theorem Grow.made(m:Made A A' cs e)(hf:AB A):Grow A A' 1:=⟨m.keeps hf,m.Ao,by rw [m.next];omega⟩
theorem Grow.own(h:Grow A B n)(k:AA B C F)(hF:∀ x∈F,A.next≤x)(hc:C.next≤B.next+m)(hf:AB C):Grow A C (n+m):=
 ⟨h.keeps.trans k fun x hx=>.inr (hF x hx),hf,by have:=h.next;omega⟩
theorem II{P:Program}{t:TypeId}{xo yo:Operand}{k:IntKind}{a b:Int}(hb:b≠0):Ah P .rem t xo yo (.int k a) (.int k b)=some (.int k (a.tmod b)):=by simp [Ah,binOp,Op.intDiv,hb,quiet,Cx,AG,pure]
theorem Gx {r:R Value} (hr:r=(match A.newRow cs e with | some (a,w')=>.ok (.slice (some a) n n) w' | none=>.fail "buildSlice new")) (hc:cs.all AP=true) (hf:AB A) (h:A.next<Ak)
  (hk:∀ A',Made A A' cs e→K (.slice (some ⟨A.next,0,none⟩) n n) A'):Al r K:=by
 subst hr;unfold AW.newRow AW.new;simp only [hc,Ct,Ax.2 h];exact AR.2 (hk (A.push (.row cs e A.next 0 false)) ⟨AW.Cv _ h,rfl,by rw [AW.Cg _ h,if_pos rfl],hf.alone (Nl _),hf.push _ h⟩)
theorem GP{β:Type}{te:TypeId}{f:β→List Value}{l:List β}(m:Made A A' (flat f l) te)(hl:l.length<1000000):BR te n f A' (.slice (some ⟨A.next,0,none⟩) l.length l.length) l [A.next]:=.inr ⟨A.next,rfl,hl,m.Bk,rfl⟩
theorem NX:∀ (cs:List Value) (o:Nat) (v:Value),cs[o]? =some v→Ee cs o [v]=cs
 |[],_,_,h=>by simp at h
 |c::cs,0,v,h=>by simp at h;subst h;rfl
 |c::cs,o+1,v,h=>by
  have:=NX cs o v (by simpa using h)
  show c::Ee cs o [v]=c::cs;rw [this]
theorem Yk(xo yo:Operand):Ah Tryz.prog .eql 48 xo yo (.slice none 0 0) (.slice none 0 0)=some (.bool true):=by kernel_rfl
theorem Yj(a:Addr)(n c:Nat)(xo yo:Operand):Ah Tryz.prog .eql 48 xo yo (.slice (some a) n c) (.slice none 0 0)=some (.bool false):=by kernel_rfl
section
variable {W0:World} {m0:Inj Tryz.prog}
theorem Bu{fn:FuncId}{T:Nat→List Item}{L:Nat→List Tmp}{Q:Value→AW→Prop}{sz:Nat}:Nq Tryz.prog Af W0 m0 fn T L (fun _ _ _=>False) Q sz:=TW (S:=fun _ _ _=>False) fun _ _ _ h=>h
theorem Aah(hv:RdE 0 bC A v (0::s) F)(hk:K (.int .i64 0) A):Wc Tryz.prog Af W0 m0 222 [v,.int .u8 0] A K:=by
 let I:Nat→Nat→List Value→AW→Prop:=fun g id vals A'=>id=0∧vals=[v,.int .u8 0,.int .i64 ((0::s).length:Int),.int .i64 0]∧A'=A∧g=0;refine AaB _ _ _ (c222 (I:=I) ?_) ?_
 ·rintro g id vals A' d ⟨rfl,rfl,rfl,rfl⟩ hd;rw [VF];simp only [Ug,Mc,Mn,Li,and_true] at hd;obtain ⟨d0,d1,d7,d8⟩:=hd;obtain ⟨a,h1,h2⟩:=etS.at (i:=0) hv (p:=0) rfl rfl;simp only [d0,d1,d7,d8,Bb,Ab,Ap];refine ⟨fun _=>?_,fun h=>absurd (by simp only [Lc];omega) h⟩;simp only [show (0:Int)=((0:Nat):Int) from rfl] at *;simp only [h1,h2,Ab,Bh,Ay];exact ⟨fun _=>hk,fun h=>absurd rfl h⟩
 ·rw [Abw]
  have:=etS.Aa8 (B:=A) hv
  simp only [this,Ab];exact AE.2 ⟨0,rfl,rfl,rfl,rfl⟩
theorem X3(hv:RdE 0 bC A v (0::s) F)(hk:K (.bool true) A):Wc Tryz.prog Af W0 m0 164 [v,.int .u8 0] A K:=by
 refine AaF _ _ _ Bu ?_;rw [AbA];refine Aah hv ?_;simp only [Dk,Ab];exact hk
theorem Aal{p:Pt}(hq:Go.Abs.AF A q [v] 223)(hv:RdE 0 bC A v (0::s) F)(hf:AB A)(hA:A.next<Ak)(hk:∀ A',Grow A A' 1→K (.bool false) A'):
  Wc Tryz.prog Af W0 m0 216 [.agg ⟨p.cells⟩,.pointer (some ⟨q,0,none⟩)] A K:=by
 refine AaD _ _ _ Bu ?_;rw [Aby];refine AH hf hA rfl fun A1 m1=>?_;have k1:=m1.keeps hf;have hq1:=hq.keeps k1 (by simp);have r1:Go.Abs.AF A1 A.next p.cells 135:=m1.Bk;simp only [Pt.cells] at r1;simp only [ML,Ag hq1.row,cellOf,hv.one.2,Cf,Ab,Ds,Hm,Ag r1.row,Au,Nat.zero_add];refine X3 (hv.keeps k1 (by simp)) ?_;simp only [BC,Ab];exact hk _ (Grow.made m1 hf)
theorem Aak{p:Pt}(hq:Go.Abs.AF A q [v] 223)(hv:RdE 0 bC A v (0::s) F)(hf:AB A)(hA:A.next<Ak)(hk:∀ A',Grow A A' 1→K (.bool true) A'):
  Wc Tryz.prog Af W0 m0 217 [.agg ⟨p.cells⟩,.pointer (some ⟨q,0,none⟩)] A K:=by
 refine AaC _ _ _ Bu ?_;rw [Abx];refine AH hf hA rfl fun A1 m1=>?_;have k1:=m1.keeps hf;have hq1:=hq.keeps k1 (by simp);have r1:Go.Abs.AF A1 A.next p.cells 135:=m1.Bk;simp only [Pt.cells] at r1;simp only [ML,Ag hq1.row,cellOf,hv.one.2,Cf,Ab,Ds,Hm,Ag r1.row,Au,Nat.zero_add];exact X3 (hv.keeps k1 (by simp)) (hk _ (Grow.made m1 hf))
theorem V2(A:AW)(a v:Value):EL Tryz.prog Af A (.func (.func 216) ⟨[]⟩ ⟨[a]⟩) [v]=.ok (.enter 216 [v,a]) A:=by kernel_rfl
theorem V1(A:AW)(a v:Value):EL Tryz.prog Af A (.func (.func 217) ⟨[]⟩ ⟨[a]⟩) [v]=.ok (.enter 217 [v,a]) A:=by kernel_rfl
theorem GL{f:FuncId}{fv:Value}{args all:List Value}(hdyn:EL Tryz.prog Af A fv args=.ok (.enter f all) A)(hkn:Em f Af.known=false)(h:Wc Tryz.prog Af W0 m0 f all A K):
  anW Tryz.prog Af W0 m0 (EL Tryz.prog Af A fv args) K:=by
 rw [hdyn];refine .inr (.inl ⟨_,_,_,rfl,?_⟩);unfold toW;rw [hkn,Cf];exact h
theorem Z3 {ps:List Pt} (hp:RdE 4 Pt.cells A w ps Fp) (hq:Go.Abs.AF A q [v] 223) (hv:RdE 0 bC A v (0::s) F) (hf:AB A) (hl:ps.length<100000) (hA:A.next+ps.length<Ak)
  (hk:∀ A',Grow A A' ps.length→K (.int .i64 (-1)) A'):Wc Tryz.prog Af W0 m0 78 [w,.func (.func 216) ⟨[]⟩ ⟨[.pointer (some ⟨q,0,none⟩)]⟩] A K:=by
 let I:Nat→Nat→List Value→AW→Prop:=fun g id vals A'=>id=0∧∃ i:Nat,vals=[w,.func (.func 216) ⟨[]⟩ ⟨[.pointer (some ⟨q,0,none⟩)]⟩,.int .i64 (ps.length:Int),.int .i64 (i:Int)]∧i≤ps.length∧Grow A A' i∧g=ps.length-i;refine w78 _ _ _ (c78 (I:=I) ?_) ?_
 ·rintro g id vals A' d ⟨rfl,i,rfl,hi,gr,rfl⟩ hd;rw [SQ];simp only [L78,Mc,Mn,Li,and_true] at hd;obtain ⟨d0,d1,d7,d8⟩:=hd;simp only [d0,d1,d7,d8,Bb,Ab,Ap];have gn:=gr.next;refine ⟨fun hlt=>?_,fun hge=>?_⟩
  ·have hlt:i<ps.length:=by omega
   have hpi:=Ge hlt;generalize ps[i]=p at hpi;obtain ⟨r,o,a1,_,a2⟩:=(hp.keeps gr.keeps (by simp)).at etP hpi;simp only [a1,a2,Ab];refine GL (V2 A' _ _) rfl (Aal (hq.keeps gr.keeps (by simp)) (hv.keeps gr.keeps (by simp)) gr.Ao (by omega) fun A2 g2=>?_);refine Ai.2 ⟨fun h=>(by cases h),fun _=>?_⟩;simp only [Bw,Ab];rw [wrap_i64 (n:=(i:Int)+1) (by omega) (by omega)];exact AE.2 ⟨ps.length-(i+1),by omega,rfl,i+1,rfl,by omega,gr.trans g2,rfl⟩
  ·exact hk A' (gr.more hi)
 ·rw [e78];simp only [hp.len etP,Ab];exact AE.2 ⟨ps.length,rfl,0,rfl,by omega,Grow.refl hf,rfl⟩
theorem Z4 {p:Pt} {ps:List Pt} (hp:RdE 4 Pt.cells A w (p::ps) Fp) (hq:Go.Abs.AF A q [v] 223) (hv:RdE 0 bC A v (0::s) F) (hf:AB A) (hA:A.next<Ak)
  (hk:∀ A',Grow A A' 1→K (.int .i64 0) A'):Wc Tryz.prog Af W0 m0 78 [w,.func (.func 217) ⟨[]⟩ ⟨[.pointer (some ⟨q,0,none⟩)]⟩] A K:=by
 let I:Nat→Nat→List Value→AW→Prop:=fun g id vals A'=>id=0∧vals=[w,.func (.func 217) ⟨[]⟩ ⟨[.pointer (some ⟨q,0,none⟩)]⟩,.int .i64 ((p::ps).length:Int),.int .i64 ((0:Nat):Int)]∧A'=A∧g=0;refine w78 _ _ _ (c78 (I:=I) ?_) ?_
 ·rintro g id vals A' d ⟨rfl,rfl,rfl,rfl⟩ hd;rw [SQ];simp only [L78,Mc,Mn,Li,and_true] at hd;obtain ⟨d0,d1,d7,d8⟩:=hd;simp only [d0,d1,d7,d8,Bb,Ab,Ap];refine ⟨fun _=>?_,fun h=>absurd (by simp only [Lc];omega) h⟩;obtain ⟨r,o,a1,_,a2⟩:=hp.at etP (i:=0) (p:=p) rfl;simp only [a1,a2,Ab];refine GL (V1 A' _ _) rfl (Aak hq hv hf hA fun A2 g2=>?_);exact Ai.2 ⟨fun _=>hk A2 g2,fun h=>by cases h⟩
 ·rw [e78];simp only [hp.len etP,Ab];exact AE.2 ⟨0,rfl,rfl,rfl,rfl⟩
theorem Ux {ps:List Pt} (hp:RdE 4 Pt.cells A w ps Fp) (hv:RdE 0 bC A v (0::s) F) (hf:AB A) (hl:ps.length<100000) (hA:A.next+ps.length+2<Ak)
  (hk:∀ A',Grow A A' (ps.length+1)→K (.bool true) A'):Wc Tryz.prog Af W0 m0 150 [w,v] A K:=by
 refine AaH _ _ _ Bu ?_;rw [AbC];obtain ⟨ov,cv,rfl⟩:=hv.slice;refine AH (cs:=[_]) hf (by omega) rfl fun A1 m1=>?_;have n1:=m1.next;have k1:=m1.keeps hf;refine YW _ _ _ Bu ?_;rw [ZC];refine Z3 (hp.keeps k1 (by simp)) m1.Bk (hv.keeps k1 (by simp)) m1.Ao hl (by omega) fun A2 g2=>?_;simp only [Dk,Ab,BC];exact hk A2 (((Grow.made m1 hf).trans g2).more (by omega))
theorem X7 {p:Pt} {ps:List Pt} (hp:RdE 4 Pt.cells A w (p::ps) Fp) (hv:RdE 0 bC A v (0::s) F) (hf:AB A) (hA:A.next+2<Ak)
  (hk:∀ A',Grow A A' 2→K (.bool true) A'):Wc Tryz.prog Af W0 m0 151 [w,v] A K:=by
 refine AaG _ _ _ Bu ?_;rw [AbB];obtain ⟨ov,cv,rfl⟩:=hv.slice;refine AH (cs:=[_]) hf (by omega) rfl fun A1 m1=>?_;have n1:=m1.next;have k1:=m1.keeps hf;refine YW _ _ _ Bu ?_;rw [ZC];refine Z4 (hp.keeps k1 (by simp)) m1.Bk (hv.keeps k1 (by simp)) m1.Ao (by omega) fun A2 g2=>?_;simp only [Dk,Ab];exact hk A2 ((Grow.made m1 hf).trans g2)
theorem YJ {l:List Pt} (h:BR 135 4 Pt.cells A x l F) (hf:AB A) (hA:A.next+5<Ak) (hl:l.length<1000000)
  (hk:∀ A' v F',BR 135 4 Pt.cells A' v l F'→(∀ y∈F',A.next≤y)→Grow A A' 2→K v A'):Wc Tryz.prog Af W0 m0 66 [x] A K:=by
 refine w66 _ _ Bu ?_;rw [e66];have hrd:=h.rd fun _=>rfl;have hc:x=.slice none 0 0∧l=[]∨∃ a n c,x=.slice (some a) n c:=by
  rcases h with h | ⟨b,rfl,_⟩
  ·rcases h with ⟨rfl,h2,_⟩ | ⟨b',g,rfl,_⟩
   ·exact .inl ⟨rfl,List.eq_nil_of_length_eq_zero h2⟩
   ·exact .inr ⟨_,_,_,rfl⟩
  ·exact .inr ⟨_,_,_,rfl⟩
 rcases hc with ⟨rfl,rfl⟩ | ⟨a,n,c,rfl⟩
 ·simp only [Yk,Ab];exact Ai.2 ⟨fun _=>hk A _ [] (BR.nil _) (by simp) ((Grow.refl hf).more (by omega)),fun h=>by simp at h⟩
 ·simp only [Yj,Ab];refine Ai.2 ⟨fun h=>by simp at h,fun _=>?_⟩;refine Gx (cs:=[]) (e:=135) (n:=0) (by kernel_rfl) rfl hf (by omega) fun A1 m1=>?_;have n1:=m1.next;have ho:BR 135 4 Pt.cells A1 (.slice (some ⟨A.next,0,none⟩) 0 0) ([]:List Pt) [A.next]:=GP (l:=([]:List Pt)) m1 (by decide);refine ho.LU etP (hrd.keeps (m1.keeps hf) (by simp)) m1.Ao (by omega) (by simp) (by omega) fun v2 A2 F2 o2 k2 hF2 n2 f2=>?_;rw [List.nil_append] at o2;exact hk A2 v2 F2 o2 (fun y hy=>(hF2 y hy).elim (fun h=>by have:=Ms.1 h;omega) fun h=>by omega) (((Grow.made m1 hf).own k2 (by simp) (m:=1) n2 f2).more (by omega))
theorem Q8 {a:Value} {l:List Pt} {i:Nat} {p:Pt} {K:AW→Prop} (h:BR 135 4 Pt.cells A x l F) (hi:l[i]? =some p) (hx:Aj Tryz.prog 48 x (.int .i64 (i:Int))=some a) (hf:AB A) (hA:A.next≤Ak)
  (hk:∀ A',BR 135 4 Pt.cells A' x l F→AA A A' F→A'.next=A.next→AB A'→K A'):∃ b o,a=.pointer (some ⟨b,o,none⟩)∧AQ (Am Tryz.prog A 133 (.pointer (some ⟨b,o+4,none⟩)) (.int .u8 0)) K:=by
 have hlt:=(Gs.1 hi).1;have hfl:(flat Pt.cells l).length=l.length*5:=DJ (f:=Pt.cells) (n:=5) (fun _=>rfl) l;have hg:(flat Pt.cells l)[i*5+4]? =some (.int .u8 0):=by rw [VN (f:=Pt.cells) (n:=5) (fun _=>rfl) hi (by decide)];rfl
 have he:Ee (flat Pt.cells l) (i*5+4) [.int .u8 0]=flat Pt.cells l:=NX _ _ _ hg;rcases h with h | ⟨b,rfl,h0,h2,rfl⟩
 ·rcases h with ⟨rfl,h2,_⟩ | ⟨b,g,rfl,h3,rfl⟩
  ·omega
  ·rw [JT etP hlt] at hx;cases hx;refine ⟨b,0+i*5,rfl,?_⟩;refine UR (F:=[g]) (n:=l.length) (cs:=flat Pt.cells l) (size:=5) (e:=135) (.inr ⟨b,g,rfl,h3,rfl⟩) hf hA (Ov _ _ _) rfl (by omega) rfl fun A' h4 k4 n4 f4=>hk A' (.inl ?_) k4 n4 f4;have h4:EA A' 135 5 (.slice (some ⟨b,0,none⟩) l.length (Bo+l.length)) l.length (Ee (flat Pt.cells l) (0+i*5+4) [.int .u8 0]) [g]:=h4;rw [Nat.zero_add,he] at h4;exact h4
 ·rw [JT etP hlt] at hx;cases hx;refine ⟨b,0+i*5,rfl,?_⟩;refine h2.store hf hA (Ov _ _ _) rfl (by omega) rfl fun A' h4 k4 n4 f4=>hk A' (.inr ⟨b,rfl,h0,?_,rfl⟩) k4 n4 f4;have h4:Go.Abs.AF A' b (Ee (flat Pt.cells l) (0+i*5+4) [.int .u8 0]) 135:=h4;rw [Nat.zero_add,he] at h4;exact h4
theorem Aat {l:List Pt} (h:BR 135 4 Pt.cells A x l F) (hf:AB A) (hA:A.next+5<Ak) (hl:l.length<1000000)
  (hk:∀ A' v F',BR 135 4 Pt.cells A' v l F'→(∀ y∈F',A.next≤y)→Grow A A' 2→K v A'):Wc Tryz.prog Af W0 m0 149 [x] A K:=by
 let I:Nat→Nat→List Value→AW→Prop:=fun g id vals A'=>id=0∧∃ (i:Nat) (v:Value) (F':List Nat),vals=[v,.int .i64 (l.length:Int),.int .i64 (i:Int)]∧i≤l.length∧BR 135 4 Pt.cells A' v l F'∧(∀ y∈F',A.next≤y)∧Grow A A' 2∧g=l.length-i;refine AaI _ _ (AbL (I:=I) ?_) ?_
 ·rintro g id vals A' d ⟨rfl,i,v,F',rfl,hi,ho,hF,gr,rfl⟩ hd;rw [VG];simp only [Uh,Mc,Mn,Li,and_true] at hd;obtain ⟨d3,d8,d9⟩:=hd;simp only [d3,d8,d9,Bb,Ab,Ap];have gn:=gr.next;refine ⟨fun hlt=>?_,fun hge=>hk A' v F' ho hF gr⟩;have hlt:i<l.length:=by omega
  obtain ⟨r,o,a1,_⟩:=(ho.rd fun _=>rfl).at etP (Ge hlt);obtain ⟨b,o2,e1,e2⟩:=Q8 (K:=fun At3=>Aa (Ah Tryz.prog .add 3 (.tmp 9) (.const (.int .i64 1)) (.int .i64 (i:Int)) (.int .i64 1)) fun t4=>BX (KK 0) (KK 0) (∃ g2,g2<l.length-i∧I g2 0 [v,.int .i64 (l.length:Int),t4] At3)) ho (Ge hlt) a1 gr.Ao (by omega) fun A2 o2 k2 n2 f2=>by
   simp only [Bw,Ab];rw [wrap_i64 (n:=(i:Int)+1) (by omega) (by omega)];exact AE.2 ⟨l.length-(i+1),by omega,rfl,i+1,v,F',rfl,by omega,o2,hF,⟨gr.keeps.trans k2 fun x hx=>.inr (hF x hx),f2,by omega⟩,rfl⟩
  cases e1;simp only [a1,Ab,Ds];exact e2
 ·rw [AbD];refine YJ h hf hA hl fun A1 v F' o1 hF g1=>?_;simp only [(o1.rd fun _=>rfl).len etP,Ab];exact AE.2 ⟨l.length,rfl,0,v,F',rfl,by omega,o1,hF,g1,rfl⟩
end
variable {A:AW} {K:Value→AW→Prop} {b:Nat}
def okX(p:Nm):Bool:=!(p.g.data.toList==[])&&(decide (p.g.data.toList.length≤64)&&decide (p.b.data.toList.length≤64))
def Nm.key(p:Nm):Nm:=⟨p.f,p.g,⟨⟨[]⟩⟩⟩
noncomputable def Lu(x:Nm):Nat→List Pt→Bool
 |_,[]=>true
 |last,p::r=>decide (last<p.n)&&(decide (p.n≤8)&&(okX p.x&&(HD p.x.key x.key&&Lu x p.n r)))
noncomputable def okD(x:Nm)(ps:List Pt):Bool:=okX x&&(x.b.data.toList==[]&&(decide (1≤ps.length)&&(decide (ps.length≤8)&&Lu x 0 ps)))
theorem es(b:ByteArray):(b.data.toList==(⟨⟨[]⟩⟩:ByteArray).data.toList)=(b.data.toList==[]):=rfl
theorem J2 {r:R Value} {s:List Nat} (hr:r=(match A.newRow (flat bC s) 133 with | some (a,w')=>.ok (.slice (some a) s.length s.length) w' | none=>.fail "buildSlice new")) (hf:AB A) (h:A.next<Ak) (hl:s.length<10)
  (hk:∀ A',RdE 0 bC A' (.slice (some ⟨A.next,0,none⟩) s.length s.length) s [A.next]→Made A A' (flat bC s) 133→K (.slice (some ⟨A.next,0,none⟩) s.length s.length) A'):Al r K:=
 Gx hr (MV (fun _=>rfl) s) hf h fun A' m=>hk A' ((GP m (by omega)).rd fun _=>rfl) m
theorem VL:Bi Tryz.prog (BJ (Tm.fill ⟨5,.nil⟩ 0 [.int .u8 0,.int .u8 1,.int .u8 2,.int .u8 3,.int .u8 4])) (.buildSlice 223 5 #[(0,.tmp 0),(1,.tmp 1),(2,.tmp 2),(3,.tmp 3),(4,.tmp 4)])=some (.slice [.int .u8 0,.int .u8 1,.int .u8 2,.int .u8 3,.int .u8 4] 133 5):=by kernel_rfl
theorem MS{p:Prop}(h:A.get b=some (.row [.int .u8 0,.int .u8 1,.int .u8 2,.int .u8 3,.int .u8 4] 133 b 0 false))(hp:p):
  Cm (Bi Tryz.prog (BJ (Tm.fill ⟨5,.nil⟩ 0 [.int .u8 0,.int .u8 1,.int .u8 2,.int .u8 3,.int .u8 4])) (.buildSlice 223 5 #[(0,.tmp 0),(1,.tmp 1),(2,.tmp 2),(3,.tmp 3),(4,.tmp 4)])) A (.slice (some ⟨b,0,none⟩) 5 5) p:=by
 refine ⟨⟨_,VL,?_⟩,hp⟩;simp only [Cb,EH,h,D9,Jz,Bool.and_self,Option.isNone_none,Bool.true_and,Nat.beq_refl]
theorem AbQ(f:Int)(g b:ByteArray)(o:Option Addr)(n c:Nat):Aw Tryz.prog 83 [(0,.agg ⟨[.int .u32 f,.string g,.string b]⟩),(1,.slice o n c)]=some (.agg ⟨[.int .u32 f,.string g,.string b,.slice o n c]⟩):=by kernel_rfl
section
variable {W0:World} {m0:Inj Tryz.prog}
theorem QU{p:Nm}(hf:AB A)(hA:A.next<Ak)(hk:∀ A',Grow A A' 1→K (.int .i64 (if okX p=true then 0 else 40)) A'):Wc Tryz.prog Af W0 m0 97 [.agg ⟨p.cells⟩] A K:=by
 refine w97 _ _ Bu ?_;rw [e97];refine AH (cs:=p.cells) hf hA rfl fun A1 m1=>?_;have r1:Go.Abs.AF A1 A.next [.int .u32 (p.f:Int),.string p.g,.string p.b] 24:=m1.Bk;have hk:=hk _ (Grow.made m1 hf);simp only [Es,Fu,Kq,Ag r1.row,cellOf,Av,Au,Cf,Ab,Nat.zero_add,Oh,OP,Cy,Ap,es];refine Ai.2 ⟨fun h=>?_,fun h=>⟨fun h2=>?_,fun h2=>⟨fun h3=>?_,fun h3=>?_⟩⟩⟩
 ·rw [Ff (by unfold okX;rw [h];simp)] at hk;exact hk
 ·rw [Ff (by unfold okX;rw [h,show decide (p.g.data.toList.length≤64)=false from decide_eq_false (by omega)];simp)] at hk;exact hk
 ·rw [Ff (by unfold okX;rw [h,show decide (p.b.data.toList.length≤64)=false from decide_eq_false (by omega)];simp)] at hk;exact hk
 ·rw [if_pos (by unfold okX;rw [h,show decide (p.g.data.toList.length≤64)=true from decide_eq_true (by omega),show decide (p.b.data.toList.length≤64)=true from decide_eq_true (by omega)];rfl)] at hk;exact hk
theorem Aax{p q:Nm}(hf:AB A)(hA:A.next+2<Ak)(hk:∀ A',Grow A A' 2→K (.bool (HD p.key q.key)) A'):Wc Tryz.prog Af W0 m0 138 [.agg ⟨p.cells⟩,.agg ⟨q.cells⟩] A K:=by
 refine Aef _ _ _ Bu ?_;rw [Aff];refine AH (cs:=p.cells) hf (by omega) rfl fun A1 m1=>?_;have n1:=m1.next;refine AH (cs:=q.cells) m1.Ao (by omega) rfl fun A2 m2=>?_;have n2:=m2.next;have g2:=(Grow.made m1 hf).trans (.made m2 m1.Ao);have r1:Go.Abs.AF A2 A.next p.cells 24:=(m1.Bk).keeps (m2.keeps m1.Ao) (by simp);have r2:Go.Abs.AF A2 A1.next q.cells 24:=m2.Bk;simp only [Fu,Ab,Nat.zero_add];refine r1.store m2.Ao (by omega) (UT _ _ _) rfl (by simp [Nm.cells]) rfl fun A3 r3 k3 n3 f3=>?_;have r3:Go.Abs.AF A3 A.next p.key.cells 24:=r3;refine (r2.keeps k3 (by simp;omega)).store f3 (by omega) (UT _ _ _) rfl (by simp [Nm.cells]) rfl fun A4 r4 k4 n4 f4=>?_;have r4:Go.Abs.AF A4 A1.next q.key.cells 24:=r4;have r3:=r3.keeps k4 (by simp;omega);have h1:Ad Tryz.prog A4 24 (.pointer (some ⟨A.next,0,none⟩))=some (.agg ⟨p.key.cells⟩):=by rw [Ec,BH r3.row];rfl
 have h2:Ad Tryz.prog A4 24 (.pointer (some ⟨A1.next,0,none⟩))=some (.agg ⟨q.key.cells⟩):=by rw [Ec,BH r4.row];rfl
 simp only [h1,h2,Ab,eqN];refine hk _ ⟨(g2.keeps.trans k3 (by simp)).trans k4 (by simp;omega),f4,by have:=g2.next;omega⟩
theorem Fi{p:Nm}{pre post:List Value}{e:TypeId}(h:Go.Abs.AF A b (pre++(p.cells++post)) e):Ad Tryz.prog A 24 (.pointer (some ⟨b,pre.length,none⟩))=some (.agg ⟨p.cells⟩):=by
 rw [Ec,BH h.row,List.drop_left];obtain ⟨f,g,b⟩:=p
 have:AZ ((Nm.mk f g b).cells++post) 3=some (Nm.mk f g b).cells:=Du (Nm.mk f g b).cells post rfl
 rw [this]
theorem V3{α:Type}{l:List α}{i:Nat}{p:α}(h:l[i]? =.some p):l.drop i=p::l.drop (i+1):=by
 obtain ⟨h1,h2⟩:=Gs.1 h;rw [List.drop_eq_getElem_cons h1,h2]
theorem Z7 {x:Nm} {pv:Value} {ps:List Pt} {F:List Nat} (hp:RdE 4 Pt.cells A pv ps F) (hl:ps.length<100000) (hn:∀ p∈ps,p.n<256) (hf:AB A) (hA:A.next+10+10*ps.length<Ak)
  (hk:∀ A',Grow A A' (2+5*ps.length)→K (.int .i64 (if okD x ps=true then 0 else 260)) A'):Wc Tryz.prog Af W0 m0 65 [.agg ⟨x.cells++[pv]⟩] A K:=by
 obtain ⟨ov,cv,rfl⟩:=hp.slice;let I:Nat→Nat→List Value→AW→Prop:=fun g id vals A'=>id=0∧∃ (i last:Nat),vals=[.pointer (some ⟨A.next,0,none⟩),.int .u8 (last:Int),.slice ov ps.length cv,.int .i64 (ps.length:Int),.int .i64 (i:Int)]∧i≤ps.length∧okD x ps=Lu x last (ps.drop i)∧
  Go.Abs.AF A' A.next [.int .u32 (x.f:Int),.string x.g,.string x.b,.slice ov ps.length cv] 83∧Grow A A' (2+5*i)∧g=ps.length-i
 refine w65 _ _ (c65 (I:=I) ?_) ?_
 ·rintro g id vals A' d ⟨rfl,i,last,rfl,hi,hok,r1,gr,rfl⟩ hd;rw [Abl];simp only [L65,Mc,Mn,Li,and_true] at hd;obtain ⟨d1,d3,d29,d30,d31⟩:=hd;simp only [d1,d3,d29,d30,d31,Bb,Ab,Ap];have gn:=gr.next;have gl:=gr.le;refine ⟨fun hlt=>?_,fun hge=>?_⟩
  ·have hlt:i<ps.length:=by omega
   have hpi:=Ge hlt;have hmem:=List.getElem_mem hlt;generalize ps[i]=p at hpi hmem;have hpn:=hn p hmem;rw [V3 hpi] at hok;obtain ⟨r,o,a1,_,a2⟩:=(hp.keeps gr.keeps (by simp)).at etP hpi;simp only [a1,a2,Ab];refine AX Sv gr.Ao (by omega) rfl fun A2 m2=>?_;have n2:=m2.next;have k2:=m2.keeps gr.Ao;refine m2.Bk.store m2.Ao (by omega) (UZ _ _ _) rfl (by simp [Value.cells,Pt.cells]) rfl fun A3 r3 k3 n3 f3=>?_;have K3:AA A' A3 []:=k2.trans k3 (by simp);have r3:Go.Abs.AF A3 A'.next [.int .u8 (p.n:Int),.int .u32 (p.x.f:Int),.string p.x.g,.string p.x.b,.int .u8 0] 135:=r3;have hfail:∀ B n,Lu x last (p::ps.drop (i+1))=false→Grow A3 B n→n≤4→K (.int .i64 260) B:=fun B n hb gB hn=>by
    have:=hk B ⟨(gr.keeps.trans K3 (by simp)).trans gB.keeps (by simp),gB.Ao,by have:=gB.next;omega⟩
    rw [hok,hb,Ff (by simp)] at this;exact this
   simp only [Ib,MZ,Ds,DV,Hm,Ag r3.row,cellOf,Au,Cf,Ab,Nat.zero_add,C6,Cy,Bn,Ap,AU];refine ⟨fun h1=>hfail A3 0 (by unfold Lu;rw [show decide (last<p.n)=false from decide_eq_false (by omega)];rfl) (.refl f3) (by omega),fun h1=>?_⟩;refine ⟨fun h2=>hfail A3 0 (by unfold Lu;rw [show decide (p.n≤8)=false from decide_eq_false (by omega)];simp) (.refl f3) (by omega),fun h2=>?_⟩;refine ⟨fun h3=>absurd rfl h3,fun _=>?_⟩;have hx:Ad Tryz.prog A3 24 (.pointer (some ⟨A'.next,1,none⟩))=some (.agg ⟨p.x.cells⟩):=Fi (pre:=[.int .u8 (p.n:Int)]) (post:=[.int .u8 0]) r3;simp only [hx,Ab];refine QU f3 (by omega) fun A4 g4=>?_;have n4:=g4.next;simp only [Bn,Ab,AU];refine ⟨fun h4=>hfail A4 1 ?_ g4 (by omega),fun h4=>?_⟩
   ·have:okX p.x=false:=by
     cases hx:okX p.x with
     |false=>rfl
     |true=>rw [hx,if_pos rfl] at h4;exact absurd rfl h4
    unfold Lu;rw [this];simp
   have hok4:okX p.x=true:=by
    cases hx:okX p.x with
    |true=>rfl
    |false=>rw [hx,Ff (by simp)] at h4;cases h4
   have r1':Go.Abs.AF A4 A.next [.int .u32 (x.f:Int),.string x.g,.string x.b,.slice ov ps.length cv] 83:=(r1.keeps K3 (by simp)).keeps g4.keeps (by simp);have r4:=r3.keeps g4.keeps (by simp);have hx4:Ad Tryz.prog A4 24 (.pointer (some ⟨A'.next,1,none⟩))=some (.agg ⟨p.x.cells⟩):=Fi (pre:=[.int .u8 (p.n:Int)]) (post:=[.int .u8 0]) r4;have hx1:Ad Tryz.prog A4 24 (.pointer (some ⟨A.next,0,none⟩))=some (.agg ⟨x.cells⟩):=Fi (pre:=[]) (post:=[_]) r1';simp only [SW,hx4,hx1,Ab];refine Aax g4.Ao (by omega) fun A5 g5=>?_;have g35:=g4.trans g5;have n5:=g35.next;simp only [BC,Ab];refine Ai.2 ⟨fun h5=>hfail A5 3 ?_ g35 (by omega),fun h5=>?_⟩
   ·have:HD p.x.key x.key=false:=by simpa using h5
    unfold Lu;rw [this];simp
   have hok5:HD p.x.key x.key=true:=by simpa using h5
   have r5:=r4.keeps g5.keeps (by simp);simp only [Ag r5.row,cellOf,Au,Cf,Ab,Bw];rw [wrap_i64 (n:=(i:Int)+1) (by omega) (by omega)];refine AE.2 ⟨ps.length-(i+1),by omega,rfl,i+1,p.n,rfl,by omega,?_,r1'.keeps g5.keeps (by simp),⟨(gr.keeps.trans K3 (by simp)).trans g35.keeps (by simp),g5.Ao,by omega⟩,rfl⟩;rw [hok];show Lu x last (p::ps.drop (i+1))=_
   conv=>lhs;unfold Lu
   rw [hok4,hok5,show decide (last<p.n)=true from decide_eq_true (by omega),show decide (p.n≤8)=true from decide_eq_true (by omega)];rfl
  ·have hia:i=ps.length:=by omega
   have:=hk A' (gr.more (by omega))
   rw [hok,hia,List.drop_length] at this;exact this
 ·rw [e65];refine AH (cs:=x.cells++[.slice ov ps.length cv]) hf (by omega) rfl fun A1 m1=>?_;have n1:=m1.next;have r1:Go.Abs.AF A1 A.next [.int .u32 (x.f:Int),.string x.g,.string x.b,.slice ov ps.length cv] 83:=m1.Bk;have hx1:Ad Tryz.prog A1 24 (.pointer (some ⟨A.next,0,none⟩))=some (.agg ⟨x.cells⟩):=Fi (pre:=[]) (post:=[_]) r1;simp only [SW,hx1,Ab];refine QU m1.Ao (by omega) fun A2 g2=>?_;have g12:=(Grow.made m1 hf).trans g2;have hfail:okD x ps=false→K (.int .i64 260) A2:=fun hb=>by
   have:=hk A2 (g12.more (by omega))
   rw [hb,Ff (by simp)] at this;exact this
  have r2:=r1.keeps g2.keeps (by simp);simp only [Bn,Ab,AU,Fu,Xd,Kq,Eb,Ag r2.row,cellOf,Av,Au,Ks,Cf,Nat.zero_add,Nd,es,Aa6,Bb,Cy,Ap];refine ⟨fun h1=>hfail ?_,fun h1=>?_⟩
  ·have:okX x=false:=by
    cases hx:okX x with
    |false=>rfl
    |true=>rw [hx,if_pos rfl] at h1;exact absurd rfl h1
   unfold okD;rw [this];rfl
  have hok1:okX x=true:=by
   cases hx:okX x with
   |true=>rfl
   |false=>rw [hx,Ff (by simp)] at h1;cases h1
  refine Ai.2 ⟨fun h2=>hfail ?_,fun h2=>?_⟩
  ·have:(x.b.data.toList==[])=false:=by simpa using h2
   unfold okD;rw [this];simp
  have hok2:(x.b.data.toList==[])=true:=by simpa using h2
  refine ⟨fun h3=>hfail ?_,fun h3=>⟨fun h4=>hfail ?_,fun h4=>?_⟩⟩
  ·unfold okD;rw [show decide (1≤ps.length)=false from decide_eq_false (by omega)];simp
  ·unfold okD;rw [show decide (ps.length≤8)=false from decide_eq_false (by omega)];simp
  refine AE.2 ⟨ps.length,rfl,0,0,rfl,by omega,?_,r2,g12.more (by omega),rfl⟩;unfold okD;rw [hok1,hok2,show decide (1≤ps.length)=true from decide_eq_true (by omega),show decide (ps.length≤8)=true from decide_eq_true (by omega)];rfl
end
variable {v:Value} {A:AW} {F:List Nat} {b:Nat} {cs:List Value} {K:Value→AW→Prop}
def HE(v:Value):Prop:=∃ o n c,v=.slice o n c
theorem HE.one(h:HE v):AP v=true:=by obtain ⟨_,_,_,rfl⟩:=h;rfl
theorem HE.noT(h:HE v):isTuple v=false:=by obtain ⟨_,_,_,rfl⟩:=h;rfl
theorem BI{te:TypeId}{n:Nat}{β:Type}{f:β→List Value}{l:List β}(h:BR te n f A v l F):HE v:=by obtain ⟨o,c,rfl⟩:=h.slice;exact ⟨_,_,_,rfl⟩
theorem FT{g:GV}(h:HE g.pv):g.cells.all AP=true:=by
 obtain ⟨o,n,c,hp⟩:=h;unfold GV.cells;rw [hp];rfl
theorem Dq{g:GV}(h:Go.Abs.AF A b g.cells 50)(hg:HE g.pv):Ad Tryz.prog A 50 (.pointer (some ⟨b,0,none⟩))=some (vG g):=by
 rw [Abd,BH h.row];obtain ⟨o,n,c,hp⟩:=hg;obtain ⟨x,st,pv,w,t⟩:=g;simp only at hp;subst hp;rfl
theorem H2{g:GV}(h:Go.Abs.AF A b g.cells 50):Ad Tryz.prog A 24 (.pointer (some ⟨b,0,none⟩))=some (.agg ⟨g.x.cells⟩):=
 Fi (pre:=[]) (post:=[.int .u8 (g.st:Int),.bool false,g.pv,.int .u32 (g.w:Int),.int .u32 (g.t:Int)]) h
theorem Tk{new:List Value}(h:cs.length=8)(h2:new.length=8):Ee cs 0 new=new:=by
 match cs,h,new,h2 with
 |[_,_,_,_,_,_,_,_],_,[_,_,_,_,_,_,_,_],_=>rfl
theorem GM{g:GV}{K:AW→Prop}(h:Go.Abs.AF A b cs 50)(hl:cs.length=8)(hg:HE g.pv)(hf:AB A)(hA:A.next≤Ak)(hk:∀ A',Go.Abs.AF A' b g.cells 50→AA A A' [b]→A'.next=A.next→AB A'→K A'):
  AQ (Am Tryz.prog A 50 (.pointer (some ⟨b,0,none⟩)) (vG g)) K:=by
 refine h.store hf hA (AaM _ _ _) rfl (by rw [hl];decide) (FT hg) fun A' h1 k1 n1 f1=>hk A' ?_ k1 n1 f1;have h1:Go.Abs.AF A' b (Ee cs 0 g.cells) 50:=h1;rw [Tk hl rfl] at h1;exact h1
section
variable {W0:World} {m0:Inj Tryz.prog}
theorem YG {g:GV} {ps:List Pt} (hp:BR 135 4 Pt.cells A g.pv ps F) (hl:ps.length<100000) (hn:∀ p∈ps,p.n<256) (hs:g.st=1∨g.st=2∨g.st=4) (hw:g.w≤3) (ht:g.t≤5) (hf:AB A) (hA:A.next+40+20*ps.length<Ak)
  (hk:∀ A',Grow A A' (20+10*ps.length)→K (.int .i64 (if okD g.x ps=true then 0 else 270)) A'):Wc Tryz.prog Af W0 m0 81 [vG g] A K:=by
 have hone:=BI hp;refine w81 _ _ Bu ?_;rw [e81];refine AH (cs:=g.cells) hf (by omega) (FT hone) fun A1 m1=>?_;have n1:=m1.next;have k1:=m1.keeps hf;have r1:Go.Abs.AF A1 A.next g.cells 50:=m1.Bk;have hp1:=hp.keeps k1 (by simp);have r1e:Go.Abs.AF A1 A.next [.int .u32 (g.x.f:Int),.string g.x.g,.string g.x.b,.int .u8 (g.st:Int),.bool false,g.pv,.int .u32 (g.w:Int),.int .u32 (g.t:Int)] 50:=r1;simp only [Gq,CF,H2 r1,Ab,Eb,Ag r1e.row,cellOf,Av,Au,Bm,hone.noT,Cf,Nat.zero_add];refine Aat hp1 m1.Ao (by omega) (by omega) fun A2 v2 F2 o2 hF2 g2=>?_;have n2:=g2.next;have r2:=r1.keeps g2.keeps (by simp);obtain ⟨ov,cv,hv2⟩:=o2.slice;have hb:Aw Tryz.prog 83 [(0,.agg ⟨g.x.cells⟩),(1,v2)]=some (.agg ⟨g.x.cells++[v2]⟩):=by rw [hv2];exact AbQ _ _ _ _ _ _
 simp only [H2 r2,Ab,BD,hb];refine Z7 (o2.rd fun _=>rfl) hl hn g2.Ao (by omega) fun A3 g3=>?_;have n3:=g3.next;have g13:=((Grow.made m1 hf).trans g2).trans g3;have r3:=r2.keeps g3.keeps (by simp);have r3e:Go.Abs.AF A3 A.next [.int .u32 (g.x.f:Int),.string g.x.g,.string g.x.b,.int .u8 (g.st:Int),.bool false,g.pv,.int .u32 (g.w:Int),.int .u32 (g.t:Int)] 50:=r3;cases hok:okD g.x ps with
 |false=>
  simp only [hok,Bool.false_eq_true,if_false] at hk ⊢;have hk:=hk A3 (g13.more (by omega));simp only [Bh,Ab,Gq,CG,CF,H2 r3,Eb,E7,Ag r3e.row,cellOf,Av,Au,Bm,hone.noT,Cf,Nat.zero_add,BD,hb,BC,Bool.not_false];refine Ay.2 ⟨fun h=>by simp at h,fun _=>?_⟩;refine Ay.2 ⟨fun _=>Ai.2 ⟨fun _=>hk,fun h=>by cases h⟩,fun _=>Ay.2 ⟨fun _=>Ai.2 ⟨fun _=>hk,fun h=>by cases h⟩,fun _=>Ay.2 ⟨fun _=>Ai.2 ⟨fun _=>hk,fun h=>by cases h⟩,fun _=>Ay.2 ⟨fun _=>Ai.2 ⟨fun _=>hk,fun h=>by cases h⟩,fun _=>Ay.2 ⟨fun _=>Ai.2 ⟨fun _=>hk,fun h=>by cases h⟩,fun _=>Ai.2 ⟨fun _=>hk,fun h=>by cases h⟩⟩⟩⟩⟩⟩
 |true=>
  simp only [hok,if_true] at hk ⊢;have hne:∃ p r,ps=p::r:=by
   cases ps with
   |nil=>unfold okD at hok;simp at hok
   |cons p r=>exact ⟨p,r,rfl⟩
  simp only [Bh,Ab];refine Ay.2 ⟨fun _=>?_,fun h=>absurd rfl h⟩;refine J2 (s:=[0,1,2,3,4]) (by kernel_rfl) g3.Ao (by omega) (by decide) fun A4 rd4 m4=>?_;have n4:=m4.next;have k4:=m4.keeps g3.Ao;have r4:=r3.keeps k4 (by simp);have r4e:Go.Abs.AF A4 A.next [.int .u32 (g.x.f:Int),.string g.x.g,.string g.x.b,.int .u8 (g.st:Int),.bool false,g.pv,.int .u32 (g.w:Int),.int .u32 (g.t:Int)] 50:=r4;refine MS m4.row ?_;simp only [BD,Ab,hb,CF,Gq,Eb,Ag r4e.row,cellOf,Av,Au,Bm,hone.noT,Cf,Nat.zero_add,H2 r4];have rd:=(hp.rd fun _=>rfl);have g14:=g13.trans (Grow.made m4 g3.Ao);refine Ux (rd.keeps g14.keeps (by simp)) rd4 m4.Ao hl (by omega) fun A5 g5=>?_;have n5:=g5.next;have g15:=g14.trans g5;have r5e:=r4e.keeps g5.keeps (by simp);refine Ai.2 ⟨fun _=>?_,fun h=>by cases h⟩;simp only [ID,IC,CG,E9,E7,Ag r5e.row,cellOf,Av,Au,Bm,hone.noT,Cf,Nat.zero_add,Ab,C6,Bh];refine Ap.2 ⟨fun _=>?_,fun h=>absurd (by omega) h⟩;have rd5:=rd.keeps g15.keeps (by simp);have n15:=g15.next;rcases hs with hs | hs | hs
  ·rw [hs];refine Ay.2 ⟨fun _=>Ap.2 ⟨fun _=>?_,fun h=>absurd (by omega) h⟩,fun h=>absurd rfl h⟩;simp only [IE,CF,OT,Eb,Ag r5e.row,cellOf,Av,Au,Bm,hone.noT,Cf,Nat.zero_add,Ab,BC,Bool.not_false];refine Ai.2 ⟨fun _=>?_,fun h=>by cases h⟩;refine J2 (s:=[0]) (by kernel_rfl) g5.Ao (by omega) (by decide) fun A6 rd6 m6=>?_;have n6:=m6.next;refine Ux (rd5.keeps (m6.keeps g5.Ao) (by simp)) rd6 m6.Ao hl (by omega) fun A7 g7=>?_;simp only [BC,Ab];refine Ai.2 ⟨fun h=>(by cases h),fun _=>?_⟩;exact hk A7 (((g15.trans (Grow.made m6 g5.Ao)).trans g7).more (by omega))
  ·rw [hs];refine Ay.2 ⟨fun h=>absurd h (by decide),fun _=>Ay.2 ⟨fun _=>Ap.2 ⟨fun _=>?_,fun h=>absurd (by omega) h⟩,fun h=>absurd rfl h⟩⟩;simp only [IE,CF,OT,Eb,Ag r5e.row,cellOf,Av,Au,Bm,hone.noT,Cf,Nat.zero_add,Ab,BC,Bool.not_false];refine Ai.2 ⟨fun _=>?_,fun h=>by cases h⟩;refine J2 (s:=[0,1,2]) (by kernel_rfl) g5.Ao (by omega) (by decide) fun A6 rd6 m6=>?_;have n6:=m6.next;refine Ux (rd5.keeps (m6.keeps g5.Ao) (by simp)) rd6 m6.Ao hl (by omega) fun A7 g7=>?_;simp only [BC,Ab];refine Ai.2 ⟨fun h=>(by cases h),fun _=>?_⟩;exact hk A7 (((g15.trans (Grow.made m6 g5.Ao)).trans g7).more (by omega))
  ·rw [hs];refine Ay.2 ⟨fun h=>absurd h (by decide),fun _=>Ay.2 ⟨fun h=>absurd h (by decide),fun _=>Ay.2 ⟨fun h=>absurd h (by decide),fun _=>Ay.2 ⟨fun _=>Ap.2 ⟨fun _=>?_,fun h=>absurd (by omega) h⟩,fun h=>absurd rfl h⟩⟩⟩⟩;simp only [IE,CF,OT,Eb,Ag r5e.row,cellOf,Av,Au,Bm,hone.noT,Cf,Nat.zero_add,Ab,BC,Bool.not_false];refine Ai.2 ⟨fun _=>?_,fun h=>by cases h⟩;refine J2 (s:=[0,1]) (by kernel_rfl) g5.Ao (by omega) (by decide) fun A6 rd6 m6=>?_;have n6:=m6.next;obtain ⟨p,r,rfl⟩:=hne;refine X7 (rd5.keeps (m6.keeps g5.Ao) (by simp)) rd6 m6.Ao (by omega) fun A7 g7=>?_;simp only [BC,Ab];refine Ai.2 ⟨fun h=>(by cases h),fun _=>?_⟩;exact hk A7 (((g15.trans (Grow.made m6 g5.Ao)).trans g7).more (by omega))
theorem YE {g:GV} {ps:List Pt} (hp:BR 135 4 Pt.cells A g.pv ps F) (hl:ps.length<100000) (hf:AB A) (hA:A.next+10<Ak)
  (hk:∀ A' v F',BR 135 4 Pt.cells A' v ps F'→(∀ y∈F',A.next≤y)→Grow A A' 4→K (vG { g with pv:=v }) A'):Wc Tryz.prog Af W0 m0 83 [vG g] A K:=by
 have hone:=BI hp;refine w83 _ _ Bu ?_;rw [e83];refine AH (cs:=g.cells) hf (by omega) (FT hone) fun A1 m1=>?_;have n1:=m1.next;refine AX D2 m1.Ao (by omega) rfl fun A2 m2=>?_;have n2:=m2.next;have g2:=(Grow.made m1 hf).trans (.made m2 m1.Ao);have r1:Go.Abs.AF A2 A.next g.cells 50:=(m1.Bk).keeps (m2.keeps m1.Ao) (by simp);have r2:=m2.Bk;have r1e:Go.Abs.AF A2 A.next [.int .u32 (g.x.f:Int),.string g.x.g,.string g.x.b,.int .u8 (g.st:Int),.bool false,g.pv,.int .u32 (g.w:Int),.int .u32 (g.t:Int)] 50:=r1;simp only [CF,Eb,Ag r1e.row,cellOf,Av,Au,Bm,hone.noT,Cf,Nat.zero_add,Ab];refine YJ (hp.keeps g2.keeps (by simp)) m2.Ao (by omega) (by omega) fun A3 v F' o3 hF3 g3=>?_;have n3:=g3.next;have hv:=BI o3;refine (r1.keeps g3.keeps (by simp)).store g3.Ao (by omega) (UU _ _ _) (by obtain ⟨_,_,_,rfl⟩:=hv;rfl) (by simp [GV.cells]) (by obtain ⟨_,_,_,rfl⟩:=hv;rfl) fun A4 r4 k4 n4 f4=>?_;have r4:Go.Abs.AF A4 A.next { g with pv:=v }.cells 50:=by obtain ⟨_,_,_,rfl⟩:=hv;exact r4
 simp only [Dq r4 hv,Ab];refine GM (g:={ g with pv:=v }) ((r2.keeps g3.keeps (by simp)).keeps k4 (by simp;omega)) rfl hv f4 (by omega) fun A5 r5 k5 n5 f5=>?_;simp only [Dq r5 hv,Ab];have hle:=g3.le;refine hk A5 v F' ((o3.keeps k4 (fun x hx=>by have:=hF3 x hx;simp;omega)).keeps k5 (fun x hx=>by have:=hF3 x hx;simp;omega)) (fun y hy=>by have:=hF3 y hy;omega) ?_;exact ⟨((g2.keeps.trans g3.keeps (by simp)).trans k4 (by simp)).trans k5 (by simp;omega),f5,by omega⟩
theorem Adn {g:GV} {p:Pt} {ps:List Pt} (hp:BR 135 4 Pt.cells A g.pv (p::ps) F) (hs:g.st=2∨g.st=4) (hf:AB A) (hA:A.next+10<Ak)
  (hk:∀ A',Grow A A' 5→K (vG g) A'):Wc Tryz.prog Af W0 m0 87 [vG g] A K:=by
 have hone:=BI hp;refine w87 _ _ Bu ?_;rw [e87];refine AH (cs:=g.cells) hf (by omega) (FT hone) fun A1 m1=>?_;have n1:=m1.next;refine AX D2 m1.Ao (by omega) rfl fun A2 m2=>?_;have n2:=m2.next;have g2:=(Grow.made m1 hf).trans (.made m2 m1.Ao);have r1:Go.Abs.AF A2 A.next g.cells 50:=(m1.Bk).keeps (m2.keeps m1.Ao) (by simp);have r2:=m2.Bk;have r1e:Go.Abs.AF A2 A.next [.int .u32 (g.x.f:Int),.string g.x.g,.string g.x.b,.int .u8 (g.st:Int),.bool false,g.pv,.int .u32 (g.w:Int),.int .u32 (g.t:Int)] 50:=r1;simp only [CG,E7,Ag r1e.row,cellOf,Av,Au,Bm,hone.noT,Cf,Nat.zero_add,Ab,Bh,Dq r1 hone];rcases hs with hs | hs
 ·rw [hs];refine Ay.2 ⟨fun h=>absurd h (by decide),fun _=>Ay.2 ⟨fun h=>absurd h (by decide),fun _=>?_⟩⟩;refine GM r2 rfl hone m2.Ao (by omega) fun A3 r3 k3 n3 f3=>?_;simp only [Dq r3 hone,Ab];exact hk A3 ⟨g2.keeps.trans k3 (by simp;omega),f3,by omega⟩
 ·rw [hs];refine Ay.2 ⟨fun h=>absurd h (by decide),fun _=>Ay.2 ⟨fun _=>?_,fun h=>absurd rfl h⟩⟩;simp only [CF,Eb,Ag r1e.row,cellOf,Av,Au,Bm,hone.noT,Cf,Nat.zero_add,Ab];refine J2 (s:=[0,1]) (by kernel_rfl) m2.Ao (by omega) (by decide) fun A3 rd3 m3=>?_;have n3:=m3.next;have k3:=m3.keeps m2.Ao;refine X7 (((hp.keeps g2.keeps (by simp)).rd fun _=>rfl).keeps k3 (by simp)) rd3 m3.Ao (by omega) fun A4 g4=>?_;have n4:=g4.next;have l4:=g4.le;simp only [BC,Ab];refine Ai.2 ⟨fun h=>(by cases h),fun _=>?_⟩;have r1:=(r1.keeps k3 (by simp)).keeps g4.keeps (by simp);simp only [Dq r1 hone,Ab];refine GM ((r2.keeps k3 (by simp)).keeps g4.keeps (by simp)) rfl hone g4.Ao (by omega) fun A5 r5 k5 n5 f5=>?_;simp only [Dq r5 hone,Ab];refine hk A5 ⟨(((g2.keeps.trans k3 (by simp)).trans g4.keeps (by simp)).trans k5 (by simp;omega)),f5,by omega⟩
end
variable {A:AW} {K:Value→AW→Prop} {F:List Nat}
theorem WY{k:IntKind}{a b:Int}:P6 (.int k a) [.int k b]=some (.int k (if b<a then b else a)):=by simp [P6,P7]
theorem wrap_u32{n:Int}(h1:0≤n)(h2:n<4294967296):IntKind.u32.wrap n=n:=by
 have:IntKind.u32.wrap n=n%4294967296:=by simp [IntKind.wrap,IntKind.bits,IntKind.signed]
 rw [this];omega
theorem Bf(a:Addr):BQ (.pointer (some a))=some (.pointer (some a)):=rfl
def HK(st w t:Nat):(Nat × Nat × Nat) × Bool:=if 0<w then ((st,w-1,t),false) else if st=2∧t=5 then ((4,2,1),true) else ((st,2,min (t+1) 5),true)
structure Rw where
 st:Nat
 fr:Nat
 k:Nat
 f:FuncId
def Rw.cells(r:Rw):List Value:=[.int .u8 (r.st:Int),.int .u8 (r.fr:Int),.int .u8 (r.k:Int),.func (.func r.f) #[] #[]]
def rws:List Rw:=[⟨2,0,1,153⟩,⟨3,1,2,154⟩,⟨4,0,3,154⟩,⟨4,1,3,154⟩]
theorem etR:ET Tryz.prog 155 159 3 Rw.cells:=⟨by kernel_rfl,by kernel_rfl,by kernel_rfl,⟨16,by kernel_rfl,by decide⟩,by kernel_rfl,fun _=>rfl,fun _=>rfl,fun _=>rfl⟩
def hit(st:Nat)(r:Rw):Bool:=r.st==st&&r.fr==0
def Zc(p:Pt)(r:Rw):Ml:=⟨p.n,r.k,p.x⟩
def mls(st:Nat)(p:Pt)(l:List Rw):List Ml:=(l.filter (hit st)).map (Zc p)
def kindOf(st:Nat):Nat:=if st=2 then 1 else 3
def CN(st:Nat)(ps:List Pt):List Ml:=ps.map fun p=>⟨p.n,kindOf st,p.x⟩
theorem WX{st:Nat}(hs:st=2∨st=4)(p:Pt):mls st p rws=[⟨p.n,kindOf st,p.x⟩]:=by
 rcases hs with rfl | rfl<;>rfl
theorem ZR(k:Nat)(x:Nm):Aw Tryz.prog 38 [(0,.int .u8 (k:Int)),(1,.agg ⟨x.cells⟩)]=some (.agg ⟨[.int .u8 (k:Int),.int .u32 (x.f:Int),.string x.g,.string x.b,.int .u8 0,.int .u16 0,.slice none 0 0]⟩):=by kernel_rfl
theorem Afv(n k:Nat)(x:Nm):Aw Tryz.prog 46 [(0,.int .u8 (n:Int)),(1,.agg ⟨[.int .u8 (k:Int),.int .u32 (x.f:Int),.string x.g,.string x.b,.int .u8 0,.int .u16 0,.slice none 0 0]⟩)]=some (.agg ⟨(Ml.mk n k x).cells⟩):=by kernel_rfl
theorem Aa4{m:Ml}(hf:AB A)(h:A.next<Ak)(hk:∀ A',Made A A' m.cells 46→K (.slice (some ⟨A.next,0,none⟩) 1 1) A'):Al (Aq Tryz.prog A 41 1 [(0,.agg ⟨m.cells⟩)]) K:=
 Gx (cs:=m.cells) (e:=46) (n:=1) (by kernel_rfl) rfl hf h hk
section
variable {W0:World} {m0:Inj Tryz.prog}
theorem Ado {g:GV} {p:Pt} {ps:List Pt} {s:Nat} (hp:BR 135 4 Pt.cells A g.pv (p::ps) F) (hl:(p::ps).length<100000) (hs:s=2∨s=4) (hf:AB A) (hA:A.next+30<Ak)
  (hk:∀ A' v F',BR 135 4 Pt.cells A' v (p::ps) F'→(∀ y∈F',A.next≤y)→Grow A A' 15→K (vG ⟨g.x,s,v,0,0⟩) A'):Wc Tryz.prog Af W0 m0 86 [vG g,.int .u8 (s:Int)] A K:=by
 have hone:=BI hp;refine w86 _ _ _ Bu ?_;rw [e86];refine AH (cs:=g.cells) hf (by omega) (FT hone) fun A1 m1=>?_;have n1:=m1.next;refine AX D2 m1.Ao (by omega) rfl fun A2 m2=>?_;have n2:=m2.next;have g2:=(Grow.made m1 hf).trans (.made m2 m1.Ao);have r1:Go.Abs.AF A2 A.next g.cells 50:=(m1.Bk).keeps (m2.keeps m1.Ao) (by simp);have r2:=m2.Bk;simp only [Dq r1 hone,Ab];refine YE (hp.keeps g2.keeps (by simp)) hl m2.Ao (by omega) fun A3 v F' o3 hF3 g3=>?_;have n3:=g3.next;have l3:=g3.le;have hv:=BI o3;refine GM (g:={ g with pv:=v }) (r1.keeps g3.keeps (by simp)) rfl hv g3.Ao (by omega) fun A4 r4 k4 n4 f4=>?_;simp only [CG,IE,ID,IC,Ab,Nat.zero_add];refine r4.store f4 (by omega) (UW _ _ _) rfl (by simp [GV.cells]) rfl fun A5 r5 k5 n5 f5=>?_;have r5:Go.Abs.AF A5 A.next { g with pv:=v,st:=s }.cells 50:=r5;refine r5.store f5 (by omega) (Ju _ _ _) rfl (by simp [GV.cells]) rfl fun A6 r6 k6 n6 f6=>?_;have r6:Go.Abs.AF A6 A.next { g with pv:=v,st:=s,w:=0 }.cells 50:=r6;refine r6.store f6 (by omega) (Ju _ _ _) rfl (by simp [GV.cells]) rfl fun A7 r7 k7 n7 f7=>?_;have r7:Go.Abs.AF A7 A.next (GV.mk g.x s v 0 0).cells 50:=r7;have hb:((s:Int)==3)=false:=by rcases hs with rfl | rfl<;>rfl
 simp only [Bh,Ab,hb];refine r7.store f7 (by omega) (Y3 _ _ _) rfl (by simp [GV.cells]) rfl fun A8 r8 k8 n8 f8=>?_;have r8:Go.Abs.AF A8 A.next (GV.mk g.x s v 0 0).cells 50:=r8;have K8:AA A3 A8 [A.next]:=(((k4.trans k5 (by simp)).trans k6 (by simp)).trans k7 (by simp)).trans k8 (by simp);have o8:=o3.keeps K8 (fun x hx=>by have:=hF3 x hx;simp;omega);simp only [Dq r8 hv,Ab];refine Adn (g:=⟨g.x,s,v,0,0⟩) o8 hs f8 (by omega) fun A9 g9=>?_;have n9:=g9.next;have l9:=g9.le;refine GM (g:=⟨g.x,s,v,0,0⟩) (((r2.keeps g3.keeps (by simp)).keeps K8 (by simp;omega)).keeps g9.keeps (by simp)) rfl hv g9.Ao (by omega) fun B rB kB nB fB=>?_;simp only [Dq rB hv,Ab];refine hk B v F' ((o8.keeps g9.keeps (by simp)).keeps kB (fun x hx=>by have:=hF3 x hx;simp;omega)) (fun y hy=>by have:=hF3 y hy;omega) ⟨?_,fB,by omega⟩;exact (((g2.keeps.trans g3.keeps (by simp)).trans K8 (by simp)).trans g9.keeps (by simp)).trans kB (by simp;omega)
theorem AdB {g:GV} {p:Pt} {ps:List Pt} (hp:BR 135 4 Pt.cells A g.pv (p::ps) F) (hl:(p::ps).length<100000) (hn:∀ q∈p::ps,q.n<256) (hs:g.st=2∨g.st=4) (hw:g.w≤3) (ht:g.t≤5) (hok:okD g.x (p::ps)=true) (hf:AB A) (hA:A.next+90+20*(p::ps).length<Ak)
  (hk:∀ A' v F',BR 135 4 Pt.cells A' v (p::ps) F'→(∀ y∈F',A.next≤y)→Grow A A' (45+10*(p::ps).length)→K (.tuple ⟨[vG ⟨g.x,(HK g.st g.w g.t).1.1,v,(HK g.st g.w g.t).1.2.1,(HK g.st g.w g.t).1.2.2⟩,.bool (HK g.st g.w g.t).2,.int .i64 0]⟩) A'):Wc Tryz.prog Af W0 m0 46 [vG g] A K:=by
 have hone:=BI hp;refine w46 _ _ Bu ?_;rw [e46];refine AH (cs:=g.cells) hf (by omega) (FT hone) fun A1 m1=>?_;have n1:=m1.next;refine AX D2 m1.Ao (by omega) rfl fun A2 m2=>?_;have n2:=m2.next;have g2:=(Grow.made m1 hf).trans (.made m2 m1.Ao);have r1:Go.Abs.AF A2 A.next g.cells 50:=(m1.Bk).keeps (m2.keeps m1.Ao) (by simp);have r2:=m2.Bk;simp only [Dq r1 hone,Ab];refine YG (hp.keeps g2.keeps (by simp)) hl hn (.inr hs) hw ht m2.Ao (by omega) fun A3 g3=>?_;have n3:=g3.next;have l3:=g3.le;have g13:=g2.trans g3;have r3:=r1.keeps g3.keeps (by simp);rw [if_pos hok];simp only [Bn,Ab,Dq r3 hone];refine AU.2 ⟨fun h=>absurd rfl h,fun _=>?_⟩;refine YE (hp.keeps g13.keeps (by simp)) hl g3.Ao (by omega) fun A4 v F' o4 hF4 g4=>?_;have n4:=g4.next;have l4:=g4.le;have hv:=BI o4;refine GM (g:={ g with pv:=v }) (r3.keeps g4.keeps (by simp)) rfl hv g4.Ao (by omega) fun A5 r5 k5 n5 f5=>?_;have r5e:Go.Abs.AF A5 A.next [.int .u32 (g.x.f:Int),.string g.x.g,.string g.x.b,.int .u8 (g.st:Int),.bool false,v,.int .u32 (g.w:Int),.int .u32 (g.t:Int)] 50:=r5;have o5:=o4.keeps k5 (fun x hx=>by have:=hF4 x hx;simp;omega);have K5:AA A A5 []:=((g13.keeps.trans g4.keeps (by simp))).trans k5 (by simp);have r25:=((r2.keeps g3.keeps (by simp)).keeps g4.keeps (by simp)).keeps k5 (by simp;omega);have hn1:((g.st:Int)==1)=false:=by rcases hs with h | h<;>rw [h]<;>rfl
 have hn5:((g.st:Int)==5)=false:=by rcases hs with h | h<;>rw [h]<;>rfl
 simp only [CG,ID,IC,E7,E9,Ag r5e.row,cellOf,Av,Au,Bm,hv.noT,Cf,Nat.zero_add,Ab,Bh,Cy,hn1,hn5];refine Ai.2 ⟨fun h=>(by cases h),fun _=>Ai.2 ⟨fun h=>(by cases h),fun _=>Ap.2 ⟨fun hw0=>?_,fun hw0=>?_⟩⟩⟩
 ·have hT:HK g.st g.w g.t=((g.st,g.w-1,g.t),false):=by unfold HK;rw [if_pos (by omega)]
  rw [hT] at hk;simp only [Gy,Ab];rw [wrap_u32 (n:=(g.w:Int)-1) (by omega) (by omega),show (g.w:Int)-1=((g.w-1:Nat):Int) by omega];refine r5.store f5 (by omega) (Ju _ _ _) rfl (by simp [GV.cells]) rfl fun A6 r6 k6 n6 f6=>?_;have r6:Go.Abs.AF A6 A.next (GV.mk g.x g.st v (g.w-1) g.t).cells 50:=r6;simp only [Dq r6 hv,Ab];refine GM (g:=⟨g.x,g.st,v,g.w-1,g.t⟩) (r25.keeps k6 (by simp;omega)) rfl hv f6 (by omega) fun A7 r7 k7 n7 f7=>?_;simp only [Dq r7 hv,Ab];exact hk A7 v F' ((o5.keeps k6 (fun x hx=>by have:=hF4 x hx;simp;omega)).keeps k7 (fun x hx=>by have:=hF4 x hx;simp;omega)) (fun y hy=>by have:=hF4 y hy;omega) ⟨(K5.trans k6 (by simp)).trans k7 (by simp;omega),f7,by omega⟩
 ·
  have htail:∀ (B:AW) (st t:Nat) (v:Value) (F':List Nat),st<256→t≤5→BR 135 4 Pt.cells B v (p::ps) F'→(∀ y∈F',A.next+2≤y)→Go.Abs.AF B A.next (GV.mk g.x st v 0 t).cells 50→(∃ cs,Go.Abs.AF B A1.next cs 50∧cs.length=8)→AB B→AA A B []→B.next+2<Ak→B.next≤A.next+(45+10*(p::ps).length)→
    HK g.st g.w g.t=((st,2,min (t+1) 5),true)→
    Aa (Ah Tryz.prog .add 22 (.tmp 46) (.const (.int .u32 1)) (.int .u32 (t:Int)) (.int .u32 1)) fun t51=>Aa (P6 t51 [(.int .u32 5)]) fun t52=>AQ (Am Tryz.prog B 22 (.pointer (some ⟨A.next,6,none⟩)) (.int .u32 2)) fun At54=>AQ (Am Tryz.prog At54 22 (.pointer (some ⟨A.next,7,none⟩)) t52) fun At56=>Aa (Ad Tryz.prog At56 50 (.pointer (some ⟨A.next,0,none⟩))) fun t57=>AQ (Am Tryz.prog At56 50 (.pointer (some ⟨A1.next,0,none⟩)) t57) fun At58=>Aa (Ad Tryz.prog At58 50 (.pointer (some ⟨A1.next,0,none⟩))) fun t59=>K (.tuple ⟨[t59,(.bool true),(.int .i64 0)]⟩) At58:=by
   intro B st t v F' hst ht5 oB hFB rB ⟨cs,rB2,hcs⟩ fB KB hB nB hT;have hv:=BI oB;rw [hT] at hk;have hmin:(if (5:Int)<((t+1:Nat):Int) then (5:Int) else ((t+1:Nat):Int))=((min (t+1) 5:Nat):Int):=by split<;>omega
   simp only [Ab,Bw];rw [wrap_u32 (n:=(t:Int)+1) (by omega) (by omega),show (t:Int)+1=((t+1:Nat):Int) by omega];simp only [WY,Ab];rw [hmin];refine rB.store fB (by omega) (Ju _ _ _) rfl (by simp [GV.cells]) rfl fun B1 r1 k1 n1 f1=>?_;have r1:Go.Abs.AF B1 A.next (GV.mk g.x st v 2 t).cells 50:=r1;refine r1.store f1 (by omega) (Ju _ _ _) rfl (by simp [GV.cells]) rfl fun B2 r2 k2 n2 f2=>?_;have r2:Go.Abs.AF B2 A.next (GV.mk g.x st v 2 (min (t+1) 5)).cells 50:=r2;simp only [Dq r2 hv,Ab];refine GM (g:=⟨g.x,st,v,2,min (t+1) 5⟩) ((rB2.keeps k1 (by simp;omega)).keeps k2 (by simp;omega)) hcs hv f2 (by omega) fun B3 r3 k3 n3 f3=>?_;simp only [Dq r3 hv,Ab];exact hk B3 v F' (((oB.keeps k1 (fun x hx=>by have:=hFB x hx;simp;omega)).keeps k2 (fun x hx=>by have:=hFB x hx;simp;omega)).keeps k3 (fun x hx=>by have:=hFB x hx;simp;omega)) (fun y hy=>by have:=hFB y hy;omega) ⟨((KB.trans k1 (by simp)).trans k2 (by simp)).trans k3 (by simp;omega),f3,by omega⟩
  have hw0:g.w=0:=by omega
  have r5':Go.Abs.AF A5 A.next (GV.mk g.x g.st v 0 g.t).cells 50:=by
   have h:=r5;rw [show ({ g with pv:=v }:GV)=⟨g.x,g.st,v,0,g.t⟩ by rw [← hw0]] at h;exact h
  refine Ay.2 ⟨fun h2=>Ay.2 ⟨fun h5=>?_,fun h5=>?_⟩,fun h2=>?_⟩
  ·simp only [Dq r5 hv,Ab];refine Ado (g:={ g with pv:=v }) (s:=4) o5 hl (.inr rfl) f5 (by omega) fun A6 v6 F6 o6 hF6 g6=>?_;have n6:=g6.next;have l6:=g6.le;have hv6:=BI o6;refine GM (g:=⟨g.x,4,v6,0,0⟩) (r5.keeps g6.keeps (by simp)) rfl hv6 g6.Ao (by omega) fun A7 r7 k7 n7 f7=>?_;have r7e:Go.Abs.AF A7 A.next [.int .u32 (g.x.f:Int),.string g.x.g,.string g.x.b,.int .u8 ((4:Nat):Int),.bool false,v6,.int .u32 ((0:Nat):Int),.int .u32 ((0:Nat):Int)] 50:=r7;simp only [Ag r7e.row,cellOf,Av,Au,Bm,hv6.noT,Cf,Ab,Bh];refine Ay.2 ⟨fun h=>absurd h (by decide),fun _=>?_⟩;refine htail A7 4 0 v6 F6 (by omega) (by omega) (o6.keeps k7 (fun x hx=>by have:=hF6 x hx;simp;omega)) (fun y hy=>by have:=hF6 y hy;omega) r7 ⟨_,(r25.keeps g6.keeps (by simp)).keeps k7 (by simp;omega),rfl⟩ f7 ((K5.trans g6.keeps (by simp)).trans k7 (by simp)) (by omega) (by omega) ?_;unfold HK;rw [Ff (by omega),if_pos ⟨by omega,by omega⟩];rfl
  ·refine htail A5 g.st g.t v F' (by omega) ht o5 (fun y hy=>by have:=hF4 y hy;omega) r5' ⟨_,r25,rfl⟩ f5 K5 (by omega) (by omega) ?_;unfold HK;rw [Ff (by omega),Ff (by omega)]
  ·refine htail A5 g.st g.t v F' (by omega) ht o5 (fun y hy=>by have:=hF4 y hy;omega) r5' ⟨_,r25,rfl⟩ f5 K5 (by omega) (by omega) ?_;unfold HK;rw [Ff (by omega),Ff (by omega)]
end
variable {A:AW} {K:Value→AW→Prop} {F:List Nat}
theorem XE:Aw Tryz.prog 159 [(0,.int .u8 2),(1,.int .u8 0),(2,.int .u8 1),(3,.func (.func 153) #[] #[])]=some (.agg ⟨(Rw.mk 2 0 1 153).cells⟩):=by kernel_rfl
theorem XD:Aw Tryz.prog 159 [(0,.int .u8 3),(1,.int .u8 1),(2,.int .u8 2),(3,.func (.func 154) #[] #[])]=some (.agg ⟨(Rw.mk 3 1 2 154).cells⟩):=by kernel_rfl
theorem XC:Aw Tryz.prog 159 [(0,.int .u8 4),(1,.int .u8 0),(2,.int .u8 3),(3,.func (.func 154) #[] #[])]=some (.agg ⟨(Rw.mk 4 0 3 154).cells⟩):=by kernel_rfl
theorem XB:Aw Tryz.prog 159 [(0,.int .u8 4),(1,.int .u8 1),(2,.int .u8 3),(3,.func (.func 154) #[] #[])]=some (.agg ⟨(Rw.mk 4 1 3 154).cells⟩):=by kernel_rfl
theorem AbO(A:AW):Aq Tryz.prog A 155 4 [(0,.agg ⟨(Rw.mk 2 0 1 153).cells⟩),(1,.agg ⟨(Rw.mk 3 1 2 154).cells⟩),(2,.agg ⟨(Rw.mk 4 0 3 154).cells⟩),(3,.agg ⟨(Rw.mk 4 1 3 154).cells⟩)]=(match A.newRow (flat Rw.cells rws) 159 with | some (a,w')=>.ok (.slice (some a) 4 4) w' | none=>.fail "buildSlice new"):=by kernel_rfl
section
variable {W0:World} {m0:Inj Tryz.prog}
theorem Z1(hf:AB A)(hA:A.next<Ak)(hk:∀ A',RdE 3 Rw.cells A' (.slice (some ⟨A.next,0,none⟩) 4 4) rws [A.next]→Grow A A' 1→K (.slice (some ⟨A.next,0,none⟩) 4 4) A'):Wc Tryz.prog Af W0 m0 85 [] A K:=by
 refine w85 _ Bu ?_;rw [e85];simp only [XE,XD,XC,XB,Ab];refine Gx (AbO A) rfl hf hA fun A1 m1=>?_;exact hk A1 ((GP (l:=rws) m1 (by decide)).rd fun _=>rfl) (Grow.made m1 hf)
theorem Abu(st:Nat)(r:Rw):((r.st:Int)==(st:Int))=(r.st==st):=by
 rw [Bool.eq_iff_iff,beq_iff_eq,beq_iff_eq];exact Int.ofNat_inj
theorem Abv(r:Rw):((r.fr:Int)==0)=(r.fr==0):=by
 rw [Bool.eq_iff_iff,beq_iff_eq,beq_iff_eq];omega
theorem Vp(st:Nat)(p:Pt)(l:List Rw)(r:Rw):mls st p (l++[r])=mls st p l++(if hit st r=true then [Zc p r] else []):=by
 unfold mls;rw [List.filter_append,List.map_append]
 congr 1
 by_cases h:hit st r=true
 ·rw [if_pos h];simp [h]
 ·rw [Ff h];simp [h]
theorem Adk {g:GV} {ps:List Pt} (hp:BR 135 4 Pt.cells A g.pv ps F) (hl:ps.length<10000) (hn:∀ q∈ps,q.n<256) (hs:g.st=2∨g.st=4) (hw:g.w≤3) (ht:g.t≤5) (hok:okD g.x ps=true) (hf:AB A) (hA:A.next+90+50*ps.length<Ak)
  (hk:∀ A' v F',C4 46 7 Ml.cells A' v (CN g.st ps) F'→(∀ y∈F',A.next≤y)→Grow A A' (30+40*ps.length)→K v A'):Wc Tryz.prog Af W0 m0 98 [vG g] A K:=by
 have hone:=BI hp;have hrd:=hp.rd fun _=>rfl;obtain ⟨ov,cv,hpv⟩:=hrd.slice;let I:Nat→Nat→List Value→AW→Prop:=fun n id vals A'=>∃ (i:Nat) (out:Value) (Fo:List Nat),i≤ps.length∧(∀ y∈Fo,A.next+1≤y)∧Go.Abs.AF A' A.next g.cells 50∧AB A'∧AA A A' []∧
  ((id=0∧vals=[.pointer (some ⟨A.next,0,none⟩),out,g.pv,.int .i64 (ps.length:Int),.int .i64 (i:Int)]∧C4 46 7 Ml.cells A' out (CN g.st (ps.take i)) Fo∧A'.next≤A.next+(30+10*ps.length)+30*i∧n=(ps.length-i)*10)∨
  (∃ (p:Pt) (q j:Nat) (rv:Value) (Fr:List Nat),id=2∧vals=[.pointer (some ⟨A.next,0,none⟩),out,.pointer (some ⟨q,0,none⟩),g.pv,.int .i64 (ps.length:Int),.int .i64 (i:Int),rv,.int .i64 4,.int .i64 (j:Int)]∧ps[i]? =some p∧j≤4∧
   C4 46 7 Ml.cells A' out (CN g.st (ps.take i)++mls g.st p (rws.take j)) Fo∧Go.Abs.AF A' q p.cells 135∧A.next<q∧RdE 3 Rw.cells A' rv rws Fr∧(∀ y∈Fr,A.next<y∧y≠q∧y∉Fo)∧q∉Fo∧A'.next≤A.next+(30+10*ps.length)+30*i+2+4*j∧n=(ps.length-i)*10-1-j))
 refine w98 _ _ (c98 (I:=I) ?_) ?_
 ·rintro n id vals A' d ⟨i,out,Fo,hi,hFo,r1,fA,KA,⟨rfl,rfl,ho,nx,rfl⟩ | ⟨p,q,j,rv,Fr,rfl,rfl,hpi,hj,ho,rq,hq,hrv,hFr,hqo,nx,rfl⟩⟩ hd
  ·rw [Abh];simp only [L98,Mc,Mn,Li,and_true] at hd;obtain ⟨d1,d3,d12,d13,d14⟩:=hd;have hle:=KA.next;simp only [d1,d3,d12,d13,d14,Bb,Ab,Ap];refine ⟨fun hlt=>?_,fun hge=>?_⟩
   ·have hlt:i<ps.length:=by omega
    have hpi:=Ge hlt;generalize ps[i]=p at hpi;obtain ⟨r,o,a1,_,a2⟩:=(hrd.keeps KA (by simp)).at etP hpi;simp only [a1,a2,Ab];have r1lt:=r1.lt;refine AX Sv fA (by omega) rfl fun A2 m2=>?_;have n2:=m2.next;have k2:=m2.keeps fA;refine m2.Bk.store m2.Ao (by omega) (UZ _ _ _) rfl (by simp [Value.cells,Pt.cells]) rfl fun A3 r3 k3 n3 f3=>?_;have K3:AA A' A3 []:=k2.trans k3 (by simp);have r3:Go.Abs.AF A3 A'.next p.cells 135:=r3;refine Z1 f3 (by omega) fun A4 rd4 g4=>?_;have n4:=g4.next;have hlen:=rd4.len (B:=A4) etR;simp only [hlen,Ab];have ho4:=(ho.keeps K3 (by simp)).keeps g4.keeps (by simp);have holt:=ho.lt;refine AE.2 ⟨(ps.length-i)*10-1-0,by omega,i,out,Fo,hi,hFo,(r1.keeps K3 (by simp)).keeps g4.keeps (by simp),g4.Ao,(KA.trans K3 (by simp)).trans g4.keeps (by simp),.inr ⟨p,A'.next,0,_,_,rfl,rfl,hpi,by omega,?_,r3.keeps g4.keeps (by simp),by omega,rd4,?_,fun h=>by have:=holt _ h;omega,by omega,rfl⟩⟩
    ·show C4 46 7 Ml.cells A4 out (CN g.st (ps.take i)++[]) Fo;rw [List.append_nil];exact ho4
    ·intro y hy
     have:=Ms.1 hy
     exact ⟨by omega,by omega,fun h=>by have:=holt _ h;omega⟩
   ·have hia:i=ps.length:=by omega
    subst hia;rw [List.take_length] at ho;exact hk A' out Fo ho (fun y hy=>by have:=hFo y hy;omega) ⟨KA,fA,by omega⟩
  ·rw [Abg];simp only [L98,Mc,Mn,Li,and_true] at hd;obtain ⟨d1,d3,d5,d12,d13,d14,d18,d19,d20⟩:=hd;have hle:=KA.next;have hlt:i<ps.length:=(Gs.1 hpi).1;have r1lt:=r1.lt;have holt:=ho.lt;simp only [d1,d3,d5,d12,d13,d14,d18,d19,d20,Bb,Ab,Ap];refine ⟨fun hjlt=>?_,fun hge=>?_⟩
   ·have hj4:j<rws.length:=by show j<4;omega
    have hrj:=Ge hj4;generalize rws[j]=r at hrj;obtain ⟨rr,o,a1,_,a2⟩:=hrv.at etR hrj;simp only [a1,a2,Ab];refine AX Su fA (by omega) rfl fun A2 m2=>?_;have n2:=m2.next;have k2:=m2.keeps fA;refine m2.Bk.store m2.Ao (by omega) (UY _ _ _) rfl (by simp [Value.cells,Rw.cells]) rfl fun A3 r3 k3 n3 f3=>?_;have K3:AA A' A3 []:=k2.trans k3 (by simp);have r3:Go.Abs.AF A3 A'.next [.int .u8 (r.st:Int),.int .u8 (r.fr:Int),.int .u8 (r.k:Int),.func (.func r.f) #[] #[]] 159:=r3;have rg:=r1.keeps K3 (by simp);have rge:Go.Abs.AF A3 A.next [.int .u32 (g.x.f:Int),.string g.x.g,.string g.x.b,.int .u8 (g.st:Int),.bool false,g.pv,.int .u32 (g.w:Int),.int .u32 (g.t:Int)] 50:=rg;have rq3:=rq.keeps K3 (by simp);have rqe:Go.Abs.AF A3 q [.int .u8 (p.n:Int),.int .u32 (p.x.f:Int),.string p.x.g,.string p.x.b,.int .u8 0] 135:=rq3;have hxp:Ad Tryz.prog A3 24 (.pointer (some ⟨q,1,none⟩))=some (.agg ⟨p.x.cells⟩):=Fi (pre:=[.int .u8 (p.n:Int)]) (post:=[.int .u8 0]) rqe;simp only [JY,Qr,Qq,CG,Ib,MZ,Ds,E7,Hm,DV,Ag r3.row,Ag rge.row,Ag rqe.row,cellOf,Av,Au,Bm,hone.noT,Cf,Nat.zero_add,Ab,Bh,Abu,Abv,hxp,ZR,Afv,Bw];rw [wrap_i64 (n:=(j:Int)+1) (by omega) (by omega)];have hsn:mls g.st p (rws.take (j+1))=mls g.st p (rws.take j)++(if hit g.st r=true then [Zc p r] else []):=by
     rw [List.take_add_one,hrj];exact Vp _ _ _ _
    have hno:hit g.st r=false→BX (T98 2) (T98 2) (∃ g2,g2<(ps.length-i)*10-1-j∧I g2 2 [.pointer (some ⟨A.next,0,none⟩),out,.pointer (some ⟨q,0,none⟩),g.pv,.int .i64 (ps.length:Int),.int .i64 (i:Int),rv,.int .i64 4,.int .i64 ((j:Int)+1)] A3):=fun hh=>by
     refine AE.2 ⟨(ps.length-i)*10-1-(j+1),by omega,i,out,Fo,hi,hFo,rg,f3,KA.trans K3 (by simp),.inr ⟨p,q,j+1,rv,Fr,rfl,rfl,hpi,by omega,?_,rq3,hq,hrv.keeps K3 (by simp),hFr,hqo,by omega,rfl⟩⟩;rw [hsn,Ff (by rw [hh];simp),List.append_nil];exact ho.keeps K3 (by simp)
    refine Ai.2 ⟨fun h1=>Ai.2 ⟨fun h2=>?_,fun h2=>hno (by unfold hit;rw [h1,h2];rfl)⟩,fun h1=>hno (by unfold hit;rw [h1];rfl)⟩;have hh:hit g.st r=true:=by unfold hit;rw [h1,h2];rfl
    refine Aa4 (m:=⟨p.n,r.k,p.x⟩) f3 (by omega) fun A4 m4=>?_;have n4:=m4.next;have k4:=m4.keeps f3;have K4:AA A' A4 []:=K3.trans k4 (by simp);have hlen2:(CN g.st (ps.take i)++mls g.st p (rws.take j)).length<1000000:=by
     have h1:(CN g.st (ps.take i)).length≤i:=by unfold CN;rw [List.length_map,List.length_take];omega
     have h2:(mls g.st p (rws.take j)).length≤j:=by unfold mls;rw [List.length_map];exact Nat.le_trans (List.length_filter_le _ _) (by rw [List.length_take];omega)
     rw [Lq];omega
    refine C4.append etM (ho.keeps K4 (by simp)) m4.Bk m4.Ao (by omega) hlen2 fun out5 A5 F5 o5 k5 hF5 n5 f5=>?_;refine AE.2 ⟨(ps.length-i)*10-1-(j+1),by omega,i,out5,F5,hi,fun y hy=>?_,(rg.keeps k4 (by simp)).keeps k5 (fun h=>by have:=hFo _ h;omega),f5,(KA.trans K4 (by simp)).trans k5 (fun x hx=>.inr (by have:=hFo x hx;omega)),.inr ⟨p,q,j+1,rv,Fr,rfl,rfl,hpi,by omega,?_,(rq3.keeps k4 (by simp)).keeps k5 hqo,hq,(hrv.keeps K4 (by simp)).keeps k5 (fun y hy=>(hFr y hy).2.2),fun y hy=>?_,fun h=>?_,by omega,rfl⟩⟩
    ·rcases hF5 y hy with h | h
     ·exact hFo y h
     ·omega
    ·rw [hsn,if_pos hh,← Mw];exact o5
    ·refine ⟨(hFr y hy).1,(hFr y hy).2.1,fun h=>?_⟩;rcases hF5 y h with h | h
     ·exact (hFr y hy).2.2 h
     ·have:=hrv.fam y hy;omega
    ·have hqlt:=rq.lt;rcases hF5 q h with h | h
     ·exact hqo h
     ·omega
   ·have hj4:j=4:=by omega
    subst hj4;simp only [Bw,Ab];rw [wrap_i64 (n:=(i:Int)+1) (by omega) (by omega)];refine AE.2 ⟨(ps.length-(i+1))*10,by omega,i+1,out,Fo,by omega,hFo,r1,fA,KA,.inl ⟨rfl,rfl,?_,by omega,rfl⟩⟩;have e:rws.take 4=rws:=rfl;rw [e,WX hs] at ho
    have:CN g.st (ps.take (i+1))=CN g.st (ps.take i)++[⟨p.n,kindOf g.st,p.x⟩]:=by
     rw [List.take_add_one,hpi];unfold CN;simp
    rw [this];exact ho
 ·rw [e98];refine AH (cs:=g.cells) hf (by omega) (FT hone) fun A1 m1=>?_;have n1:=m1.next;have k1:=m1.keeps hf;have r1:Go.Abs.AF A1 A.next g.cells 50:=m1.Bk;simp only [Dq r1 hone,Ab];refine YG (hp.keeps k1 (by simp)) (by omega) hn (.inr hs) hw ht m1.Ao (by omega) fun A2 g2=>?_;have n2:=g2.next;have r2:=r1.keeps g2.keeps (by simp);have r2e:Go.Abs.AF A2 A.next [.int .u32 (g.x.f:Int),.string g.x.g,.string g.x.b,.int .u8 (g.st:Int),.bool false,g.pv,.int .u32 (g.w:Int),.int .u32 (g.t:Int)] 50:=r2;rw [if_pos hok];simp only [Bn,Ab];refine AU.2 ⟨fun h=>absurd rfl h,fun _=>?_⟩;simp only [CF,Eb,Ag r2e.row,cellOf,Av,Au,Bm,hone.noT,Cf,Nat.zero_add,Ab,(hrd.keeps (k1.trans g2.keeps (by simp)) (by simp)).len (B:=A2) etP];exact AE.2 ⟨(ps.length-0)*10,0,.slice none 0 0,[],by omega,by simp,r2,g2.Ao,k1.trans g2.keeps (by simp),.inl ⟨rfl,rfl,.nil _,by omega,rfl⟩⟩
def CR(A:AW)(c lg dk rm am sr:Nat)(out:Value):Prop:=Go.Abs.AF A c [.pointer (some ⟨lg,0,none⟩),.pointer (some ⟨dk,0,none⟩),.int .i64 4,.map (some rm),.int .u64 (sr:Int),.map (some am),out,.bool false] 79
theorem P9(st:Nat)(ps:List Pt):(CN st ps).length=ps.length:=by unfold CN;rw [List.length_map]
theorem Mu{te:TypeId}{n:Nat}{β:Type}{f:β→List Value}{v:Value}{l:List β}(h:C4 te n f A v l F):HE v:=by
 rcases h with ⟨rfl,_⟩ | ⟨_,_,rfl,_⟩
 ·exact ⟨_,_,_,rfl⟩
 ·exact ⟨_,_,_,rfl⟩
theorem AdA {g:GV} {ps:List Pt} {Fo:List Nat} {c lg dk rm am sr:Nat} {out:Value} {L:List Ml} (hc:CR A c lg dk rm am sr out) (ho:C4 46 7 Ml.cells A out L Fo) (hco:c∉Fo) (hL:L.length<1000) (hp:BR 135 4 Pt.cells A g.pv ps F) (hl:ps.length<10000) (hn:∀ q∈ps,q.n<256) (hs:g.st=2∨g.st=4) (hw:g.w≤3) (ht:g.t≤5) (hok:okD g.x ps=true) (hf:AB A) (hA:A.next+100+50*ps.length<Ak)
  (hk:∀ A' out' Fo',CR A' c lg dk rm am sr out'→C4 46 7 Ml.cells A' out' (L++CN g.st ps) Fo'→(∀ y∈Fo',y∈Fo∨A.next≤y)→AA A A' (c::Fo)→A'.next≤A.next+(35+40*ps.length)→AB A'→K (.tuple ⟨[]⟩) A'):Wc Tryz.prog Af W0 m0 47 [.pointer (some ⟨c,0,none⟩),vG g] A K:=by
 have hone:=BI hp;have hoo:=Mu ho;have hclt:=hc.lt;refine w47 _ _ _ Bu ?_;rw [e47];refine AH (cs:=g.cells) hf (by omega) (FT hone) fun A1 m1=>?_;have n1:=m1.next;have k1:=m1.keeps hf;have r1:Go.Abs.AF A1 A.next g.cells 50:=m1.Bk;have hc1:=AF.keeps hc k1 (by simp);simp only [Bf,Ab,OY,VC,Ag hc1.row,cellOf,BG,Au,Ch,Bm,hoo.noT,Cf,Nat.zero_add,Dq r1 hone];refine Adk (hp.keeps k1 (by simp)) hl hn hs hw ht hok m1.Ao (by omega) fun A2 v F' o2 hF2 g2=>?_;have n2:=g2.next;have l2:=g2.le;have K2:AA A A2 []:=k1.trans g2.keeps (by simp);have hc2:=AF.keeps hc1 g2.keeps (by simp);simp only [Bf,Ab,OY,VC,Ag hc2.row,cellOf,BG,Au,Ch,Bm,hoo.noT,Cf,Nat.zero_add,BD];refine C4.LU etM (ho.keeps K2 (by simp)) (C4.rd (fun _=>rfl) o2) g2.Ao (by omega) (by omega) (by rw [P9];omega) fun out3 A3 F3 o3 k3 hF3 n3 f3=>?_;have hc3:=AF.keeps hc2 k3 hco;have ho3:=Mu o3;refine hc3.store f3 (by omega) (Yf _ _ _) (by obtain ⟨_,_,_,rfl⟩:=ho3;rfl) (by simp) (by obtain ⟨_,_,_,rfl⟩:=ho3;rfl) fun A4 r4 k4 n4 f4=>?_;have hF3':c∉F3:=fun h=>by
  rcases hF3 c h with h | h
  ·exact hco h
  ·omega
 have holt:=ho.lt;refine hk A4 out3 F3 (by obtain ⟨_,_,_,rfl⟩:=ho3;exact r4) (o3.keeps k4 (fun x hx h=>hF3' (by have:=Ms.1 h;rw [← this];exact hx))) (fun y hy=>?_) ?_ (by omega) f4
 ·rcases hF3 y hy with h | h
  ·exact .inl h
  ·exact .inr (by omega)
 ·exact ((K2.more (by simp)).trans k3 (fun x hx=>.inl (List.mem_cons_of_mem _ hx))).trans k4 (fun x hx=>.inl (by simp at hx;simp [hx]))
end
end Go.Proofs.YtkjlldaddekegaaGreatDoor
