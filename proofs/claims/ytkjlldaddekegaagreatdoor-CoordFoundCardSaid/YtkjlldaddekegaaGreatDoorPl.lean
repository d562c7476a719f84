/-
  This text is a part of what shows that the statement CoordFoundCardSaid holds of the program: what the law answers, and how its arguments are read. Conditions: those that each theorem states.
-/
import Derived.Test.YtkjlldaddekegaaGreatDoorPk
import Derived.ChangeMaps5
import Derived.Deep.Strs
import Derived.LaidMore
import Derived.Lib.LaidTab
import Derived.Lib.SmallJoins
import Derived.SevenTiedAt
import Derived.Stop.LaidErr
import Derived.Test.YtkjlldaddekegaaGreatDoorCards
import Derived.Test.YtkjlldaddekegaaGreatDoorTie
set_option maxRecDepth 100000
set_option maxHeartbeats 1000000
namespace Go.Proofs.YtkjlldaddekegaaGreatDoor
open Go Go.Abs Go.ChangeShapes Go.WideShapes Go.ChangeAt Go.RowKit Go.Joins Go.Deep
variable {W:World} {v:Value}
theorem W3(hW:Go.Abs.Holds W Hd.rowsG)(m:Inj Tryz.prog):KC.Holds Tryz.prog W m ⟨10,[],[.bool true]⟩:=W2 (rows:=Hd.rowsG) (by decide) Hd.RP hW m
theorem Tryz.nG:Tryz.prog.globals.size=7:=by kernel_rfl
theorem okE:okB Tryz.prog.globals.size PN=true:=by rw [Tryz.nG];rfl
theorem Tryz.cells9:Tryz.prog.cellsOf 9=1:=by kernel_rfl
theorem Tryz.cells22:Tryz.prog.cellsOf 22=1:=by kernel_rfl
theorem Tryz.cells24:Tryz.prog.cellsOf 24=3:=by kernel_rfl
def YA(W:World):Prop:=∃ (a b:Addr) (fr fr':Nat × Nat),(a.spot=none∧W.heap[3]? =some (.cells #[.iface 348 (.pointer (some a))] 214 fr))∧b.spot=none∧W.heap[4]? =some (.cells #[.iface 348 (.pointer (some b))] 214 fr')
section
variable {H:Type} {enc:TypeId × Value→H} {w:World} {q:Nat}
theorem PV{t:TypeId}{cs:List Value}{k:IntKind}{y:DataW H × List MemPlace}(hu:Tryz.prog.underlying t=some (.int k))(hmin:k.min=0)(h:DataW.trod enc Tryz.prog w 0 (fun _=>true) true q t cs=some y):∃ n:Nat,cs=[.int k (n:Int)]∧(n:Int)≤k.max:=by
 obtain ⟨k,e0,_,wk⟩:=DataW.trod_int hu h;simp only [Lit.wf,Bq,decide_eq_true_eq] at wk;have hk0:0≤k:=by have:=wk.1;rw [hmin] at this;exact this
 refine ⟨k.toNat,?_,?_⟩
 ·rw [Int.toNat_of_nonneg hk0];exact e0
 ·rw [Int.toNat_of_nonneg hk0];exact wk.2
theorem U8{c0 c1 c2:Value}{y:DataW H × List MemPlace}(h:DataW.trod enc Tryz.prog w 0 (fun _=>true) true q 24 [c0,c1,c2]=some y):
  ∃ (f:Nat) (g b:ByteArray),c0=.int .u32 (f:Int)∧c1=.string g∧c2=.string b∧f<4294967296:=by
 obtain ⟨z0,z1,z2,n',_,_,g0,g1,g2⟩:=trod_struct3 Tryz.underlying24 h;have g0:DataW.trod enc Tryz.prog w 0 (fun _=>true) true n' 22 [c0]=some z0:=by simpa [Tryz.cells22] using g0
 have g1:DataW.trod enc Tryz.prog w 0 (fun _=>true) true n' 9 [c1]=some z1:=by simpa [Tryz.cells9] using g1
 have g2:DataW.trod enc Tryz.prog w 0 (fun _=>true) true n' 9 [c2]=some z2:=by simpa [Tryz.cells9] using g2
 obtain ⟨f,e0,hf⟩:=PV Tryz.underlying22 rfl g0;obtain ⟨g,e1,_⟩:=DataW.trod_string Tryz.underlying9 g1;obtain ⟨b,e2,_⟩:=DataW.trod_string Tryz.underlying9 g2;cases e0;cases e1;cases e2;have hf:(f:Int)≤4294967295:=hf;exact ⟨f,g,b,rfl,rfl,rfl,by omega⟩
theorem WN{b0:Nat}{d:DataW H}{p:List MemPlace}(hv:Value.okWide Tryz.prog w .any b0 24 v)(h:DataW.Trod enc Tryz.prog w 0 (fun _=>true) true 24 v d p):∃ x:Nm,v=.agg ⟨x.cells⟩∧x.f<4294967296:=by
 obtain ⟨fuel,h⟩:=h;obtain ⟨cs,rfl,hl⟩:=okWide_struct Tryz.underlying24 hv;obtain ⟨l⟩:=cs;have hl:l.length=3:=hl.trans Tryz.cells24;have h:DataW.trod enc Tryz.prog w 0 (fun _=>true) true fuel 24 l=some (d,p):=h
 match l,hl with
 |[c0,c1,c2],_=>
  obtain ⟨f,g,b,rfl,rfl,rfl,hf⟩:=U8 h;exact ⟨⟨f,g,b⟩,rfl,hf⟩
end
theorem Ql{x:Nm}{n:Nat}(hW:Go.Abs.Holds W Hd.rowsG)(hE:YA W)(hx:x.f<4294967296)(hn:n<256):Calls Tryz.prog 3 #[.agg ⟨x.cells⟩,.int .u8 (n:Int)] W fun e W'=>e=.returned (.bool true)∧Below W.heap.size W W':=by
 obtain ⟨a,b,fr,fr',⟨ha3,h3⟩,hb4,h4⟩:=hE;have hk:Tryz.prog.globals.size+[(((a.block,a.off),none):Arg),((b.block,b.off),none)].length+1≤Ak:=by rw [Tryz.nG];show 7+2+1≤Ak;decide
 have m7:mR Tryz.prog [(((a.block,a.off),none):Arg),((b.block,b.off),none)] 7=some (a.block,a.off):=by
  have:=RG (P:=Tryz.prog) (l:=([(((a.block,a.off),none):Arg),((b.block,b.off),none)]).map (·.1)) (i:=0)
  rw [Tryz.nG] at this;exact this
 have m8:mR Tryz.prog [(((a.block,a.off),none):Arg),((b.block,b.off),none)] 8=some (b.block,b.off):=by
  have:=RG (P:=Tryz.prog) (l:=([(((a.block,a.off),none):Arg),((b.block,b.off),none)]).map (·.1)) (i:=1)
  rw [Tryz.nG] at this;exact this
 have hR:Wx Tryz.prog W [((a.block,a.off),none),((b.block,b.off),none)] PN:=by
  intro y hy;simp only [PN,Mk,List.not_mem_nil,or_false] at hy;rcases hy with rfl | rfl | rfl
  ·obtain ⟨frc,hfr⟩:=hW (1,Gv.map (Value.int .u32 ·),302) (by simp [Hd.rowsG,Hd.Gv,Gv]);refine ⟨_,frc,hfr,fun i v hv=>⟨v,by simpa using hv,?_⟩⟩;obtain ⟨k,_,rfl⟩:=List.mem_map.1 (List.mem_of_getElem? hv);exact .int _ _
  ·refine ⟨_,fr,h3,fun i v hv=>?_⟩
   match i,hv with
   |0,hv=>
    obtain rfl:Value.iface 348 (.pointer (some ⟨7,0,none⟩))=v:=by simpa [Ky] using hv
    exact ⟨_,rfl,.iface 348 (.ptr ⟨rfl,ha3,a.off,m7,rfl⟩)⟩
   |i+1,hv=>simp [Ky] at hv
  ·refine ⟨_,fr',h4,fun i v hv=>?_⟩
   match i,hv with
   |0,hv=>
    obtain rfl:Value.iface 348 (.pointer (some ⟨8,0,none⟩))=v:=by simpa [Ky] using hv
    exact ⟨_,rfl,.iface 348 (.ptr ⟨rfl,hb4,b.off,m8,rfl⟩)⟩
   |i+1,hv=>simp [Ky] at hv
 have hA:Adh Tryz.prog W [((a.block,a.off),none),((b.block,b.off),none)]:=fun j p cs e hj=>by
  match j,hj with
  |0,hj=>simp at hj
  |1,hj=>simp at hj
  |j+2,hj=>simp at hj
 have hw:=wc3 (W0:=W) (m0:=mR Tryz.prog [((a.block,a.off),none),((b.block,b.off),none)]) (W3 hW _) hx hn;have e:AWs=wR Tryz.prog.globals.size PN [((a.block,a.off),none),((b.block,b.off),none)]:=by rw [Tryz.nG];rfl
 rw [e] at hw;refine (QF (args:=[.agg ⟨x.cells⟩,.int .u8 (n:Int)]) gP hw (AaQ okE hk hR hA) (fun i hi=>OM hi) (Yn okE (by omega)) (.cons (.agg (.cons (.int _ _) (.cons (.string _) (.cons (.string _) .nil)))) (.cons (.int _ _) .nil))).mono ?_;rintro e w' ⟨v,v',m',A',rfl,rfl,h2,h3⟩;cases h2;exact ⟨rfl,Wk h3 (Yn okE (by omega))⟩
theorem Tryz.own:ownKnob Tryz.prog.godebug=none:=by kernel_rfl
theorem Tryz.laidOut:laidOutB Tryz.prog=true:=by kernel_rfl
theorem gES:Tryz.prog.globalNamed "strconv.ErrSyntax"=some 3:=by kernel_rfl
theorem gER:Tryz.prog.globalNamed "strconv.ErrRange"=some 4:=by kernel_rfl
theorem W5:(Tryz.prog.globals[3]?).map (·.type)=some 214:=by kernel_rfl
theorem W6:(Tryz.prog.globals[4]?).map (·.type)=some 214:=by kernel_rfl
theorem S2:Tryz.prog.cellsOf 350=1:=by kernel_rfl
theorem star: "*"++ "errors.errorString"= "*errors.errorString":=by decide
theorem U5(u:TypeId)(h:Tryz.prog.typeName? 3 u=some "*errors.errorString"):u=348:=
 typeName_ptr_named (nm:= "errors.errorString") (by rw [star];kernel_rfl) (by kernel_rfl) (by decide) u (by rw [star];exact h)
theorem SA{a:Addr}(hc:W.cell? a=some v):a.spot=none:=by
 unfold World.cell? at hc;split at hc
 ·split at hc
  ·cases hc
  ·rename_i hsp;cases hq:a.spot with
   |none=>rfl
   |some x=>rw [hq] at hsp;simp at hsp
 ·cases hc
theorem VE(hsh:W.ShapedOpen Tryz.prog)(h:laidMetH Tryz.prog Rows.coordFoundRow.laid W):YA W:=by
 rw [MakeChecks.laidMetH_plain _ _ _ (by kernel_rfl)] at h;obtain ⟨a,s,hv,hc,_,_⟩:=laid_sentinel h.tail.tail.tail.tail.tail gES W5 Tryz.underlying214 U5 Tryz.underlying348 Tryz.underlying350 rfl rfl Tryz.underlying9 S2 Tryz.cells9;obtain ⟨fr,hw⟩:=Kt hsh (g:=3) (t:=214) (name:= "strconv.ErrSyntax") gES (by rw [Tryz.nG];decide) (by kernel_rfl) hv;obtain ⟨b,s',hv',hc',_,_⟩:=laid_sentinel h.tail.tail.tail.tail gER W6 Tryz.underlying214 U5 Tryz.underlying348 Tryz.underlying350 rfl rfl Tryz.underlying9 S2 Tryz.cells9;obtain ⟨fr',hw'⟩:=Kt hsh (g:=4) (t:=214) (name:= "strconv.ErrRange") gER (by rw [Tryz.nG];decide) (by kernel_rfl) hv';exact ⟨a,b,fr,fr',⟨SA hc,hw⟩,SA hc',hw'⟩
theorem Nz(hsh:W.ShapedOpen Tryz.prog)(h:laidMetH Tryz.prog Rows.coordFoundRow.laid W):Go.Abs.Holds W Hd.rowsG:=by
 rw [MakeChecks.laidMetH_plain _ _ _ (by kernel_rfl)] at h;have ht:Lib.TabIs Tryz.prog W "posthouse/crc.table" .u32 Hd.Gv:=
  Lib.tabIs_of_head (g:=1) (t:=302) (n:=16) (zs:=Hd.Gv) (by kernel_rfl) (by kernel_rfl) Tryz.underlying302 (by kernel_rfl) (by kernel_rfl) (by kernel_rfl) h.tail.tail.tail
 intro x hx;obtain rfl:x=_:=by simpa [Hd.rowsG] using hx
 exact Kt hsh (name:= "posthouse/crc.table") (by kernel_rfl) (by rw [Tryz.nG];decide) (by kernel_rfl) ht
theorem V4(os:Os)(args:Array Value):laidMetH Tryz.prog Rows.coordFoundRow.laid ((World.doorLaid Tryz.prog 67 os).forCall (fun _ _=>0) ⟨#[],args,[]⟩).memory:=
 laidMetH_of_parts3 (fuel:=8) (laidMet_of_run' 8 (by kernel_rfl) (by kernel_rfl)) (by kernel_rfl) (by kernel_rfl)
theorem coordFound_lifted(os:Os)(started:os.Started)(H:Type)(enc:TypeId × Value→H):
  ReturnsInHanded {} Tryz.checked os 3 .any (fun w args=>(Rows.coordFoundSpec.pre enc Tryz.prog Tryz.f3 [] false w args∧laidMetH Tryz.prog Rows.coordFoundRow.laid w)∧sizedMet enc Tryz.prog Tryz.f3 (OpenSpec.ofChange Rows.coordFoundSpec) false w args)
   (Rows.coordFoundSpec.post enc Tryz.prog Tryz.f3 false true false false):=by
 refine FJ (C:=Tryz.checked) (X:=fun w _=>laidMetH Tryz.prog Rows.coordFoundRow.laid w) (fun _ _ _ hh h=>h.of_heap hh) Tryz.own started (by kernel_rfl) Tryz.func3
  (ChangeSpec.witness_shaped (enc:=enc) (C:=Tryz.checked) (os:=os) (X:=fun w _=>laidMetH Tryz.prog Rows.coordFoundRow.laid w) false (World.doorLaid Tryz.prog 67 os) #[.agg ⟨[.int .u32 0,.string ⟨⟨[]⟩⟩,.string ⟨⟨[]⟩⟩]⟩,.int .u8 0] 8 rfl (World.shaped_of_RefB (by kernel_rfl) (by kernel_rfl)) (by kernel_rfl) (by kernel_rfl) (by kernel_rfl) (V4 os _)) ?_
 intro W base args ds gs before hval0 hW _ _ hL hsh;have hval:∀ (j:Nat) t v,Tryz.f3.params[j]? =some t→args[j]? =some v→Value.okWide Tryz.prog W .any base t v:=hval0;have hW':=hW;obtain ⟨p,q,hA0,hV,rfl,hfz,hnd⟩:=hW;have hA:DataW.TrodAll enc Tryz.prog W 0 (fun _=>true) true Tryz.f3.params.toList args.toList ds p:=hA0;rw [Tryz.params3] at hA hval;obtain ⟨v0,v1,d0,d1,p0,p1,rfl,rfl,rfl,h0,h1⟩:=trodAll_two hA;obtain ⟨rfl,rfl⟩:=trodVars_none hV;have h1k:=h1;obtain ⟨n1,rfl⟩:=okWide_int Tryz.underlying5 (hval 1 5 v1 rfl rfl);obtain ⟨f1,h1⟩:=h1;obtain ⟨a1,e1,hr1⟩:=PV Tryz.underlying5 rfl h1;have e1:n1=(a1:Int):=by simpa [Value.cells] using e1
 subst e1;have hr1:(a1:Int)≤255:=hr1;obtain ⟨x,rfl,hxf⟩:=WN (hval 0 24 v0 rfl rfl) h0;clear hA0 hval0;simp only [List.append_nil] at hW';have hlt:∀ x∈p0++p1,x.block<W.heap.size:=fun x hx=>by simpa using hW'.lt x (by simpa [Mw] using hx)
 refine (Ql (Nz hsh hL) (VE hsh hL) hxf (by omega)).mono fun e W' ⟨he,hb⟩=>?_;subst he;exact ⟨_,rfl,Nu (pa:=p0++p1) (pv:=[]) hW' (fun _ _ _=>trodAll_mk1 (shut_bool Tryz.underlying4 _)) (fun sp hsp=>trodAll_mk2
   (WideElems.Trod_stays Tryz.laidOut (by kernel_rfl) (of_decide_eq_true (by kernel_rfl)) h0 (fun x hx=>hb.same (hlt x (by simp [hx]))) (fun x hx=>hsp x (by simp [hx])))
   (WideElems.Trod_stays Tryz.laidOut (by kernel_rfl) (of_decide_eq_true (by kernel_rfl)) h1k (fun x hx=>hb.same (hlt x (by simp [hx]))) (fun x hx=>hsp x (by simp [hx])))) (fun _ _=>rfl) (by simp) hb
  (ok_one (by kernel_rfl) rfl (okWide_bool_mk Tryz.underlying4 _))⟩
end Go.Proofs.YtkjlldaddekegaaGreatDoor
