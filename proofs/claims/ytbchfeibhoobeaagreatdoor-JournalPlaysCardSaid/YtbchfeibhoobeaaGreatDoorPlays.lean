/-
  This text shows that the statement JournalPlaysCardSaid holds of the program. Conditions: none for the last theorem, those that each theorem states for the others.
-/
import Derived.Test.YtbchfeibhoobeaaGreatDoorPh
set_option maxRecDepth 100000
set_option maxHeartbeats 1000000
namespace Go.Proofs.YtbchfeibhoobeaaGreatDoor
open Go Go.Abs Go.ChangeShapes Go.WideShapes Go.ChangeAt Go.RowKit Go.Joins Go.Deep
variable {W:World} {v:Value}
theorem Y4{f:List UInt8}(h:Jr.Df f=true):f.length<100000000:=by
 unfold Jr.Df at h;simp only [Bq,decide_eq_true_eq] at h;omega
theorem Rt{l:List AV}{La:Arg}{room limit:Int}(hW:Go.Abs.Holds W rowsG)(hE:On W)(hp:Pow W)(h:DL W fA v l La)(hok:∀ p∈l,OkA W p)(hroom:room<9223372036854775808)(hlim:limit<9223372036854775808):
  Calls Tp 6 #[.int .i64 room,.int .i64 limit,v] W λe W'=>e=.returned (.bool true)/\Below W.heap.size W W':=by
 obtain ⟨L,s',l',hL,hA,hv,hll,hpn,hgl⟩:=V4 h λp hp=>(hok p hp).1;have hk:Tp.globals.size+L.length+1<=Am:=by
  rw [Tryz.nG]
  have:Am=1099511627776:=rfl
  omega
 obtain ⟨F,hr,hkp⟩:=hgl rowsG hk;refine MG (L:=L) (gl:=rowsG) (args:=[.int .i64 room,.int .i64 limit,s']) gP Tryz.okG hk hW hA (.cons (.int _ _) (.cons (.int _ _) (.cons hv .nil)))
  (wc6 (Y7 hW hp _) (λn hn=>Xt hp hn) (λf hf=>AfI hE hp (Y4 hf)) (Xy hk) (PO Tryz.okG hk) ?_ hroom hlim hr hll λp' hp'=>⟨hkp p' hp',?_⟩)
 ·show Tp.globals.size+L.length+1<400000000000;rw [Tryz.nG];omega
 ·obtain ⟨i,hi⟩:=List.mem_iff_getElem?.1 hp';have hil:=(Gs.1 hi).1;obtain ⟨p,hp⟩:∃ p,l[i]? =some p:=⟨_,Ge (by omega)⟩;rw [hpn i p' p hi hp]
  have:=(hok p (List.mem_of_getElem? hp)).2.2
  omega
theorem gES:Tp.globalNamed "strconv.ErrSyntax"=some 1:=by kernel_rfl
theorem gER:Tp.globalNamed "strconv.ErrRange"=some 2:=by kernel_rfl
theorem Y8:(Tp.globals[1]?).map (·.type)=some 142:=by kernel_rfl
theorem Y9:(Tp.globals[2]?).map (·.type)=some 142:=by kernel_rfl
theorem UO:Tp.cellsOf 227=1:=by kernel_rfl
theorem star: "*"++ "errors.errorString"= "*errors.errorString":=by decide
theorem WO(u:TypeId)(h:Tp.typeName? 3 u=some "*errors.errorString"):u=225:=
 typeName_ptr_named (nm:= "errors.errorString") (by rw [star];kernel_rfl) (by kernel_rfl) (by decide) u (by rw [star];exact h)
theorem Uk{a:Addr}(hc:W.cell? a=some v):a.spot=none:=by
 unfold World.cell? at hc;split at hc
 ·split at hc
  ·cases hc
  ·rename_i hsp;cases hq:a.spot with
   |none=>rfl
   |some x=>rw [hq] at hsp;simp at hsp
 ·cases hc
theorem Xr(hsh:W.ShapedOpen Tp)(h:laidMetH Tp Rows.journalPlaysRow.laid W):On W:=by
 rw [MakeChecks.laidMetH_plain _ _ _ (by kernel_rfl)] at h;obtain ⟨a,s,hv,hc,_,_⟩:=laid_sentinel h.tail.tail.tail.tail.tail gES Y8 Tryz.underlying142 WO Tryz.underlying225 Tryz.underlying227 rfl rfl Tryz.underlying9 UO Tryz.cells9;obtain ⟨fr,hw⟩:=LW hsh (g:=1) (t:=142) (name:= "strconv.ErrSyntax") gES (by rw [Tryz.nG];decide) (by kernel_rfl) hv;obtain ⟨b,s',hv',hc',_,_⟩:=laid_sentinel h.tail.tail.tail.tail gER Y9 Tryz.underlying142 WO Tryz.underlying225 Tryz.underlying227 rfl rfl Tryz.underlying9 UO Tryz.cells9;obtain ⟨fr',hw'⟩:=LW hsh (g:=2) (t:=142) (name:= "strconv.ErrRange") gER (by rw [Tryz.nG];decide) (by kernel_rfl) hv';exact ⟨a,b,fr,fr',⟨Uk hc,hw⟩,Uk hc',hw'⟩
theorem Acw:(Rows.laid_internal_strconv_uint64pow10:DataW Unit)=Lib.tabData .u64 Lib.pow10Tab:=by kernel_rfl
theorem Aay(h:laidMetH Tp Rows.journalPlaysRow.laid W):Pow W:=by
 rw [MakeChecks.laidMetH_plain _ _ _ (by kernel_rfl)] at h;have h2:laidMet Tp (("internal/strconv.uint64pow10",Rows.laid_internal_strconv_uint64pow10)::[("posthouse/crc.table",Rows.laid_posthouse_crc_table),("strconv.ErrRange",Rows.laid_strconv_ErrRange),("strconv.ErrSyntax",Rows.laid_strconv_ErrSyntax)]) W:=h.tail.tail;rw [Acw] at h2;exact Lib.tabIs_of_head (g:=3) (t:=219) (n:=20) (by kernel_rfl) (by kernel_rfl) Tryz.underlying219 (by kernel_rfl) (by kernel_rfl) (by kernel_rfl) h2
theorem OH(hsh:W.ShapedOpen Tp)(h:laidMetH Tp Rows.journalPlaysRow.laid W):Go.Abs.Holds W rowsG:=by
 rw [MakeChecks.laidMetH_plain _ _ _ (by kernel_rfl)] at h;have ht:Lib.TabIs Tp W "posthouse/crc.table" .u32 Qy:=
  Lib.tabIs_of_head (g:=0) (t:=204) (n:=16) (zs:=Qy) (by kernel_rfl) (by kernel_rfl) Tryz.underlying204 (by kernel_rfl) (by kernel_rfl) (by kernel_rfl) h.tail.tail.tail
 intro x hx;obtain rfl:x=_:=by simpa [rowsG] using hx
 exact LW hsh (name:= "posthouse/crc.table") (by kernel_rfl) (by rw [Tryz.nG];decide) (by kernel_rfl) ht
theorem XL(os:Os)(args:Array Value):laidMetH Tp Rows.journalPlaysRow.laid ((World.doorLaid Tp 67 os).forCall (λ_ _=>0) ⟨#[],args,[]⟩).memory:=
 laidMetH_of_parts3 (fuel:=8) (laidMet_of_run' 8 (by kernel_rfl) (by kernel_rfl)) (by kernel_rfl) (by kernel_rfl)
theorem JC(os:Os)(started:os.Started)(H:Type)(enc:TypeId × Value->H):
  ReturnsInHanded {} Tryz.checked os 6 .any (λw args=>(Rows.journalPlaysSpec.pre enc Tp Tryz.f6 [] false w args/\laidMetH Tp Rows.journalPlaysRow.laid w)/\sizedMet enc Tp Tryz.f6 (OpenSpec.ofChange Rows.journalPlaysSpec) false w args)
   (Rows.journalPlaysSpec.post enc Tp Tryz.f6 false true false false):=by
 refine GG (C:=Tryz.checked) (X:=λw _=>laidMetH Tp Rows.journalPlaysRow.laid w) (λ_ _ _ hh h=>h.of_heap hh) Tryz.own started (by kernel_rfl) Tryz.func6
  (ChangeSpec.witness_shaped (enc:=enc) (C:=Tryz.checked) (os:=os) (X:=λw _=>laidMetH Tp Rows.journalPlaysRow.laid w) false (World.doorLaid Tp 67 os) #[.int .i64 0,.int .i64 0,.slice none 0 0] 8 rfl (World.shaped_of_RefB (by kernel_rfl) (by kernel_rfl)) (by kernel_rfl) (by kernel_rfl) (by kernel_rfl) (XL os _)) ?_
 intro W base args ds gs before hval0 hW _ _ hL hsh;have hval:∀ (j:Nat) t v,Tryz.f6.params[j]? =some t->args[j]? =some v->Value.okWide Tp W .any base t v:=hval0;have hW':=hW;obtain ⟨p,q,hA0,hV,rfl,hfz,hnd⟩:=hW;have hA:DataW.TrodAll enc Tp W 0 (λ_=>true) true Tryz.f6.params.toList args.toList ds p:=hA0;rw [Tryz.params6] at hA hval;obtain ⟨v0,v1,v2,d0,d1,d2,p0,p1,p2,rfl,rfl,rfl,h0,h1,h2⟩:=trodAll_three hA;obtain ⟨rfl,rfl⟩:=trodVars_none hV;have h0k:=h0;have h1k:=h1;obtain ⟨n0,rfl⟩:=okWide_int Tryz.underlying3 (hval 0 3 v0 rfl rfl);obtain ⟨n1,rfl⟩:=okWide_int Tryz.underlying3 (hval 1 3 v1 rfl rfl);obtain ⟨f0,h0⟩:=h0;obtain ⟨f1,h1⟩:=h1;obtain ⟨a0,e0,_,hr0⟩:=KK Tryz.underlying3 h0;obtain ⟨a1,e1,_,hr1⟩:=KK Tryz.underlying3 h1;have e0:n0=a0:=by simpa [Value.cells] using e0
 have e1:n1=a1:=by simpa [Value.cells] using e1
 subst e0 e1;have hr0:n0<=9223372036854775807:=hr0;have hr1:n1<=9223372036854775807:=hr1;obtain ⟨l,La,hs,hok⟩:=Vl (hval 2 45 v2 rfl rfl) h2;clear hA0 hval0;simp only [List.append_nil,Mw] at hW';have hlt:∀ x∈p0++(p1++p2),x.block<W.heap.size:=λx hx=>by simpa using hW'.lt x (by simpa [Mw] using hx)
 refine (Rt (OH hsh hL) (Xr hsh hL) (Aay hL) hs hok (by omega) (by omega)).mono λe W' ⟨he,hb⟩=>?_;subst he;exact ⟨_,rfl,Ox (pa:=p0++(p1++p2)) (pv:=[]) hW' (λ_ _ _=>trodAll_mk1 (shut_bool Tryz.underlying4 _)) (λsp hsp=>trodAll_mk3
   (WideElems.Trod_stays Tryz.laidOut (by kernel_rfl) (of_decide_eq_true (by kernel_rfl)) h0k (λx hx=>hb.same (hlt x (by simp [hx]))) (λx hx=>hsp x (by simp [hx])))
   (WideElems.Trod_stays Tryz.laidOut (by kernel_rfl) (of_decide_eq_true (by kernel_rfl)) h1k (λx hx=>hb.same (hlt x (by simp [hx]))) (λx hx=>hsp x (by simp [hx])))
   (WideElems.Trod_stays Tryz.laidOut (by kernel_rfl) (of_decide_eq_true (by kernel_rfl)) h2 (λx hx=>hb.same (hlt x (by simp [hx]))) (λx hx=>hsp x (by simp [hx])))) (λ_ _=>rfl) (by simp) hb
  (ok_one (by kernel_rfl) rfl (okWide_bool_mk Tryz.underlying4 _))⟩
theorem Kj:Rows.JournalPlaysSaid:=
 OpenClaim.holds_of_wide 6 Tryz.f6 rfl rfl rfl rfl rfl rfl rfl ⟨rfl,rfl,rfl,rfl,rfl⟩ rfl rfl rfl rfl rfl (by kernel_rfl) Tryz.func6 (by kernel_rfl)
  (of_decide_eq_true (by kernel_rfl)) (by unfold Func.isWrapper;first | (rw [if_pos (by decide+kernel)];kernel_rfl) | (rw [if_neg (by decide+kernel)];exact ⟨rfl,rfl⟩))
  (λos started H enc _=>JC os started H enc)
theorem journalPlays_card:Rows.JournalPlaysCardSaid:=
 Claim7.holds_tied_plain_at .later [] [.data,.data,.data,.data,.sentinel,.sentinel] true (true, "38e950c896eb31334cab88819c3c65e3540fa2f7d77552e4af755b868b44a446") true
  Kj (λ_ h=>by cases h) (by kernel_rfl) (λ_ h=>by cases h) journalPlays_row_tie rfl ⟨rfl,rfl⟩ (by kernel_rfl) rfl
  (λf fn hf hfn=>by
   obtain rfl:f=6:=Option.some.inj ((show Tp.funcNamed "posthouse/posthouselaw12.JournalPlays"=some 6 by kernel_rfl).symm.trans hf) |>.symm;obtain rfl:fn=Tryz.f6:=(Option.some.inj (Tryz.func6.symm.trans hfn)).symm;exact ⟨by kernel_rfl,λj t ht=>by
    rw [Tryz.params6] at ht;have hm:t∈[3,3,45]:=by simpa using Array.mem_of_getElem? ht
    have hall:([3,3,45].all λu=>!Tp.wantsStandIn u)=true:=by kernel_rfl
    exact (show Tp.wantsStandIn t=false by simpa using List.all_eq_true.1 hall t hm)⟩)
  (by kernel_rfl)
#print axioms journalPlays_card
end Go.Proofs.YtbchfeibhoobeaaGreatDoor
