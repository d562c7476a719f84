/-
  A part of what shows that DlogKeepsCardSaid holds: what the law answers, and how its arguments are read. Conditions: those that each theorem states.
-/
import Derived.Test.YtnennggfoegcmaaGreatDoorPh
set_option linter.all false
set_option maxRecDepth 100000
set_option maxHeartbeats 1000000
namespace Go.Proofs.YtnennggfoegcmaaGreatDoor
open Go Go.Abs Go.ChangeShapes Go.WideShapes Go.ChangeAt Go.RowKit Go.Joins Go.Deep
variable {W:World}
theorem Tryz.own:ownKnob Tp.godebug=none:=by kernel_rfl
theorem Tryz.laidOut:laidOutB Tp=true:=by kernel_rfl
theorem gES:Tp.globalNamed "strconv.ErrSyntax"=some 2:=by kernel_rfl
theorem gER:Tp.globalNamed "strconv.ErrRange"=some 3:=by kernel_rfl
theorem AaF:(Tp.globals[2]?).map (·.type)=some 214:=by kernel_rfl
theorem AaG:(Tp.globals[3]?).map (·.type)=some 214:=by kernel_rfl
theorem VA:Tp.cellsOf 294=1:=by kernel_rfl
theorem star: "*"++ "errors.errorString"= "*errors.errorString":=by decide
theorem X1(u:TypeId)(h:Tp.typeName? 3 u=some "*errors.errorString"):u=292:=
 typeName_ptr_named (nm:= "errors.errorString") (by rw [star];kernel_rfl) (by kernel_rfl) (by decide) u (by rw [star];exact h)
theorem U2{a:Addr}{v:Value}(hc:W.cell? a=some v):a.spot=none:=by
 unfold World.cell? at hc;split at hc
 ·split at hc
  ·cases hc
  ·rename_i hsp;cases hq:a.spot with
   |none=>rfl
   |some x=>rw [hq] at hsp;simp at hsp
 ·cases hc
theorem YN(hsh:W.ShapedOpen Tp)(h:laidMetH Tp Rows.dlogKeepsRow.laid W):Jw W:=by
 rw [MakeChecks.laidMetH_plain _ _ _ (by kernel_rfl)] at h;obtain ⟨a,s,hv,hc,_,_⟩:=laid_sentinel h.tail.tail.tail.tail.tail gES AaF Tryz.underlying214 X1 Tryz.underlying292 Tryz.underlying294 rfl rfl Tryz.underlying9 VA Tryz.cells9;obtain ⟨fr,hw⟩:=Mb hsh (g:=2) (t:=214) (name:= "strconv.ErrSyntax") gES (by rw [Tryz.nG];decide) (by kernel_rfl) hv;obtain ⟨b,s',hv',hc',_,_⟩:=laid_sentinel h.tail.tail.tail.tail gER AaG Tryz.underlying214 X1 Tryz.underlying292 Tryz.underlying294 rfl rfl Tryz.underlying9 VA Tryz.cells9;obtain ⟨fr',hw'⟩:=Mb hsh (g:=3) (t:=214) (name:= "strconv.ErrRange") gER (by rw [Tryz.nG];decide) (by kernel_rfl) hv';exact ⟨a,b,fr,fr',⟨U2 hc,hw⟩,U2 hc',hw'⟩
theorem AeD:(Rows.laid_internal_strconv_uint64pow10:DataW Unit)=Lib.tabData .u64 Lib.pow10Tab:=by kernel_rfl
theorem AcE(h:laidMetH Tp Rows.dlogKeepsRow.laid W):Pow W:=by
 rw [MakeChecks.laidMetH_plain _ _ _ (by kernel_rfl)] at h;have h2:laidMet Tp (("internal/strconv.uint64pow10",Rows.laid_internal_strconv_uint64pow10)::[("posthouse/crc.table",Rows.laid_posthouse_crc_table),("strconv.ErrRange",Rows.laid_strconv_ErrRange),("strconv.ErrSyntax",Rows.laid_strconv_ErrSyntax)]) W:=h.tail.tail;rw [AeD] at h2;exact Lib.tabIs_of_head (g:=4) (t:=285) (n:=20) (by kernel_rfl) (by kernel_rfl) Tryz.underlying285 (by kernel_rfl) (by kernel_rfl) (by kernel_rfl) h2
def Rc:List Int:=[0,274646895,549293790,820201905,1098587580,1361435347,1640403810,1905808397,2197175160,2460548119,2722870694,2987750089,3280807620,3553878443,3811616794,4084100981]
theorem Z3:Z4=Rc.map (Value.int .u32 ·):=by kernel_rfl
theorem Pa(hsh:W.ShapedOpen Tp)(h:laidMetH Tp Rows.dlogKeepsRow.laid W):Go.Abs.Holds W rowsG:=by
 rw [MakeChecks.laidMetH_plain _ _ _ (by kernel_rfl)] at h;have ht:Lib.TabIs Tp W "posthouse/crc.table" .u32 Rc:=
  Lib.tabIs_of_head (g:=1) (t:=278) (n:=16) (zs:=Rc) (by kernel_rfl) (by kernel_rfl) Tryz.underlying278 (by kernel_rfl) (by kernel_rfl) (by kernel_rfl) h.tail.tail.tail
 intro x hx;obtain rfl:x=_:=by simpa [rowsG] using hx
 rw [Z3];exact Mb hsh (name:= "posthouse/crc.table") (by kernel_rfl) (by rw [Tryz.nG];decide) (by kernel_rfl) ht
theorem Y8(os:Os)(args:Array Value):laidMetH Tp Rows.dlogKeepsRow.laid ((World.doorLaid Tp 67 os).forCall (λ_ _=>0) ⟨#[],args,[]⟩).memory:=
 laidMetH_of_parts3 (fuel:=8) (laidMet_of_run' 8 (by kernel_rfl) (by kernel_rfl)) (by kernel_rfl) (by kernel_rfl)
theorem dlogKeeps_lifted(os:Os)(started:os.Started)(H:Type)(enc:TypeId × Value->H):
  ReturnsInHanded {} Tryz.checked os 3 .any (λw args=>(Rows.dlogKeepsSpec.pre enc Tp Tryz.f3 [] false w args/\laidMetH Tp Rows.dlogKeepsRow.laid w)/\sizedMet enc Tp Tryz.f3 (OpenSpec.ofChange Rows.dlogKeepsSpec) false w args)
   (Rows.dlogKeepsSpec.post enc Tp Tryz.f3 false true false false):=by
 refine GG (C:=Tryz.checked) (X:=λw _=>laidMetH Tp Rows.dlogKeepsRow.laid w) (λ_ _ _ hh h=>h.of_heap hh) Tryz.own started (by kernel_rfl) Tryz.func3
  (ChangeSpec.witness_shaped (enc:=enc) (C:=Tryz.checked) (os:=os) (X:=λw _=>laidMetH Tp Rows.dlogKeepsRow.laid w) false (World.doorLaid Tp 67 os) #[.slice none 0 0] 8 rfl (World.shaped_of_RefB (by kernel_rfl) (by kernel_rfl)) (by kernel_rfl) (by kernel_rfl) (by kernel_rfl) (Y8 os _)) ?_
 intro W base args ds gs before hval0 hW _ _ hL hsh;have hval:∀ (j:Nat) t v,Tryz.f3.params[j]? =some t->args[j]? =some v->Value.okWide Tp W .any base t v:=hval0;have hW':=hW;obtain ⟨p,q,hA0,hV,rfl,hfz,hnd⟩:=hW;have hA:DataW.TrodAll enc Tp W 0 (λ_=>true) true Tryz.f3.params.toList args.toList ds p:=hA0;rw [Tryz.params3] at hA hval;obtain ⟨v0,d0,rfl,rfl,h0⟩:=trodAll_one hA;obtain ⟨rfl,rfl⟩:=trodVars_none hV;obtain ⟨l,La,hs,hok⟩:=V8 (hval 0 22 v0 rfl rfl) h0;clear hA0 hval0;simp only [List.append_nil] at hW';have hlt:∀ x∈p,x.block<W.heap.size:=λx hx=>by simpa using hW'.lt x (by simpa using hx)
 refine (Sy (Pa hsh hL) (YN hsh hL) (AcE hL) hs hok).mono λe W' ⟨he,hb⟩=>?_;subst he;exact ⟨_,rfl,O0 (pa:=p) (pv:=[]) hW' (λ_ _ _=>trodAll_mk1 (shut_bool Tryz.underlying4 _)) (λsp hsp=>trodAll_mk1
   (WideElems.Trod_stays Tryz.laidOut (by kernel_rfl) (of_decide_eq_true (by kernel_rfl)) h0 (λx hx=>hb.same (hlt x hx)) (λx hx=>hsp x (by simp [hx])))) (λ_ _=>rfl) (by simp) hb
  (ok_one (by kernel_rfl) rfl (okWide_bool_mk Tryz.underlying4 _))⟩
end Go.Proofs.YtnennggfoegcmaaGreatDoor
