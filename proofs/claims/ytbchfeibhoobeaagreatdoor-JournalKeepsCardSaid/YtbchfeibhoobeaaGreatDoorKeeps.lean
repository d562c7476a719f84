/-
  This text shows that the statement JournalKeepsCardSaid holds of the program. Conditions: none for the last theorem, those that each theorem states for the others.
-/
import Derived.Test.YtbchfeibhoobeaaGreatDoorPp
set_option maxRecDepth 100000
set_option maxHeartbeats 1000000
namespace Go.Proofs.YtbchfeibhoobeaaGreatDoor
open Go Go.Abs Go.ChangeShapes Go.WideShapes Go.ChangeAt Go.RowKit Go.Joins Go.Deep
open Hd (rowsG crcNums head_calls)
theorem keeps_calls {W:World} {v:Value} {l:List AV} {La:Arg} {lim:Nat} (hW:Go.Abs.Holds W rowsG) (hE:Hd.LaidV W) (h:InSlice W fA v l La) (hok:∀ p∈l,OkA W p) (hlim:lim < 256):
  Calls Tp 5 #[.int .u8 (lim:Int),v] W fun e W'=>e=.returned (.bool true)∧Below W.heap.size W W':=by
 obtain ⟨L,s',l',hL,hA,hv,hll,hpn,hgl⟩:=acts_args h fun p hp=>(hok p hp).1
 have hk:Tp.globals.size+L.length+1≤maxId:=by
  rw [Hd.Tryz.nG]
  have:maxId=1099511627776:=rfl
  omega
 obtain ⟨F,hr,hkp⟩:=hgl rowsG hk
 refine calls_trueR (L:=L) (gl:=rowsG) (args:=[.int .u8 (lim:Int),s']) gP Hd.Tryz.okG hk hW hA (.cons (.int _ _) (.cons hv .nil))
  (wc5 (head_kc hW _) (nums_kc48 W _) (Hd.kFresh hE _) (glb_of hk) (wR_fine Hd.Tryz.okG hk) ?_ hlim hr hll fun p' hp'=>⟨hkp p' hp',?_⟩)
 ·show Tp.globals.size+L.length+1 < 400000000000
  rw [Hd.Tryz.nG]
  omega
 ·obtain ⟨i,hi⟩:=List.mem_iff_getElem?.1 hp'
  have hil:=(List.getElem?_eq_some_iff.1 hi).1
  obtain ⟨p,hp⟩:∃ p,l[i]? =some p:=⟨_,List.getElem?_eq_getElem (by omega)⟩
  rw [hpn i p' p hi hp]
  have:=(hok p (List.mem_of_getElem? hp)).2.2
  omega
theorem gES:Tp.globalNamed "strconv.ErrSyntax"=some 1:=by kernel_rfl
theorem gESType:(Tp.globals[1]?).map (·.type)=some 142:=by kernel_rfl
theorem cellsES:Tp.cellsOf 227=1:=by kernel_rfl
theorem star: "*"++ "errors.errorString"= "*errors.errorString":=by decide
theorem row225 (u:TypeId) (h:Tp.typeName? 3 u=some "*errors.errorString"):u=225:=
 typeName_ptr_named (nm:= "errors.errorString") (by rw [star];kernel_rfl) (by kernel_rfl) (by decide) u (by rw [star];exact h)
theorem laidV_of {W:World} (hsh:W.ShapedOpen Tp) (h:laidMetH Tp Rows.journalKeepsRow.laid W):Hd.LaidV W:=by
 rw [MakeChecks.laidMetH_plain _ _ _ (by kernel_rfl)] at h
 obtain ⟨a,s,hv,hc,_,_⟩:=laid_sentinel h.tail.tail.tail.tail.tail gES gESType Tryz.underlying142 row225 Tryz.underlying225 Tryz.underlying227 rfl rfl Tryz.underlying9 cellsES Tryz.cells9
 obtain ⟨fr,hw⟩:=holds_var hsh (g:=1) (t:=142) (name:= "strconv.ErrSyntax") gES (by rw [Hd.Tryz.nG];decide) (by kernel_rfl) hv
 refine ⟨a,fr,?_,hw⟩
 unfold World.cell? at hc
 split at hc
 ·split at hc
  ·cases hc
  ·rename_i hsp
   cases hq:a.spot with
   | none=>rfl
   | some x=>rw [hq] at hsp;simp at hsp
 ·cases hc
theorem holds_of_laid {W:World} (hsh:W.ShapedOpen Tp) (h:laidMetH Tp Rows.journalKeepsRow.laid W):Go.Abs.Holds W rowsG:=by
 rw [MakeChecks.laidMetH_plain _ _ _ (by kernel_rfl)] at h
 have ht:Lib.TabIs Tp W "posthouse/crc.table" .u32 crcNums:=
  Lib.tabIs_of_head (g:=0) (t:=204) (n:=16) (zs:=crcNums) (by kernel_rfl) (by kernel_rfl) Tryz.underlying204 (by kernel_rfl) (by kernel_rfl) (by kernel_rfl) h.tail.tail.tail
 intro x hx
 obtain rfl:x=_:=by simpa [rowsG] using hx
 exact holds_var hsh (name:= "posthouse/crc.table") (by kernel_rfl) (by rw [Hd.Tryz.nG];decide) (by kernel_rfl) ht
theorem door_met (os:Os) (args:Array Value):laidMetH Tp Rows.journalKeepsRow.laid ((World.doorLaid Tp 67 os).forCall (fun _ _=>0) ⟨#[],args,[]⟩).memory:=
 laidMetH_of_parts3 (fuel:=8) (laidMet_of_run' 8 (by kernel_rfl) (by kernel_rfl)) (by kernel_rfl) (by kernel_rfl)
theorem journalKeeps_lifted (os:Os) (started:os.Started) (H:Type) (enc:TypeId × Value→H):
  ReturnsInHanded {} Tryz.checked os 5 .any (fun w args=>(Rows.journalKeepsSpec.pre enc Tp Tryz.f5 [] false w args∧laidMetH Tp Rows.journalKeepsRow.laid w)∧sizedMet enc Tp Tryz.f5 (OpenSpec.ofChange Rows.journalKeepsSpec) false w args)
   (Rows.journalKeepsSpec.post enc Tp Tryz.f5 false true false false):=by
 refine returnsInHanded_and_shaped (C:=Tryz.checked) (X:=fun w _=>laidMetH Tp Rows.journalKeepsRow.laid w) (fun _ _ _ hh h=>h.of_heap hh) Tryz.own started (by kernel_rfl) Tryz.func5
  (ChangeSpec.witness_shaped (enc:=enc) (C:=Tryz.checked) (os:=os) (X:=fun w _=>laidMetH Tp Rows.journalKeepsRow.laid w) false (World.doorLaid Tp 67 os) #[.int .u8 0,.slice none 0 0] 8 rfl (World.shaped_of_RefB (by kernel_rfl) (by kernel_rfl)) (by kernel_rfl) (by kernel_rfl) (by kernel_rfl) (door_met os _)) ?_
 intro W base args ds gs before hval0 hW _ _ hL hsh
 have hval:∀ (j:Nat) t v,Tryz.f5.params[j]? =some t→args[j]? =some v→Value.okWide Tp W .any base t v:=hval0
 have hW':=hW
 obtain ⟨p,q,hA0,hV,rfl,hfz,hnd⟩:=hW
 have hA:DataW.TrodAll enc Tp W 0 (fun _=>true) true Tryz.f5.params.toList args.toList ds p:=hA0
 rw [Tryz.params5] at hA hval
 obtain ⟨v0,v1,d0,d1,p0,p1,rfl,rfl,rfl,h0,h1⟩:=trodAll_two hA
 obtain ⟨rfl,rfl⟩:=trodVars_none hV
 have h0k:=h0
 obtain ⟨n0,rfl⟩:=okWide_int Tryz.underlying5 (hval 0 5 v0 rfl rfl)
 obtain ⟨f0,h0⟩:=h0
 obtain ⟨lim,hlim,hlimb⟩:=read_num Tryz.underlying5 rfl h0
 cases hlim
 have hlimb:(lim:Int)≤255:=hlimb
 obtain ⟨l,La,hs,hok⟩:=read_acts (hval 1 45 v1 rfl rfl) h1
 clear hA0 hval0
 simp only [List.append_nil] at hW'
 have hlt:∀ x∈p0++p1,x.block < W.heap.size:=fun x hx=>by simpa using hW'.lt x (by simpa [List.append_assoc] using hx)
 refine (keeps_calls (holds_of_laid hsh hL) (laidV_of hsh hL) hs hok (show lim < 256 by omega)).mono fun e W' ⟨he,hb⟩=>?_
 subst he
 exact ⟨_,rfl,post_of_below (pa:=p0++p1) (pv:=[]) hW' (fun _ _ _=>trodAll_mk1 (shut_bool Tryz.underlying4 _)) (fun sp hsp=>trodAll_mk2
   (WideElems.Trod_stays Tryz.laidOut (by kernel_rfl) (of_decide_eq_true (by kernel_rfl)) h0k (fun x hx=>hb.same (hlt x (by simp [hx]))) (fun x hx=>hsp x (by simp [hx])))
   (WideElems.Trod_stays Tryz.laidOut (by kernel_rfl) (of_decide_eq_true (by kernel_rfl)) h1 (fun x hx=>hb.same (hlt x (by simp [hx]))) (fun x hx=>hsp x (by simp [hx])))) (fun _ _=>rfl) (by simp) hb
  (ok_one (by kernel_rfl) rfl (okWide_bool_mk Tryz.underlying4 _))⟩
theorem journalKeeps_holds:Rows.JournalKeepsSaid:=
 OpenClaim.holds_of_wide 5 Tryz.f5 rfl rfl rfl rfl rfl rfl rfl ⟨rfl,rfl,rfl,rfl,rfl⟩ rfl rfl rfl rfl rfl (by kernel_rfl) Tryz.func5 (by kernel_rfl)
  (of_decide_eq_true (by kernel_rfl)) (by unfold Func.isWrapper;first | (rw [if_pos (by decide+kernel)];kernel_rfl) | (rw [if_neg (by decide+kernel)];exact ⟨rfl,rfl⟩))
  (fun os started H enc _=>journalKeeps_lifted os started H enc)
theorem journalKeeps_card:Rows.JournalKeepsCardSaid:=
 Claim7.holds_tied_plain_at .later [] [.data,.data,.data,.data,.sentinel,.sentinel] true (true, "38e950c896eb31334cab88819c3c65e3540fa2f7d77552e4af755b868b44a446") true
  journalKeeps_holds (fun _ h=>by cases h) (by kernel_rfl) (fun _ h=>by cases h) journalKeeps_row_tie rfl ⟨rfl,rfl⟩ (by kernel_rfl) rfl
  (fun f fn hf hfn=>by
   obtain rfl:f=5:=Option.some.inj ((show Tp.funcNamed "posthouse/posthouselaw12.JournalKeeps"=some 5 by kernel_rfl).symm.trans hf) |>.symm
   obtain rfl:fn=Tryz.f5:=(Option.some.inj (Tryz.func5.symm.trans hfn)).symm
   exact ⟨by kernel_rfl,fun j t ht=>by
    rw [Tryz.params5] at ht
    have hm:t∈[5,45]:=by simpa using Array.mem_of_getElem? ht
    have hall:([5,45].all fun u=>!Tp.wantsStandIn u)=true:=by kernel_rfl
    exact (show Tp.wantsStandIn t=false by simpa using List.all_eq_true.1 hall t hm)⟩)
  (by kernel_rfl)
#print axioms journalKeeps_card
end Go.Proofs.YtbchfeibhoobeaaGreatDoor
