/-
  This text shows that the statement JournalAgainCardSaid holds of the program. Conditions: none for the last theorem, those that each theorem states for the others.
-/
import Derived.Test.YtbchfeibhoobeaaGreatDoorPl
set_option maxRecDepth 100000
set_option maxHeartbeats 1000000
namespace Go.Proofs.YtbchfeibhoobeaaGreatDoor
open Go Go.Abs Go.ChangeShapes Go.WideShapes Go.ChangeAt Go.RowKit Go.Joins Go.Deep
open Hd (rowsG crcNums head_calls)
theorem again_calls {W:World} {v:Value} {l:List AV} {La:Arg} {lim:Nat} (hW:Go.Abs.Holds W rowsG) (h:InSlice W fA v l La) (hok:∀ p∈l,OkA W p) (hlim:lim < 256):
  Calls Tryz.prog 4 #[.int .u8 (lim:Int),v] W fun e W'=>e=.returned (.bool true)∧Below W.heap.size W W':=by
 obtain ⟨L,s',l',hL,hA,hv,hll,_,hgl⟩:=acts_args h fun p hp=>(hok p hp).1
 have hk:Tryz.prog.globals.size+L.length+1≤maxId:=by
  rw [Hd.Tryz.nG]
  have:maxId=1099511627776:=rfl
  omega
 obtain ⟨F,hr,_⟩:=hgl rowsG hk
 refine calls_trueR (L:=L) (gl:=rowsG) (args:=[.int .u8 (lim:Int),s']) gP Hd.Tryz.okG hk hW hA (.cons (.int _ _) (.cons hv .nil))
  (wc4 (head_kc hW _) (nums_kc32 W _) (glb_of hk) (wR_fine Hd.Tryz.okG hk) ?_ hlim hr hll)
 show Tryz.prog.globals.size+L.length+1 < 400000000000
 rw [Hd.Tryz.nG]
 omega
theorem holds_of_laid {W:World} (hsh:W.ShapedOpen Tryz.prog) (h:laidMetH Tryz.prog Rows.journalAgainRow.laid W):Go.Abs.Holds W rowsG:=by
 rw [MakeChecks.laidMetH_plain _ _ _ (by kernel_rfl)] at h
 have ht:Lib.TabIs Tryz.prog W "posthouse/crc.table" .u32 crcNums:=
  Lib.tabIs_of_head (g:=0) (t:=204) (n:=16) (zs:=crcNums) (by kernel_rfl) (by kernel_rfl) Tryz.underlying204 (by kernel_rfl) (by kernel_rfl) (by kernel_rfl) h.tail.tail.tail
 intro x hx
 obtain rfl:x=_:=by simpa [rowsG] using hx
 exact holds_var hsh (name:= "posthouse/crc.table") (by kernel_rfl) (by rw [Hd.Tryz.nG];decide) (by kernel_rfl) ht
theorem door_met (os:Os) (args:Array Value):laidMetH Tryz.prog Rows.journalAgainRow.laid ((World.doorLaid Tryz.prog 67 os).forCall (fun _ _=>0) ⟨#[],args,[]⟩).memory:=
 laidMetH_of_parts3 (fuel:=8) (laidMet_of_run' 8 (by kernel_rfl) (by kernel_rfl)) (by kernel_rfl) (by kernel_rfl)
theorem journalAgain_lifted (os:Os) (started:os.Started) (H:Type) (enc:TypeId × Value→H):
  ReturnsInHanded {} Tryz.checked os 4 .any (fun w args=>(Rows.journalAgainSpec.pre enc Tryz.prog Tryz.f4 [] false w args∧laidMetH Tryz.prog Rows.journalAgainRow.laid w)∧sizedMet enc Tryz.prog Tryz.f4 (OpenSpec.ofChange Rows.journalAgainSpec) false w args)
   (Rows.journalAgainSpec.post enc Tryz.prog Tryz.f4 false true false false):=by
 refine returnsInHanded_and_shaped (C:=Tryz.checked) (X:=fun w _=>laidMetH Tryz.prog Rows.journalAgainRow.laid w) (fun _ _ _ hh h=>h.of_heap hh) Tryz.own started (by kernel_rfl) Tryz.func4
  (ChangeSpec.witness_shaped (enc:=enc) (C:=Tryz.checked) (os:=os) (X:=fun w _=>laidMetH Tryz.prog Rows.journalAgainRow.laid w) false (World.doorLaid Tryz.prog 67 os) #[.int .u8 0,.slice none 0 0] 8 rfl (World.shaped_of_RefB (by kernel_rfl) (by kernel_rfl)) (by kernel_rfl) (by kernel_rfl) (by kernel_rfl) (door_met os _)) ?_
 intro W base args ds gs before hval0 hW _ _ hL hsh
 have hval:∀ (j:Nat) t v,Tryz.f4.params[j]? =some t→args[j]? =some v→Value.okWide Tryz.prog W .any base t v:=hval0
 have hW':=hW
 obtain ⟨p,q,hA0,hV,rfl,hfz,hnd⟩:=hW
 have hA:DataW.TrodAll enc Tryz.prog W 0 (fun _=>true) true Tryz.f4.params.toList args.toList ds p:=hA0
 rw [Tryz.params4] at hA hval
 obtain ⟨v0,v1,d0,d1,p0,p1,rfl,rfl,rfl,h0,h1⟩:=trodAll_two hA
 obtain ⟨rfl,rfl⟩:=trodVars_none hV
 have h0k:=h0
 obtain ⟨n0,rfl⟩:=okWide_int Tryz.underlying5 (hval 0 5 v0 rfl rfl)
 obtain ⟨f0,h0⟩:=h0
 obtain ⟨lim,hlim,hlimb⟩:=read_num Tryz.underlying5 rfl h0
 cases hlim
 have hlimb:(lim:Int)≤255:=hlimb
 obtain ⟨l,La,hs,hok⟩:=read_acts (hval 1 45 v1 rfl rfl) h1
 clear hA0 hval0
 simp only [List.append_nil] at hW'
 have hlt:∀ x∈p0++p1,x.block < W.heap.size:=fun x hx=>by simpa using hW'.lt x (by simpa [List.append_assoc] using hx)
 refine (again_calls (holds_of_laid hsh hL) hs hok (show lim < 256 by omega)).mono fun e W' ⟨he,hb⟩=>?_
 subst he
 exact ⟨_,rfl,post_of_below (pa:=p0++p1) (pv:=[]) hW' (fun _ _ _=>trodAll_mk1 (shut_bool Tryz.underlying4 _)) (fun sp hsp=>trodAll_mk2
   (WideElems.Trod_stays Tryz.laidOut (by kernel_rfl) (of_decide_eq_true (by kernel_rfl)) h0k (fun x hx=>hb.same (hlt x (by simp [hx]))) (fun x hx=>hsp x (by simp [hx])))
   (WideElems.Trod_stays Tryz.laidOut (by kernel_rfl) (of_decide_eq_true (by kernel_rfl)) h1 (fun x hx=>hb.same (hlt x (by simp [hx]))) (fun x hx=>hsp x (by simp [hx])))) (fun _ _=>rfl) (by simp) hb
  (ok_one (by kernel_rfl) rfl (okWide_bool_mk Tryz.underlying4 _))⟩
theorem journalAgain_holds:Rows.JournalAgainSaid:=
 OpenClaim.holds_of_wide 4 Tryz.f4 rfl rfl rfl rfl rfl rfl rfl ⟨rfl,rfl,rfl,rfl,rfl⟩ rfl rfl rfl rfl rfl (by kernel_rfl) Tryz.func4 (by kernel_rfl)
  (of_decide_eq_true (by kernel_rfl)) (by unfold Func.isWrapper;first | (rw [if_pos (by decide+kernel)];kernel_rfl) | (rw [if_neg (by decide+kernel)];exact ⟨rfl,rfl⟩))
  (fun os started H enc _=>journalAgain_lifted os started H enc)
theorem journalAgain_card:Rows.JournalAgainCardSaid:=
 Claim7.holds_tied_plain_at .later [] [.data,.data,.data,.data,.sentinel,.sentinel] true (true, "38e950c896eb31334cab88819c3c65e3540fa2f7d77552e4af755b868b44a446") true
  journalAgain_holds (fun _ h=>by cases h) (by kernel_rfl) (fun _ h=>by cases h) journalAgain_row_tie rfl ⟨rfl,rfl⟩ (by kernel_rfl) rfl
  (fun f fn hf hfn=>by
   obtain rfl:f=4:=Option.some.inj ((show Tryz.prog.funcNamed "posthouse/posthouselaw12.JournalAgain"=some 4 by kernel_rfl).symm.trans hf) |>.symm
   obtain rfl:fn=Tryz.f4:=(Option.some.inj (Tryz.func4.symm.trans hfn)).symm
   exact ⟨by kernel_rfl,fun j t ht=>by
    rw [Tryz.params4] at ht
    have hm:t∈[5,45]:=by simpa using Array.mem_of_getElem? ht
    have hall:([5,45].all fun u=>!Tryz.prog.wantsStandIn u)=true:=by kernel_rfl
    exact (show Tryz.prog.wantsStandIn t=false by simpa using List.all_eq_true.1 hall t hm)⟩)
  (by kernel_rfl)
#print axioms journalAgain_card
end Go.Proofs.YtbchfeibhoobeaaGreatDoor
