/-
  This text shows that the statement JournalTurnedCardSaid holds of the program. Conditions: none for the last theorem, those that each theorem states for the others.
-/
import Derived.Test.YtbchfeibhoobeaaGreatDoorPj
set_option maxRecDepth 100000
namespace Go.Proofs.YtbchfeibhoobeaaGreatDoor
open Go Go.Abs Go.ChangeShapes Go.WideShapes Go.ChangeAt Go.RowKit Go.Joins Go.Deep
open Hd (rowsG crcNums head_calls)
theorem turned_calls {W:World} {v:Value} {l:List RV} {La:Arg} {lim a b m:Nat} (hW:Go.Abs.Holds W rowsG) (h:InSlice W fR v l La) (hlim:lim < 256) (ha:a < 256) (hb:b < 65536) (hm:m < 4294967296):
  Calls Tryz.prog 3 #[.int .u8 (lim:Int),v,.agg ⟨[.int .u8 (a:Int),.int .u16 (b:Int),.int .u32 (m:Int)]⟩] W fun e W'=>e=.returned (.bool true)∧Below W.heap.size W W':=by
 have hk:Tryz.prog.globals.size+[La].length+1≤maxId:=by rw [Hd.Tryz.nG];show 7+1+1≤maxId;decide
 obtain ⟨u,hv,hs⟩:=h.rel (P:=Tryz.prog) (L:=[La]) (j:=0) rfl
 obtain ⟨F,hr⟩:=rdR_of hk hs
 refine calls_trueR (L:=[La]) (gl:=rowsG) (args:=[.int .u8 (lim:Int),u,.agg ⟨[.int .u8 (a:Int),.int .u16 (b:Int),.int .u32 (m:Int)]⟩]) gP Hd.Tryz.okG hk hW ?_ (.cons (.int _ _) (.cons hv (.cons (.agg (.cons (.int _ _) (.cons (.int _ _) (.cons (.int _ _) .nil)))) .nil)))
  (wc3 (head_kc hW _) (nums_kc W _) (glb_of hk) (wR_fine Hd.Tryz.okG hk) ?_ hlim ha hb hm hr)
 ·intro j p cs e hj
  match j,hj with
  | 0,hj=>exact h.args fR_closed (Option.some.inj hj)
  | j+1,hj=>simp at hj
 ·show Tryz.prog.globals.size+1+1 < 400000000000
  rw [Hd.Tryz.nG];decide
theorem holds_of_laid {W:World} (hsh:W.ShapedOpen Tryz.prog) (h:laidMetH Tryz.prog Rows.journalTurnedRow.laid W):Go.Abs.Holds W rowsG:=by
 rw [MakeChecks.laidMetH_plain _ _ _ (by kernel_rfl)] at h
 have ht:Lib.TabIs Tryz.prog W "posthouse/crc.table" .u32 crcNums:=
  Lib.tabIs_of_head (g:=0) (t:=204) (n:=16) (zs:=crcNums) (by kernel_rfl) (by kernel_rfl) Tryz.underlying204 (by kernel_rfl) (by kernel_rfl) (by kernel_rfl) h.tail.tail.tail
 intro x hx
 obtain rfl:x=_:=by simpa [rowsG] using hx
 exact holds_var hsh (name:= "posthouse/crc.table") (by kernel_rfl) (by rw [Hd.Tryz.nG];decide) (by kernel_rfl) ht
theorem door_met (os:Os) (args:Array Value):laidMetH Tryz.prog Rows.journalTurnedRow.laid ((World.doorLaid Tryz.prog 67 os).forCall (fun _ _=>0) ⟨#[],args,[]⟩).memory:=
 laidMetH_of_parts3 (fuel:=8) (laidMet_of_run' 8 (by kernel_rfl) (by kernel_rfl)) (by kernel_rfl) (by kernel_rfl)
theorem journalTurned_lifted (os:Os) (started:os.Started) (H:Type) (enc:TypeId × Value→H):
  ReturnsInHanded {} Tryz.checked os 3 .any (fun w args=>(Rows.journalTurnedSpec.pre enc Tryz.prog Tryz.f3 [] false w args∧laidMetH Tryz.prog Rows.journalTurnedRow.laid w)∧sizedMet enc Tryz.prog Tryz.f3 (OpenSpec.ofChange Rows.journalTurnedSpec) false w args)
   (Rows.journalTurnedSpec.post enc Tryz.prog Tryz.f3 false true false false):=by
 refine returnsInHanded_and_shaped (C:=Tryz.checked) (X:=fun w _=>laidMetH Tryz.prog Rows.journalTurnedRow.laid w) (fun _ _ _ hh h=>h.of_heap hh) Tryz.own started (by kernel_rfl) Tryz.func3
  (ChangeSpec.witness_shaped (enc:=enc) (C:=Tryz.checked) (os:=os) (X:=fun w _=>laidMetH Tryz.prog Rows.journalTurnedRow.laid w) false (World.doorLaid Tryz.prog 67 os) #[.int .u8 0,.slice none 0 0,.agg #[.int .u8 0,.int .u16 0,.int .u32 0]] 8 rfl (World.shaped_of_RefB (by kernel_rfl) (by kernel_rfl)) (by kernel_rfl) (by kernel_rfl) (by kernel_rfl) (door_met os _)) ?_
 intro W base args ds gs before hval0 hW _ _ hL hsh
 have hval:∀ (j:Nat) t v,Tryz.f3.params[j]? =some t→args[j]? =some v→Value.okWide Tryz.prog W .any base t v:=hval0
 have hW':=hW
 obtain ⟨p,q,hA0,hV,rfl,hfz,hnd⟩:=hW
 have hA:DataW.TrodAll enc Tryz.prog W 0 (fun _=>true) true Tryz.f3.params.toList args.toList ds p:=hA0
 rw [Tryz.params3] at hA hval
 obtain ⟨v0,v1,v2,d0,d1,d2,p0,p1,p2,rfl,rfl,rfl,h0,h1,h2⟩:=trodAll_three hA
 obtain ⟨rfl,rfl⟩:=trodVars_none hV
 have h0k:=h0
 obtain ⟨n0,rfl⟩:=okWide_int Tryz.underlying5 (hval 0 5 v0 rfl rfl)
 obtain ⟨f0,h0⟩:=h0
 obtain ⟨lim,hlim,hlimb⟩:=read_num Tryz.underlying5 rfl h0
 cases hlim
 have hlimb:(lim:Int)≤255:=hlimb
 obtain ⟨l,La,hs⟩:=read_recs (hval 1 22 v1 rfl rfl) h1
 obtain ⟨a,b,c,rfl,ha,hb,hc⟩:=read_turn (hval 2 26 v2 rfl rfl) h2
 clear hA0 hval0
 simp only [List.append_nil] at hW'
 have hlt:∀ x∈p0++(p1++p2),x.block < W.heap.size:=fun x hx=>by simpa using hW'.lt x (by simpa [List.append_assoc] using hx)
 refine (turned_calls (holds_of_laid hsh hL) hs (show lim < 256 by omega) ha hb hc).mono fun e W' ⟨he,hb⟩=>?_
 subst he
 exact ⟨_,rfl,post_of_below (pa:=p0++(p1++p2)) (pv:=[]) hW' (fun _ _ _=>trodAll_mk1 (shut_bool Tryz.underlying4 _)) (fun sp hsp=>trodAll_mk3
   (WideElems.Trod_stays Tryz.laidOut (by kernel_rfl) (of_decide_eq_true (by kernel_rfl)) h0k (fun x hx=>hb.same (hlt x (by simp [hx]))) (fun x hx=>hsp x (by simp [hx])))
   (WideElems.Trod_stays Tryz.laidOut (by kernel_rfl) (of_decide_eq_true (by kernel_rfl)) h1 (fun x hx=>hb.same (hlt x (by simp [hx]))) (fun x hx=>hsp x (by simp [hx])))
   (WideElems.Trod_stays Tryz.laidOut (by kernel_rfl) (of_decide_eq_true (by kernel_rfl)) h2 (fun x hx=>hb.same (hlt x (by simp [hx]))) (fun x hx=>hsp x (by simp [hx])))) (fun _ _=>rfl) (by simp) hb
  (ok_one (by kernel_rfl) rfl (okWide_bool_mk Tryz.underlying4 _))⟩
theorem journalTurned_holds:Rows.JournalTurnedSaid:=
 OpenClaim.holds_of_wide 3 Tryz.f3 rfl rfl rfl rfl rfl rfl rfl ⟨rfl,rfl,rfl,rfl,rfl⟩ rfl rfl rfl rfl rfl (by kernel_rfl) Tryz.func3 (by kernel_rfl)
  (of_decide_eq_true (by kernel_rfl)) (by unfold Func.isWrapper;first | (rw [if_pos (by decide+kernel)];kernel_rfl) | (rw [if_neg (by decide+kernel)];exact ⟨rfl,rfl⟩))
  (fun os started H enc _=>journalTurned_lifted os started H enc)
theorem journalTurned_card:Rows.JournalTurnedCardSaid:=
 Claim7.holds_tied_plain_at .later [] [.data,.data,.data,.data,.sentinel,.sentinel] true (true, "38e950c896eb31334cab88819c3c65e3540fa2f7d77552e4af755b868b44a446") true
  journalTurned_holds (fun _ h=>by cases h) (by kernel_rfl) (fun _ h=>by cases h) journalTurned_row_tie rfl ⟨rfl,rfl⟩ (by kernel_rfl) rfl
  (fun f fn hf hfn=>by
   obtain rfl:f=3:=Option.some.inj ((show Tryz.prog.funcNamed "posthouse/posthouselaw12.JournalTurned"=some 3 by kernel_rfl).symm.trans hf) |>.symm
   obtain rfl:fn=Tryz.f3:=(Option.some.inj (Tryz.func3.symm.trans hfn)).symm
   exact ⟨by kernel_rfl,fun j t ht=>by
    rw [Tryz.params3] at ht
    have hm:t∈[5,22,26]:=by simpa using Array.mem_of_getElem? ht
    have hall:([5,22,26].all fun u=>!Tryz.prog.wantsStandIn u)=true:=by kernel_rfl
    exact (show Tryz.prog.wantsStandIn t=false by simpa using List.all_eq_true.1 hall t hm)⟩)
  (by kernel_rfl)
#print axioms journalTurned_card
end Go.Proofs.YtbchfeibhoobeaaGreatDoor
