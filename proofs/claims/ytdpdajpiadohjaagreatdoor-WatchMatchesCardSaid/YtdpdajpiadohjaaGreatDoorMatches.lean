/-
  This text shows that the statement WatchMatchesCardSaid holds of the program. Conditions: none for the last theorem, those that each theorem states for the others.
-/
import Derived.Test.YtdpdajpiadohjaaGreatDoorPh
import Derived.Lib.LaidU8
set_option maxRecDepth 100000
set_option maxHeartbeats 1000000
namespace Go.Proofs.YtdpdajpiadohjaaGreatDoor
open Go Go.Abs Go.ChangeShapes Go.WideShapes Go.ChangeAt Go.RowKit Go.Joins Go.Deep
open Hd (Mi J5)
theorem Wo{W:World}(h:Lib.VarReads Tp W "unicode/utf8.first" Lib.firstData):W.var? Tp "unicode/utf8.first"=some ⟨Oz⟩:=by
 obtain ⟨g,t,cs,fuel,p,hg,hty,hvar,hd⟩:=h;obtain rfl:1=g:=Option.some.inj ((show Tp.globalNamed "unicode/utf8.first"=some 1 by kernel_rfl).symm.trans hg);obtain rfl:237=t:=Option.some.inj ((show (Tp.globals[1]?).map (·.type)=some 237 by kernel_rfl).symm.trans hty);have hcs:=Lib.cells_of_tab Tryz.underlying237 Tryz.underlying5 (by kernel_rfl) (by kernel_rfl) hd;rw [hvar]
 congr 1
 apply Array.ext';rw [hcs];unfold Lib.firstTab Oz;rw [List.map_map];rfl
theorem TQ{W:World}(h:Lib.VarReads Tp W "unicode/utf8.acceptRanges" Lib.acceptData):W.var? Tp "unicode/utf8.acceptRanges"=some ⟨Vo⟩:=by
 obtain ⟨g,t,cs,fuel,p,hg,hty,hvar,hd⟩:=h;obtain rfl:2=g:=Option.some.inj ((show Tp.globalNamed "unicode/utf8.acceptRanges"=some 2 by kernel_rfl).symm.trans hg);obtain rfl:240=t:=Option.some.inj ((show (Tp.globals[2]?).map (·.type)=some 240 by kernel_rfl).symm.trans hty);have hc239:Tp.cellsOf 239=2:=by kernel_rfl
 have hc5:Tp.cellsOf 5=1:=by kernel_rfl
 have hlen:cs.toList.length=32:=by
  cases fuel with
  |zero=>simp [DataW.trod] at hd
  |succ fuel=>
   simp only [DataW.trod,Tryz.underlying240] at hd;split at hd
   ·rename_i hl;rw [show Tp.cellsOf 240=32 by kernel_rfl] at hl;exact hl
   ·cases hd
 rw [hvar]
 congr 1
 apply Array.ext';refine List.ext_getElem? fun j=>?_;by_cases hj:j<32
 ·obtain ⟨i,hi⟩:∃ i,i=j/2:=⟨_,rfl⟩;obtain ⟨fuel',d,q,hdi,he⟩:=Lib.array_elem Tryz.underlying240 hd i (by omega);simp only [List.getElem?_map,List.getElem?_range (show i<16 by omega),Option.map_some,Oi] at hdi;subst hdi;rw [hc239] at he;have hcs:=Lib.ints_of_struct Tryz.underlying239 (fun j f hj=>by
   match j,hj with
   |0,hj=>simp at hj;subst hj;exact ⟨Tryz.underlying5,rfl,hc5⟩
   |1,hj=>simp at hj;subst hj;exact ⟨Tryz.underlying5,rfl,hc5⟩
   |j+2,hj=>simp at hj) (by rw [hc239];rfl) he
  have e0:=congrArg (·[0]?) hcs;have e1:=congrArg (·[1]?) hcs;simp only [List.getElem?_take,List.getElem?_drop] at e0 e1;unfold Vo;rw [List.getElem?_map,List.getElem?_range hj,Option.map_some];rcases Nat.mod_two_eq_zero_or_one j with h0 | h0
  ·rw [if_pos h0,← hi];rw [show j=i*2+0 by omega]
   simpa using e0
  ·rw [Ff (by omega),← hi];rw [show j=i*2+1 by omega]
   simpa using e1
 ·rw [List.getElem?_eq_none (by omega),List.getElem?_eq_none (by unfold Vo;simp;omega)]
theorem P7:Rows.watchMatchesRow.laid=[("unicode/utf8.acceptRanges",Lib.acceptData),("unicode/utf8.first",Lib.firstData)]:=by kernel_rfl
theorem Pm{W:World}(hsh:W.ShapedOpen Tp)(h:laidMetH Tp Rows.watchMatchesRow.laid W):Go.Abs.Holds W EO:=by
 rw [MakeChecks.laidMetH_plain _ _ _ (by kernel_rfl)] at h;have h1:=Wo (Lib.laidMet.reads h (by rw [P7];simp));have h2:=TQ (Lib.laidMet.reads h (by rw [P7];simp));intro x hx;rcases Mk.1 hx with rfl | hx
 ·exact Qa hsh (name:= "unicode/utf8.first") (by kernel_rfl) (by rw [nGl];decide) (by kernel_rfl) h1
 ·obtain rfl:=Ms.1 hx;exact Qa hsh (name:= "unicode/utf8.acceptRanges") (by kernel_rfl) (by rw [nGl];decide) (by kernel_rfl) h2
theorem Pk{W:World}{s:SV}{t:TV}(hW:Go.Abs.Holds W EO)(hs:Adb W s)(ht:Ada W t):Calls Tp 4 #[.agg ⟨fS s⟩,.agg ⟨fTb t⟩] W fun e W'=>e=.returned (.bool true)∧Below W.heap.size W W':=by
 obtain ⟨d,rfl,rfl,hd⟩:=Aeb hs ht;obtain ⟨L,hL,hA,hv,hrd⟩:=Ux hd hW;have hk:Tp.globals.size+L.length+1≤Ao:=by rw [nGl,hL];decide
 refine Te (L:=L) (gl:=EO) (args:=[.agg ⟨fS (ySt d.s)⟩,.agg ⟨fTb (yT d.t)⟩]) gP okM hk hW hA hv (wc4 (Aaq (UL W) _) (hrd hk) (E8 okM hk) ?_);show Tp.globals.size+L.length+1+800000<Ao;rw [nGl,hL];decide
theorem Y6(os:Os)(args:Array Value):laidMetH Tp Rows.watchMatchesRow.laid ((Abf os).forCall (fun _ _=>0) ⟨#[],args,[]⟩).memory:=
 laidMetH_of_parts3 (fuel:=8) (laidMet_of_run' 8 (by kernel_rfl) (by kernel_rfl)) (by kernel_rfl) (by kernel_rfl)
theorem Js(os:Os)(started:os.Started)(H:Type)(enc:TypeId × Value→H):
  ReturnsInHanded {} Tryz.checked os 4 .any (fun w args=>(Rows.watchMatchesSpec.pre enc Tp Tryz.f4 [] false w args∧laidMetH Tp Rows.watchMatchesRow.laid w)∧sizedMet enc Tp Tryz.f4 (OpenSpec.ofChange Rows.watchMatchesSpec) false w args)
   (Rows.watchMatchesSpec.post enc Tp Tryz.f4 false true false false):=by
 refine FT (C:=Tryz.checked) (X:=fun w _=>laidMetH Tp Rows.watchMatchesRow.laid w) (fun _ _ _ hh h=>h.of_heap hh) Tryz.own started (by kernel_rfl) Tryz.func4
  (ChangeSpec.witness_shaped (enc:=enc) (C:=Tryz.checked) (os:=os) (X:=fun w _=>laidMetH Tp Rows.watchMatchesRow.laid w) false (Abf os) #[.agg ⟨[.int .u64 0,.slice none 0 0,.slice none 0 0,.slice none 0 0]⟩,.agg ⟨[.slice none 0 0,.slice none 0 0]⟩] 8 rfl (World.shaped_of_RefB (by kernel_rfl) (by kernel_rfl)) (by kernel_rfl) (by kernel_rfl) (by kernel_rfl) (Y6 os _)) ?_
 intro W base args ds gs before hval0 hW _ _ hL hsh;have hval:∀ (j:Nat) t v,Tryz.f4.params[j]? =some t→args[j]? =some v→Value.okWide Tp W .any base t v:=hval0;have hW':=hW;obtain ⟨p,q,hA0,hV,rfl,hfz,hnd⟩:=hW;have hA:DataW.TrodAll enc Tp W 0 (fun _=>true) true Tryz.f4.params.toList args.toList ds p:=hA0;rw [Tryz.params4] at hA hval;obtain ⟨v0,v1,d0,d1,p0,p1,rfl,rfl,rfl,h0,h1⟩:=trodAll_two hA;obtain ⟨rfl,rfl⟩:=trodVars_none hV;obtain ⟨a0,rfl,_⟩:=okWide_struct Tryz.underlying37 (hval 0 37 v0 rfl rfl);obtain ⟨a1,rfl,_⟩:=okWide_struct Tryz.underlying41 (hval 1 41 v1 rfl rfl);have h0k:=h0;have h1k:=h1;obtain ⟨f0,h0⟩:=h0;obtain ⟨f1,h1⟩:=h1;obtain ⟨s,hs,hos⟩:=Sa h0;obtain ⟨t,ht,hot⟩:=T9 h1;have e0:a0=⟨fS s⟩:=Array.ext' hs;have e1:a1=⟨fTb t⟩:=Array.ext' ht;subst e0 e1;have h0:=h0k;have h1:=h1k;have hH:=Pm hsh hL;clear hA0 hval0;simp only [List.append_nil] at hW';have hlt:∀ x∈p0++p1,x.block<W.heap.size:=fun x hx=>by simpa using hW'.lt x (by simpa [Mw] using hx)
 refine (Pk hH hos hot).mono fun e W' ⟨he,hb⟩=>?_;subst he;exact ⟨_,rfl,Pc (pa:=p0++p1) (pv:=[]) hW' (fun _ _ _=>trodAll_mk1 (shut_bool Tryz.underlying4 _)) (fun sp hsp=>trodAll_mk2
   (WideElems.Trod_stays Tryz.laidOut (by kernel_rfl) (of_decide_eq_true (by kernel_rfl)) h0 (fun x hx=>hb.same (hlt x (by simp [hx]))) (fun x hx=>hsp x (by simp [hx])))
   (WideElems.Trod_stays Tryz.laidOut (by kernel_rfl) (of_decide_eq_true (by kernel_rfl)) h1 (fun x hx=>hb.same (hlt x (by simp [hx]))) (fun x hx=>hsp x (by simp [hx])))) (fun _ _=>rfl) (by simp) hb
  (ok_one (by kernel_rfl) rfl (okWide_bool_mk Tryz.underlying4 _))⟩
theorem JN:Rows.WatchMatchesSaid:=
 OpenClaim.holds_of_wide 4 Tryz.f4 rfl rfl rfl rfl rfl rfl rfl ⟨rfl,rfl,rfl,rfl,rfl⟩ rfl rfl rfl rfl rfl (by kernel_rfl) Tryz.func4 (by kernel_rfl)
  (of_decide_eq_true (by kernel_rfl)) (by unfold Func.isWrapper;first | (rw [if_pos (by decide+kernel)];kernel_rfl) | (rw [Ff (by decide+kernel)];exact ⟨rfl,rfl⟩))
  (fun os started H enc _=>Js os started H enc)
theorem watchMatches_card:Rows.WatchMatchesCardSaid:=
 Claim7.holds_tied_plain_at .later [] [.data,.pinned] true (true, "07e324f1c851c94f802127128f4957f374b4a3c929f7deab66645d302b31af41") false
  JN (fun _ h=>by cases h) (by kernel_rfl) (fun _ h=>by cases h) watchMatches_row_tie rfl ⟨rfl,rfl⟩ (by kernel_rfl) rfl
  (fun f fn hf hfn=>by
   obtain rfl:f=4:=Option.some.inj ((show Tp.funcNamed "posthouse/posthouselaw30.WatchMatches"=some 4 by kernel_rfl).symm.trans hf) |>.symm;obtain rfl:fn=Tryz.f4:=(Option.some.inj (Tryz.func4.symm.trans hfn)).symm;exact ⟨by kernel_rfl,fun j t ht=>by
    rw [Tryz.params4] at ht;have hm:t∈[37,41]:=by simpa using Array.mem_of_getElem? ht
    have hall:([37,41].all fun u=>!Tp.wantsStandIn u)=true:=by kernel_rfl
    exact (show Tp.wantsStandIn t=false by simpa using List.all_eq_true.1 hall t hm)⟩)
  (by kernel_rfl)
#print axioms watchMatches_card
end Go.Proofs.YtdpdajpiadohjaaGreatDoor
