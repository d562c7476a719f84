/-
  This text is a part of what shows that the statement CoordQuitsCardSaid holds of the program: what the law answers, and how its arguments are read. Conditions: those that each theorem states.
-/
import Derived.Test.YtkjlldaddekegaaGreatDoorPi
import Derived.ChangeMaps5
import Derived.Deep.Strs
import Derived.LaidMore
import Derived.Lib.LaidTab
import Derived.Lib.SmallJoins
import Derived.SevenTiedAt
import Derived.Stop.LaidErr
import Derived.Test.YtkjlldaddekegaaGreatDoorCards
import Derived.Test.YtkjlldaddekegaaGreatDoorTie
set_option maxRecDepth 100000
set_option maxHeartbeats 1000000
namespace Go.Proofs.YtkjlldaddekegaaGreatDoor
open Go Go.Abs Go.ChangeShapes Go.WideShapes Go.ChangeAt Go.RowKit Go.Joins Go.Deep
theorem head_kc {W : World} (hW : Go.Abs.Holds W rowsG) (m : Inj Tryz.prog) : KC.Holds Tryz.prog W m ⟨10, [], [.bool true]⟩ := kc_true (rows := Hd.rowsG) (by decide) Hd.head_calls hW m
theorem Tryz.nG : Tryz.prog.globals.size = 7 := by kernel_rfl
theorem Tryz.okG : okG Tryz.prog.globals.size rowsG = true := by kernel_rfl
theorem Tryz.cells5 : Tryz.prog.cellsOf 5 = 1 := by kernel_rfl
theorem bC_closed (n : Nat) : (bC n).all (closedV 4) = true := rfl
theorem bC_length (n : Nat) : (bC n).length = 1 := rfl
theorem aw0_arg (cs : List Value) (e : TypeId) : (AW0 cs e).get 7 = some (.row cs e 9 0 true) := by kernel_rfl
theorem aw0_next (cs : List Value) (e : TypeId) : (AW0 cs e).next = 10 := rfl
section
variable {H : Type} {enc : TypeId × Value → H} {w : World} {q : Nat}
theorem read_num {t : TypeId} {cs : List Value} {k : IntKind} {y : DataW H × List MemPlace} (hu : Tryz.prog.underlying t = some (.int k)) (hmin : k.min = 0) (h : DataW.trod enc Tryz.prog w 0 (fun _ => true) true q t cs = some y) : ∃ n : Nat, cs = [.int k (n : Int)] ∧ (n : Int) ≤ k.max := by
  obtain ⟨k, e0, _, wk⟩ := DataW.trod_int hu h
  simp only [Lit.wf, Bool.and_eq_true, decide_eq_true_eq] at wk
  have hk0 : 0 ≤ k := by have := wk.1; rw [hmin] at this; exact this
  refine ⟨k.toNat, ?_, ?_⟩
  · rw [Int.toNat_of_nonneg hk0]; exact e0
  · rw [Int.toNat_of_nonneg hk0]; exact wk.2
theorem read_nodes {b0 : Nat} {v : Value} {d : DataW H} {p : List MemPlace} (hv : Value.okWide Tryz.prog w .any b0 52 v) (h : DataW.Trod enc Tryz.prog w 0 (fun _ => true) true 52 v d p) : ∃ (l : List Nat) (La : Arg), InSlice w bC v l La ∧ ∀ n ∈ l, n < 256 := by
  obtain ⟨fuel, hf⟩ := h
  obtain ⟨s, l, La, hc, hs, hw⟩ := read_flat (f := bC) (ok := fun n => n < 256) 0 Tryz.underlying52 (by rw [Tryz.cells5]; decide) (fun f => by rw [Tryz.cells5]; rfl) (fun q cs y hy => by
    obtain ⟨n, rfl, hn⟩ := read_num Tryz.underlying5 rfl hy
    exact ⟨n, rfl, by have : (n : Int) ≤ 255 := hn; omega⟩) hf
  have hv0 : v = s := by
    obtain ⟨a, n, c, rfl⟩ := okWide_slice Tryz.underlying52 hv
    simpa [Value.cells] using hc
  subst hv0
  exact ⟨l, La, hs, hw⟩
end
theorem quits_calls {W : World} {s : Value} {l : List Nat} {La : Arg} {ticks : Nat} (hW : Go.Abs.Holds W rowsG) (h : InSlice W bC s l La) (hb : ∀ n ∈ l, n < 256) (ht : ticks < 256) : Calls Tryz.prog 4 #[s, .int .u8 (ticks : Int)] W fun e W' => e = .returned (.bool true) ∧ Below W.heap.size W W' := by
  have key : ∀ (L : List Arg) (e : TypeId) (p0 p1 : Nat × Nat) (s' : Value), L = [(p0, some (flat bC l, e)), (p1, none)] → VRel (mR Tryz.prog L) s' s → (∃ cs' fr, W.heap[p0.1]? = some (.cells cs' e fr) ∧ p0.2 ≤ cs'.size ∧ ∀ i v, (flat bC l)[i]? = some v → ∃ v', cs'[p0.2 + i]? = some v' ∧ VRel (mR Tryz.prog L) v v') →
      ((l = [] ∧ ∃ o c, s' = .slice o 0 c) ∨ ∃ c, s' = .slice (some ⟨7, 0, none⟩) l.length c) → Calls Tryz.prog 4 #[s, .int .u8 (ticks : Int)] W fun e W' => e = .returned (.bool true) ∧ Below W.heap.size W W' := by
    rintro L e p0 p1 s' rfl hv hargs hs
    have hk : Tryz.prog.globals.size + [((p0, some (flat bC l, e)) : Arg), (p1, none)].length + 1 ≤ maxId := by rw [Tryz.nG]; show 7 + 2 + 1 ≤ maxId; decide
    have fin : ∀ F0, RdE 0 bC (AW0 (flat bC l) e) s' l F0 → RdE 0 bC (AW2 (flat bC l) e) s' l F0 → (∀ y ∈ F0, y < 10) → Calls Tryz.prog 4 #[s, .int .u8 (ticks : Int)] W fun e W' => e = .returned (.bool true) ∧ Below W.heap.size W W' := fun F0 h0 h2 hF0 => by
      have hw := wc4 (W0 := W) (m0 := mR Tryz.prog [((p0, some (flat bC l, e)) : Arg), (p1, none)]) (head_kc hW _) h0 h2 hF0 hb ht
      refine calls_trueR (X := theX) (L := [((p0, some (flat bC l, e)) : Arg), (p1, none)]) (gl := rowsG) (args := [s', .int .u8 (ticks : Int)]) gP Tryz.okG hk hW ?_ (.cons hv (.cons (.int _ _) .nil)) ?_
      · intro j p cs e' hj
        match j, hj with
        | 0, hj =>
          obtain ⟨rfl, rfl, rfl⟩ : p0 = p ∧ flat bC l = cs ∧ e = e' := by simpa using hj
          exact hargs
        | 1, hj => simp at hj
        | j + 2, hj => simp at hj
      · rw [Tryz.nG]
        exact hw
    rcases hs with ⟨hl, h⟩ | ⟨c, rfl⟩
    · exact fin [] (.inl ⟨hl, rfl, h⟩) (.inl ⟨hl, rfl, h⟩) (by simp)
    · have hfl : ∀ i p, l[i]? = some p → ∃ rest, (flat bC l).drop (0 + i * (0 + 1)) = bC p ++ rest := fun i p hi => by rw [Nat.zero_add]; exact flat_drop (f := bC) (n := 1) bC_length l i p hi
      exact fin [9] (.inr ⟨7, 0, c, _, e, 9, 0, true, rfl, aw0_arg _ _, by rw [aw0_next]; decide, rfl, hfl⟩) (.inr ⟨7, 0, c, _, e, 9, 0, true, rfl, aw2_arg _ _, by rw [aw2_next]; decide, rfl, hfl⟩) (by simp)
  cases h with
  | nil hl hs h0 =>
    obtain ⟨fr, hfr⟩ := hW (1, crcNums.map (Value.int .u32 ·), 302) (by simp [rowsG])
    obtain ⟨s', hv, hs'⟩ := (InSlice.nil (W := W) (f := bC) hl hs h0).rel (P := Tryz.prog) (L := [((1, 0), some (flat bC l, 302)), (placeOf s, none)]) (j := 1) rfl
    refine key _ 302 (1, 0) (placeOf s) s' rfl hv ⟨_, fr, hfr, Nat.zero_le _, fun i v hi => ?_⟩ (.inl ?_)
    · subst hl; simp [flat] at hi
    · rcases hs' with h | ⟨c, p, e, _, h⟩
      · exact h
      · simp at h
  | blk a c cs e' fr hs hc hc2 hsp hb' ho hg =>
    have hin : InSlice W bC s l ((a.block, a.off), some (flat bC l, e')) := .blk a c cs e' fr hs hc hc2 hsp hb' ho hg
    obtain ⟨s', hv, hs'⟩ := hin.rel (P := Tryz.prog) (L := [((a.block, a.off), some (flat bC l, e')), ((0, 0), none)]) (j := 0) rfl
    refine key _ e' (a.block, a.off) (0, 0) s' rfl hv (hin.args bC_closed rfl) ?_
    rcases hs' with h | ⟨c, p, e, h, _⟩
    · exact .inl h
    · rw [Tryz.nG] at h; exact .inr ⟨c, h⟩
theorem Tryz.own : ownKnob Tryz.prog.godebug = none := by kernel_rfl
theorem Tryz.laidOut : laidOutB Tryz.prog = true := by kernel_rfl
theorem holds_of_laid {W : World} (hsh : W.ShapedOpen Tryz.prog) (h : laidMetH Tryz.prog Rows.coordQuitsRow.laid W) : Go.Abs.Holds W rowsG := by
  rw [MakeChecks.laidMetH_plain _ _ _ (by kernel_rfl)] at h
  have ht : Lib.TabIs Tryz.prog W "posthouse/crc.table" .u32 crcNums :=
    Lib.tabIs_of_head (g := 1) (t := 302) (n := 16) (zs := crcNums) (by kernel_rfl) (by kernel_rfl) Tryz.underlying302 (by kernel_rfl) (by kernel_rfl) (by kernel_rfl) h.tail.tail.tail
  intro x hx
  obtain rfl : x = _ := by simpa [rowsG] using hx
  exact holds_var hsh (name := "posthouse/crc.table") (by kernel_rfl) (by rw [Tryz.nG]; decide) (by kernel_rfl) ht
theorem door_met (os : Os) (args : Array Value) : laidMetH Tryz.prog Rows.coordQuitsRow.laid ((World.doorLaid Tryz.prog 67 os).forCall (fun _ _ => 0) ⟨#[], args, []⟩).memory :=
  laidMetH_of_parts3 (fuel := 8) (laidMet_of_run' 8 (by kernel_rfl) (by kernel_rfl)) (by kernel_rfl) (by kernel_rfl)
theorem coordQuits_lifted (os : Os) (started : os.Started) (H : Type) (enc : TypeId × Value → H) :
    ReturnsInHanded {} Tryz.checked os 4 .any (fun w args => (Rows.coordQuitsSpec.pre enc Tryz.prog Tryz.f4 [] false w args ∧ laidMetH Tryz.prog Rows.coordQuitsRow.laid w) ∧ sizedMet enc Tryz.prog Tryz.f4 (OpenSpec.ofChange Rows.coordQuitsSpec) false w args)
      (Rows.coordQuitsSpec.post enc Tryz.prog Tryz.f4 false true false false) := by
  refine returnsInHanded_and_shaped (C := Tryz.checked) (X := fun w _ => laidMetH Tryz.prog Rows.coordQuitsRow.laid w) (fun _ _ _ hh h => h.of_heap hh) Tryz.own started (by kernel_rfl) Tryz.func4
    (ChangeSpec.witness_shaped (enc := enc) (C := Tryz.checked) (os := os) (X := fun w _ => laidMetH Tryz.prog Rows.coordQuitsRow.laid w) false (World.doorLaid Tryz.prog 67 os) #[.slice none 0 0, .int .u8 0] 8 rfl (World.shaped_of_RefB (by kernel_rfl) (by kernel_rfl)) (by kernel_rfl) (by kernel_rfl) (by kernel_rfl) (door_met os _)) ?_
  intro W base args ds gs before hval0 hW _ _ hL hsh
  have hval : ∀ (j : Nat) t v, Tryz.f4.params[j]? = some t → args[j]? = some v → Value.okWide Tryz.prog W .any base t v := hval0
  have hW' := hW
  obtain ⟨p, q, hA0, hV, rfl, hfz, hnd⟩ := hW
  have hA : DataW.TrodAll enc Tryz.prog W 0 (fun _ => true) true Tryz.f4.params.toList args.toList ds p := hA0
  rw [Tryz.params4] at hA hval
  obtain ⟨v0, v1, d0, d1, p0, p1, rfl, rfl, rfl, h0, h1⟩ := trodAll_two hA
  obtain ⟨rfl, rfl⟩ := trodVars_none hV
  have h1k := h1
  obtain ⟨n1, rfl⟩ := okWide_int Tryz.underlying5 (hval 1 5 v1 rfl rfl)
  obtain ⟨f1, h1⟩ := h1
  obtain ⟨a1, e1, hr1⟩ := read_num Tryz.underlying5 rfl h1
  have e1 : n1 = (a1 : Int) := by simpa [Value.cells] using e1
  subst e1
  have hr1 : (a1 : Int) ≤ 255 := hr1
  obtain ⟨l, La, hs, hok⟩ := read_nodes (hval 0 52 v0 rfl rfl) h0
  clear hA0 hval0
  simp only [List.append_nil] at hW'
  have hlt : ∀ x ∈ p0 ++ p1, x.block < W.heap.size := fun x hx => by simpa using hW'.lt x (by simpa [List.append_assoc] using hx)
  refine (quits_calls (holds_of_laid hsh hL) hs hok (by omega)).mono fun e W' ⟨he, hb⟩ => ?_
  subst he
  exact ⟨_, rfl, post_of_below (pa := p0 ++ p1) (pv := []) hW' (fun _ _ _ => trodAll_mk1 (shut_bool Tryz.underlying4 _)) (fun sp hsp => trodAll_mk2
      (WideElems.Trod_stays Tryz.laidOut (by kernel_rfl) (of_decide_eq_true (by kernel_rfl)) h0 (fun x hx => hb.same (hlt x (by simp [hx]))) (fun x hx => hsp x (by simp [hx])))
      (WideElems.Trod_stays Tryz.laidOut (by kernel_rfl) (of_decide_eq_true (by kernel_rfl)) h1k (fun x hx => hb.same (hlt x (by simp [hx]))) (fun x hx => hsp x (by simp [hx])))) (fun _ _ => rfl) (by simp) hb
    (ok_one (by kernel_rfl) rfl (okWide_bool_mk Tryz.underlying4 _))⟩
end Go.Proofs.YtkjlldaddekegaaGreatDoor
