/-
  This text prints what the functions reached ask of their memory, and shows what they answer. Conditions: none for the last theorem, those that each theorem states for the others.
-/
import Derived.Test.YtkjlldaddekegaaGreatDoorPg
set_option maxRecDepth 100000
set_option maxHeartbeats 1000000
namespace Go.Proofs.YtkjlldaddekegaaGreatDoor
open Go.Abs
theorem zero3 : zeroT Tryz.prog 3 = some (.int .i64 0) := by kernel_rfl
def recM (n : Nat) : Ml := ⟨n, 5, ⟨0, ⟨⟨[]⟩⟩, ⟨⟨[]⟩⟩⟩⟩
theorem ba38r : buildA Tryz.prog 38 [(0, .int .u8 5)] = some (.agg ⟨[.int .u8 5, .int .u32 0, .string ⟨⟨[]⟩⟩, .string ⟨⟨[]⟩⟩, .int .u8 0, .int .u16 0, .slice none 0 0]⟩) := by kernel_rfl
theorem ba46r (n : Nat) : buildA Tryz.prog 46 [(0, .int .u8 (n : Int)), (1, .agg ⟨[.int .u8 5, .int .u32 0, .string ⟨⟨[]⟩⟩, .string ⟨⟨[]⟩⟩, .int .u8 0, .int .u16 0, .slice none 0 0]⟩)] = some (.agg ⟨(recM n).cells⟩) := by kernel_rfl
theorem fresh41 (m : Ml) : freshOf Tryz.prog (evalT (Tm.fill ⟨1, .nil⟩ 0 [.agg ⟨m.cells⟩])) (.buildSlice 41 1 #[(0, .tmp 0)]) = some (.slice m.cells 46 1) := by kernel_rfl
theorem freshW_41 {m : Ml} {A : AW} {b : Nat} {p : Prop} (h : A.get b = some (.row m.cells 46 b 0 false)) (hp : p) : freshW (freshOf Tryz.prog (evalT (Tm.fill ⟨1, .nil⟩ 0 [.agg ⟨m.cells⟩])) (.buildSlice 41 1 #[(0, .tmp 0)])) A (.slice (some ⟨b, 0, none⟩) 1 1) p := by
  refine ⟨⟨_, fresh41 m, ?_⟩, hp⟩
  simp only [stillFresh, rowHas, h, Ml.cells, sameL, same_int, same_string, Bool.and_self, Option.isNone_none, Bool.true_and, Nat.beq_refl]
  rfl
theorem putE_mem {es : List (En Nat Int)} {k : Nat} {v : Int} {c : Nat} : ∀ e ∈ putE (fun a b => a == b) es k v c, e ∈ es ∨ e.v = v := by
  induction es with
  | nil =>
    intro e he
    have : e = ⟨k, v, c⟩ := by simpa [putE] using he
    exact .inr (by rw [this])
  | cons a r ih =>
    intro e he
    unfold putE at he
    split at he
    · rcases List.mem_cons.1 he with rfl | he
      · exact .inr rfl
      · exact .inl (List.mem_cons_of_mem _ he)
    · rcases List.mem_cons.1 he with rfl | he
      · exact .inl List.mem_cons_self
      · rcases ih e he with h | h
        · exact .inl (List.mem_cons_of_mem _ h)
        · exact .inr h
theorem look_key {es : List (En Nat Int)} {n : Nat} (h : n ∈ es.map En.k) : ∃ e ∈ es, lookE (fun a b => a == b) es n = some e.v ∧ e.k = n := by
  induction es with
  | nil => simp at h
  | cons a r ih =>
    unfold lookE
    by_cases hk : (n == a.k) = true
    · rw [hk]; exact ⟨a, List.mem_cons_self, rfl, (by simpa using hk : n = a.k).symm⟩
    · have hk' : (n == a.k) = false := by simpa using hk
      rw [hk']
      have hne : n ≠ a.k := by simpa using hk'
      rcases List.mem_map.1 h with ⟨e, he, hek⟩
      rcases List.mem_cons.1 he with rfl | he
      · exact absurd hek.symm hne
      · obtain ⟨e', h1, h2, h3⟩ := ih (List.mem_map.2 ⟨e, he, hek⟩)
        exact ⟨e', List.mem_cons_of_mem _ h1, h2, h3⟩
def Ticked (A A' : AW) (sr b : Nat) (x : Nm) (st w t : Nat) (ls recs : List Ml) (ps : List Pt) (room : Nat) : Prop :=
  ∃ out Fo pv F aks, CO A' sr out (ls ++ recs) Fo [⟨x, ⟨x, st, pv, w, t⟩, b⟩] aks ∧ OwnF 135 4 Pt.cells A' pv ps F ∧ (∀ y ∈ F, 126 ≤ y ∧ y ∉ Fo) ∧ (∀ y ∈ Fo, A.next ≤ y) ∧ (∀ m ∈ recs, m.k = 5) ∧ recs.length ≤ 8 ∧ Keeps A A' [118, 119, 120] ∧ A'.next ≤ A.next + room ∧ Fine A'
section
variable {W0 : World} {m0 : Inj Tryz.prog}
theorem wc45 {A : AW} {r0 sr b : Nat} {g : GV} {F : List Nat} {p : Pt} {ps : List Pt} {aks : List (En Nat Int)} {K : Value → AW → Prop} (hco : CO A sr (.slice none 0 0) [] [] [⟨g.x, g, b⟩] aks) (h0 : Go.Abs.Row1 A r0 [.pointer (some ⟨120, 0, none⟩)] 27) (hr0 : 126 ≤ r0) (hp : OwnF 135 4 Pt.cells A g.pv (p :: ps) F) (hF : ∀ y ∈ F, 126 ≤ y)
    (hl : (p :: ps).length ≤ 8) (hn : ∀ q ∈ p :: ps, q.n < 256) (hs : g.st = 2 ∨ g.st = 4) (hw : g.w ≤ 3) (ht : g.t ≤ 5) (hok : okD g.x (p :: ps) = true) (hf : Fine A) (hA : A.next + 4000 < maxId)
    (hk : ∀ A' recs, Ticked A A' sr b g.x (tickG g.st g.w g.t).1.1 (tickG g.st g.w g.t).1.2.1 (tickG g.st g.w g.t).1.2.2 (if (tickG g.st g.w g.t).2 = true then lettersOf (tickG g.st g.w g.t).1.1 (p :: ps) else []) recs (p :: ps) 2000 → K (.int .i64 0) A') :
    Wc Tryz.prog theX W0 m0 45 [.pointer (some ⟨r0, 0, none⟩)] A K := by
  have hlo := hco.lo
  have r0lt := h0.lt
  have hone := ownF_one hp
  obtain ⟨ts, tw, tt⟩ := tickG_ok hs hw ht
  generalize hT : tickG g.st g.w g.t = T at hk ts tw tt
  obtain ⟨⟨st', w', t'⟩, sent⟩ := T
  simp only at hk ts tw tt
  let I : Nat → Nat → List Value → AW → Prop := fun n id vals A' =>
    (id = 0 ∧ ∃ sv Fs, vals = [.pointer (some ⟨r0, 0, none⟩), sv, .int .i64 1, .int .i64 ((0 : Nat) : Int)] ∧ RdE 2 Nm.cells A' sv [g.x] Fs ∧ Keeps A A' [] ∧ A'.next ≤ A.next + 40 ∧ Fine A' ∧ n = 30) ∨
    (id = 0 ∧ ∃ sv, vals = [.pointer (some ⟨r0, 0, none⟩), sv, .int .i64 1, .int .i64 ((1 : Nat) : Int)] ∧ Ticked A A' sr b g.x st' w' t' (if sent = true then lettersOf st' (p :: ps) else []) [] (p :: ps) 1000 ∧ n = 20) ∨
    (id = 3 ∧ ∃ (j : Nat) (kv : Value) (l Fk : List Nat) (recs : List Ml) (out : Value) (Fo : List Nat) (pv : Value) (F' : List Nat) (aks' : List (En Nat Int)), vals = [.pointer (some ⟨r0, 0, none⟩), kv, .int .i64 8, .int .i64 (j : Int)] ∧ j ≤ 8 ∧ RdE 0 bC A' kv l Fk ∧ l.length = 8 ∧ (∀ y ∈ l, y ∈ [1, 2, 3, 4, 5, 6, 7, 8]) ∧ (∀ y ∈ Fk, A.next ≤ y ∧ y ∉ Fo) ∧
      CO A' sr out ((if sent = true then lettersOf st' (p :: ps) else []) ++ recs) Fo [⟨g.x, ⟨g.x, st', pv, w', t'⟩, b⟩] aks' ∧ OwnF 135 4 Pt.cells A' pv (p :: ps) F' ∧ (∀ y ∈ F', 126 ≤ y ∧ y ∉ Fo) ∧ (∀ y ∈ Fo, A.next ≤ y) ∧ (∀ m ∈ recs, m.k = 5) ∧ recs.length ≤ j ∧ Keeps A A' [118, 119, 120] ∧ A'.next ≤ A.next + 1200 + 10 * j ∧ Fine A' ∧ n = 10 - j)
  refine w45 _ _ (c45 (I := I) ?_) ?_
  · rintro n id vals A' d (⟨rfl, sv, Fs, rfl, hsv, KA, nA, fA, rfl⟩ | ⟨rfl, sv, rfl, hT2, rfl⟩ | ⟨rfl, j, kv, l, Fk, recs, out, Fo, pv, F', aks', rfl, hj, hkv, hl8, hkl, hFk, hco', hp', hF', hFo, hrecs, hrl, KA, nA, fA, rfl⟩) hd
    · -- the one transaction's tick
      rw [l45_0]
      have hd : [d 0, d 12, d 13, d 14] = _ := hd
      simp only [List.cons.injEq, and_true] at hd
      obtain ⟨d0, d12, d13, d14⟩ := hd
      obtain ⟨r, o, a1, _, a2⟩ := hsv.at etN (i := 0) (p := g.x) rfl
      simp only [d0, d12, d13, d14, bin_lss, pureW_some]
      refine forkW_bool.2 ⟨fun _ => ?_, fun h => absurd h (by decide)⟩
      simp only [a1, a2, pureW_some]
      have lA := KA.next
      have hcoA := hco.keeps KA (by simp) (by simp)
      refine allocP_made zero24 fA (by omega) rfl fun A1 m1 => ?_
      have n1 := m1.next
      have k1 := m1.keeps fA
      refine m1.row1.store m1.fine (by omega) (st_24 _ _ _) rfl (by simp [Value.cells, Nm.cells]) rfl fun A2 rx k2 n2 f2 => ?_
      have rx : Go.Abs.Row1 A2 A'.next g.x.cells 24 := rx
      have K2 : Keeps A' A2 [] := k1.trans k2 (by simp)
      refine allocP_made zero50 f2 (by omega) rfl fun A3 m3 => ?_
      have n3 := m3.next
      have k3 := m3.keeps f2
      have K3 : Keeps A' A3 [] := K2.trans k3 (by simp)
      have K03 : Keeps A A3 [] := KA.trans K3 (by simp)
      have hco3 := hco.keeps K03 (by simp) (by simp)
      have h03 := h0.keeps K03 (by simp)
      have rx3 := rx.keeps k3 (by simp)
      obtain ⟨cl, hrows⟩ := hco3.rows
      have hlook : ∀ {B : AW} {cl : Nat}, OwnM kN vG B 118 [⟨g.x, g, b⟩] cl → lookupA Tryz.prog B 75 (.map (some 118)) (.agg ⟨g.x.cells⟩) false = some (vG g) := fun hm => by
        have := hm.look mtG zero50 g.x false
        rw [look_one] at this
        exact this
      refine freshW_50 m3.row ?_
      simp only [ld_27, cell_row h03.row, cellOf, isT_ptr, isT_int, isT_map, cond_false, pureW_some, nilP_some, fa_79_3, ld_75, cell_row hco3.cr.row, Nat.zero_add, load24 rx3, hlook hrows]
      refine wc46 (hp.keeps K03 (by simp)) (by omega) hn hs hw ht hok m3.fine (by omega) fun A4 v4 F4 o4 hF4 g4 => ?_
      rw [hT]
      have n4 := g4.next
      have l4 := g4.le
      have hv4 := ownF_one o4
      refine freshW_50 (m3.row1.keeps g4.keeps (by simp)).row ?_
      simp only [ex3_0, ex3_1, ex3_2, pureW_some]
      refine st_g (g := ⟨g.x, st', v4, w', t'⟩) (m3.row1.keeps g4.keeps (by simp)) rfl hv4 g4.fine (by omega) fun A5 r5 k5 n5 f5 => ?_
      have K5 : Keeps A3 A5 [A2.next] := (g4.keeps.more (by simp)).trans k5 (by simp)
      have hco5 := hco3.keeps K5 (by simp; omega) (by simp)
      have h05 := h03.keeps K5 (by simp; omega)
      have rx5 := rx3.keeps K5 (by simp; omega)
      obtain ⟨c5, hrows5⟩ := hco5.rows
      have hg5 := ld_g r5 hv4
      have hf5 : fieldA Tryz.prog 50 (vG g) 1 = some (.int .u8 (g.st : Int)) := by
        show fieldA Tryz.prog 50 (.agg ⟨g.cells⟩) 1 = _
        rw [fv_50_1]; rfl
      simp only [eqW_self, ld_27, cell_row h05.row, cellOf, isT_ptr, isT_int, isT_map, cond_false, pureW_some, nilP_some, fa_79_3, ld_75, cell_row hco5.cr.row, Nat.zero_add, load24 rx5, hlook hrows5, hf5, hg5]
      refine hrows5.put mtG f5 (by omega) (k := g.x) (v := ⟨g.x, st', v4, w', t'⟩) fun A6 c6 h6 k6 n6 f6 => ?_
      rw [put_one] at h6
      have hco6 := hco5.put k6 h6
      have r6 := r5.keeps k6 (by simp; omega)
      have h06 := h05.keeps k6 (by simp; omega)
      have o6 := (o4.keeps k5 (fun y hy => by have := hF4 y hy; simp; omega)).keeps k6 (fun y hy => by have := hF4 y hy; simp; omega)
      have K6 : Keeps A A6 [118, 119, 120] := ((K03.more (by simp)).trans K5 (by simp; omega)).trans k6 (by simp)
      simp only [un_not, pureW_some]
      refine forkW_bool.2 ⟨fun hsent => ?_, fun hsent => ?_⟩
      · have hsent : sent = false := by simpa using hsent
        simp only [bin_add, pureW_some]
        rw [show IntKind.i64.wrap (((0 : Nat) : Int) + 1) = ((1 : Nat) : Int) from wrap_i64 (by decide) (by decide)]
        refine cutW_self.2 ⟨20, by omega, .inr (.inl ⟨rfl, sv, rfl, ?_, rfl⟩)⟩
        rw [hsent, if_neg (by simp)]
        exact ⟨.slice none 0 0, [], v4, F4, aks, hco6, o6, fun y hy => ⟨by have := hF4 y hy; omega, by simp⟩, by simp, by simp, by simp, K6, by omega, f6⟩
      · have hsent : sent = true := by simpa using hsent
        have r6e : Go.Abs.Row1 A6 A2.next [.int .u32 (g.x.f : Int), .string g.x.g, .string g.x.b, .int .u8 (st' : Int), .bool false, v4, .int .u32 (w' : Int), .int .u32 (t' : Int)] 50 := r6
        have hn5 : ((st' : Int) == 5) = false := by rcases ts with h | h <;> rw [h] <;> rfl
        simp only [fa_50_1, ld_47, cell_row r6e.row, cellOf, isT_string, isT_int, isT_bool, hv4.noT, cond_false, Nat.zero_add, pureW_some, bin_eql, hn5]
        refine forkW_bool.2 ⟨fun h => (by cases h), fun _ => ?_⟩
        simp only [ld_27, cell_row h06.row, cellOf, isT_ptr, cond_false, pureW_some, ld_g r6 hv4]
        refine wc47 (g := ⟨g.x, st', v4, w', t'⟩) hco6.cr hco6.ow (by simp) (by simp) o6 (by omega) hn ts tw tt hok f6 (by omega) fun A7 out' Fo' c7 o7 hFo7 k7 n7 f7 => ?_
        simp only [bin_add, pureW_some]
        rw [show IntKind.i64.wrap (((0 : Nat) : Int) + 1) = ((1 : Nat) : Int) from wrap_i64 (by decide) (by decide)]
        refine cutW_self.2 ⟨20, by omega, .inr (.inl ⟨rfl, sv, rfl, ?_, rfl⟩)⟩
        rw [hsent, if_pos rfl]
        have hFo' : ∀ y ∈ Fo', A6.next ≤ y := fun y hy => (hFo7 y hy).elim (fun h => by simp at h) id
        refine ⟨out', Fo', v4, F4, aks, ?_, o6.keeps k7 (fun y hy => by have := hF4 y hy; simp; omega), fun y hy => ⟨by have := hF4 y hy; omega, fun h => by have := hFo' y h; have := o6.lt y hy; omega⟩, fun y hy => by have := hFo' y hy; omega, by simp, by simp, K6.trans k7 (by simp), by omega, f7⟩
        have := hco6.row (L' := lettersOf st' (p :: ps)) k7 c7 o7 (fun y hy => by have := hFo' y hy; omega)
        rw [List.append_nil]
        exact this
    · -- all transactions are ticked
      obtain ⟨out, Fo, pv, F', aks', hco', hp', hF', hFo, _, _, KA, nA, fA⟩ := hT2
      rw [l45_0]
      have hd : [d 0, d 12, d 13, d 14] = _ := hd
      simp only [List.cons.injEq, and_true] at hd
      obtain ⟨d0, d12, d13, d14⟩ := hd
      simp only [d0, d12, d13, d14, bin_lss, pureW_some]
      refine forkW_bool.2 ⟨fun h => absurd h (by decide), fun _ => ?_⟩
      have lA := KA.next
      have h0' := h0.keeps KA (by simp; omega)
      have hcr' : Go.Abs.Row1 A' 120 [.pointer (some ⟨67, 0, none⟩), .pointer (some ⟨11, 0, none⟩), .int .i64 8, .map (some 118), .int .u64 (sr : Int), .map (some 119), out, .bool false] 79 := hco'.cr
      simp only [ld_27, cell_row h0'.row, cellOf, isT_ptr, isT_int, isT_map, cond_false, pureW_some, nilP_some, fa_79_5, ld_77, cell_row hcr'.row, Nat.zero_add]
      refine w49 _ _ cutn ?_
      rw [e49]
      refine newP_made (cs := [.map (some 119)]) fA (by omega) rfl fun A1 m1 => ?_
      have n1 := m1.next
      have k1 := m1.keeps fA
      obtain ⟨ca, hasks⟩ := hco'.asks
      have hlen8 : aks'.length = 8 := by have := congrArg List.length hco'.a8; simpa using this
      refine wc48 (P := fun y => y ∈ [1, 2, 3, 4, 5, 6, 7, 8]) m1.row1 (hasks.keeps k1 (by simp)) hlen8 (fun e he => by rw [← hco'.a8]; exact List.mem_map.2 ⟨e, he, rfl⟩) m1.fine (by omega) fun A2 kv Fk l ok hl8 hPl hFk k2 n2 f2 => ?_
      have K2 : Keeps A' A2 [] := k1.trans k2 (by simp)
      have hrd : RdE 0 bC A2 kv l Fk := OwnE.rd (fun _ => rfl) ok
      have hlen := etB.lenR (B := A2) hrd
      rw [hl8] at hlen
      simp only [hlen, pureW_some]
      have hol := hco'.ow.lt
      refine cutW_self.2 ⟨10, by omega, .inr (.inr ⟨rfl, 0, kv, l, Fk, [], out, Fo, pv, F', aks', rfl, by omega, hrd, hl8, hPl, fun y hy => ⟨by have := hFk y hy; omega, fun h => by have := hFk y hy; have := hol y h; omega⟩, hco'.keeps K2 (by simp) (by simp), hp'.keeps K2 (by simp), hF', hFo, by simp, by simp, KA.trans K2 (by simp), by omega, f2, rfl⟩)⟩
    · -- whom it asks
      rw [l45_3]
      have hd : [d 0, d 65, d 66, d 67] = _ := hd
      simp only [List.cons.injEq, and_true] at hd
      obtain ⟨d0, d65, d66, d67⟩ := hd
      simp only [d0, d65, d66, d67, bin_lss, pureW_some, forkW_dec]
      have lA := KA.next
      refine ⟨fun hlt => ?_, fun hge => hk A' recs ⟨out, Fo, pv, F', aks', hco', hp', hF', hFo, hrecs, by omega, KA, by omega, fA⟩⟩
      have hlt : j < l.length := by omega
      have hlj := List.getElem?_eq_getElem hlt
      have hmem := List.getElem_mem hlt
      generalize l[j] = nd at hlj hmem
      have hnd := hkl nd hmem
      obtain ⟨ai, a1, a2⟩ := etB.at hkv hlj rfl
      have h0' := h0.keeps KA (by simp; omega)
      have hcr' : Go.Abs.Row1 A' 120 [.pointer (some ⟨67, 0, none⟩), .pointer (some ⟨11, 0, none⟩), .int .i64 8, .map (some 118), .int .u64 (sr : Int), .map (some 119), out, .bool false] 79 := hco'.cr
      obtain ⟨ca, hasks⟩ := hco'.asks
      obtain ⟨e, hee, hlk, hek⟩ := look_key (es := aks') (n := nd) (by rw [hco'.a8]; exact hnd)
      have hev := hco'.av e hee
      have hlook : lookupA Tryz.prog A' 77 (.map (some 119)) (.int .u8 (nd : Int)) false = some (.int .i64 e.v) := by
        have := hasks.look mtA zero3 nd false
        rw [hlk] at this
        exact this
      have hkeys : ∀ v c, (putE (fun a b => a == b) aks' nd v c).map En.k = [1, 2, 3, 4, 5, 6, 7, 8] := fun v c => by
        rw [(put_keys nd v c aks' (fun {a b} => by simp) ⟨e, hee, by simpa using hek.symm⟩).1]; exact hco'.a8
      simp only [a1, a2, pureW_some, ld_27, cell_row h0'.row, cellOf, isT_ptr, isT_int, isT_map, cond_false, nilP_some, fa_79_5, ld_77, cell_row hcr'.row, Nat.zero_add, hlook, bin_gtr, bin_sub]
      have hj1 : IntKind.i64.wrap ((j : Int) + 1) = ((j + 1 : Nat) : Int) := wrap_i64 (by omega) (by omega)
      refine forkW_dec.2 ⟨fun hpos => ?_, fun hneg => ?_⟩
      · rw [wrap_i64 (n := e.v - 1) (by omega) (by omega)]
        refine hasks.put mtA fA (by omega) (k := nd) (v := e.v - 1) fun A2 c2 h2 k2 n2 f2 => ?_
        have hco2 := hco'.ask k2 h2 (hkeys _ _) (fun e' he' => by
          rcases putE_mem e' he' with h | h
          · exact hco'.av e' h
          · omega)
        simp only [bin_add, pureW_some, hj1]
        have kF : ∀ {G : List Nat}, (∀ y ∈ G, 126 ≤ y) → ∀ y ∈ G, y ∉ [119] := fun hG y hy => by have := hG y hy; simp; omega
        exact cutW_self.2 ⟨10 - (j + 1), by omega, .inr (.inr ⟨rfl, j + 1, kv, l, Fk, recs, out, Fo, pv, F', _, rfl, by omega, hkv.keeps k2 (kF fun y hy => by have := (hFk y hy).1; omega), hl8, hkl, hFk, hco2, hp'.keeps k2 (kF fun y hy => (hF' y hy).1), hF', hFo, hrecs, by omega, KA.trans k2 (by simp), by omega, f2, rfl⟩)⟩
      · refine hasks.put mtA fA (by omega) (k := nd) (v := 2) fun A2 c2 h2 k2 n2 f2 => ?_
        have hco2 := hco'.ask k2 h2 (hkeys _ _) (fun e' he' => by
          rcases putE_mem e' he' with h | h
          · exact hco'.av e' h
          · omega)
        have kF : ∀ {G : List Nat}, (∀ y ∈ G, 126 ≤ y) → ∀ y ∈ G, y ∉ [119] := fun hG y hy => by have := hG y hy; simp; omega
        have h02 := h0'.keeps k2 (by simp; omega)
        have hoo := hco2.one
        have hcr2 : Go.Abs.Row1 A2 120 [.pointer (some ⟨67, 0, none⟩), .pointer (some ⟨11, 0, none⟩), .int .i64 8, .map (some 118), .int .u64 (sr : Int), .map (some 119), out, .bool false] 79 := hco2.cr
        simp only [ld_27, cell_row h02.row, cellOf, isT_ptr, isT_int, isT_map, isT_bool, hoo.noT, cond_false, pureW_some, nilP_some, fa_79_6, ld_41, cell_row hcr2.row, Nat.zero_add, ba38r, ba46r]
        refine newMl (m := recM nd) f2 (by omega) fun A3 m3 => ?_
        have n3 := m3.next
        have k3 := m3.keeps f2
        have h03 := h02.keeps k3 (by simp)
        have hco3 := hco2.keeps k3 (by simp) (by simp)
        have hcr3 : Go.Abs.Row1 A3 120 [.pointer (some ⟨67, 0, none⟩), .pointer (some ⟨11, 0, none⟩), .int .i64 8, .map (some 118), .int .u64 (sr : Int), .map (some 119), out, .bool false] 79 := hco3.cr
        refine freshW_41 m3.row ?_
        simp only [eqW_self, ld_27, cell_row h03.row, cellOf, isT_ptr, isT_int, isT_map, isT_bool, hoo.noT, cond_false, pureW_some, nilP_some, fa_79_6, ld_41, cell_row hcr3.row, Nat.zero_add, ba38r, ba46r]
        have hll : ((if sent = true then lettersOf st' (p :: ps) else []) ++ recs).length < 1000000 := by
          rw [List.length_append]
          have : (if sent = true then lettersOf st' (p :: ps) else []).length ≤ 8 := by
            split
            · rw [letters_len]; exact hl
            · simp
          omega
        refine OwnE.append etM hco3.ow m3.row1 m3.fine (by omega) hll fun out4 A4 Fo4 o4 k4 hFo4 n4 f4 => ?_
        have h119 : 120 ∉ Fo := fun h => by have := hco'.fo _ h; omega
        have hcr4 := hcr3.keeps k4 h119
        have h04 : Go.Abs.Row1 A4 r0 [.pointer (some ⟨120, 0, none⟩)] 27 := h03.keeps k4 (fun h => by have := hFo _ h; omega)
        have ho4 := ownE_one o4
        simp only [eqW_self, ld_27, cell_row h04.row, cellOf, isT_ptr, cond_false, pureW_some, nilP_some, fa_79_6, Nat.zero_add]
        refine hcr4.store f4 (by omega) (st_41 _ _ _) (by obtain ⟨_, _, _, rfl⟩ := ho4; rfl) (by simp) (by obtain ⟨_, _, _, rfl⟩ := ho4; rfl) fun A5 r5 k5 n5 f5 => ?_
        have c5 : CR A5 120 67 11 118 119 sr out4 := by obtain ⟨_, _, _, rfl⟩ := ho4; exact r5
        have hFo4' : ∀ y ∈ Fo4, A.next ≤ y := fun y hy => by
          rcases hFo4 y hy with h | h
          · exact hFo y h
          · omega
        have K35 : Keeps A3 A5 (120 :: Fo) := (k4.more (fun x hx => .inl (List.mem_cons_of_mem _ hx))).trans k5 (fun x hx => .inl (by simp at hx; simp [hx]))
        have hco5 := hco3.row (L' := (if sent = true then lettersOf st' (p :: ps) else []) ++ (recs ++ [recM nd])) K35 c5 (by rw [← List.append_assoc]; exact o4.keeps k5 (fun y hy => by have := hFo4' y hy; simp; omega)) (fun y hy => by have := hFo4' y hy; omega)
        have kG : ∀ {G : List Nat}, (∀ y ∈ G, 126 ≤ y ∧ y ∉ Fo) → ∀ y ∈ G, y ∉ 120 :: Fo := fun hG y hy h => by
          rcases List.mem_cons.1 h with h | h
          · have := (hG y hy).1; omega
          · exact (hG y hy).2 h
        simp only [bin_add, pureW_some, hj1]
        have hFk' : ∀ y ∈ Fk, 126 ≤ y ∧ y ∉ Fo := fun y hy => ⟨by have := (hFk y hy).1; omega, (hFk y hy).2⟩
        have hkf := hkv.fam
        have hpl := hp'.lt
        refine cutW_self.2 ⟨10 - (j + 1), by omega, .inr (.inr ⟨rfl, j + 1, kv, l, Fk, recs ++ [recM nd], out4, Fo4, pv, F', _, rfl, by omega, ((hkv.keeps k2 (kF fun y hy => (hFk' y hy).1)).keeps k3 (by simp)).keeps K35 (kG hFk'), hl8, hkl, fun y hy => ⟨(hFk y hy).1, fun h => ?_⟩, hco5, ((hp'.keeps k2 (kF fun y hy => (hF' y hy).1)).keeps k3 (by simp)).keeps K35 (kG hF'), fun y hy => ⟨(hF' y hy).1, fun h => ?_⟩, hFo4', fun m hm => ?_, by rw [List.length_append, List.length_singleton]; omega, ?_, by omega, f5, rfl⟩)⟩
        · rcases hFo4 y h with h1 | h1
          · exact (hFk y hy).2 h1
          · have := hkf y hy; omega
        · rcases hFo4 y h with h1 | h1
          · exact (hF' y hy).2 h1
          · have := hpl y hy; omega
        · rcases List.mem_append.1 hm with h | h
          · exact hrecs m h
          · rw [List.mem_singleton.1 h]; rfl
        · refine ((KA.trans k2 (by simp)).trans k3 (by simp)).trans K35 (fun x hx => ?_)
          rcases List.mem_cons.1 hx with h | h
          · exact .inl (by simp [h])
          · exact .inr (hFo x h)
  · rw [e45]
    simp only [ld_27, cell_row h0.row, cellOf, isT_ptr, cond_false, pureW_some]
    obtain ⟨cl, hrows⟩ := hco.rows
    refine wc38 hco.cr hrows hf (by omega) fun A1 sv Fs hsv hFs k1 n1 f1 => ?_
    have hlen := hsv.len (B := A1) etN
    simp only [hlen, pureW_some]
    exact cutW_self.2 ⟨30, .inl ⟨rfl, sv, Fs, rfl, hsv, k1, by omega, f1, rfl⟩⟩
theorem wc16 {A : AW} {sr b : Nat} {g : GV} {F : List Nat} {p : Pt} {ps : List Pt} {aks : List (En Nat Int)} {K : Value → AW → Prop} (hco : CO A sr (.slice none 0 0) [] [] [⟨g.x, g, b⟩] aks) (hp : OwnF 135 4 Pt.cells A g.pv (p :: ps) F) (hF : ∀ y ∈ F, 126 ≤ y)
    (hl : (p :: ps).length ≤ 8) (hn : ∀ q ∈ p :: ps, q.n < 256) (hs : g.st = 2 ∨ g.st = 4) (hw : g.w ≤ 3) (ht : g.t ≤ 5) (hok : okD g.x (p :: ps) = true) (hf : Fine A) (hA : A.next + 4010 < maxId)
    (hk : ∀ A' recs, Ticked A A' sr b g.x (tickG g.st g.w g.t).1.1 (tickG g.st g.w g.t).1.2.1 (tickG g.st g.w g.t).1.2.2 (if (tickG g.st g.w g.t).2 = true then lettersOf (tickG g.st g.w g.t).1.1 (p :: ps) else []) recs (p :: ps) 2001 → K (.int .i64 0) A') :
    Wc Tryz.prog theX W0 m0 16 [.pointer (some ⟨120, 0, none⟩)] A K := by
  have hlo := hco.lo
  refine w16 _ _ cutn ?_
  rw [e16]
  refine newP_made (cs := [.pointer (some ⟨120, 0, none⟩)]) hf (by omega) rfl fun A1 m1 => ?_
  have n1 := m1.next
  have k1 := m1.keeps hf
  have hco1 := hco.keeps k1 (by simp) (by simp)
  simp only [ld_27, cell_row m1.row1.row, cellOf, isT_ptr, cond_false, pureW_some]
  refine wc32 hco1.cr hco1.one hco1.env (an_fun (dyn45 A1 _) rfl (wc45 hco1 m1.row1 (by omega) (hp.keeps k1 (by simp)) hF hl hn hs hw ht hok m1.fine (by omega) fun A2 recs hT => ?_))
  obtain ⟨out, Fo, pv, F', aks', h1, h2, h3, h4, h5, h6, h7, h8, h9⟩ := hT
  exact hk A2 recs ⟨out, Fo, pv, F', aks', h1, h2, h3, fun y hy => by have := h4 y hy; omega, h5, h6, (k1.more (by simp)).trans h7 (by simp), by omega, h9⟩
end
def theMg : List FuncId := [52, 64]
def crcNums : List Int := [0, 274646895, 549293790, 820201905, 1098587580, 1361435347, 1640403810, 1905808397, 2197175160, 2460548119, 2722870694, 2987750089, 3280807620, 3553878443, 3811616794, 4084100981]
def rowsG : List (Nat × List Value × TypeId) := [(1, crcNums.map (Value.int .u32 ·), 302)]
noncomputable def AW0 (cs : List Value) (e : TypeId) : AW := wR 7 rowsG [((0, 0), some (cs, e)), ((0, 0), none)]
noncomputable def AW1 (cs : List Value) (e : TypeId) : AW := ⟨(.node none (.node (some (.row [(.int .u32 0), (.int .u32 274646895), (.int .u32 549293790), (.int .u32 820201905), (.int .u32 1098587580), (.int .u32 1361435347), (.int .u32 1640403810), (.int .u32 1905808397), (.int .u32 2197175160), (.int .u32 2460548119), (.int .u32 2722870694), (.int .u32 2987750089), (.int .u32 3280807620), (.int .u32 3553878443), (.int .u32 3811616794), (.int .u32 4084100981)] 302 1 0 true)) (.node none (.node (some (.row cs e 9 0 true)) .nil .nil) (.node (some (.row [(.map (some 10)), (.int .i64 200000), (.int .i64 0), (.bool false)] 70 11 0 false)) .nil .nil)) .nil) (.node none .nil (.node none (.node (some (.map [] 0 false)) .nil .nil) .nil))), 12, (.node none (.node none .nil (.node none (.node (some [7, 8]) .nil .nil) .nil)) .nil)⟩
noncomputable def AW2 (cs : List Value) (e : TypeId) : AW := ⟨(.node none (.node (some (.row [(.int .u32 0), (.int .u32 274646895), (.int .u32 549293790), (.int .u32 820201905), (.int .u32 1098587580), (.int .u32 1361435347), (.int .u32 1640403810), (.int .u32 1905808397), (.int .u32 2197175160), (.int .u32 2460548119), (.int .u32 2722870694), (.int .u32 2987750089), (.int .u32 3280807620), (.int .u32 3553878443), (.int .u32 3811616794), (.int .u32 4084100981)] 302 1 0 true)) (.node none (.node (some (.row cs e 9 0 true)) (.node (some (.map [] 0 false)) (.node (some (.row [(.int .u8 0)] 5 31 0 false)) (.node (some (.row [(.string ⟨⟨[106, 46, 110, 101, 119]⟩⟩)] 9 63 0 false)) .nil .nil) (.node (some (.row [(.pointer (some ⟨11, 0, none⟩))] 25 95 0 false)) .nil .nil)) (.node (some (.row [(.int .u8 0), (.int .u8 0), (.int .u8 0), (.int .u8 0), (.int .u8 0), (.int .u8 53), (.int .u8 118), (.int .u8 114), (.int .u8 69)] 5 47 0 false)) (.node (some (.row [(.slice (some ⟨84, 0, none⟩) 1 18446744073709551617)] 111 79 0 false)) .nil .nil) (.node (some (.row [(.int .i64 2)] 3 111 0 false)) .nil .nil))) (.node (some (.row [(.map (some 10))] 68 23 0 false)) (.node (some (.row [(.func (.func 113) ⟨[]⟩ ⟨[(.pointer (some ⟨14, 0, none⟩))]⟩), (.func (.func 115) ⟨[]⟩ ⟨[(.pointer (some ⟨14, 0, none⟩))]⟩), (.func (.func 117) ⟨[]⟩ ⟨[(.pointer (some ⟨14, 0, none⟩))]⟩)] 56 39 0 false)) (.node (some (.deferred none)) .nil .nil) (.node (some (.row [(.string ⟨⟨[0, 0, 0, 0, 6, 221, 145, 211, 99, 0, 0, 0, 1, 0, 0, 244, 238, 107, 242]⟩⟩), (.int .i64 0)] 114 103 0 false)) .nil .nil)) (.node (some (.mit (some 10) 0 [] 0)) (.node (some (.row [(.int .u8 0)] 5 87 0 false)) .nil .nil) (.node (some (.map [{ key := (.int .u8 1), val := (.int .i64 0), born := 0 }, { key := (.int .u8 2), val := (.int .i64 0), born := 1 }, { key := (.int .u8 3), val := (.int .i64 0), born := 2 }, { key := (.int .u8 4), val := (.int .i64 0), born := 3 }, { key := (.int .u8 5), val := (.int .i64 0), born := 4 }, { key := (.int .u8 6), val := (.int .i64 0), born := 5 }, { key := (.int .u8 7), val := (.int .i64 0), born := 6 }, { key := (.int .u8 8), val := (.int .i64 0), born := 7 }] 8 false)) .nil .nil)))) (.node (some (.row [(.map (some 10)), (.int .i64 200000), (.int .i64 0), (.bool false)] 70 11 0 false)) (.node (some (.deferred none)) (.node (some (.row [(.int .u8 0), (.int .u8 0), (.int .u8 0), (.int .u8 0), (.int .u8 0), (.int .u8 53), (.int .u8 118), (.int .u8 114), (.int .u8 69)] 5 35 0 false)) (.node (some (.row [(.pointer (some ⟨22, 0, none⟩)), (.int .u32 1), (.map (some 66))] 121 67 0 false)) .nil .nil) (.node (some (.mit (some 10) 2 [1] 2)) .nil .nil)) (.node (some (.row [(.pointer (some ⟨11, 0, none⟩))] 25 51 0 false)) (.node (some (.row [(.string ⟨⟨[106, 46, 48, 48, 48, 48, 48, 48, 48, 49]⟩⟩)] 9 83 0 false)) .nil .nil) (.node (some (.row [(.pointer (some ⟨11, 0, none⟩))] 25 115 0 false)) .nil .nil))) (.node (some (.mit (some 10) 0 [] 0)) (.node (some (.row [(.int .u8 0)] 5 43 0 false)) (.node (some (.row [(.int .u8 0), (.int .u8 0), (.int .u8 0), (.int .u8 1)] 5 75 0 false)) .nil .nil) (.node (some (.row [(.pointer (some ⟨11, 0, none⟩))] 25 107 0 false)) .nil .nil)) (.node (some (.row [(.string ⟨⟨[106, 46]⟩⟩), (.string ⟨⟨[48, 48, 48, 48, 48, 48, 48]⟩⟩), (.string ⟨⟨[49]⟩⟩)] 9 59 0 false)) (.node (some (.row [(.int .u8 0), (.int .u8 0), (.int .u8 0), (.int .u8 0), (.int .u8 6), (.int .u8 221), (.int .u8 145), (.int .u8 211), (.int .u8 99)] 5 91 0 false)) .nil .nil) (.node (some (.deferred none)) .nil .nil))))) (.node none (.node none (.node (some (.row [(.map (some 10))] 68 17 0 false)) (.node (some (.row [(.int .u8 0), (.int .u8 0), (.int .u8 0), (.int .u8 0), (.int .u8 0)] 5 33 0 false)) (.node (some (.row [(.string ⟨⟨[0, 0, 0, 0, 0, 53, 118, 114, 69, 0, 0, 0, 0]⟩⟩), (.int .i64 13)] 114 65 0 false)) .nil .nil) (.node (some (.row [(.string ⟨⟨[0, 0, 0, 0, 6, 221, 145, 211, 99, 0, 0, 0, 1, 0, 0, 244, 238, 107, 242]⟩⟩)] 9 97 0 false)) .nil .nil)) (.node (some (.row [(.int .u8 0), (.int .u8 0), (.int .u8 0), (.int .u8 0)] 5 49 0 false)) (.node (some (.loop ⟨.exhausted, none, 242, ⟨13, (.node (some (.slice none 0 0)) (.node (some (.func (.func 180) ⟨[]⟩ ⟨[(.pointer (some ⟨78, 0, none⟩))]⟩)) .nil .nil) (.node (some (.pointer (some ⟨79, 0, none⟩))) (.node (some (.slice none 0 0)) .nil .nil) (.node (some (.func (.func 180) ⟨[]⟩ ⟨[(.pointer (some ⟨78, 0, none⟩))]⟩)) .nil .nil)))⟩, [7], (cd 242 [1, 0, 1, 0, 0]), (cd 242 [1, 0, 1, 0, 1]), 80⟩)) .nil .nil) (.node (some (.row [(.pointer (some ⟨113, 0, none⟩)), (.slice (some ⟨114, 0, none⟩) 10 18446744073709551626)] 300 113 0 false)) .nil .nil))) (.node (some (.deferred none)) (.node (some (.row [(.int .u8 0), (.string ⟨⟨[]⟩⟩)] 128 41 0 false)) (.node (some (.mit (some 66) 0 [] 0)) .nil .nil) (.node (some (.row [(.pointer (some ⟨105, 0, none⟩)), (.slice (some ⟨106, 0, none⟩) 10 18446744073709551626)] 300 105 0 false)) .nil .nil)) (.node (some (.row [(.string ⟨⟨[106, 46, 110, 101, 119]⟩⟩)] 9 57 0 false)) (.node (some (.row [(.int .u8 0), (.int .u8 0), (.int .u8 0), (.int .u8 0), (.int .u8 6)] 5 89 0 false)) .nil .nil) (.node (some (.row [(.map (some 66))] 119 121 0 false)) .nil .nil)))) (.node (some (.row [(.map (some 12)), (.int .i64 200000), (.int .i64 0), (.bool false)] 70 13 0 false)) (.node (some (.mit (some 10) 0 [] 0)) (.node (some (.row [(.int .u8 0), (.int .u8 0), (.int .u8 0), (.int .u8 0)] 5 37 0 false)) (.node (some (.row [(.map (some 66))] 119 69 0 false)) .nil .nil) (.node (some (.row [(.pointer (some ⟨11, 0, none⟩))] 25 101 0 false)) .nil .nil)) (.node (some (.row [(.string ⟨⟨[0, 0, 0, 0, 0, 53, 118, 114, 69, 0, 0, 0, 0]⟩⟩)] 9 53 0 false)) (.node (some (.row [(.int .u8 0), (.string ⟨⟨[0, 0, 0, 1, 0, 0]⟩⟩)] 128 85 0 false)) .nil .nil) (.node (some (.row [(.string ⟨⟨[0, 0, 0, 0, 0, 53, 118, 114, 69, 0, 0, 0, 0]⟩⟩), (.int .i64 13)] 114 117 0 false)) .nil .nil))) (.node (some (.row [(.int .u8 0), (.string ⟨⟨[]⟩⟩)] 128 29 0 false)) (.node (some (.row [(.int .u8 0), (.int .u8 0), (.int .u8 0), (.int .u8 0), (.int .u8 0)] 5 45 0 false)) (.node (some (.row [(.int .u8 0), (.int .u8 0), (.int .u8 0), (.int .u8 1), (.int .u8 0), (.int .u8 0)] 5 77 0 false)) .nil .nil) (.node (some (.row [(.string ⟨⟨[106, 46, 48, 48, 48, 48, 48, 48, 48, 50]⟩⟩)] 9 109 0 false)) .nil .nil)) (.node (some (.row [(.int .u8 106), (.int .u8 46), (.int .u8 48), (.int .u8 48), (.int .u8 48), (.int .u8 48), (.int .u8 48), (.int .u8 48), (.int .u8 48), (.int .u8 49)] 5 61 0 true)) (.node (some (.row [(.int .u8 0), (.int .u8 0), (.int .u8 0), (.int .u8 1), (.int .u8 0), (.int .u8 0), (.int .u8 244), (.int .u8 238), (.int .u8 107), (.int .u8 242)] 5 93 0 false)) .nil .nil) (.node (some (.mit (some 66) 0 [] 0)) .nil .nil)))))) (.node none (.node none (.node none (.node (some (.row [(.map (some 15)), (.int .i64 200000), (.int .i64 0), (.bool false)] 70 16 0 false)) (.node (some (.row [(.int .u8 0), (.int .u8 0), (.int .u8 0), (.int .u8 0)] 5 32 0 false)) (.node (some (.row [(.string ⟨⟨[106, 46, 48, 48, 48, 48, 48, 48, 48, 49]⟩⟩)] 9 64 0 false)) .nil .nil) (.node (some (.row [(.string ⟨⟨[106, 46, 110, 101, 119]⟩⟩)] 9 96 0 false)) .nil .nil)) (.node (some (.row [] 5 48 0 false)) (.node (some (.deferred none)) .nil .nil) (.node (some (.row [(.string ⟨⟨[106, 46]⟩⟩), (.string ⟨⟨[48, 48, 48, 48, 48, 48, 48]⟩⟩), (.string ⟨⟨[49]⟩⟩)] 9 112 0 false)) .nil .nil))) (.node (some (.row [(.slice none 0 0)] 111 24 0 false)) (.node (some (.row [(.func (.func 113) ⟨[]⟩ ⟨[(.pointer (some ⟨14, 0, none⟩))]⟩), (.func (.func 115) ⟨[]⟩ ⟨[(.pointer (some ⟨14, 0, none⟩))]⟩), (.func (.func 117) ⟨[]⟩ ⟨[(.pointer (some ⟨14, 0, none⟩))]⟩)] 56 40 0 false)) (.node (some (.loop ⟨.exhausted, none, 223, ⟨13, (.node (some (.slice none 0 0)) (.node (some (.func (.func 207) ⟨[]⟩ ⟨[(.pointer (some ⟨69, 0, none⟩))]⟩)) .nil .nil) (.node (some (.pointer (some ⟨70, 0, none⟩))) (.node (some (.slice none 0 0)) .nil .nil) (.node (some (.func (.func 207) ⟨[]⟩ ⟨[(.pointer (some ⟨69, 0, none⟩))]⟩)) .nil .nil)))⟩, [7], (cd 223 [1, 0, 1, 0, 0]), (cd 223 [1, 0, 1, 0, 1]), 71⟩)) .nil .nil) (.node (some (.row [(.string ⟨⟨[106, 46]⟩⟩), (.string ⟨⟨[48, 48, 48, 48, 48, 48, 48]⟩⟩), (.string ⟨⟨[50]⟩⟩)] 9 104 0 false)) .nil .nil)) (.node (some (.row [(.pointer (some ⟨11, 0, none⟩))] 25 56 0 false)) (.node (some (.row [(.int .u8 0), (.int .u8 0), (.int .u8 0), (.int .u8 6)] 5 88 0 false)) .nil .nil) (.node (some (.row [(.pointer (some ⟨67, 0, none⟩)), (.pointer (some ⟨11, 0, none⟩)), (.int .i64 8), (.map (some 118)), (.int .u64 1), (.map (some 119)), (.slice none 0 0), (.bool false)] 79 120 0 false)) .nil .nil)))) (.node (some (.map [] 0 false)) (.node (some (.loop ⟨.exhausted, none, 242, ⟨13, (.node (some (.slice none 0 0)) (.node (some (.func (.func 180) ⟨[]⟩ ⟨[(.pointer (some ⟨17, 0, none⟩))]⟩)) .nil .nil) (.node (some (.pointer (some ⟨18, 0, none⟩))) (.node (some (.slice none 0 0)) .nil .nil) (.node (some (.func (.func 180) ⟨[]⟩ ⟨[(.pointer (some ⟨17, 0, none⟩))]⟩)) .nil .nil)))⟩, [7], (cd 242 [1, 0, 1, 0, 0]), (cd 242 [1, 0, 1, 0, 1]), 19⟩)) (.node (some (.row [] 5 36 0 false)) (.node (some (.row [.nilFunc, (.func (.func 57) ⟨[(.pointer (some ⟨67, 0, none⟩))]⟩ ⟨[]⟩), (.func (.func 58) ⟨[(.pointer (some ⟨67, 0, none⟩))]⟩ ⟨[]⟩)] 124 68 0 false)) .nil .nil) (.node (some (.row [(.string ⟨⟨[0, 0, 0, 0, 0, 53, 118, 114, 69, 0, 0, 0, 0]⟩⟩), (.int .i64 13)] 114 100 0 false)) .nil .nil)) (.node (some (.row [(.string ⟨⟨[106, 46, 110, 101, 119]⟩⟩)] 9 52 0 false)) (.node (some (.row [(.string ⟨⟨[106, 46, 48, 48, 48, 48, 48, 48, 48, 49]⟩⟩)] 9 84 0 false)) .nil .nil) (.node (some (.row [(.string ⟨⟨[106, 46, 48, 48, 48, 48, 48, 48, 48, 49]⟩⟩)] 9 116 0 false)) .nil .nil))) (.node (some (.row [(.int .i64 1)] 3 28 0 false)) (.node (some (.row [(.int .u8 0), (.int .u8 0), (.int .u8 0), (.int .u8 0)] 5 44 0 false)) (.node (some (.row [(.int .u8 0), (.int .u8 0)] 5 76 0 false)) .nil .nil) (.node (some (.row [(.string ⟨⟨[106, 46, 110, 101, 119]⟩⟩)] 9 108 0 false)) .nil .nil)) (.node (some (.row [(.pointer (some ⟨60, 0, none⟩)), (.slice (some ⟨61, 0, none⟩) 10 18446744073709551626)] 300 60 0 false)) (.node (some (.row [(.int .u8 0), (.int .u8 0), (.int .u8 0), (.int .u8 1), (.int .u8 0), (.int .u8 0)] 5 92 0 false)) .nil .nil) (.node (some (.loop ⟨.exhausted, none, 223, ⟨13, (.node (some (.slice none 0 0)) (.node (some (.func (.func 207) ⟨[]⟩ ⟨[(.pointer (some ⟨121, 0, none⟩))]⟩)) .nil .nil) (.node (some (.pointer (some ⟨122, 0, none⟩))) (.node (some (.slice none 0 0)) .nil .nil) (.node (some (.func (.func 207) ⟨[]⟩ ⟨[(.pointer (some ⟨121, 0, none⟩))]⟩)) .nil .nil)))⟩, [7], (cd 223 [1, 0, 1, 0, 0]), (cd 223 [1, 0, 1, 0, 1]), 123⟩)) .nil .nil))))) (.node none (.node (some (.map [{ key := (.string ⟨⟨[106, 46, 48, 48, 48, 48, 48, 48, 48, 50]⟩⟩), val := (.agg ⟨[(.string ⟨⟨[0, 0, 0, 0, 6, 221, 145, 211, 99, 0, 0, 0, 1, 0, 0, 244, 238, 107, 242]⟩⟩), (.int .i64 19)]⟩), born := 3 }] 4 false)) (.node (some (.row [(.slice none 0 0)] 111 18 0 false)) (.node (some (.row [(.int .u8 0), (.int .u8 0), (.int .u8 0), (.int .u8 0), (.int .u8 0), (.int .u8 53), (.int .u8 118), (.int .u8 114), (.int .u8 69)] 5 34 0 false)) (.node (some (.map [] 0 false)) .nil .nil) (.node (some (.row [(.string ⟨⟨[]⟩⟩), (.int .i64 0)] 114 98 0 false)) .nil .nil)) (.node (some (.row [(.int .u8 0), (.int .u8 0), (.int .u8 0), (.int .u8 0), (.int .u8 0), (.int .u8 53), (.int .u8 118), (.int .u8 114), (.int .u8 69), (.int .u8 0), (.int .u8 0), (.int .u8 0), (.int .u8 0)] 5 47 0 false)) (.node (some (.mit (some 10) 2 [1] 2)) .nil .nil) (.node (some (.row [(.int .u8 106), (.int .u8 46), (.int .u8 48), (.int .u8 48), (.int .u8 48), (.int .u8 48), (.int .u8 48), (.int .u8 48), (.int .u8 48), (.int .u8 49)] 5 114 0 true)) .nil .nil))) (.node (some (.loop ⟨.exhausted, none, 242, ⟨13, (.node (some (.slice none 0 0)) (.node (some (.func (.func 180) ⟨[]⟩ ⟨[(.pointer (some ⟨23, 0, none⟩))]⟩)) .nil .nil) (.node (some (.pointer (some ⟨24, 0, none⟩))) (.node (some (.slice none 0 0)) .nil .nil) (.node (some (.func (.func 180) ⟨[]⟩ ⟨[(.pointer (some ⟨23, 0, none⟩))]⟩)) .nil .nil)))⟩, [7], (cd 242 [1, 0, 1, 0, 0]), (cd 242 [1, 0, 1, 0, 1]), 25⟩)) (.node (some (.row [(.int .u8 0), (.string ⟨⟨[]⟩⟩)] 128 42 0 false)) (.node (some (.row [(.int .u8 0), (.int .u8 0), (.int .u8 0), (.int .u8 1)] 5 74 0 false)) .nil .nil) (.node (some (.row [(.int .u8 106), (.int .u8 46), (.int .u8 48), (.int .u8 48), (.int .u8 48), (.int .u8 48), (.int .u8 48), (.int .u8 48), (.int .u8 48), (.int .u8 50)] 5 106 0 true)) .nil .nil)) (.node (some (.row [(.string ⟨⟨[0, 0, 0, 0, 0, 53, 118, 114, 69, 0, 0, 0, 0]⟩⟩), (.int .i64 0)] 114 58 0 false)) (.node (some (.row [(.int .u8 0), (.int .u8 0), (.int .u8 0), (.int .u8 0), (.int .u8 6), (.int .u8 221), (.int .u8 145), (.int .u8 211), (.int .u8 99)] 5 90 0 false)) .nil .nil) (.node (some (.row [(.slice none 0 0)] 34 122 0 false)) .nil .nil)))) (.node (some (.row [(.pointer (some ⟨11, 0, none⟩))] 25 14 0 false)) (.node (some (.row [(.pointer (some ⟨11, 0, none⟩)), (.int .i64 300), (.string ⟨⟨[0, 0, 0, 1, 0, 0]⟩⟩), (.slice none 0 0), (.slice (some ⟨111, 0, none⟩) 1 1), (.int .i64 19), (.bool true), (.bool false)] 183 22 0 false)) (.node (some (.row [(.int .u8 0), (.int .u8 0), (.int .u8 0), (.int .u8 0), (.int .u8 0), (.int .u8 53), (.int .u8 118), (.int .u8 114), (.int .u8 69), (.int .u8 0), (.int .u8 0), (.int .u8 0), (.int .u8 0)] 5 35 0 false)) (.node (some (.row [(.slice none 0 0)] 34 70 0 false)) .nil .nil) (.node (some (.row [(.string ⟨⟨[106, 46, 110, 101, 119]⟩⟩)] 9 102 0 false)) .nil .nil)) (.node (some (.row [(.string ⟨⟨[]⟩⟩), (.int .i64 0)] 114 54 0 false)) (.node (some (.row [(.int .u8 0), (.string ⟨⟨[0, 0, 0, 1, 0, 0]⟩⟩)] 128 86 0 false)) .nil .nil) (.node (some (.map [] 0 false)) .nil .nil))) (.node (some (.row [(.int .u8 0), (.string ⟨⟨[]⟩⟩)] 128 30 0 false)) (.node (some (.row [(.int .u8 0), (.int .u8 0), (.int .u8 0), (.int .u8 0), (.int .u8 0), (.int .u8 53), (.int .u8 118), (.int .u8 114), (.int .u8 69)] 5 46 0 false)) (.node (some (.row [(.map (some 10))] 68 78 0 false)) .nil .nil) (.node (some (.row [(.string ⟨⟨[0, 0, 0, 0, 6, 221, 145, 211, 99, 0, 0, 0, 1, 0, 0, 244, 238, 107, 242]⟩⟩), (.int .i64 19)] 114 110 0 false)) .nil .nil)) (.node (some (.row [(.pointer (some ⟨11, 0, none⟩))] 25 62 0 false)) (.node (some (.row [(.int .u8 0), (.int .u8 0), (.int .u8 0), (.int .u8 0), (.int .u8 6), (.int .u8 221), (.int .u8 145), (.int .u8 211), (.int .u8 99), (.int .u8 0), (.int .u8 0), (.int .u8 0), (.int .u8 1), (.int .u8 0), (.int .u8 0), (.int .u8 244), (.int .u8 238), (.int .u8 107), (.int .u8 242)] 5 91 0 false)) .nil .nil) .nil)))))), 126, (.node none (.node none (.node none (.node none (.node none .nil (.node (some [50, 47]) .nil .nil)) .nil) (.node none (.node none (.node (some [38, 35]) .nil .nil) .nil) (.node none .nil (.node none (.node (some [94, 91]) .nil .nil) .nil)))) (.node none (.node (some [7, 8]) .nil .nil) .nil)) .nil)⟩
theorem arun (cs : List Value) (e : TypeId) : runR Tryz.prog theX theMg (fun _ => []) 100000 ⟨frOf Tryz.prog 6 [.int .i64 200000], [], AW0 cs e⟩ = some ([(.pointer (some ⟨11, 0, none⟩), AW1 cs e)], []) := by kernel_rfl
theorem brun (cs : List Value) (e : TypeId) : runR Tryz.prog theX theMg (fun _ => []) 100000 ⟨frOf Tryz.prog 7 [.pointer (some ⟨11, 0, none⟩), .int .i64 300, .int .i64 8], [], AW1 cs e⟩ = some ([(.tuple ⟨[.pointer (some ⟨120, 0, none⟩), .int .i64 0]⟩, AW2 cs e)], []) := by kernel_rfl
section
variable {W0 : World} {m0 : Inj Tryz.prog}
theorem wc6 {cs : List Value} {e : TypeId} {K : Value → AW → Prop} (hk : K (.pointer (some ⟨11, 0, none⟩)) (AW1 cs e)) : Wc Tryz.prog theX W0 m0 6 [.int .i64 200000] (AW0 cs e) K :=
  ⟨by kernel_rfl, wp_run gX gP (arun cs e) hk⟩
theorem wc7 {cs : List Value} {e : TypeId} {K : Value → AW → Prop} (hk : K (.tuple ⟨[.pointer (some ⟨120, 0, none⟩), .int .i64 0]⟩) (AW2 cs e)) : Wc Tryz.prog theX W0 m0 7 [.pointer (some ⟨11, 0, none⟩), .int .i64 300, .int .i64 8] (AW1 cs e) K :=
  ⟨by kernel_rfl, wp_run gX gP (brun cs e) hk⟩
end
def aks0 : List (En Nat Int) := [⟨1, 0, 0⟩, ⟨2, 0, 1⟩, ⟨3, 0, 2⟩, ⟨4, 0, 3⟩, ⟨5, 0, 4⟩, ⟨6, 0, 5⟩, ⟨7, 0, 6⟩, ⟨8, 0, 7⟩]
theorem aw2_fine (cs : List Value) (e : TypeId) : Fine (AW2 cs e) := fine_of (by kernel_rfl)
theorem aw2_next (cs : List Value) (e : TypeId) : (AW2 cs e).next = 126 := rfl
theorem aw2_co (cs : List Value) (e : TypeId) : CO (AW2 cs e) 1 (.slice none 0 0) [] [] [] aks0 where
  cr := ⟨by kernel_rfl, by kernel_rfl, by rw [aw2_next]; decide⟩
  env := ⟨⟨10, by kernel_rfl, by kernel_rfl, by rw [aw2_next]; decide⟩, ⟨⟨22, 0, none⟩, 66, by kernel_rfl, by kernel_rfl, by rw [aw2_next]; decide⟩⟩
  ow := .nil _
  rows := ⟨0, ⟨by kernel_rfl, by rw [aw2_next]; decide⟩, by simp, by simp, by simp⟩
  asks := ⟨8, ⟨by kernel_rfl, by rw [aw2_next]; decide⟩, by decide, by decide, by decide⟩
  a8 := rfl
  av := by decide
  lo := by rw [aw2_next]; decide
  fo := by simp
theorem aw2_arg (cs : List Value) (e : TypeId) : (AW2 cs e).get 7 = some (.row cs e 9 0 true) := by kernel_rfl
def gAt (i : Nat) : Nat × Nat × Nat := if i < 15 then (2, 2 - i % 3, 1 + i / 3) else (4, 2 - i % 3, min (1 + (i - 15) / 3) 5)
theorem tick_at : ∀ i < 41, tickG (gAt i).1 (gAt i).2.1 (gAt i).2.2 = (gAt (i + 1), decide ((i + 1) % 3 = 0)) := by decide
theorem gAt_st : ∀ i < 42, ((gAt i).1 = 2 ∨ (gAt i).1 = 4) ∧ (gAt i).2.1 ≤ 3 ∧ (gAt i).2.2 ≤ 5 := by decide
theorem gAt_kind : ∀ i < 42, kindOf (gAt i).1 = if i < 15 then 1 else 3 := by decide
def lets (i : Nat) (ps : List Pt) : List Ml := if i % 3 = 0 then lettersOf (gAt i).1 ps else []
theorem lets_len (i : Nat) (ps : List Pt) : (lets i ps).length = if i % 3 = 0 then ps.length else 0 := by
  unfold lets; split
  · rw [letters_len]
  · rfl
theorem take_split : ∀ (n : Nat) (l cs : List Value), takeCells l n = some cs → ∃ rest, l = cs ++ rest
  | 0, l, cs, h => by simp [takeCells] at h; subst h; exact ⟨l, rfl⟩
  | n + 1, [], cs, h => by simp [takeCells] at h
  | n + 1, x :: l, cs, h => by
    unfold takeCells at h
    cases hx : isTuple x with
    | true => rw [hx] at h; cases h
    | false =>
      rw [hx, cond_false] at h
      cases hr : takeCells l n with
      | none => rw [hr] at h; cases h
      | some q =>
        rw [hr] at h
        simp only [Option.some.injEq] at h
        subst h
        obtain ⟨rest, rfl⟩ := take_split n l q hr
        exact ⟨rest, rfl⟩
theorem cells_at {A : AW} {r o m : Nat} {cs : List Value} (h : A.cells? ⟨r, o, none⟩ (m + 1) = some cs) : ∃ cs0 e g b ro rest, A.get r = some (.row cs0 e g b ro) ∧ cs0.drop o = cs ++ rest := by
  unfold AW.cells? at h
  simp only at h
  split at h
  · rename_i cs0 e g b ro hg
    obtain ⟨rest, hr⟩ := take_split _ _ _ h
    exact ⟨cs0, e, g, b, ro, rest, hg, hr⟩
  · cases h
theorem load_part {A : AW} {r o m : Nat} {pre post : List Value} {p : Nm} (h : A.cells? ⟨r, o, none⟩ (m + 1) = some (pre ++ (p.cells ++ post))) : loadP Tryz.prog A 24 (.pointer (some ⟨r, o + pre.length, none⟩)) = some (.agg ⟨p.cells⟩) := by
  obtain ⟨cs0, e, g, b, ro, rest, h1, h2⟩ := cells_at h
  have h3 : takeCells (p.cells ++ (post ++ rest)) 3 = some p.cells := takeCells_app p.cells _ rfl
  rw [ld_24, cells_row h1, ← List.drop_drop, h2, List.append_assoc, List.drop_left, List.append_assoc, h3]
theorem pe27 (a : Addr) (xo yo : Operand) : binA Tryz.prog .eql 27 xo yo (.pointer (some a)) (.pointer none) = some (.bool false) := by kernel_rfl
section
variable {W0 : World} {m0 : Inj Tryz.prog}
theorem wc17 {p : Nm} {A : AW} {K : Value → AW → Prop} (hf : Fine A) (hA : A.next + 2 < maxId) (hk : ∀ A', Grow A A' 2 → K (.agg ⟨p.key.cells⟩) A') : Wc Tryz.prog theX W0 m0 17 [.agg ⟨p.cells⟩] A K := by
  refine w17 _ _ cutn ?_
  rw [e17]
  refine newP_made (cs := p.cells) hf (by omega) rfl fun A1 m1 => ?_
  have n1 := m1.next
  refine allocP_made zero24 m1.fine (by omega) rfl fun A2 m2 => ?_
  have n2 := m2.next
  have g2 := (Grow.made m1 hf).trans (.made m2 m1.fine)
  have r1 : Go.Abs.Row1 A2 A.next [.int .u32 (p.f : Int), .string p.g, .string p.b] 24 := (m1.row1).keeps (m2.keeps m1.fine) (by simp)
  simp only [fa_24_0, fa_24_1, ld_22, ld_9, cell_row r1.row, cellOf, isT_string, isT_int, cond_false, pureW_some, Nat.zero_add, ba24]
  refine m2.row1.store m2.fine (by omega) (st_24 _ _ _) rfl (by simp [Value.cells]) rfl fun A3 r3 k3 n3 f3 => ?_
  have r3 : Go.Abs.Row1 A3 A1.next p.key.cells 24 := r3
  simp only [load24 r3, pureW_some]
  exact hk A3 ⟨g2.keeps.trans k3 (by simp; omega), f3, by omega⟩
def Round (A : AW) (i : Nat) (ps : List Pt) : Prop :=
  ∃ out L Fo pv F b aks, CO A 2 out L Fo [⟨x0, ⟨x0, (gAt (i - 1)).1, pv, (gAt (i - 1)).2.1, (gAt (i - 1)).2.2⟩, b⟩] aks ∧ OwnF 135 4 Pt.cells A pv ps F ∧ (∀ y ∈ F, 126 ≤ y ∧ y ∉ Fo) ∧ (i = 0 ∧ L = lettersOf 2 ps ∨ 0 < i ∧ out = .slice none 0 0 ∧ L = [] ∧ Fo = [])
theorem wc4 (hh : KC.Holds Tryz.prog W0 m0 ⟨10, [], [.bool true]⟩) {ns : List Nat} {e : TypeId} {nv : Value} {F0 : List Nat} {ticks : Nat} (hn0 : RdE 0 bC (AW0 (flat bC ns) e) nv ns F0) (hn : RdE 0 bC (AW2 (flat bC ns) e) nv ns F0) (hF0 : ∀ y ∈ F0, y < 10) (hb : ∀ n ∈ ns, n < 256) (ht : ticks < 256) :
    Wc Tryz.prog theX W0 m0 4 [nv, .int .u8 (ticks : Int)] (AW0 (flat bC ns) e) fun v _ => v = .bool true := by
  have hhead : ∀ A, knW Tryz.prog W0 m0 10 [] A fun v _ => v = .bool true := fun A => .inl ⟨[.bool true], by decide, hh, rfl, fun v hv => by rw [List.mem_singleton.1 hv]⟩
  generalize hA2 : AW2 (flat bC ns) e = B at hn
  have hcoB : CO B 1 (.slice none 0 0) [] [] [] aks0 := by rw [← hA2]; exact aw2_co _ _
  have hfB : Fine B := by rw [← hA2]; exact aw2_fine _ _
  have hnB : B.next = 126 := by rw [← hA2]; exact aw2_next _ _
  have hmx : 1000000 < maxId := by decide
  let ps := ns.map (ptOf x0)
  let I : Nat → Nat → List Value → AW → Prop := fun g id vals A' => Fine A' ∧ okD x0 ps = true ∧ ∃ i xr : Nat, i ≤ 41 ∧ 126 ≤ xr ∧ Go.Abs.Row1 A' xr x0.cells 24 ∧ RdE 0 bC A' nv ns F0 ∧
    ((id = 0 ∧ vals = [nv, .int .u8 (ticks : Int), .pointer (some ⟨120, 0, none⟩), .pointer (some ⟨xr, 0, none⟩), .int .i64 (i : Int)] ∧ A'.next ≤ 5000 + i * 3000 ∧ Round A' i ps ∧ g = (42 - i) * 1000) ∨
     (id = 2 ∧ ∃ (lv : Value) (recs : List Ml) (Fl : List Nat) (k : Nat), i < ticks % 41 ∧ vals = [nv, .int .u8 (ticks : Int), .pointer (some ⟨120, 0, none⟩), .pointer (some ⟨xr, 0, none⟩), .int .i64 (i : Int), lv, .int .i64 ((min k (lets i ps).length : Nat) : Int), .int .i64 (k : Int)] ∧ k ≤ (lets i ps ++ recs).length ∧ RdE 7 Ml.cells A' lv (lets i ps ++ recs) Fl ∧ (∀ m ∈ recs, m.k = 5) ∧ recs.length ≤ 8 ∧
        A'.next ≤ 5000 + i * 3000 + 2500 + 10 * k ∧ Round A' (i + 1) ps ∧ g = (42 - i) * 1000 - 1 - k))
  refine w4 _ _ _ (c4 (I := I) ?_) ?_
  · rintro g id vals A' d ⟨fA, hok, i, xr, hi, hxr, rx, hn', ⟨rfl, rfl, nx, hR, rfl⟩ | ⟨rfl, lv, recs, Fl, k, hit, rfl, hk, hlv, hrecs, hr8, nx, hR, rfl⟩⟩ hd
    · obtain ⟨hle, hne, hle8⟩ := okD_le hok
      rw [l4_0]
      simp only [L4, List.map_cons, List.map_nil, List.cons.injEq, and_true] at hd
      obtain ⟨d0, d1, d5, d7, d9⟩ := hd
      obtain ⟨p, ps', hps⟩ : ∃ p ps', ps = p :: ps' := by
        cases h : ps with
        | nil => rw [h] at hne; simp at hne
        | cons p r => exact ⟨p, r, rfl⟩
      have hpn : ∀ q ∈ ps, q.n < 256 := fun q hq => by have := hle q hq; omega
      simp only [d0, d1, d5, d7, d9, conv53, bothW_ok]
      rw [wrap_i64 (n := (ticks : Int)) (by omega) (by omega)]
      simp only [bin_rem (show (41 : Int) ≠ 0 by decide), pureW_some, bin_lss]
      rw [show (ticks : Int).tmod 41 = ((ticks % 41 : Nat) : Int) from rfl]
      refine forkW_dec.2 ⟨fun hlt => ?_, fun _ => hhead A'⟩
      have hlt : i < ticks % 41 := by omega
      have hlt41 : i < 41 := by omega
      simp only [bin_gtr, pureW_some]
      obtain ⟨out, L, Fo, pv, F, b, aks, hco, hp, hF, hc⟩ := hR
      -- behind the tick, if there is one
      have hafter : ∀ (A2 : AW) (out : Value) (recs : List Ml) (Fo : List Nat) (pv : Value) (F : List Nat) (aks : List (En Nat Int)), CO A2 2 out (lets i ps ++ recs) Fo [⟨x0, ⟨x0, (gAt i).1, pv, (gAt i).2.1, (gAt i).2.2⟩, b⟩] aks → OwnF 135 4 Pt.cells A2 pv ps F → (∀ y ∈ F, 126 ≤ y ∧ y ∉ Fo) → (∀ m ∈ recs, m.k = 5) → recs.length ≤ 8 → Keeps A' A2 [118, 119, 120] → A2.next ≤ A'.next + 2001 → Fine A2 →
          Wc Tryz.prog theX W0 m0 12 [.pointer (some ⟨120, 0, none⟩)] A2 fun t6 At6 => cutW (T4 2) (T4 2) (∃ g2, g2 < (42 - i) * 1000 ∧ I g2 2 [nv, .int .u8 (ticks : Int), .pointer (some ⟨120, 0, none⟩), .pointer (some ⟨xr, 0, none⟩), .int .i64 (i : Int), t6, .int .i64 0, .int .i64 0] At6) := by
        intro A2 out recs Fo pv F aks hco hp hF hrecs hr8 k2 n2 f2
        have hxlt := rx.lt
        have l2 := k2.next
        refine wc12 hco.cr hco.one f2 (by omega) fun A3 c3 k3 n3 f3 => ?_
        have hco3 := hco.row (L' := []) (Fo' := []) (k3.more (by simp)) c3 (.nil _) (by simp)
        have hF0' : ∀ {i : Nat}, 10 ≤ i → i ∉ F0 := fun h hm => by have := hF0 _ hm; omega
        refine cutW_self.2 ⟨(42 - i) * 1000 - 1 - 0, by omega, f3, hok, i, xr, hi, hxr, (rx.keeps k2 (by simp; omega)).keeps k3 (by simp; omega), (hn'.keeps k2 (fun y hy => by have := hF0 y hy; simp; omega)).keeps k3 (fun y hy => by have := hF0 y hy; simp; omega), .inr ⟨rfl, out, recs, Fo, 0, hlt, by rw [Nat.zero_min]; rfl, by omega, OwnE.rd (fun _ => rfl) (hco.ow.keeps k3 (fun y hy => by have := hco.fo y hy; simp; omega)), hrecs, hr8, by omega, ?_, rfl⟩⟩
        refine ⟨.slice none 0 0, [], [], pv, F, b, aks, hco3, hp.keeps k3 (fun y hy => by have := (hF y hy).1; simp; omega), fun y hy => ⟨(hF y hy).1, by simp⟩, .inr ⟨by omega, rfl, rfl, rfl⟩⟩
      rcases hc with ⟨rfl, hL⟩ | ⟨hpos, rfl, rfl, rfl⟩
      · refine forkW_dec.2 ⟨fun h => absurd h (by decide), fun _ => ?_⟩
        refine hafter A' out [] Fo pv F aks ?_ hp hF (by simp) (by simp) (.refl _ _) (by omega) fA
        have e : lets 0 ps ++ [] = L := by rw [List.append_nil, hL]; rfl
        rw [e]
        exact hco
      · refine forkW_dec.2 ⟨fun _ => ?_, fun h => absurd (by omega) h⟩
        obtain ⟨j, rfl⟩ : ∃ j, i = j + 1 := ⟨i - 1, by omega⟩
        obtain ⟨s1, s2, s3⟩ := gAt_st j (by omega)
        have hT := tick_at j (by omega)
        rw [Nat.add_sub_cancel] at hco
        rw [hps] at hp hok hpn hle8
        refine wc16 (g := ⟨x0, (gAt j).1, pv, (gAt j).2.1, (gAt j).2.2⟩) hco hp (fun y hy => (hF y hy).1) hle8 hpn s1 s2 s3 hok fA (by omega) fun A2 recs hTk => ?_
        rw [hT] at hTk
        obtain ⟨out2, Fo2, pv2, F2, aks2, c2, o2, hF2, hFo2, hrecs, hr8, k2, n2, f2⟩ := hTk
        simp only [bin_neq, pureW_some]
        refine forkW_bne.2 ⟨fun h => absurd rfl h, fun _ => ?_⟩
        refine hafter A2 out2 recs Fo2 pv2 F2 aks2 ?_ (by rw [hps]; exact o2) hF2 hrecs hr8 k2 n2 f2
        have e : lets (j + 1) ps = (if decide ((j + 1) % 3 = 0) = true then lettersOf (gAt (j + 1)).1 (p :: ps') else []) := by
          unfold lets
          rw [hps]
          by_cases h : (j + 1) % 3 = 0
          · rw [if_pos h, if_pos (decide_eq_true h)]
          · rw [if_neg h, if_neg (by simpa using h)]
        rw [e]
        exact c2
    · obtain ⟨hle, hne, hle8⟩ := okD_le hok
      rw [l4_2]
      simp only [L4, List.map_cons, List.map_nil, List.cons.injEq, and_true] at hd
      obtain ⟨d0, d1, d5, d7, d9, d10, d11, d12⟩ := hd
      have hpl : ps.length = ns.length := List.length_map _
      have hll := lets_len i ps
      have hlen := hlv.len (B := A') etM
      have hnl := etB.lenR (B := A') hn'
      have hll8 : (lets i ps).length ≤ 8 := by rw [hll]; split <;> omega
      have htot : (lets i ps ++ recs).length ≤ 16 := by rw [List.length_append]; omega
      simp only [d0, d1, d5, d7, d9, d10, d11, d12, hlen, pureW_some, bin_lss]
      have hnext : ∀ (A2 : AW) (k' : Nat), Grow A' A2 2 → k' = k + 1 → k < (lets i ps ++ recs).length → ∃ g2, g2 < (42 - i) * 1000 - 1 - k ∧ I g2 2 [nv, .int .u8 (ticks : Int), .pointer (some ⟨120, 0, none⟩), .pointer (some ⟨xr, 0, none⟩), .int .i64 (i : Int), lv, .int .i64 ((min k' (lets i ps).length : Nat) : Int), .int .i64 (k' : Int)] A2 := fun A2 k' gr hk' hlt => by
        subst hk'
        have gn := gr.next
        obtain ⟨out, L, Fo, pv, F, b, aks, hco, hp, hF, hc⟩ := hR
        exact ⟨(42 - i) * 1000 - 1 - (k + 1), by omega, gr.fine, hok, i, xr, hi, hxr, rx.keeps gr.keeps (by simp), hn'.keeps gr.keeps (by simp), .inr ⟨rfl, lv, recs, Fl, k + 1, hit, rfl, by omega, hlv.keeps gr.keeps (by simp), hrecs, hr8, by omega, ⟨out, L, Fo, pv, F, b, aks, hco.keeps gr.keeps (by simp) (by simp), hp.keeps gr.keeps (by simp), hF, hc⟩, rfl⟩⟩
      refine forkW_dec.2 ⟨fun hlt => ?_, fun hge => ?_⟩
      · have hlt : k < (lets i ps ++ recs).length := by omega
        have hgk := List.getElem?_eq_getElem hlt
        generalize (lets i ps ++ recs)[k] = ml at hgk
        obtain ⟨r, o, a1, a2, _⟩ := hlv.at etM hgk
        have hkind := cell_of (k := 1) (v := .int .u8 (ml.k : Int)) a2 rfl
        have hnode := cell_of (k := 0) (v := .int .u8 (ml.n : Int)) a2 rfl
        have hxx : loadP Tryz.prog A' 24 (.pointer (some ⟨r, o + 1 + 1, none⟩)) = some (.agg ⟨ml.x.cells⟩) := load_part (pre := [.int .u8 (ml.n : Int), .int .u8 (ml.k : Int)]) (post := [.int .u8 0, .int .u16 0, .slice none 0 0]) a2
        rw [Nat.add_zero] at hnode
        have hk1 : IntKind.i64.wrap ((k : Int) + 1) = ((k + 1 : Nat) : Int) := wrap_i64 (by omega) (by omega)
        simp only [a1, pureW_some, fa_46_1, fa_46_0, fa_38_0, fa_38_1, ld_5, hkind, bin_eql]
        by_cases hkl : k < (lets i ps).length
        · rw [List.getElem?_append_left hkl] at hgk
          have h3 : i % 3 = 0 := by
            by_cases h : i % 3 = 0
            · exact h
            · rw [hll, if_neg h] at hkl; omega
          rw [hll, if_pos h3, hpl] at hkl
          have hgn := List.getElem?_eq_getElem hkl
          have hmem := List.getElem_mem hkl
          generalize ns[k] = nd at hgn hmem
          have hml : ml = ⟨nd, kindOf (gAt i).1, (ptOf x0 nd).x⟩ := by
            unfold lets lettersOf at hgk
            rw [if_pos h3, List.getElem?_map] at hgk
            rw [show ps = ns.map (ptOf x0) from rfl, List.getElem?_map, hgn] at hgk
            exact (Option.some.inj hgk).symm
          obtain ⟨ai, b1, b2⟩ := etB.at hn' hgn rfl
          have hmk : ml.k = if i < 15 then 1 else 3 := by rw [hml]; exact gAt_kind i (by omega)
          have hmn : ml.n = nd := by rw [hml]
          have hmx : ml.x.key = x0 := by rw [hml]; rfl
          have hmin : min k (lets i ps).length = k := by rw [hll, if_pos h3, hpl]; omega
          have hx0 := load24 rx
          rw [hmin]
          have hne5 : ((ml.k : Int) == 5) = false := by rw [hmk]; split <;> rfl
          rw [hne5]
          refine forkW_bool.2 ⟨fun h => (by cases h), fun _ => ?_⟩
          simp only [bin_geq, pureW_some]
          have htail : ∀ {K' : AW → Prop}, (∀ A2, Grow A' A2 2 → K' A2) → Wc Tryz.prog theX W0 m0 17 [.agg ⟨ml.x.cells⟩] A' fun t27 At27 => pureW (loadP Tryz.prog At27 24 (.pointer (some ⟨xr, 0, none⟩))) fun t28 => eqW t28 (.agg ⟨x0.cells⟩) (pureW (binA Tryz.prog .neq 24 (.tmp 110) (.tmp 111) t27 (.agg ⟨x0.cells⟩)) fun t29 => forkW t29 (Value.bool false = .bool true) (K' At27)) := fun hK => by
            refine wc17 fA (by omega) fun A2 g2 => ?_
            simp only [load24 (rx.keeps g2.keeps (by simp)), pureW_some, eqW_self, neqN, hmx]
            exact forkW_bool.2 ⟨fun h => (by rw [keq_self] at h; cases h), fun _ => hK A2 g2⟩
          have hfin : ∀ A2, Grow A' A2 2 → pureW (binA Tryz.prog .add 3 (.tmp 114) (.const (.int .i64 1)) (.int .i64 (k : Int)) (.int .i64 1)) fun t30 => pureW (binA Tryz.prog .add 3 (.tmp 66) (.const (.int .i64 1)) (.int .i64 (k : Int)) (.int .i64 1)) fun t31 => cutW (T4 2) (T4 2) (∃ g2, g2 < (42 - i) * 1000 - 1 - k ∧ I g2 2 [nv, .int .u8 (ticks : Int), .pointer (some ⟨120, 0, none⟩), .pointer (some ⟨xr, 0, none⟩), .int .i64 (i : Int), lv, t30, t31] A2) := fun A2 g2 => by
            simp only [bin_add, pureW_some, hk1]
            have := hnext A2 (k + 1) g2 rfl hlt
            rw [show min (k + 1) (lets i ps).length = k + 1 by rw [hll, if_pos h3, hpl]; omega] at this
            exact cutW_self.2 this
          have hknl : ¬ ((ns.length : Int) ≤ (k : Int)) := by omega
          refine forkW_dec.2 ⟨fun h15 => ?_, fun h15 => ?_⟩
          · have hmk3 : ml.k = 3 := by rw [hmk, if_neg (by omega)]
            simp only [bin_neq, pureW_some, hmk3]
            refine forkW_bne.2 ⟨fun h => absurd rfl h, fun _ => ?_⟩
            simp only [hnl, pureW_some, bin_geq]
            refine forkW_dec.2 ⟨fun h => absurd h hknl, fun _ => ?_⟩
            simp only [hnode, b1, b2, hmn, pureW_some, bin_neq]
            refine forkW_bne.2 ⟨fun h => absurd rfl h, fun _ => ?_⟩
            simp only [hxx, hx0, pureW_some]
            exact htail hfin
          · have hmk3 : ml.k = 1 := by rw [hmk, if_pos (by omega)]
            simp only [bin_neq, pureW_some, hmk3]
            refine forkW_bne.2 ⟨fun h => absurd rfl h, fun _ => ?_⟩
            simp only [hnl, pureW_some, bin_geq]
            refine forkW_dec.2 ⟨fun h => absurd h hknl, fun _ => ?_⟩
            simp only [hnode, b1, b2, hmn, pureW_some, bin_neq]
            refine forkW_bne.2 ⟨fun h => absurd rfl h, fun _ => ?_⟩
            simp only [hxx, hx0, pureW_some]
            exact htail hfin
        · rw [List.getElem?_append_right (by omega)] at hgk
          have hm5 := hrecs ml (List.mem_of_getElem? hgk)
          rw [hm5]
          refine forkW_beq.2 ⟨fun _ => ?_, fun h => absurd rfl h⟩
          simp only [bin_add, pureW_some, hk1]
          have := hnext A' (k + 1) ((Grow.refl fA).more (by omega)) rfl hlt
          rw [show min (k + 1) (lets i ps).length = min k (lets i ps).length by omega] at this
          exact cutW_self.2 this
      · have hkt : k = (lets i ps ++ recs).length := by omega
        have hmin : min k (lets i ps).length = (lets i ps).length := by rw [hkt, List.length_append]; omega
        have hi1 : IntKind.i64.wrap ((i : Int) + 1) = ((i + 1 : Nat) : Int) := wrap_i64 (by omega) (by omega)
        have hgo : cutW (T4 0) (T4 0) (∃ g2, g2 < (42 - i) * 1000 - 1 - k ∧ I g2 0 [nv, .int .u8 (ticks : Int), .pointer (some ⟨120, 0, none⟩), .pointer (some ⟨xr, 0, none⟩), .int .i64 ((i + 1 : Nat) : Int)] A') :=
          cutW_self.2 ⟨(42 - (i + 1)) * 1000, by omega, fA, hok, i + 1, xr, by omega, hxr, rx, hn', .inl ⟨rfl, rfl, by omega, hR, rfl⟩⟩
        rw [hmin]
        simp only [bin_rem (show (3 : Int) ≠ 0 by decide), pureW_some, bin_eql, bin_neq, hnl, bin_add, hi1]
        rw [show (i : Int).tmod 3 = ((i % 3 : Nat) : Int) from rfl]
        refine forkW_beq.2 ⟨fun h3 => forkW_bne.2 ⟨fun h => absurd ?_ h, fun _ => forkW_bne.2 ⟨fun h => absurd h3 h, fun _ => hgo⟩⟩, fun h3 => forkW_bne.2 ⟨fun _ => forkW_bne.2 ⟨fun h => absurd ?_ h, fun _ => hgo⟩, fun _ => hgo⟩⟩
        · rw [hll, if_pos (by omega), hpl]
        · rw [hll, if_neg (by omega)]; rfl
  · rw [e4]
    have hnl := etB.lenR (B := AW0 (flat bC ns) e) hn0
    simp only [hnl, pureW_some, bin_gtr]
    refine forkW_dec.2 ⟨fun _ => hhead _, fun hle => wc6 (wc7 ?_)⟩
    rw [hA2]
    simp only [ex2_0, ex2_1, pureW_some, bin_neq, pe27]
    refine forkW_bne.2 ⟨fun h => absurd rfl h, fun _ => forkW_bool.2 ⟨fun h => (by cases h), fun _ => ?_⟩⟩
    refine wc14 hcoB hn (by omega) hb hF0 hfB (by omega) fun A1 v er hbeg k1 n1 f1 => ?_
    simp only [ex2_0, ex2_1, pureW_some]
    have l1 := k1.next
    refine allocP_made zero24 f1 (by omega) rfl fun A2 m2 => ?_
    have n2 := m2.next
    have k2 := m2.keeps f1
    rcases hbeg with ⟨hok, rfl, rfl, pv, F, b, hco, hp, hF⟩ | ⟨rfl, y, rfl⟩
    · refine m2.row1.store m2.fine (by omega) (st_24 _ _ _) rfl (by simp [Value.cells]) rfl fun A3 r3 k3 n3 f3 => ?_
      have r3 : Go.Abs.Row1 A3 A1.next x0.cells 24 := r3
      have K3 : Keeps A1 A3 [] := k2.trans k3 (by simp)
      simp only [bin_neq, pureW_some, load24 r3]
      refine forkW_bne.2 ⟨fun h => absurd rfl h, fun _ => ?_⟩
      obtain ⟨hle', hne, hle8⟩ := okD_le hok
      have hpn : ∀ q ∈ ns.map (ptOf x0), q.n < 256 := fun q hq => by have := hle' q hq; omega
      have hp3 := hp.keeps K3 (by simp)
      have hco3 := hco.keeps K3 (by simp) (by simp)
      obtain ⟨p, ps', hps⟩ : ∃ p ps', ns.map (ptOf x0) = p :: ps' := by
        cases h : ns.map (ptOf x0) with
        | nil => rw [h] at hne; simp at hne
        | cons p r => exact ⟨p, r, rfl⟩
      have hok' : okD x0 ps = true := hok
      rw [hps] at hp3 hpn hle8 hok
      refine wc15 (x := x0) hco3 hp3 hF (by omega) hpn hok f3 (by omega) fun A4 out4 Fo4 pv4 F4 c4 o4 hF4 k4 n4 f4 => ?_
      simp only [bin_neq, pureW_some]
      refine forkW_bne.2 ⟨fun h => absurd rfl h, fun _ => ?_⟩
      refine cutW_self.2 ⟨(42 - 0) * 1000, f4, hok', 0, A1.next, by omega, by omega, r3.keeps k4 (by simp; omega), ((hn.keeps k1 (fun y hy => by have := hF0 y hy; simp; omega)).keeps K3 (by simp)).keeps k4 (fun y hy => by have := hF0 y hy; simp; omega), .inl ⟨rfl, rfl, by omega, ?_, rfl⟩⟩
      refine ⟨out4, lettersOf 2 ps, Fo4, pv4, F4, b, aks0, ?_, ?_, hF4, .inl ⟨rfl, rfl⟩⟩
      · rw [show ps = p :: ps' from hps]; exact c4
      · rw [show ps = p :: ps' from hps]; exact o4
    · refine m2.row1.store m2.fine (by omega) (st_24 _ _ _) rfl (by simp [Value.cells, Nm.cells]) rfl fun A3 r3 k3 n3 f3 => ?_
      simp only [bin_neq, pureW_some, bin_eql]
      exact forkW_bne.2 ⟨fun _ => forkW_beq.2 ⟨fun _ => hhead A3, fun h => absurd rfl h⟩, fun h => by cases h⟩
end
end Go.Proofs.YtkjlldaddekegaaGreatDoor
