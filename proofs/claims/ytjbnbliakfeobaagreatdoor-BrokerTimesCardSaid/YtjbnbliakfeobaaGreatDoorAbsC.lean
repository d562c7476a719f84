/-
  The operations of the abstract machine, the second part: each gives what the operation of the model gives. Conditions: none beside those of each theorem.
-/
import Derived.Test.YtjbnbliakfeobaaGreatDoorAbsB
import Derived.Lib.MakeNoZero
import Derived.Lib.UnsafeStr
set_option linter.all false
namespace Go.Abs

section
variable {P : Program}

theorem cell_congr {w w1 : World} (h : w1.heap = w.heap) (a : Addr) : w1.cell? a = w.cell? a := by simp [World.cell?, h]

theorem run_loadCells_rel {w w1 : World} (h : w1.heap = w.heap) {a : Addr} {l : List Value} (hl : ∀ (i : Nat) (v : Value), l[i]? = some v → w.cell? (a.add i) = some v) {n : Nat} (hn : l.length = n) :
    (loadCells a n).run P w1 = .ok ⟨l⟩ w1 := by
  subst hn
  exact run_loadCells_list (P := P) w1 a l (fun j v hj => by rw [cell_congr h]; exact hl j v hj)

theorem strCells (s : ByteArray) : ((s.extract 0 s.size).data.map fun b => Value.int .u8 b.toNat) = ⟨s.data.toList.map fun b => Value.int .u8 b.toNat⟩ := by
  apply Array.ext'
  rw [Array.toList_map]
  have h := Lib.extract_data s 0 s.size
  rw [h, Lib.size_eq]
  simp only [Nat.sub_zero, List.drop_zero, List.take_length]

theorem source_sound {m : Inj P} {A : AW} {w : World} (r : Rel m A w) {e t2 : TypeId} {d2 : TypeDesc} {i : TypeInfo} {x x' : Value} {k : Nat} {new : List Value} (h2 : P.underlying t2 = some d2)
    (hx : VRel m x x') (h : sourceZ P A e t2 i.size x = some (k, new)) : ∃ new', VRels m new new' ∧ ∀ w1 : World, w1.heap = w.heap → Src P e d2 i x' k new' w1 := by
  unfold sourceZ at h
  rw [h2] at h
  split at h
  · rename_i hd; cases hd
  · -- so many zeros
    rename_i k1 k2 n hd
    simp only [Option.some.injEq] at hd
    subst hd
    cases hx
    cases hb : Nat.blt n room with
    | false => rw [hb] at h; cases h
    | true =>
      rw [hb, cond_true] at h
      have hb := blt_true.1 hb
      unfold room at hb
      split at h
      · rename_i l hl
        simp only [Option.some.injEq, Prod.mk.injEq] at h
        obtain ⟨rfl, rfl⟩ := h
        unfold zerosT at hl
        by_cases h0 : n * i.size = 0
        · rw [beq_true.2 h0, cond_true] at hl
          simp only [Option.some.injEq] at hl
          subst hl
          exact ⟨[], .nil, fun w1 _ => ⟨fun k _ => ⟨_, rfl, by omega, .inl ⟨h0, rfl⟩⟩, fun hne => absurd rfl (hne _)⟩⟩
        · rw [beq_false.2 h0, cond_false] at hl
          split at hl
          · rename_i z hz
            cases hbz : Nat.beq z.cells.toList.length i.size with
            | false => rw [hbz] at hl; cases hl
            | true =>
              rw [hbz, cond_true] at hl
              simp only [Option.some.injEq] at hl
              subst hl
              refine ⟨zerosA z.cells.toList n, VRels.zeros (VRels.closed (zeroT_info hz).2) n, fun w1 _ => ⟨fun k _ => ⟨_, rfl, by omega, .inr ⟨h0, z, fun w => run_zeroValue_ok hz w, ?_⟩⟩, fun hne => absurd rfl (hne _)⟩⟩
              rw [Builtin.zeroCells, range_map_zero]
          · cases hl
      · cases h
  · cases h
  · -- the cells of a slice or a string
    rename_i d hne hd _
    simp only [Option.some.injEq] at hd
    subst hd
    have hne' : ∀ k, d2 ≠ .int k := fun k hk => by subst hk; exact hne _ rfl
    unfold sourceA at h
    split at h
    · rename_i a n c _
      cases hx with
      | slice hc hn ha =>
        rename_i a' c'
        split at h
        · rename_i l hl
          simp only [Option.some.injEq, Prod.mk.injEq] at h
          obtain ⟨rfl, rfl⟩ := h
          obtain ⟨h1, l', h3, h4⟩ := r.cells hl (fun hp => ha (by
            rcases Nat.eq_zero_or_pos n with h0 | h0
            · subst h0; simp at hp
            · omega))
          refine ⟨l', h3, fun w1 hw1 => ⟨fun k hk => absurd hk (hne' k), fun _ => ⟨rfl, ?_⟩⟩⟩
          exact run_loadCells_rel hw1 h4 (by rw [h3.length, h1])
        · cases h
    · cases hx
      change some (0, ([] : List Value)) = some (k, new) at h
      simp only [Option.some.injEq, Prod.mk.injEq] at h
      obtain ⟨rfl, rfl⟩ := h
      exact ⟨[], .nil, fun w1 hw1 => ⟨fun k hk => absurd hk (hne' k), fun _ => ⟨rfl, rfl⟩⟩⟩
    · cases hx
      rename_i s _
      cases hq : Nat.beq i.size 1 with
      | false => rw [hq] at h; cases h
      | true =>
        rw [hq] at h
        simp only [cond_true, Option.some.injEq, Prod.mk.injEq] at h
        obtain ⟨rfl, rfl⟩ := h
        refine ⟨_, VRels.map _ _ (fun b => .int _ _) _, fun w1 hw1 => ⟨fun k hk => absurd hk (hne' k), fun _ => ⟨?_, ?_⟩⟩⟩
        · show Result.ok s.size w1 = _
          rw [Lib.size_eq]
        · have : s.data.toList.length = s.size := (Lib.size_eq s).symm
          rw [this]
          simp only [Builtin.firstCells, strCells]
          rfl
    · cases h

theorem VRels.oneCells {m : Inj P} {l l' : List Value} (h : VRels m l l') (h1 : l.all oneCell = true) : ∀ v ∈ l', oneCell v = true := by
  intro v hv
  obtain ⟨i, hi⟩ := List.getElem?_of_mem hv
  have hlt : i < l.length := by rw [← h.length]; exact (List.getElem?_eq_some_iff.1 hi).1
  obtain ⟨v', h2, h3⟩ := h.get (List.getElem?_eq_getElem hlt)
  rw [hi] at h2
  simp only [Option.some.injEq] at h2
  subst h2
  rw [h3.oneCell]
  exact List.all_eq_true.1 h1 _ (List.getElem_mem hlt)

theorem cellsAny_spec {A : AW} {a : Addr} {n : Nat} {l : List Value} (h : A.cellsAny a n = some l) : l.length = n ∧ (0 < n → a.spot = none ∧ ∃ cs e f b ro, A.get a.block = some (.row cs e f b ro) ∧ l = (cs.drop a.off).take n ∧ n ≤ (cs.drop a.off).length) := by
  unfold AW.cellsAny at h
  split at h
  · cases h; exact ⟨rfl, fun h => by omega⟩
  · split at h
    · cases h
    · rename_i hs
      split at h
      · rename_i cs e f b ro hg
        obtain ⟨h1, h2⟩ := takeAny_take h
        refine ⟨by rw [h1, List.length_take]; omega, fun _ => ⟨hs, cs, e, f, b, ro, hg, h1, h2⟩⟩
      · cases h

/-- the old cells of a slice, poison let by -/
theorem old_cells {m : Inj P} {A : AW} {w : World} (r : Rel m A w) {a a' : Addr} {n : Nat} {l : List Value} (h : A.cellsAny a n = some l) (ha : 0 < n → ARel m a a') :
    ∃ l' : List Value, l'.length = n ∧ (∀ (i : Nat) (v : Value), l[i]? = some v → ∃ v', l'[i]? = some v' ∧ (isTuple v = false → VRel m v v')) ∧ ∀ (i : Nat) (v : Value), l'[i]? = some v → w.cell? (a'.add i) = some v := by
  obtain ⟨h1, h2⟩ := cellsAny_spec h
  rcases Nat.eq_zero_or_pos n with h0 | h0
  · subst h0
    have : l = [] := List.eq_nil_of_length_eq_zero h1
    subst this
    exact ⟨[], rfl, fun i v hv => by simp at hv, fun i v hv => by simp at hv⟩
  · obtain ⟨hs, cs, e, f, b, ro, hg, rfl, hle⟩ := h2 h0
    obtain ⟨_, hs', d, hm, ho⟩ := ha h0
    obtain ⟨c0, d0, o', g1, g2, cs', fr, rfl, hr⟩ := r.objAt hg hm
    rw [hm] at g1; cases g1
    have key : ∀ i, i < n → ∃ u u', cs[a.off + i]? = some u ∧ cs'[d + (a.off + i)]? = some u' ∧ (isTuple u = false → VRel m u u') := by
      intro i hi
      have hlt : a.off + i < cs.length := by rw [List.length_drop] at hle; omega
      obtain ⟨u', q1, q2, _⟩ := hr (a.off + i) _ (List.getElem?_eq_getElem hlt)
      exact ⟨_, u', List.getElem?_eq_getElem hlt, q1, q2⟩
    refine ⟨(List.range n).map fun i => (cs'[d + (a.off + i)]?).getD undef, by simp, fun i v hv => ?_, fun i v hv => ?_⟩
    · have hi : i < n := by rw [← h1]; exact (List.getElem?_eq_some_iff.1 hv).1
      obtain ⟨u, u', q1, q2, q3⟩ := key i hi
      rw [List.getElem?_take, if_pos hi, List.getElem?_drop, q1] at hv
      simp only [Option.some.injEq] at hv
      subst hv
      exact ⟨u', by simp [hi, q2], q3⟩
    · have hi : i < n := by
        have := (List.getElem?_eq_some_iff.1 hv).1
        simpa using this
      obtain ⟨u, u', q1, q2, q3⟩ := key i hi
      simp [hi, q2] at hv
      subst hv
      simp only [World.cell?, Addr.add_block, g2, Addr.add_spot _ _ hs', Option.isSome_none, Addr.add_off, ho]
      rw [show d + a.off + i = d + (a.off + i) by omega]
      simpa using q2

theorem growRow {m : Inj P} {old old' new new' : List Value} (h1 : old'.length = old.length) (h2 : ∀ (i : Nat) (v : Value), old[i]? = some v → ∃ v', old'[i]? = some v' ∧ (isTuple v = false → VRel m v v')) (h3 : VRels m new new') (rest : Array Value) :
    RowRel m 0 (old ++ new) false ((old' ++ new').toArray ++ rest) (0, 0) := by
  intro i v hv
  have hlen : i < (old' ++ new').length := by
    have := (List.getElem?_eq_some_iff.1 hv).1
    simp only [List.length_append] at this ⊢
    rw [h1, h3.length]; exact this
  rw [List.getElem?_append] at hv
  have hget : ((old' ++ new').toArray ++ rest)[0 + i]? = (old' ++ new')[i]? := by
    rw [Nat.zero_add, Array.getElem?_append_left (by simpa using hlen)]
    simp
  rw [hget, List.getElem?_append]
  split at hv
  · rename_i hi
    rw [if_pos (by omega)]
    obtain ⟨v', g1, g2⟩ := h2 i v hv
    exact ⟨v', g1, g2, fun _ => by omega⟩
  · rename_i hi
    rw [if_neg (by omega), h1]
    obtain ⟨v', g1, g2⟩ := h3.get hv
    exact ⟨v', g1, fun _ => g2, fun _ => by omega⟩

theorem run_old {w : World} {i : TypeInfo} {base : Option Addr} {n c : Nat} {old : List Value} (hlen : old.length = n * i.size) (hb : base = none → n = 0)
    (h : ∀ a, base = some a → ∀ (j : Nat) (v : Value), old[j]? = some v → w.cell? (a.add j) = some v) : ∀ w1 : World, w1.heap = w.heap → (Builtin.firstCells i.size n (.slice base n c)).run P w1 = .ok ⟨old⟩ w1 := by
  intro w1 hw1
  cases base with
  | none =>
    have := hb rfl
    subst this
    have : old = [] := List.eq_nil_of_length_eq_zero (by simpa using hlen)
    subst this
    rfl
  | some a => exact run_loadCells_rel hw1 (h a rfl) hlen

theorem source_length {A : AW} {e t2 : TypeId} {size : Nat} {x : Value} {k : Nat} {new : List Value} (h : sourceZ P A e t2 size x = some (k, new)) : new.length = k * size := by
  unfold sourceZ at h
  split at h
  · cases h
  · rename_i k1 k2 n hd
    cases hb : Nat.blt n room with
    | false => rw [hb] at h; cases h
    | true =>
      rw [hb, cond_true] at h
      split at h
      · rename_i l hl
        simp only [Option.some.injEq, Prod.mk.injEq] at h
        obtain ⟨rfl, rfl⟩ := h
        unfold zerosT at hl
        by_cases h0 : n * size = 0
        · rw [beq_true.2 h0, cond_true] at hl
          simp only [Option.some.injEq] at hl
          subst hl
          rw [h0]; rfl
        · rw [beq_false.2 h0, cond_false] at hl
          split at hl
          · rename_i z hz
            cases hbz : Nat.beq z.cells.toList.length size with
            | false => rw [hbz] at hl; cases hl
            | true =>
              rw [hbz, cond_true] at hl
              simp only [Option.some.injEq] at hl
              subst hl
              rw [zerosA_length, beq_true.1 hbz]
          · cases hl
      · cases h
  · cases h
  · unfold sourceA at h
    split at h
    · split at h
      · rename_i l hl
        simp only [Option.some.injEq, Prod.mk.injEq] at h
        obtain ⟨rfl, rfl⟩ := h
        unfold AW.cells? at hl
        split at hl
        · rename_i h0
          cases hl; rw [h0]; rfl
        · rename_i h0
          split at hl
          · cases hl
          · split at hl
            · rw [(takeCells_some hl).1, h0]
            · cases hl
      · cases h
    · rename_i n c _
      cases hb : Nat.beq n 0 with
      | false => rw [hb] at h; cases h
      | true =>
        rw [hb] at h
        simp only [cond_true, Option.some.injEq, Prod.mk.injEq] at h
        obtain ⟨rfl, rfl⟩ := h
        simp
    · cases hq : Nat.beq size 1 with
      | false => rw [hq] at h; cases h
      | true =>
        rw [hq] at h
        simp only [cond_true, Option.some.injEq, Prod.mk.injEq] at h
        obtain ⟨rfl, rfl⟩ := h
        rw [beq_true.1 hq]; simp
    · cases h

set_option maxHeartbeats 1000000 in
theorem run_append_nil {w : World} {t t2 ty e : TypeId} {d2 : TypeDesc} {i : TypeInfo} {x : Value} (hu : P.underlying t = some (.slice e)) (h2 : P.underlying t2 = some d2)
    (hi : P.info? e = some i) (hsrc : Src P e d2 i x 0 [] w) : (Builtin.append_ #[t, t2] ty #[.slice none 0 0, x]).run P w = .ok (.slice none 0 0) w := by
  by_cases hk : ∃ k, d2 = .int k
  · obtain ⟨k, rfl⟩ := hk
    obtain ⟨k', rfl, hm, hz⟩ := hsrc.zeros k rfl
    have hw : IntKind.i64.wrap ((0 : Nat) : Int) = 0 := wrap_nat (by omega)
    simp [Builtin.append_, run_underlying hu, run_underlying h2, sizeOf, run_typeInfo_ok hi, asInt, asIntOf]
    simp at hw
    simp [hw]
  · have hk' : ∀ k, d2 ≠ .int k := fun k e => hk ⟨k, e⟩
    obtain ⟨hl, hc⟩ := hsrc.cells hk'
    cases d2 <;> first
      | (exact absurd rfl (hk' _))
      | simp [Builtin.append_, run_underlying hu, run_underlying h2, sizeOf, run_typeInfo_ok hi, hl, hc]

theorem Rel.congr {m : Inj P} {A : AW} {w w1 : World} (r : Rel m A w) (h : w1.heap = w.heap) : Rel m A w1 := by
  refine ⟨?_, r.home, r.sep, r.mem, r.fresh, r.lim, ?_⟩
  · rw [h]; exact r.obj
  · rw [h]; exact r.room

theorem grow_size {old new : List Value} {rest : Array Value} {n k newCap size z : Nat} (h1 : old.length = n * size) (h2 : new.length = k * size) (h3 : rest.size = (newCap - (n + k)) * z) (h4 : z = size) (h5 : n + k ≤ newCap) :
    newCap * size ≤ ((⟨old⟩ : Array Value) ++ (⟨new⟩ : Array Value) ++ rest).size := by
  subst h4
  simp only [Array.size_append, List.size_toArray]
  rw [h1, h2, h3]
  have : newCap * z = n * z + k * z + (newCap - (n + k)) * z := by rw [← Nat.add_mul, ← Nat.add_mul]; congr 1; omega
  omega

set_option maxHeartbeats 2000000 in
theorem append_sound {m : Inj P} {A : AW} {w : World} (r : Rel m A w) {t t2 ty : TypeId} {s s' x x' : Value} (hs : VRel m s s') (hx : VRel m x x') :
    RVal P m A w VRel (appendA P A t t2 s x) (Builtin.append_ #[t, t2] ty #[s', x']) := by
  unfold appendA
  split
  rotate_left
  · trivial
  rename_i e base n cap he
  have hu := sliceElemT_spec he
  split
  · trivial
  rotate_left
  · trivial
  rename_i size bytes hsz0 hsz hby
  obtain ⟨i, hi, rfl⟩ := szT_info hsz
  obtain ⟨i', hi', rfl⟩ := bytesT_info hby
  rw [hi] at hi'
  cases hi'
  have hsz1 : 0 < i.size := Nat.pos_of_ne_zero hsz0
  split
  · trivial
  rename_i k new hsrc
  have hd2 : ∃ d2, P.underlying t2 = some d2 := by
    cases hq : P.underlying t2 with
    | some d => exact ⟨d, rfl⟩
    | none => simp [sourceZ, hq] at hsrc
  obtain ⟨d2, h2⟩ := hd2
  obtain ⟨new', hnew, hS⟩ := source_sound (i := i) r h2 hx hsrc
  have hlen := source_length hsrc
  have hlen' : new'.length = k * i.size := by rw [hnew.length, hlen]
  simp only
  cases hroom : (Nat.blt (n + k) room && Nat.blt ((n + k) * i.bytes) room && hasZero P e i.size) with
  | false => simp only [Bool.not_false, cond_true]; trivial
  | true =>
    simp only [Bool.not_true, cond_false]
    simp only [Bool.and_eq_true] at hroom
    have hr1 := blt_true.1 hroom.1.1
    have hr2 := blt_true.1 hroom.1.2
    unfold room at hr1 hr2
    obtain ⟨z, hz, hzs⟩ : ∃ z, zeroT P e = some z ∧ z.cells.size = i.size := by
      have := hroom.2
      unfold hasZero at this
      split at this
      · rename_i z hz; exact ⟨z, hz, by simpa using beq_true.1 this⟩
      · cases this
    split
    · -- nothing is appended
      have hn0 : new = [] := List.eq_nil_of_length_eq_zero (by simpa using hlen)
      have hn0' : new' = [] := List.eq_nil_of_length_eq_zero (by simpa using hlen')
      subst hn0
      subst hn0'
      cases hs with
      | sliceNil => exact ⟨_, w, m, run_append_nil hu h2 hi (hS w rfl), .refl r, .sliceNil⟩
      | slice hc hn ha =>
        exact ⟨_, w, m, run_append_in hu h2 hi (hS w rfl) (by omega) hr2 (w' := w) rfl, .refl r, .slice hc hn ha⟩
    · rename_i k
      have hlen : new.length = (k + 1) * i.size := hlen
      have hlen' : new'.length = (k + 1) * i.size := hlen'
      have hr1 : n + (k + 1) < 68719476736 := hr1
      have hr2 : (n + (k + 1)) * i.bytes < 68719476736 := hr2
      have hlb : ∀ c', (cap < capU ∧ c' = cap ∨ capU ≤ cap ∧ cap - capU ≤ c') → (bif Nat.ble capU cap then cap - capU else cap) ≤ c' := by
        intro c' h
        rcases h with ⟨h1, h2⟩ | ⟨h1, h2⟩
        · rw [ble_false.2 h1, cond_false]; omega
        · rw [ble_true.2 h1, cond_true]; exact h2
      cases hin : Nat.ble (n + (k + 1)) (bif Nat.ble capU cap then cap - capU else cap) with
      | true =>
        -- there is room
        simp only [cond_true]
        have hin := ble_true.1 hin
        split
        · trivial
        rename_i a
        split
        rotate_left
        · trivial
        rename_i A' hset
        cases hs with
        | slice hc hn ha =>
          rename_i a' c'
          have hle := hlb c' (hc.imp id fun h => ⟨h.1, h.2.1⟩)
          have har := ha (by omega)
          obtain ⟨w', g1, g2, _⟩ := Ev.setCells (i := 0) r hnew (fun _ => by simpa [Addr.add] using har.add (n * i.size)) hset
          exact ⟨_, w', m, run_append_in hu h2 hi (hS w rfl) (by omega) hr2 g1, g2, .slice hc (by omega) (fun _ => har)⟩
      | false =>
        simp only [cond_false]
        have hin := ble_false.1 hin
        cases hcu : Nat.ble capU cap with
        | true =>
          simp only [cond_true]
          have hcu' := ble_true.1 hcu
          split
          · trivial
          rename_i a
          split
          rotate_left
          · trivial
          rename_i csb e' fam b0 hsp hg
          cases hel : (Nat.beq e' e && new.all oneCell) with
          | false => simp only [Bool.not_false, cond_true]; trivial
          | true =>
            simp only [Bool.not_true, cond_false]
            simp only [Bool.and_eq_true] at hel
            have hee := beq_true.1 hel.1
            subst hee
            split
            · trivial
            rename_i old hold
            split
            rotate_left
            · trivial
            rename_i aN A' hnw
            cases hs with
            | slice hc hn ha =>
              rename_i a' c'
              obtain ⟨_, hlb', hcl, hcr, ⟨cb, db⟩, hxx⟩ := hc.resolve_left (fun h => by omega)
              obtain ⟨_, hrl⟩ := r.mem _ _ fam b0 hg rfl
              by_cases hfit : n + (k + 1) ≤ c'
              · -- in place
                have hc0 : 0 < c' := by omega
                have hR := hcr hc0
                obtain ⟨_, hs', d, hm, ho⟩ := ha hc0
                rw [hxx] at hm
                simp only [Option.some.injEq, Prod.mk.injEq] at hm
                obtain ⟨rfl, rfl⟩ := hm
                obtain ⟨q1, cs0, e0, fr0, q2, q3, q4⟩ := r.room _ _ _ _ _ _ _ _ hg hxx
                obtain ⟨c1, d1, o1, p1, p2, cs1, fr1, rfl, p3⟩ := r.objAt hg hxx
                rw [hxx] at p1
                simp only [Option.some.injEq, Prod.mk.injEq] at p1
                obtain ⟨rfl, rfl⟩ := p1
                rw [p2] at q2
                cases q2
                have hst : m.st a.block = i.size := by
                  have h1 := m.ok _ hR
                  rw [q1 hR, hsz] at h1
                  simpa using h1.symm
                rw [hst] at hcl
                have hmul : n * i.size + (k + 1) * i.size ≤ c' * i.size := by rw [← Nat.add_mul]; exact Nat.mul_le_mul_right _ hfit
                obtain ⟨w', cs2, g1, g2, g3, g4, g5, g6, g7, g8, g9, g10, g11⟩ := storeCells_row (P := P) a'.block e' fr0 (a'.add (n * i.size)) (Addr.add_block _ _) (Addr.add_spot _ _ hs') new' 0 cs0 w p2
                  (by rw [Addr.add_off, ho, hlen']; omega)
                  (fun j hj => by
                    rw [hlen'] at hj
                    rw [Addr.add_off, ho]
                    have := q4 rfl (a.off + n * i.size + j) (by omega)
                    rw [show db + a.off + n * i.size + 0 + j = db + (a.off + n * i.size + j) by omega]
                    exact this)
                  (hnew.oneCells hel.2)
                rw [Addr.add_off, ho] at g4 g5
                obtain ⟨h1, h2'⟩ := cellsAny_spec hold
                have hrow : RowRel m (db + a.off) (old ++ new) false cs2 fr0 := by
                  intro j v hv
                  have hjl : j < n * i.size + (k + 1) * i.size := by
                    have := (List.getElem?_eq_some_iff.1 hv).1
                    simp only [List.length_append, h1, hlen] at this
                    omega
                  rw [List.getElem?_append] at hv
                  have hun : ¬ (fr0.1 ≤ db + a.off + j ∧ db + a.off + j < fr0.2) := by
                    have := q4 rfl (a.off + j) (by omega)
                    rw [show db + a.off + j = db + (a.off + j) by omega]
                    exact this
                  split at hv
                  · rename_i hj
                    rw [h1] at hj
                    obtain ⟨_, csq, eq, fq, bq, roq, hgq, hold', hle⟩ := h2' (by omega)
                    rw [hg] at hgq
                    cases hgq
                    rw [hold', List.getElem?_take, if_pos hj, List.getElem?_drop] at hv
                    obtain ⟨v', p4, p5, _⟩ := p3 _ _ hv
                    refine ⟨v', ?_, p5, fun _ => hun⟩
                    rw [g4 _ (.inl (by omega)), show db + a.off + j = db + (a.off + j) by omega]
                    exact p4
                  · rename_i hj
                    rw [h1] at hj hv
                    obtain ⟨v', p4, p5⟩ := hnew.get hv
                    refine ⟨v', ?_, fun _ => p5, fun _ => hun⟩
                    have := g5 (j - n * i.size) (by rw [hlen']; omega)
                    rw [show db + a.off + n * i.size + 0 + (j - n * i.size) = db + a.off + j by omega] at this
                    rw [this]; exact p4
                obtain ⟨hev, rfl⟩ := Ev.newIn (m := m) (A := A) (w := w) (w' := w') r hg hxx rfl hnw (cn := a'.block) (dn := db + a.off) (R := m.room a.block - a.off) (st := i.size) (fun _ => hsz) g8 g9 g10 (by omega) (by omega)
                  (fun b _ hb => g6 b hb) ⟨cs2, fr0, g2, hrow, by omega, fun j hj => by
                    have := q4 rfl (a.off + j) (by omega)
                    rw [show db + a.off + j = db + (a.off + j) by omega]
                    exact this⟩
                  (.inl ⟨rfl, rfl, cs0, cs2, e', fr0, p2, g2, g3, fun j hj => g4 j (.inl (by omega))⟩)
                refine ⟨_, w', _, run_append_in hu h2 hi (hS w rfl) hfit hr2 g1, hev, .slice (.inr ⟨by omega, by omega, ?_, ?_, _, Inj.ext_self⟩) (by omega) (fun _ => ⟨rfl, hs', _, Inj.ext_self, by simpa using ho⟩)⟩
                · simp only [Inj.ext_room, Inj.ext_st]; omega
                · intro _
                  simp only [Inj.ext_room]
                  have : 0 < c' * i.size := Nat.mul_pos hc0 hsz1
                  omega
              · -- a new array
                obtain ⟨old', o1, o2, o3⟩ := old_cells r hold (fun hp => ha (by
                  rcases Nat.eq_zero_or_pos n with h0 | h0
                  · subst h0; simp at hp
                  · omega))
                obtain ⟨h1, _⟩ := cellsAny_spec hold
                obtain ⟨newCap, rest, hcap, hrs, hrun⟩ := run_append_grow (w := w) (ty := ty) hu h2 hi hS (by omega) hr2 hr1 hz (run_old (w := w) (i := i) (base := some a') (n := n) (c := c') o1 (fun h => by cases h) (fun b hb => by cases hb; exact o3))
                have hgs := grow_size (old := old') (new := new') (rest := rest) o1 hlen' hrs hzs hcap
                have happ : (⟨old'⟩ : Array Value) ++ (⟨new'⟩ : Array Value) ++ rest = (old' ++ new').toArray ++ rest := by simp
                obtain ⟨hev, rfl⟩ := Ev.newIn (m := m) (A := A) (w := w) (w' := { w with drawn := w.drawn + 1, heap := w.heap.push (.cells ((⟨old'⟩ : Array Value) ++ (⟨new'⟩ : Array Value) ++ rest) e') }) r hg hxx rfl hnw (cn := w.heap.size) (dn := 0) (R := newCap * i.size) (st := i.size) (fun _ => hsz) rfl rfl rfl (Nat.le_succ _) (by simp)
                  (fun b hb _ => heap_alloc_lt w _ b hb) ⟨_, (0, 0), heap_alloc_self w _, by rw [happ]; exact growRow (by rw [o1, h1]) o2 hnew rest, by omega, fun j hj => by omega⟩
                  (.inr ⟨rfl, fun b hb => heap_alloc_lt w _ b hb⟩)
                refine ⟨_, _, _, hrun, hev, .slice (.inr ⟨by omega, by omega, ?_, ?_, _, Inj.ext_self⟩) hcap (fun _ => ⟨rfl, rfl, _, Inj.ext_self, rfl⟩)⟩
                · simp only [Inj.ext_room, Inj.ext_st]; omega
                · intro hp
                  simp only [Inj.ext_room]
                  have : 0 < newCap * i.size := Nat.mul_pos hp hsz1
                  omega
        | false =>
          simp only [cond_false]
          have hcu' := ble_false.1 hcu
          rw [hcu, cond_false] at hin
          split
          · trivial
          rename_i old hold
          split
          rotate_left
          · trivial
          rename_i b A' hnw
          -- the slice as it really is
          obtain ⟨base', old', hs', hbn, o1, o2, o3⟩ : ∃ (base' : Option Addr) (old' : List Value), s' = .slice base' n cap ∧ (base' = none → n = 0) ∧ (old'.length = n * i.size ∧ old.length = n * i.size) ∧
              (∀ (j : Nat) (v : Value), old[j]? = some v → ∃ v', old'[j]? = some v' ∧ (isTuple v = false → VRel m v v')) ∧ (∀ a, base' = some a → ∀ (j : Nat) (v : Value), old'[j]? = some v → w.cell? (a.add j) = some v) := by
            cases hs with
            | sliceNil =>
              simp only [Option.some.injEq] at hold
              subst hold
              exact ⟨none, [], rfl, fun _ => rfl, ⟨by simp, by simp⟩, fun j v hv => by simp at hv, fun a ha => by cases ha⟩
            | slice hc hn ha =>
              rename_i a a' c'
              rcases hc with ⟨_, rfl⟩ | ⟨h, _⟩
              · obtain ⟨old', o1, o2, o3⟩ := old_cells r hold (fun hp => ha (by
                  rcases Nat.eq_zero_or_pos n with h0 | h0
                  · subst h0; simp at hp
                  · omega))
                exact ⟨some a', old', rfl, (fun h => by cases h), ⟨o1, (cellsAny_spec hold).1⟩, o2, fun b hb => by cases hb; exact o3⟩
              · omega
          subst hs'
          obtain ⟨newCap, rest, hcap, hrs, hrun⟩ := run_append_grow (w := w) (ty := ty) hu h2 hi hS (by omega) hr2 hr1 hz (run_old (w := w) (i := i) (base := base') (n := n) (c := cap) o1.1 hbn o3)
          have hgs := grow_size (old := old') (new := new') (rest := rest) o1.1 hlen' hrs hzs hcap
          have happ : (⟨old'⟩ : Array Value) ++ (⟨new'⟩ : Array Value) ++ rest = (old' ++ new').toArray ++ rest := by simp
          have r1 : Rel m A { w with drawn := w.drawn + 1 } := r.congr rfl
          have hor : ORel m 0 (.row (old ++ new) e A.next 0 false) (.cells ((⟨old'⟩ : Array Value) ++ (⟨new'⟩ : Array Value) ++ rest) e) :=
            ⟨_, (0, 0), rfl, by rw [happ]; exact growRow (by rw [o1.1, o1.2]) o2 hnew rest⟩
          obtain ⟨rfl, _, hev⟩ := Ev.new r1 hnw hor (fun f b hf => by simp [AO.fam] at hf; exact hf.1.symm) (R := newCap * i.size) (el := e) (st := i.size) (fun _ => hsz)
            (fun csx ex fx bx rox hx => by
              cases hx
              exact ⟨fun _ => rfl, _, _, _, rfl, hgs, fun _ j hj => by omega⟩)
          refine ⟨_, _, _, hrun, (Ev.drawn r _ (Nat.le_succ _)).trans hev, .slice (.inr ⟨by omega, by omega, ?_, ?_, _, Inj.ext_self⟩) hcap (fun _ => ⟨rfl, rfl, _, Inj.ext_self, rfl⟩)⟩
          · simp only [Inj.ext_room, Inj.ext_st]; omega
          · intro hp
            simp only [Inj.ext_room]
            have : 0 < newCap * i.size := Nat.mul_pos hp hsz1
            omega

end
end Go.Abs

namespace Go.Abs

section
variable {P : Program}

theorem lenOf_sound {m : Inj P} {x x' : Value} {n0 : Nat} (hx : VRel m x x') (h : lenV x = some n0) (w : World) : (Builtin.lenOf x').run P w = .ok n0 w := by
  cases hx with
  | sliceNil => simp only [lenV, Option.some.injEq] at h; subst h; rfl
  | slice hc hn ha => simp only [lenV, Option.some.injEq] at h; subst h; rfl
  | string s =>
    simp only [lenV, Option.some.injEq] at h
    subst h
    show Result.ok s.size w = _
    rw [Lib.size_eq]
  | _ => cases h

theorem least_eq (a b : Nat) : least a b = Nat.min a b := by
  unfold least
  cases hb : Nat.ble a b with
  | true => have := ble_true.1 hb; rw [cond_true]; exact (Nat.min_eq_left this).symm
  | false => have := ble_false.1 hb; rw [cond_false]; exact (Nat.min_eq_right (by omega)).symm

theorem copyCells_sound {m : Inj P} {A : AW} {w : World} (r : Rel m A w) {x x' : Value} (hx : VRel m x x') {size n0 d : Nat} {cells : List Value} (hn : lenV x = some n0) (h : copyCells A size (Nat.min n0 d) x = some cells) :
    ∃ cells', VRels m cells cells' ∧ (Builtin.firstCells size (Nat.min n0 d) x').run P w = .ok ⟨cells'⟩ w ∧ (d = 0 → cells = []) := by
  unfold copyCells at h
  split at h
  · rename_i a sn sc
    cases hx with
    | slice hc hn' ha =>
      rename_i a' c2
      simp only [lenV, Option.some.injEq] at hn
      subst hn
      obtain ⟨h1, l', h3, h4⟩ := r.cells h (fun hp => ha (by
        have hm := Nat.min_le_left sn d
        rcases Nat.eq_zero_or_pos sn with h0 | h0
        · subst h0
          have : Nat.min 0 d = 0 := Nat.zero_min d
          rw [this] at hp; simp at hp
        · omega))
      refine ⟨l', h3, run_loadCells_rel rfl h4 (by rw [h3.length, h1]), fun hd => ?_⟩
      subst hd
      have : Nat.min sn 0 = 0 := Nat.min_zero sn
      rw [this] at h1
      exact List.eq_nil_of_length_eq_zero (by simpa using h1)
  · cases hx
    simp only [Option.some.injEq] at h
    subst h
    exact ⟨[], .nil, rfl, fun _ => rfl⟩
  · rename_i s
    cases hx
    simp only [Option.some.injEq] at h
    subst h
    refine ⟨_, VRels.map _ _ (fun b => .int _ _) _, ?_, fun hd => ?_⟩
    · simp only [Builtin.firstCells]
      show Result.ok _ w = _
      congr 1
      apply Array.ext'
      rw [Array.toList_map, Lib.extract_data]
      simp
    · subst hd
      have : Nat.min n0 0 = 0 := Nat.min_zero n0
      rw [this]; rfl
  · cases h

theorem copy_sound {m : Inj P} {A : AW} {w : World} (r : Rel m A w) {t t2 ty : TypeId} {d d' x x' : Value} (hd : VRel m d d') (hx : VRel m x x') :
    RVal P m A w VRel (copyA P A t d x) (Builtin.copy_ #[t, t2] ty #[d', x']) := by
  unfold copyA
  split
  rotate_left
  · trivial
  rename_i e base dLen cap he
  have hu := sliceElemT_spec he
  split
  rotate_left
  · trivial
  rename_i size n0 hsz hn0
  have hl := lenOf_sound (P := P) hx hn0 w
  rw [least_eq]
  split
  · trivial
  rename_i cells hcells
  -- the destination
  obtain ⟨base', c', hd', hbase⟩ : ∃ (base' : Option Addr) (c' : Nat), d' = .slice base' dLen c' ∧ ((base = none ∧ base' = none ∧ dLen = 0) ∨ ∃ a a', base = some a ∧ base' = some a' ∧ dLen ≤ c' ∧ (0 < c' → ARel m a a')) := by
    cases hd with
    | sliceNil => exact ⟨none, 0, rfl, .inl ⟨rfl, rfl, rfl⟩⟩
    | slice hc hn ha => exact ⟨_, _, rfl, .inr ⟨_, _, rfl, rfl, hn, ha⟩⟩
  subst hd'
  obtain ⟨cells', hcr, hcrun, hnil⟩ := copyCells_sound r hx hn0 hcells
  rcases hbase with ⟨rfl, rfl, rfl⟩ | ⟨a, a', rfl, rfl, hn, ha⟩
  · simp only
    refine ⟨_, w, m, ?_, .refl r, .int _ _⟩
    have h0 : Nat.min n0 0 = 0 := Nat.min_zero n0
    rw [h0] at hcrun
    simp [Builtin.copy_, run_underlying hu, hl, run_sizeOf_ok hsz, hcrun, goInt]
  · simp only
    split
    rotate_left
    · trivial
    rename_i A' hset
    have hne : cells ≠ [] → ARel m a a' := by
      intro hce
      apply ha
      rcases Nat.eq_zero_or_pos dLen with h0 | h0
      · exact absurd (hnil h0) hce
      · omega
    obtain ⟨w', g1, g2, _⟩ := Ev.setCells (i := 0) r hcr (fun hce => by simpa [Addr.add] using hne hce) hset
    refine ⟨_, w', m, ?_, g2, .int _ _⟩
    simp [Builtin.copy_, run_underlying hu, hl, run_sizeOf_ok hsz, hcrun, goInt, g1]

/-! conversions -/
theorem runesFrom_eq (s : ByteArray) : ∀ (b i : Nat) (acc : Array Value), Conv.runesFrom s b i acc = acc ++ (runesA s b i).toArray
  | 0, i, acc => by simp [Conv.runesFrom, runesA]
  | b + 1, i, acc => by
    simp only [Conv.runesFrom, runesA]
    by_cases h : i < s.size
    · have h' : Nat.blt i s.data.toList.length = true := blt_true.2 (by rw [← Lib.size_eq]; exact h)
      rw [if_pos h, h', cond_true]
      rw [runesFrom_eq s b]
      apply Array.ext'
      simp
    · have h' : Nat.blt i s.data.toList.length = false := blt_false.2 (by rw [← Lib.size_eq]; omega)
      rw [if_neg h, h', cond_false]
      simp

theorem VRels.closedL {m : Inj P} {l l' : List Value} (h : VRels m l l') (hc : ∀ v ∈ l, ∀ v', VRel m v v' → v' = v) : l' = l := VRels.eq_of h hc

theorem bytesOfCells_rel {m : Inj P} : ∀ {cs cs' : List Value} {l : List UInt8}, bytesOfCells cs = some l → VRels m cs cs' → cs' = cs
  | [], _, _, _, .nil => rfl
  | _ :: _, _, l, h, .cons r t => by
    cases r with
    | int k n =>
      cases k <;> simp only [bytesOfCells] at h <;> try (cases h; done)
      split at h
      · rename_i l' hl
        rw [bytesOfCells_rel hl t]
      · cases h
    | _ => simp [bytesOfCells] at h
theorem textOfRunes_rel {m : Inj P} : ∀ {cs cs' : List Value} {l : List UInt8}, textOfRunes cs = some l → VRels m cs cs' → cs' = cs
  | [], _, _, _, .nil => rfl
  | _ :: _, _, l, h, .cons r t => by
    cases r with
    | int k n =>
      cases k <;> simp only [textOfRunes] at h <;> try (cases h; done)
      split at h
      · rename_i l' hl
        rw [textOfRunes_rel hl t]
      · cases h
    | _ => simp [textOfRunes] at h

theorem forIn_bytes (f : Value → ByteArray → Sem (ForInStep ByteArray)) (hf : ∀ n s, f (.int .u8 n) s = pure (.yield (s.push (UInt8.ofNat n.toNat)))) : ∀ (cs : List Value) (l : List UInt8) (acc : ByteArray) (w : World), bytesOfCells cs = some l →
    (forIn cs acc f : Sem ByteArray).run P w = .ok ⟨acc.data ++ l.toArray⟩ w
  | [], l, acc, w, h => by
    simp only [bytesOfCells, Option.some.injEq] at h
    subst h
    simp
  | c :: cs, l, acc, w, h => by
    cases c <;> try (simp [bytesOfCells] at h; done)
    rename_i k n
    cases k <;> try (simp [bytesOfCells] at h; done)
    simp only [bytesOfCells] at h
    split at h
    · rename_i l' hl
      simp only [Option.some.injEq] at h
      subst h
      simp only [List.forIn_cons, hf, Sem.run_bind, Sem.run_pure, Result.andThen_ok]
      rw [forIn_bytes f hf cs l' _ w hl]
      congr 2
      apply Array.ext'
      simp [ByteArray.push]
    · cases h

end
end Go.Abs

namespace Go.Abs

section
variable {P : Program}

theorem push_modify (a : Array Obj) (x : Obj) (f : Obj → Obj) : (a.push x).modify a.size f = a.push (f x) := by
  apply Array.ext_getElem?
  intro i
  rw [Array.getElem?_modify]
  rcases Nat.lt_trichotomy i a.size with h | h | h
  · rw [if_neg (by omega), Array.getElem?_push, Array.getElem?_push, if_neg (by omega), if_neg (by omega)]
  · subst h; simp
  · rw [if_neg (by omega), Array.getElem?_push, Array.getElem?_push, if_neg (by omega), if_neg (by omega)]

theorem run_markNew (w : World) (cs : Array Value) (e : TypeId) :
    (markStringish ⟨w.heap.size, 0, none⟩).run P { w with heap := w.heap.push (.cells cs e) } = .ok () { w with heap := w.heap.push (.cells cs e (cs.size, cs.size + 1)) } := by
  have hsh : ({ w with heap := w.heap.push (.cells cs e) } : World).shape? w.heap.size = some (e, cs.size) := by simp [World.shape?]
  simp only [markStringish, Sem.run_bind, run_shape, hsh, Result.andThen_ok, run_freeze]
  congr 1
  simp only [World.freeze]
  rw [if_neg (by omega)]
  simp only [push_modify]
  simp

theorem rowRel_more {m : Inj P} {l l' : List Value} (h : VRels m l l') (rest : Array Value) (fr : Nat × Nat) (hf : l.length ≤ fr.1) : RowRel m 0 l false (l'.toArray ++ rest) fr := by
  intro i v hv
  have hi : i < l.length := (List.getElem?_eq_some_iff.1 hv).1
  obtain ⟨v', h1, h2⟩ := h.get hv
  refine ⟨v', ?_, fun _ => h2, fun _ => by omega⟩
  rw [Nat.zero_add, Array.getElem?_append_left (by simp [h.length]; exact hi)]
  simpa using h1

theorem strToBytes_sound {m : Inj P} {A : AW} {w : World} (r : Rel m A w) {e : TypeId} {s : ByteArray} {b : Nat} {A' : AW} (hs1 : szT P e = some 1)
    (h : A.new (.row (s.data.toList.map fun b => .int .u8 b.toNat) e A.next 0 false) = some (b, A')) :
    ∃ v' w' m', (Conv.stringToBytes e s).run P w = .ok v' w' ∧ Ev m A w m' A' w' ∧ VRel m' (.slice (some ⟨b, 0, none⟩) s.data.toList.length (capU + s.data.toList.length)) v' := by
  have r1 : Rel m A { w with drawn := w.drawn + 1 } := r.congr rfl
  have hf : (Question.appendCap s.size 0 e).forced = false := rfl
  have hcut := appendCap_cut s.size 0 e (w.tape w.drawn (.appendCap s.size 0 e))
  have hsz := Lib.size_eq s
  generalize hcap : (Question.appendCap s.size 0 e).cut (w.tape w.drawn (.appendCap s.size 0 e)) = cap at *
  have harr : (s.data.map fun b => Value.int .u8 b.toNat) = (s.data.toList.map fun b => Value.int .u8 (b.toNat : Int)).toArray := by
    apply Array.ext'; simp
  have hsize : ((s.data.toList.map fun b => Value.int .u8 (b.toNat : Int)).toArray ++ Array.replicate (cap - s.size) (Value.int .u8 0)).size = cap := by
    simp only [Array.size_append, List.size_toArray, List.length_map, Array.size_replicate]
    omega
  have hrel : VRels m (s.data.toList.map fun b => Value.int .u8 (b.toNat : Int)) (s.data.toList.map fun b => Value.int .u8 (b.toNat : Int)) := VRels.map _ _ (fun b => .int _ _) _
  have hor : ORel m 0 (.row (s.data.toList.map fun b => .int .u8 (b.toNat : Int)) e A.next 0 false) (.cells ((s.data.toList.map fun b => Value.int .u8 (b.toNat : Int)).toArray ++ Array.replicate (cap - s.size) (Value.int .u8 0)) e (cap, cap + 1)) :=
    ⟨_, _, rfl, rowRel_more hrel _ _ (by simp only [List.length_map]; omega)⟩
  obtain ⟨rfl, _, hev⟩ := Ev.new r1 h hor (fun f b hf => by simp [AO.fam] at hf; exact hf.1.symm) (R := cap) (el := e) (st := 1) (fun _ => hs1)
    (fun csx ex fx bx rox hx => by cases hx; exact ⟨fun _ => rfl, _, _, _, rfl, by omega, fun _ j hj => by simp; omega⟩)
  refine ⟨.slice (some ⟨w.heap.size, 0, none⟩) s.size cap, _, _, ?_, (Ev.drawn r _ (Nat.le_succ _)).trans hev, ?_⟩
  · simp only [Conv.stringToBytes, Sem.run_bind, run_choose, hf, Bool.false_eq_true, if_false, hcap, Result.andThen_ok, run_newRow, harr]
    have := run_markNew (P := P) { w with drawn := w.drawn + 1 } ((s.data.toList.map fun b => Value.int .u8 (b.toNat : Int)).toArray ++ Array.replicate (cap - s.size) (Value.int .u8 0)) e
    rw [hsize] at this
    simp only at this
    rw [this]
    rfl
  · rw [← hsz]
    exact .slice (.inr ⟨by omega, by omega, by simp only [Inj.ext_room, Inj.ext_st]; omega, fun hp => by simp only [Inj.ext_room]; omega, _, Inj.ext_self⟩) hcut (fun _ => ⟨rfl, rfl, _, Inj.ext_self, rfl⟩)

theorem strToRunes_sound {m : Inj P} {A : AW} {w : World} (r : Rel m A w) {e : TypeId} {s : ByteArray} {b : Nat} {A' : AW} (hs1 : szT P e = some 1)
    (h : A.new (.row (runesA s s.data.toList.length 0) e A.next 0 false) = some (b, A')) :
    ∃ v' w' m', (Conv.stringToRunes e s).run P w = .ok v' w' ∧ Ev m A w m' A' w' ∧ VRel m' (.slice (some ⟨b, 0, none⟩) (runesA s s.data.toList.length 0).length (capU + (runesA s s.data.toList.length 0).length)) v' := by
  have r1 : Rel m A { w with drawn := w.drawn + 1 } := r.congr rfl
  generalize hL : runesA s s.data.toList.length 0 = L at *
  have helems : Conv.runesFrom s s.size 0 #[] = L.toArray := by
    rw [runesFrom_eq, Lib.size_eq, hL]; simp
  have hclosed : ∀ (b i : Nat), ∀ v ∈ runesA s b i, closedV 1 v = true := by
    intro b
    induction b with
    | zero => intro i v hv; simp [runesA] at hv
    | succ b ih =>
      intro i v hv
      simp only [runesA] at hv
      cases hb : Nat.blt i s.data.toList.length with
      | false => rw [hb] at hv; simp at hv
      | true =>
        rw [hb, cond_true] at hv
        rcases List.mem_cons.1 hv with rfl | hv
        · rfl
        · exact ih _ v hv
  have hrel : VRels m L L := VRels.self fun v hv => closedV_rel 1 v (hclosed _ _ v (by rw [hL]; exact hv))
  have hf : (Question.appendCap L.length 0 e).forced = false := rfl
  have hcut := appendCap_cut L.length 0 e (w.tape w.drawn (.appendCap L.length 0 e))
  generalize hcap : (Question.appendCap L.length 0 e).cut (w.tape w.drawn (.appendCap L.length 0 e)) = cap at *
  have hor : ORel m 0 (.row L e A.next 0 false) (.cells (L.toArray ++ Array.replicate (cap - L.length) (Value.int .i32 0)) e (0, 0)) := by
    refine ⟨_, _, rfl, ?_⟩
    intro i v hv
    have hi : i < L.length := (List.getElem?_eq_some_iff.1 hv).1
    obtain ⟨v', h1, h2⟩ := hrel.get hv
    refine ⟨v', ?_, fun _ => h2, fun _ => by simp⟩
    rw [Nat.zero_add, Array.getElem?_append_left (by simpa using hi)]
    simpa using h1
  obtain ⟨rfl, _, hev⟩ := Ev.new r1 h hor (fun f b hf => by simp [AO.fam] at hf; exact hf.1.symm) (R := cap) (el := e) (st := 1) (fun _ => hs1)
    (fun csx ex fx bx rox hx => by cases hx; exact ⟨fun _ => rfl, _, _, _, rfl, by simp; omega, fun _ j hj => by simp⟩)
  refine ⟨.slice (some ⟨w.heap.size, 0, none⟩) L.length cap, _, _, ?_, (Ev.drawn r _ (Nat.le_succ _)).trans hev, ?_⟩
  · simp only [Conv.stringToRunes, helems, List.size_toArray, Sem.run_bind, run_choose, hf, Bool.false_eq_true, if_false, hcap, Result.andThen_ok, run_newRow]
    rfl
  · exact .slice (.inr ⟨by omega, by omega, by simp only [Inj.ext_room, Inj.ext_st]; omega, fun hp => by simp only [Inj.ext_room]; omega, _, Inj.ext_self⟩) hcut (fun _ => ⟨rfl, rfl, _, Inj.ext_self, rfl⟩)

end
end Go.Abs

namespace Go.Abs

section
variable {P : Program}

theorem forIn_runes (f : Value → ByteArray → Sem (ForInStep ByteArray)) (hf : ∀ n s, f (.int .i32 n) s = pure (.yield (s ++ Utf8.encode n))) : ∀ (cs : List Value) (l : List UInt8) (acc : ByteArray) (w : World), textOfRunes cs = some l →
    (forIn cs acc f : Sem ByteArray).run P w = .ok ⟨acc.data ++ l.toArray⟩ w
  | [], l, acc, w, h => by
    simp only [textOfRunes, Option.some.injEq] at h
    subst h
    simp
  | c :: cs, l, acc, w, h => by
    cases c <;> try (simp [textOfRunes] at h; done)
    rename_i k n
    cases k <;> try (simp [textOfRunes] at h; done)
    simp only [textOfRunes] at h
    split at h
    · rename_i l' hl
      simp only [Option.some.injEq] at h
      subst h
      simp only [List.forIn_cons, hf, Sem.run_bind, Sem.run_pure, Result.andThen_ok]
      rw [forIn_runes f hf cs l' _ w hl, append_data]
      congr 2
      apply Array.ext'
      simp
    · cases h

theorem run_noView (w : World) (c : Nat) (cs : Array Value) (e : TypeId) (fr : Nat × Nat) (h : w.heap[c]? = some (.cells cs e fr)) : (viewAt c).run P w = .ok none w := by
  simp [viewAt, World.shape?, h]

theorem liesAt_mono (p : Program) : ∀ (d : Nat) (e : TypeId) (c c' off : Nat) (u : TypeId) (n : Nat), c ≤ c' → liesAt p d e c off u n = true → liesAt p d e c' off u n = true := by
  have hrow : ∀ (f : TypeId → Bool) (d : Nat) (e : TypeId) (c c' off n : Nat), c ≤ c' → rowAt p f d e c off n = true → rowAt p f d e c' off n = true := by
    intro f d
    cases d with
    | zero => intro e c c' off n hc h; simp [rowAt] at h
    | succ d =>
      intro e c c' off n hc h
      simp only [rowAt] at h ⊢
      split at h
      · cases h
      · rename_i hs
        rw [if_neg hs]
        simp only [Bool.or_eq_true, Bool.and_eq_true, decide_eq_true_eq] at h ⊢
        rcases h with ⟨⟨h1, h2⟩, h3⟩ | ⟨h1, h2⟩
        · exact .inl ⟨⟨h1, by omega⟩, h3⟩
        · exact .inr ⟨by omega, h2⟩
  intro d
  induction d with
  | zero => intro e c c' off u n hc h; simp [liesAt] at h
  | succ d ih =>
    intro e c c' off u n hc h
    simp only [liesAt, Bool.or_eq_true] at h ⊢
    rcases h with h | h
    · exact .inl (hrow _ _ _ _ _ _ _ hc h)
    · refine .inr ?_
      split at h
      · exact ih _ _ _ _ _ _ hc h
      · cases h

/-- a row in the world, at least as long as it is known -/
theorem Rel.rowSize {m : Inj P} {A : AW} {w : World} (r : Rel m A w) {i : Nat} {cs : List Value} {e f b : Nat} {ro : Bool} (hg : A.get i = some (.row cs e f b ro)) {c d : Nat} (hm : m i = some (c, d)) :
    ∃ cs' fr, w.heap[c]? = some (.cells cs' e fr) ∧ (0 < cs.length → d + cs.length ≤ cs'.size) := by
  obtain ⟨c0, d0, o', g1, g2, cs', fr, rfl, hr⟩ := r.objAt hg hm
  rw [hm] at g1
  simp only [Option.some.injEq, Prod.mk.injEq] at g1
  obtain ⟨rfl, rfl⟩ := g1
  refine ⟨cs', fr, g2, fun hp => ?_⟩
  obtain ⟨v', h1, _⟩ := hr (cs.length - 1) _ (List.getElem?_eq_getElem (by omega))
  have := (Array.getElem?_eq_some_iff.1 h1).1
  omega

theorem convert_sound {m : Inj P} {A : AW} {w : World} (r : Rel m A w) {src dst : TypeId} {x x' : Value} (hx : VRel m x x') : RVal P m A w VRel (convertA P A src dst x) (convert src dst x') := by
  unfold convertA
  split
  · rename_i d k k0 n hs hd
    cases hx
    refine ⟨_, w, m, ?_, .refl r, .int _ _⟩
    cases d <;> simp [convert, run_underlying hs, run_underlying hd, Conv.intToInt]
  · rename_i d k n hs hd
    cases hx
    refine ⟨_, w, m, ?_, .refl r, .string _⟩
    cases d <;> simp [convert, run_underlying hs, run_underlying hd, Conv.intToString]
  · rename_i d s hs hd
    cases hx
    refine ⟨_, w, m, ?_, .refl r, .string _⟩
    cases d <;> simp [convert, run_underlying hs, run_underlying hd]
  · rename_i e s hs hd
    cases hx
    split
    · rename_i he h1
      split
      rotate_left
      · trivial
      rename_i b A' hn
      obtain ⟨v', w', m', g1, g2, g3⟩ := strToBytes_sound r h1 hn
      exact ⟨v', w', m', by simp [convert, run_underlying hs, run_underlying hd, run_underlying he, g1], g2, g3⟩
    · rename_i he h1
      split
      rotate_left
      · trivial
      rename_i b A' hn
      obtain ⟨v', w', m', g1, g2, g3⟩ := strToRunes_sound r h1 hn
      exact ⟨v', w', m', by simp [convert, run_underlying hs, run_underlying hd, run_underlying he, g1], g2, g3⟩
    · trivial
  · rename_i e n c hs hd
    cases hx
    split
    · rename_i he
      exact ⟨_, w, m, by simp [convert, run_underlying hs, run_underlying hd, run_underlying he, Conv.bytesToString], .refl r, .string _⟩
    · rename_i he
      exact ⟨_, w, m, by simp [convert, run_underlying hs, run_underlying hd, run_underlying he, Conv.runesToString], .refl r, .string _⟩
    · trivial
  · rename_i e a n c hs hd
    cases hx with
    | slice hc hn ha =>
      rename_i a' c'
      have hcells : ∀ {cs : List Value}, A.cells? a n = some cs → cs.length = n ∧ ∃ cs', VRels m cs cs' ∧ (loadCells a' n).run P w = .ok ⟨cs'⟩ w := by
        intro cs hcs
        obtain ⟨h1, l', h3, h4⟩ := r.cells hcs (fun hp => ha (by omega))
        exact ⟨h1, l', h3, run_loadCells_rel rfl h4 (by rw [h3.length, h1])⟩
      split
      · rename_i cs he hcs
        obtain ⟨h1, cs', h2, h3⟩ := hcells hcs
        split
        rotate_left
        · trivial
        rename_i l hl
        rw [bytesOfCells_rel hl h2] at h3
        refine ⟨_, w, m, ?_, .refl r, .string _⟩
        simp [convert, run_underlying hs, run_underlying hd, run_underlying he, Conv.bytesToString, h3]
        rw [forIn_bytes _ (fun _ _ => rfl) cs l .empty w hl]
        simp
      · rename_i cs he hcs
        obtain ⟨h1, cs', h2, h3⟩ := hcells hcs
        split
        rotate_left
        · trivial
        rename_i l hl
        rw [textOfRunes_rel hl h2] at h3
        refine ⟨_, w, m, ?_, .refl r, .string _⟩
        simp [convert, run_underlying hs, run_underlying hd, run_underlying he, Conv.runesToString, h3]
        rw [forIn_runes _ (fun _ _ => rfl) cs l .empty w hl]
        simp
      · trivial
  · rename_i t hs hd
    cases hx
    exact ⟨_, w, m, by simp [convert, run_underlying hs, run_underlying hd, Conv.unsafePointer], .refl r, .ptrNil⟩
  · rename_i t a hs hd
    cases hx with
    | ptr ha =>
      rename_i a'
      split
      rotate_left
      · trivial
      rename_i k cs e f b ro hk hsp hg
      cases hb : Nat.blt a.off cs.length with
      | false => simp only [cond_false]; trivial
      | true =>
        simp only [cond_true]
        have hb := blt_true.1 hb
        obtain ⟨_, hs', d, hm, ho⟩ := ha
        obtain ⟨cs', fr, hh, hsz⟩ := r.rowSize hg hm
        have hsz := hsz (by omega)
        refine ⟨_, w, m, ?_, .refl r, .ptr ⟨hsp, hs', d, hm, ho⟩⟩
        have hsh : w.shape? a'.block = some (e, cs'.size) := by simp [World.shape?, hh]
        have hno : ¬ (cs'.size ≤ a'.off) := by omega
        simp [convert, run_underlying hs, run_underlying hd, Conv.unsafePointer, Conv.seenAt, run_noView w _ _ _ _ hh, cellsIn, hsh, run_sizeOf_ok hk, hs', hno]
  · rename_i t hs hd
    cases hx
    exact ⟨_, w, m, by simp [convert, run_underlying hs, run_underlying hd, Conv.unsafePointer], .refl r, .ptrNil⟩
  · rename_i t a hs hd
    cases hx with
    | ptr ha =>
      rename_i a'
      split
      rotate_left
      · trivial
      rename_i cs e f b ro su hsp hg hsu
      cases hb : (Nat.beq f a.block && liesAt P P.depth e (cs.length / P.cellsOf e) a.off t 1) with
      | false => simp only [cond_false]; trivial
      | true =>
        simp only [cond_true]
        simp only [Bool.and_eq_true] at hb
        have hf := beq_true.1 hb.1
        subst hf
        obtain ⟨_, hs', d, hm, ho⟩ := ha
        obtain ⟨cs', fr, hh, hsz⟩ := r.rowSize hg hm
        have hd0 := r.home _ _ _ _ _ hg _ _ hm
        subst hd0
        refine ⟨_, w, m, ?_, .refl r, .ptr ⟨hsp, hs', 0, hm, ho⟩⟩
        have hsh : w.shape? a'.block = some (e, cs'.size) := by simp [World.shape?, hh]
        have hle : cs.length / P.cellsOf e ≤ cs'.size / P.cellsOf e := by
          apply Nat.div_le_div_right
          rcases Nat.eq_zero_or_pos cs.length with h0 | h0
          · omega
          · have := hsz h0; omega
        have hli := liesAt_mono P P.depth e _ _ a.off t 1 hle hb.2
        have ho' : a'.off = a.off := by omega
        have hva : (variablesAt a' t 1).run P w = .ok true w := by
          simp [variablesAt, hsh, ho', hli]
        simp [convert, run_underlying hs, run_underlying hd, Conv.unsafePointer, Conv.seenAt, run_noView w _ _ _ _ hh, run_sizeOf_ok hsu, hva]
  · trivial

/-! the rest of the plain operations -/
theorem typeAssert_sound {m : Inj P} {x x' : Value} {xt at_ : TypeId} {ok : Bool} (hx : VRel m x x') (w : World) : RPure P m w (typeAssertA P x xt at_ ok) (Instr.typeAssert x' xt at_ ok) := by
  intro v h
  have hholds : ∀ {y y' : Value}, VRel m y y' → VRel m (bif ok then .tuple #[y, .bool true] else y) (if ok then .tuple #[y', .bool true] else y') := by
    intro y y' hy
    cases ok
    · exact hy
    · exact .tuple2 hy (.bool true)
  unfold typeAssertA at h
  simp only at h
  split at h
  · rename_i ms hu
    cases hx
    cases ok with
    | false => cases h
    | true =>
      simp only [cond_true] at h
      split at h
      · rename_i z hz
        simp only [Option.some.injEq] at h
        subst h
        exact ⟨_, by simp [Instr.typeAssert, run_underlying hu, run_zeroValue_ok hz], .tuple2 (closedV_rel 4 z (zeroT_info hz).2) (.bool false)⟩
      · cases h
  · rename_i want t v0 hu
    cases hx with
    | iface _ hv =>
      split at h
      · rename_i i hi
        split at h
        · rename_i hm
          simp only [Option.some.injEq] at h
          subst h
          exact ⟨_, by simp [Instr.typeAssert, run_underlying hu, run_typeInfo_ok hi, hm], hholds (.iface t hv)⟩
        · rename_i mm hm
          cases ok with
          | false => cases h
          | true =>
            simp only [cond_true] at h
            split at h
            · rename_i z hz
              simp only [Option.some.injEq] at h
              subst h
              exact ⟨_, by simp [Instr.typeAssert, run_underlying hu, run_typeInfo_ok hi, hm, run_zeroValue_ok hz], .tuple2 (closedV_rel 4 z (zeroT_info hz).2) (.bool false)⟩
            · cases h
      · cases h
  · rename_i d hne hu
    cases hx
    cases ok with
    | false => cases h
    | true =>
      simp only [cond_true] at h
      split at h
      · rename_i z hz
        simp only [Option.some.injEq] at h
        subst h
        refine ⟨_, ?_, .tuple2 (closedV_rel 4 z (zeroT_info hz).2) (.bool false)⟩
        cases d <;> simp [Instr.typeAssert, run_underlying hu, run_zeroValue_ok hz] <;> rfl
      · cases h
  · rename_i d t v0 hne hu
    cases hx with
    | iface _ hv =>
      have hne' : ∀ ms, d ≠ .interface ms := fun ms e => by subst e; exact hne _ rfl
      cases hb : Nat.beq t at_ with
      | true =>
        have hb' := beq_true.1 hb
        rw [hb, cond_true] at h
        simp only [Option.some.injEq] at h
        subst h
        refine ⟨_, ?_, hholds hv⟩
        cases d <;> first | (exact absurd rfl (hne' _)) | (simp [Instr.typeAssert, run_underlying hu, hb'] <;> rfl)
      | false =>
        have hb' := beq_false.1 hb
        rw [hb, cond_false] at h
        cases ok with
        | false => cases h
        | true =>
          simp only [cond_true] at h
          split at h
          · rename_i z hz
            simp only [Option.some.injEq] at h
            subst h
            refine ⟨_, ?_, .tuple2 (closedV_rel 4 z (zeroT_info hz).2) (.bool false)⟩
            cases d <;> first | (exact absurd rfl (hne' _)) | (simp [Instr.typeAssert, run_underlying hu, hb', run_zeroValue_ok hz] <;> rfl)
          · cases h
  · cases h
  · cases h

end
end Go.Abs

namespace Go.Abs

section
variable {P : Program}

def NRel (m : Inj P) : AN → Next → Prop
  | .value v, n => ∃ v', n = .value v' ∧ VRel m v v'
  | .skip, n => n = .skip
  | .enter f args, n => ∃ args', n = .enter f ⟨args'⟩ ∧ VRels m args args'
  | .round l fn tm assign body, n => ∃ l' tmps', n = .round l' fn tmps' assign body ∧ m l = some (l', 0) ∧ TmRel m tm tmps' ∧ codeOk P assign = true ∧ codeOk P body = true
  | .defer d, n => ∃ d', n = .defer d' ∧ DRel m d d'
  | .recover, n => n = .recover
  | .rangeNext _, _ => True

/-- the model's operation comes to what the abstract one says -/
def RNext (P : Program) (m : Inj P) (A : AW) (w : World) (r : R AN) (s : Sem Next) : Prop :=
  match r with
  | .ok (.rangeNext _) _ => True
  | .ok n A' => ∃ n' w' m', s.run P w = .ok n' w' ∧ Ev m A w m' A' w' ∧ NRel m' n n'
  | .panic v A' => ∃ v' w' m', s.run P w = .halt (.panic v') w' ∧ Ev m A w m' A' w' ∧ VRel m' v v'
  | .fail _ => True

theorem RNext.of_val {m : Inj P} {A : AW} {w : World} {r : R Value} {s : Sem Value} (h : RVal P m A w VRel r s) :
    RNext P m A w (match (generalizing := false) r with | .ok v w => .ok (.value v) w | .panic v w => .panic v w | .fail y => .fail y) (do pure (.value (← s))) := by
  cases r with
  | ok v A' =>
    obtain ⟨v', w', m', h1, h2, h3⟩ := h
    exact ⟨.value v', w', m', by simp [h1], h2, v', rfl, h3⟩
  | panic v A' =>
    obtain ⟨v', w', m', h1, h2, h3⟩ := h
    exact ⟨v', w', m', by simp [h1], h2, h3⟩
  | fail y => trivial

theorem RNext.of_pure {m : Inj P} {A : AW} {w : World} (r : Rel m A w) {o : Option Value} {s : Sem Value} {why : String} (h : RPure P m w o s) :
    RNext P m A w (match (generalizing := false) o with | some v => .ok (.value v) A | none => .fail why) (do pure (.value (← s))) := by
  cases o with
  | none => trivial
  | some v =>
    obtain ⟨v', h1, h2⟩ := h v rfl
    exact ⟨.value v', w, m, by simp [h1], .refl r, v', rfl, h2⟩

theorem RNext.of_unit {m : Inj P} {A : AW} {w : World} {o : Option AW} {s : Sem Unit} {why : String} (h : ∀ A', o = some A' → ∃ w', s.run P w = .ok () w' ∧ ∃ m', Ev m A w m' A' w') :
    RNext P m A w (match (generalizing := false) o with | some A' => .ok .skip A' | none => .fail why) (do s; pure .skip) := by
  cases o with
  | none => trivial
  | some A' =>
    obtain ⟨w', h1, m', h2⟩ := h A' rfl
    exact ⟨.skip, w', m', by simp [h1], h2, rfl⟩

theorem RNext.of_one {m : Inj P} {A A' : AW} {w : World} {v : Value} {s : Sem Value} (h : ∃ v' w' m', s.run P w = .ok v' w' ∧ Ev m A w m' A' w' ∧ VRel m' v v') :
    RNext P m A w (.ok (.value v) A') (do pure (.value (← s))) := by
  obtain ⟨v', w', m', h1, h2, h3⟩ := h
  exact ⟨.value v', w', m', by simp [h1], h2, v', rfl, h3⟩

/-! making objects that are no rows -/
theorem newObj_sound {m : Inj P} {A A' : AW} {w : World} (r : Rel m A w) {o : AO} {o' : Obj} {b : Nat} (h : A.new o = some (b, A')) (hr : ORel m 0 o o') (hf : o.fam = none) :
    ∃ m', Ev m A w m' A' { w with heap := w.heap.push o' } ∧ m' b = some (w.heap.size, 0) := by
  obtain ⟨rfl, _, h3⟩ := Ev.new r h hr (fun f b hfb => by rw [hf] at hfb; cases hfb) (R := 0) (el := 0) (st := 0) (fun h => absurd rfl h) (fun cs e f b ro he => by subst he; simp [AO.fam] at hf)
  exact ⟨_, h3, Inj.ext_self⟩

theorem lastOf_eq : ∀ l : List Nat, lastOf l = l.getLast?
  | [] => rfl
  | [x] => rfl
  | x :: y :: r => by
    rw [show lastOf (x :: y :: r) = lastOf (y :: r) from rfl, lastOf_eq (y :: r)]
    simp

theorem findBorn_find {m : Inj P} {n : Nat} : ∀ {es es' : List MapEntry} {i j : Nat} {e : MapEntry}, All2 (ERel m) es es' → findBorn n es i = some j → es[j - i]? = some e → ∃ e', es'.find? (·.born == n) = some e' ∧ ERel m e e'
  | _, _, i, j, e, .nil, h, _ => by simp [findBorn] at h
  | _, _, i, j, e, .cons (a := x) (b := x') he ht, h, hj => by
    simp only [findBorn] at h
    cases hb : Nat.beq x.born n with
    | true =>
      rw [hb, cond_true] at h
      simp only [Option.some.injEq] at h
      subst h
      have hb := beq_true.1 hb
      simp at hj
      subst hj
      exact ⟨x', by simp [he.born, hb], he⟩
    | false =>
      rw [hb, cond_false] at h
      have hb := beq_false.1 hb
      have hle := (findBorn_sound ht h).1
      rw [show j - i = (j - (i + 1)) + 1 by omega] at hj
      obtain ⟨e', h1, h2⟩ := findBorn_find ht h (by simpa using hj)
      refine ⟨e', ?_, h2⟩
      rw [List.find?_cons_of_neg (by simp [he.born, hb])]
      exact h1

theorem entry_sound {m : Inj P} {A : AW} {w : World} (r : Rel m A w) {x x' : Value} (hx : VRel m x x') : RPure P m w (entryA A x) (Instr.entry x') := by
  intro v h
  unfold entryA at h
  split at h
  · rename_i rr sp
    cases hx with
    | ptr ha =>
      rename_i a'
      obtain ⟨hs, hs', d, hm, ho⟩ := ha
      simp only at hs hm ho
      split at h
      · rename_i i since seen stepped hg
        obtain ⟨c0, d0, o', g1, g2, g3, r', rfl, g4⟩ := r.objAt hg hm
        rw [hm] at g1
        simp only [Option.some.injEq, Prod.mk.injEq] at g1
        obtain ⟨rfl, rfl⟩ := g1
        subst g3
        split at h
        · rename_i stamp es clock ro hst hgm
          obtain ⟨c1, d1, o1, k1, k2, k3, es', rfl, k4⟩ := r.objAt hgm g4
          rw [g4] at k1
          simp only [Option.some.injEq, Prod.mk.injEq] at k1
          obtain ⟨rfl, _⟩ := k1
          cases hb : Nat.beq clock stepped with
          | false => rw [hb] at h; cases h
          | true =>
            rw [hb, cond_true] at h
            have hb := beq_true.1 hb
            split at h
            · rename_i j hj
              split at h
              · rename_i e hej
                simp only [Option.some.injEq] at h
                subst h
                obtain ⟨ab, ao, asp⟩ := a'
                simp only at hs' hm ho g2
                subst hs'
                simp only [Nat.add_zero] at ho
                subst ho
                obtain ⟨e', q1, q2⟩ := findBorn_find k4 hj (by simpa using hej)
                refine ⟨_, ?_, .tuple2 q2.key q2.val⟩
                have hback : (⟨seen⟩ : Array Nat).back? = some stamp := by
                  rw [lastOf_eq] at hst
                  simpa using hst
                subst hb
                simp [Instr.entry, run_getObj_ok P w ab _ g2, hback, run_getObj_ok P w _ _ k2, q1]
              · cases h
            · cases h
        · cases h
      · cases h
  · cases h

theorem nextStr_sound {m : Inj P} {A : AW} {w : World} (r : Rel m A w) {x x' : Value} {isS : Bool} {ty : TypeId} (hx : VRel m x x') : RNext P m A w (nextA A x isS) (do pure (.value (← Instr.next x' isS ty))) := by
  unfold nextA
  split
  rotate_left
  · trivial
  rename_i rr sp
  cases hx with
  | ptr ha =>
    rename_i a'
    obtain ⟨hs, hs', d, hm, ho⟩ := ha
    simp only at hs hm ho
    obtain ⟨ab, ao, asp⟩ := a'
    simp only at hs' hm ho
    subst hs'
    split
    · rename_i s pos hg
      obtain ⟨c0, d0, o', g1, g2, g3⟩ := r.objAt hg hm
      rw [hm] at g1
      simp only [Option.some.injEq, Prod.mk.injEq] at g1
      obtain ⟨rfl, rfl⟩ := g1
      obtain ⟨rfl, rfl⟩ := g3
      simp only [Nat.add_zero] at ho
      subst ho
      cases hb : Nat.blt pos s.data.toList.length with
      | true =>
        have hb' := blt_true.1 hb
        rw [← Lib.size_eq] at hb'
        simp only [cond_true]
        refine ⟨_, _, m, ?_, Ev.putObj r hg rfl rfl hm g2 (o2 := .sit s (pos + (Utf8.decode s pos).2)) ⟨rfl, rfl⟩ rfl rfl, _, rfl, .tuple (.cons (.bool true) (.cons (.int _ _) (.cons (.int _ _) .nil)))⟩
        simp only [Instr.next, Sem.run_bind, run_getObj_ok P w ab _ g2 (by simp), Result.andThen_ok, if_pos hb', run_setObj_ok P w ab _ _ g2 (by simp)]
        rfl
      | false =>
        have hb' := blt_false.1 hb
        rw [← Lib.size_eq] at hb'
        simp only [cond_false]
        refine ⟨_, w, m, ?_, .refl r, _, rfl, .tuple (.cons (.bool false) .nil)⟩
        simp only [Instr.next, Sem.run_bind, run_getObj_ok P w ab _ g2 (by simp), Result.andThen_ok, if_neg (show ¬ pos < s.size by omega)]
        rfl
    · rename_i hg
      rename_i since seen stepped
      obtain ⟨c0, d0, o', g1, g2, g3⟩ := r.objAt hg hm
      rw [hm] at g1
      simp only [Option.some.injEq, Prod.mk.injEq] at g1
      obtain ⟨rfl, rfl⟩ := g1
      obtain ⟨rfl, rfl⟩ := g3
      simp only [Nat.add_zero] at ho
      subst ho
      refine ⟨_, w, m, ?_, .refl r, _, rfl, .tuple (.cons (.bool false) .nil)⟩
      simp only [Instr.next, Sem.run_bind, run_getObj_ok P w ab _ g2 (by simp), Result.andThen_ok]
      rfl
    · trivial
    · trivial

end
end Go.Abs

namespace Go.Abs

section
variable {P : Program}

/-- the externs are those that the lists say -/
structure XOk (P : Program) (X : XNames) : Prop where
  clone : ∀ f, memN f X.clone = true → ∃ fn, P.funcs[f]? = some fn ∧ fn.body = none ∧ (fn.name == "runtime.NumGoroutine") = false ∧ Extern.findNext fn = none ∧ Extern.find fn = some Extern.MapsClone.clone
  noEscape : ∀ f, memN f X.noEscape = true → ∃ fn, P.funcs[f]? = some fn ∧ fn.body = none ∧ (fn.name == "runtime.NumGoroutine") = false ∧ Extern.findNext fn = none ∧ Extern.find fn = some Extern.AbiNoEscape.same
  noZero : ∀ f, memN f X.noZero = true → ∃ fn, P.funcs[f]? = some fn ∧ fn.body = none ∧ (fn.name == "runtime.NumGoroutine") = false ∧ Extern.findNext fn = none ∧ Extern.find fn = some (Extern.BytealgMakeNoZero.makeNoZero fn.params fn.resultTypes) ∧ fn.resultTypes.size = 1

theorem run_extern {f : FuncId} {fn : Func} {e : Array Value → Sem Value} (hf : P.funcs[f]? = some fn) (hb : fn.body = none) (hn : (fn.name == "runtime.NumGoroutine") = false) (h1 : Extern.findNext fn = none) (h2 : Extern.find fn = some e)
    (args : Array Value) (w : World) : (callFunc f args).run P w = ((e args).run P w).andThen fun v w' => .ok (.value v) w' := by
  simp only [callFunc, Sem.run_bind, run_program, Result.andThen_ok, hf, hn, hb, Option.isNone_none, if_true, Bool.false_eq_true, if_false, run_mark, h1, h2, Sem.run_pure]

theorem run_enter {f : FuncId} (h : hasBody P f = true) (args : Array Value) (w : World) : (callFunc f args).run P w = .ok (.enter f args) w := by
  unfold hasBody at h
  split at h
  · rename_i fn hf
    simp only [Bool.and_eq_true, Bool.not_eq_true'] at h
    have hb : fn.body.isNone = false := by cases hq : fn.body <;> simp_all
    simp only [callFunc, Sem.run_bind, run_program, Result.andThen_ok, hf, h.2, hb, Bool.false_eq_true, if_false, Sem.run_pure]
  · cases h

theorem VRels.closedAll {m : Inj P} {l l' : List Value} (h : VRels m l l') (hc : l.all (closedV 4) = true) : l' = l :=
  VRels.eq_of h fun v hv v' hr => closedV_eq 4 v v' (List.all_eq_true.1 hc v hv) hr

theorem poisons_get : ∀ (n i : Nat) (v : Value), (poisons n)[i]? = some v → i < n ∧ isTuple v = true
  | 0, i, v, h => by simp [poisons] at h
  | n + 1, 0, v, h => by simp [poisons] at h; subst h; exact ⟨by omega, rfl⟩
  | n + 1, i + 1, v, h => by
    simp [poisons] at h
    obtain ⟨h1, h2⟩ := poisons_get n i v h
    exact ⟨by omega, h2⟩

theorem run_clone {es : Array MapEntry} {clock : Nat} (w : World) (t : TypeId) (c : Nat) (hc : w.heap[c]? = some (.map es clock)) :
    (Extern.MapsClone.clone ⟨[.iface t (.map (some c))]⟩).run P w = .ok (.iface t (.map (some w.heap.size))) (w.alloc (.map es clock)) := by
  refine (show Sem.run P (getObj c >>= _) w = _ from ?_)
  rw [Sem.run_bind, run_getObj_ok P w c _ hc (fun _ _ _ h => by cases h), Result.andThen_ok]
  rfl

theorem callFunc_sound {X : XNames} (hX : XOk P X) {m : Inj P} {A : AW} {w : World} (r : Rel m A w) {f : FuncId} {args args' : List Value} (ha : VRels m args args') :
    RNext P m A w (callFuncA P X A f args) (callFunc f ⟨args'⟩) := by
  unfold callFuncA
  cases hb : hasBody P f with
  | true => exact ⟨_, w, m, run_enter hb _ w, .refl r, args', rfl, ha⟩
  | false =>
    simp only [cond_false]
    cases hcl : memN f X.clone with
    | true =>
      simp only [cond_true]
      split
      rotate_left
      · trivial
      rename_i t i
      obtain ⟨fn, h1, h2, h3, h4, h5⟩ := hX.clone f hcl
      cases ha with
      | cons hv ht =>
        cases ht
        cases hv with
        | iface _ hv =>
          split
          rotate_left
          · trivial
          rename_i es clock ro hg
          obtain ⟨c, es', rfl, hm, hc, he⟩ := r.map hg hv
          split
          rotate_left
          · trivial
          rename_i b A' hn
          obtain ⟨m', g1, g2⟩ := newObj_sound (o' := .map ⟨es'⟩ clock) r hn ⟨rfl, es', rfl, he⟩ rfl
          refine ⟨_, _, m', ?_, g1, _, rfl, .iface t (.map g2)⟩
          rw [run_extern h1 h2 h3 h4 h5, run_clone w t c hc]
          rfl
    | false =>
      simp only [cond_false]
      cases hne : memN f X.noEscape with
      | true =>
        simp only [cond_true]
        split
        rotate_left
        · trivial
        rename_i x
        obtain ⟨fn, h1, h2, h3, h4, h5⟩ := hX.noEscape f hne
        cases ha with
        | cons hv ht =>
          cases ht
          refine ⟨_, w, m, ?_, .refl r, _, rfl, hv⟩
          rw [run_extern h1 h2 h3 h4 h5]
          rfl
      | false =>
        simp only [cond_false]
        cases hnz : memN f X.noZero with
        | true =>
          simp only [cond_true]
          split
          rotate_left
          · trivial
          rename_i n e he
          obtain ⟨fn, h1, h2, h3, h4, h5, h6⟩ := hX.noZero f hnz
          cases hq : (Nat.blt n room && (match szT P e with | some 1 => true | _ => false)) with
          | false => simp only [cond_false]; trivial
          | true =>
            simp only [cond_true]
            simp only [Bool.and_eq_true] at hq
            have hn1 := blt_true.1 hq.1
            unfold room at hn1
            have hs1 : szT P e = some 1 := by
              have := hq.2
              split at this
              · assumption
              · cases this
            split
            rotate_left
            · trivial
            rename_i b A' hn
            cases ha with
            | cons hv ht =>
              cases ht
              cases hv
              rw [h1] at he
              simp only [Option.bind_some] at he
              obtain ⟨t0, ht0, hte⟩ : ∃ t0, fn.resultTypes = #[t0] ∧ sliceElemT P t0 = some e := by
                obtain ⟨t0, h7⟩ := Array.size_eq_one_iff.1 h6
                rw [h7] at he
                exact ⟨t0, h7, he⟩
              rw [ht0] at h5
              obtain ⟨cs, hrun, hcs, _⟩ := Go.Lib.run_makeNoZero w fn.params t0 e (sliceElemT_spec hte) n (by omega)
              have r1 : Rel m A w.drew.drew := r.congr rfl
              have hor : ORel m 0 (.row (poisons n) e A.next 0 false) (.cells cs e (0, 0)) := by
                refine ⟨_, _, rfl, fun i v hv => ?_⟩
                obtain ⟨q1, q2⟩ := poisons_get n i v hv
                refine ⟨cs[0 + i]'(by omega), Array.getElem?_eq_getElem _, fun t => ?_, fun _ => by simp⟩
                rw [q2] at t; cases t
              obtain ⟨rfl, _, hev⟩ := Ev.new r1 hn hor (fun f b hf => by simp [AO.fam] at hf; exact hf.1.symm) (R := cs.size) (el := e) (st := 1) (fun _ => hs1)
                (fun csx ex fx bx rox hx => by cases hx; exact ⟨fun _ => rfl, _, _, _, rfl, by omega, fun _ j hj => by simp⟩)
              refine ⟨.value (.slice (some ⟨w.heap.size, 0, none⟩) n cs.size), _, _, ?_, (Ev.drawn r (w.drawn + 1 + 1) (by omega)).trans hev, _, rfl, .slice (.inr ⟨by omega, by omega, by simp only [Inj.ext_room, Inj.ext_st]; omega, fun hp => by simp only [Inj.ext_room]; omega, _, Inj.ext_self⟩) hcs (fun _ => ⟨rfl, rfl, _, Inj.ext_self, rfl⟩)⟩
              rw [run_extern h1 h2 h3 h4 h5, show Int.ofNat n = (n : Int) from rfl, hrun]
              rfl
        | false =>
          simp only [cond_false]
          cases hall : args.all (closedV 4) with
          | false => simp only [cond_false]; trivial
          | true =>
            simp only [cond_true]
            rw [ha.closedAll hall]
            split
            · rename_i v hq
              cases hv : closedV 4 v with
              | false => simp only [cond_false]; trivial
              | true =>
                simp only [cond_true]
                exact ⟨_, w, m, quiet_run _ hq w, .refl r, v, rfl, closedV_rel 4 v hv⟩
            · trivial

end
end Go.Abs

namespace Go.Abs

section
variable {P : Program}

inductive PlRel (m : Inj P) : APlace → Place → Prop
  | val {v v' : Value} (h : VRel m v v') : PlRel m (.val v) (.val v')
  | var {a a' : Addr} (h : ARel m a a') : PlRel m (.var a) (.var a')

def APlace.getA (P : Program) (A : AW) (t : TypeId) : APlace → Option Value
  | .val v => some v
  | .var a => loadVarA P A t a

theorem PlRel.get {m : Inj P} {A : AW} {w : World} (r : Rel m A w) {t : TypeId} {x : APlace} {x' : Place} (hx : PlRel m x x') {v : Value}
    (h : x.getA P A t = some v) : ∃ v', (x'.get t).run P w = .ok v' w ∧ VRel m v v' := by
  cases hx with
  | val hv => cases h; exact ⟨_, rfl, hv⟩
  | var ha => exact loadVar_sound r h ha

theorem follow_sound {m : Inj P} {A : AW} {w : World} (r : Rel m A w) : ∀ {path : List FieldStep} {t : TypeId} {x : APlace} {x' : Place} {t1 : TypeId} {y : APlace},
    PlRel m x x' → followA P A path t x = some (t1, y) → ∃ y', (follow path t x').run P w = .ok (t1, y') w ∧ PlRel m y y'
  | [], t, x, x', t1, y, hx, h => by
    simp only [followA, Option.some.injEq, Prod.mk.injEq] at h
    obtain ⟨rfl, rfl⟩ := h
    exact ⟨x', rfl, hx⟩
  | s :: rest, t, x, x', t1, y, hx, h => by
    unfold followA at h
    split at h
    · cases h
    rename_i f hf
    obtain ⟨fs, hu, hfs⟩ := fieldT_spec hf
    split at h
    · cases h
    · cases h
    rename_i n hn0 hn
    have hnz : n ≠ 0 := hn0
    have hplace : ∀ a : Addr, (fieldPlace a f).run P w = .ok (a.add f.offset) w := fun a => by simp [fieldPlace, run_sizeOf_ok hn, hnz]
    rw [follow]
    cases hd : s.deref with
    | true =>
      rw [hd, cond_true] at h
      split at h
      rotate_left
      · cases h
      rename_i a hg
      obtain ⟨v', h1, h2⟩ := PlRel.get r hx hg
      cases h2 with
      | ptr ha =>
        rename_i a'
        obtain ⟨y', g1, g2⟩ := follow_sound r (path := rest) (.var (ha.add f.offset)) h
        exact ⟨y', by simp [run_underlying hu, hfs, h1, asAddr, hplace, g1], g2⟩
    | false =>
      rw [hd, cond_false] at h
      cases hx with
      | var ha =>
        rename_i a a'
        obtain ⟨y', g1, g2⟩ := follow_sound r (path := rest) (.var (ha.add f.offset)) h
        exact ⟨y', by simp [run_underlying hu, hfs, hplace, g1], g2⟩
      | val hv =>
        cases hv with
        | agg hcs =>
          simp only at h
          split at h
          rotate_left
          · cases h
          rename_i v hp
          obtain ⟨v', k1, k2⟩ := part_sound hcs w v hp
          obtain ⟨y', g1, g2⟩ := follow_sound r (path := rest) (.val k2) h
          exact ⟨y', by simp [run_underlying hu, hfs, k1, g1], g2⟩
        | _ => cases h

theorem receiver_sound {m : Inj P} {A : AW} {w : World} (r : Rel m A w) {t : TypeId} {v v' u : Value} {path : Array FieldStep} {ptr : Bool} (hv : VRel m v v')
    (h : receiverA P A t v path.toList ptr = some u) : ∃ u', (receiverVia t v' path ptr).run P w = .ok u' w ∧ VRel m u u' := by
  unfold receiverA at h
  split at h
  · cases h
  rename_i xt x hf
  obtain ⟨x', h1, h2⟩ := follow_sound r (.val hv) hf
  simp only [receiverVia, Sem.run_bind, h1, Result.andThen_ok, receiverAt]
  split at h
  · -- a pointer, a pointer method, a value
    rename_i hu
    rw [run_underlying hu]
    cases h2 with
    | val hv => cases h; exact ⟨_, rfl, hv⟩
  · rename_i hu
    rw [run_underlying hu]
    cases h2 with
    | var ha =>
      obtain ⟨u', g1, g2⟩ := loadVar_sound r h ha
      exact ⟨u', by simpa [Place.get] using g1, g2⟩
  · rename_i e hu
    rw [run_underlying hu]
    split at h
    rotate_left
    · cases h
    rename_i a hg
    obtain ⟨p', g1, g2⟩ := PlRel.get r h2 hg
    cases g2 with
    | ptr ha =>
      obtain ⟨u', k1, k2⟩ := loadVar_sound r h ha
      exact ⟨u', by simp [g1, asAddr, k1], k2⟩
  · rename_i td a hn hu
    rw [run_underlying hu]
    cases h2 with
    | var ha =>
      cases h
      cases td <;> first | exact absurd rfl (hn _) | exact ⟨_, rfl, .ptr ha⟩
  · cases h
  · rename_i td a hn hu
    rw [run_underlying hu]
    cases h2 with
    | val ha =>
      cases h
      cases td <;> first | exact absurd rfl (hn _) | exact ⟨_, rfl, ha⟩
  · rename_i td a hn hu
    rw [run_underlying hu]
    cases h2 with
    | var ha =>
      obtain ⟨u', g1, g2⟩ := loadVar_sound r h ha
      cases td <;> first | exact absurd rfl (hn _) | exact ⟨u', g1, g2⟩
  · cases h

end
end Go.Abs

namespace Go.Abs

section
variable {P : Program}

theorem callMethod_sound {X : XNames} (hX : XOk P X) {m : Inj P} {A : AW} {w : World} (r : Rel m A w) {x x' : Value} (hx : VRel m x x') {name : String} {args args' : List Value} (ha : VRels m args args') :
    RNext P m A w (callMethodA P X A x name args) (callMethod x' name ⟨args'⟩) := by
  unfold callMethodA
  cases hx with
  | iface t hv =>
    rename_i v v'
    simp only
    split
    · trivial
    rename_i i hi
    split
    · trivial
    rename_i md hm
    have hm' : i.methods.find? (·.name == name) = some md := by rw [← Array.find?_toList]; exact hm
    have key : ∀ f (p : Bool), md.path.toList = [] → md.func = some (f, p) → (receiverAt t (.val v') p (some ((name.splitOn ".").getLast?.getD name))).run P w = .ok v' w →
        RNext P m A w (callFuncA P X A f (v :: args)) (callMethod (.iface t v') name ⟨args'⟩) := by
      intro f p hp hf hr
      have he : md.path = #[] := Array.toList_eq_nil_iff.1 hp
      have h1 : (method (P.types.size + Made.depth) t v' name).run P w = .ok (f, v') w := by
        rw [show P.types.size + Made.depth = (P.types.size + 99) + 1 from rfl, method]
        simp [typeInfo, hi, hm', follow, hf, he, hr]
      have h2 := callFunc_sound hX r (f := f) (VRels.cons hv ha)
      have h3 : (callMethod (.iface t v') name ⟨args'⟩).run P w = (callFunc f ⟨v' :: args'⟩).run P w := by
        simp [callMethod, h1]
      unfold RNext at h2 ⊢
      rw [h3]
      exact h2
    split
    · rename_i f e h1 h2 h3
      exact key _ _ h1 h2 (by simp [receiverAt, run_underlying h3, Place.get])
    · trivial
    · trivial
    · rename_i f td hn h1 h2 h3
      refine key _ _ h1 h2 ?_
      rw [receiverAt]
      simp only [Sem.run_bind, run_underlying h3, Result.andThen_ok]
      cases td <;> first | exact absurd rfl (hn _) | rfl
    · trivial
  | _ => trivial


theorem VRels.two {m : Inj P} {ρ ρ' : Operand → Value} : ∀ {l : List Operand}, (∀ x ∈ l, VRel m (ρ x) (ρ' x)) → VRels m (l.map ρ) (l.map ρ')
  | [], _ => .nil
  | x :: l, h => .cons (h x (by simp)) (VRels.two fun y hy => h y (by simp [hy]))

theorem TmRel.set {m : Inj P} {t : Tm} {t' : Array Value} (r : TmRel m t t') {i : Nat} {v v' : Value} (hv : VRel m v v') : TmRel m (t.set i v) (t'.setIfInBounds i v') := by
  unfold Tm.set
  cases hb : Nat.blt i t.sz with
  | false =>
    rw [cond_false]
    have := blt_false.1 hb
    rw [Array.setIfInBounds_eq_of_size_le (by rw [r.size]; exact this)]
    exact r
  | true =>
    rw [cond_true]
    have hlt := blt_true.1 hb
    refine ⟨by simp [r.size], r.small, fun j => ?_⟩
    have hs := r.small
    have hp := Trie.get?_put depth t.t i j (some v) (by unfold depth; unfold maxId at hs; omega)
    unfold Tm.get
    rw [hp]
    by_cases h : j = i
    · subst h
      simp only [if_true]
      rw [Array.getD_eq_getD_getElem?, Array.getElem?_setIfInBounds_self_of_lt (by rw [r.size]; exact hlt)]
      exact hv
    · rw [if_neg h, Array.getD_eq_getD_getElem?, Array.getElem?_setIfInBounds_ne (Ne.symm h), ← Array.getD_eq_getD_getElem?]
      exact r.val j

theorem TmRel.setAll {m : Inj P} : ∀ {ps : List Tmp} {args args' : List Value} {t : Tm} {t' : Array Value}, TmRel m t t' → VRels m args args' →
    TmRel m (setAll t (ps.zip args)) ((ps.zip args').foldl (fun tmps x => tmps.setIfInBounds x.1 x.2) t')
  | [], _, _, _, _, r, _ => by simpa [Abs.setAll] using r
  | _ :: _, _, _, _, _, r, .nil => by simpa [Abs.setAll] using r
  | p :: ps, _, _, _, _, r, .cons hv ht => by
    simp only [List.zip_cons_cons, Abs.setAll, List.foldl_cons]
    exact TmRel.setAll (r.set hv) ht

theorem invokeFn_sound {X : XNames} (hX : XOk P X) {m : Inj P} {A : AW} {w : World} (r : Rel m A w) {f f' : Fn} {c : Array Value} {c' : List Value} {args args' : List Value}
    (hf : FnRel m f f') (hc : VRels m c.toList c') (ha : VRels m args args') : RNext P m A w (invokeA P X A (.fn f c) args) (invoke (.fn f' ⟨c'⟩) ⟨args'⟩) := by
  unfold invokeA
  rcases hf with ⟨rfl, hny⟩ | ⟨l, l', rfl, rfl, hl⟩
  · split
    · rename_i f cp he
      cases he
      have := callFunc_sound hX r (f := f) (ha.append hc)
      unfold RNext at this ⊢
      simpa [invoke] using this
    · rename_i name cp he
      cases he
      cases ha with
      | nil => trivial
      | cons hv ht =>
        have := callMethod_sound hX r hv (name := name) ht
        simpa [invoke] using this
    · rename_i t name cp he
      cases he
      cases ha with
      | nil => trivial
      | cons hv ht =>
        simp only
        split
        · rename_i ms hu
          have := callMethod_sound hX r hv (name := name) ht
          unfold RNext at this ⊢
          simpa [invoke, run_underlying hu] using this
        · rename_i td hn hu
          have := callMethod_sound hX r (.iface t hv) (name := name) ht
          unfold RNext at this ⊢
          simp only [invoke]
          cases td <;> first | exact absurd rfl (hn _) | simpa [run_underlying hu] using this
        · trivial
    · rename_i t path f p cp he
      cases he
      cases ha with
      | nil => trivial
      | cons hv ht =>
        simp only
        split
        · rename_i u hr
          obtain ⟨u', g1, g2⟩ := receiver_sound r hv hr
          have := callFunc_sound hX r (f := f) (VRels.cons g2 ht)
          unfold RNext at this ⊢
          simpa [invoke, g1] using this
        · trivial
    · rename_i l cp he
      cases he
      exact absurd rfl (hny l)
    · rename_i he
      cases he
    · trivial
  · simp only
    split
    rotate_left
    · trivial
    rename_i lp hg
    cases hb : Nat.beq args.length lp.params.length with
    | false => trivial
    | true =>
      have hb := beq_true.1 hb
      rw [cond_true]
      obtain ⟨c0, d0, o', h1, h2, rfl, l1, rfl, h4⟩ := r.objAt hg hl
      rw [hl] at h1
      simp only [Option.some.injEq, Prod.mk.injEq] at h1
      obtain ⟨rfl, _⟩ := h1
      refine ⟨.round l' lp.fn ((lp.params.zip args').foldl (fun tmps x => tmps.setIfInBounds x.1 x.2) l1.tmps) lp.assign lp.body, w, m, ?_, .refl r, l', _, rfl, hl, h4.tm.setAll ha, h4.ok.1, h4.ok.2.1⟩
      have hlen := ha.length
      simp [invoke, Instr.yield, Instr.getLoop, run_getObj_ok P w l' _ h2, h4.params, h4.fn, h4.assign, h4.body, hlen, hb]

end
end Go.Abs

namespace Go.Abs

section
variable {P : Program}

theorem liesAt_bytesOff {e u : TypeId} (hc : P.cellsOf e = 1) (hs : sameLayout P P.depth e u = true) (count off n : Nat) (hn : off + n ≤ count) : liesAt P P.depth e count off u n = true := by
  have hd : P.depth = (2 * (P.types.size + Made.depth) + 1) + 1 := rfl
  rw [hd] at hs ⊢
  simp only [liesAt, Bool.or_eq_true]
  left
  rw [hd]
  simp [rowAt, hc, hn, hs, Nat.mod_one]

theorem freeze_heap (w : World) (a : Addr) (n : Nat) (hn : n ≠ 0) (j : Nat) : (w.freeze a n).heap[j]? = if j = a.block then (w.heap[j]?).map (fun | .cells c elem (lo, hi) => .cells c elem (if lo == hi then (a.off, a.off + n) else (min lo a.off, max hi (a.off + n))) | o => o) else w.heap[j]? := by
  unfold World.freeze
  rw [if_neg hn]
  simp only [Array.getElem?_modify]
  by_cases h : a.block = j
  · subst h
    rw [if_pos rfl, if_pos rfl]
    cases w.heap[a.block]? with
    | none => rfl
    | some o => cases o <;> rfl
  · rw [if_neg h, if_neg (Ne.symm h)]

theorem Rel.freeze {m : Inj P} {A : AW} {w : World} (r : Rel m A w) {a : Addr} {n : Nat} (hn : n ≠ 0) (h : ∀ j o d, A.get j = some o → m j = some (a.block, d) → ∃ cs e f b, o = .row cs e f b true) : Rel m A (w.freeze a n) := by
  refine ⟨fun i o c d hi h1 => ?_, r.home, r.sep, r.mem, r.fresh, r.lim, fun i cs e f b ro c d hi hm => ?_⟩
  · obtain ⟨o', h2, h3⟩ := r.obj i o c d hi h1
    by_cases hc : c = a.block
    · subst hc
      obtain ⟨cs, e, f, b, rfl⟩ := h i o d hi h1
      obtain ⟨cs', fr, rfl, h4⟩ := h3
      refine ⟨_, by rw [freeze_heap w a n hn, if_pos rfl, h2]; rfl, cs', _, rfl, fun k v hv => ?_⟩
      obtain ⟨v', g1, g2, _⟩ := h4 k v hv
      exact ⟨v', g1, g2, fun hf => by cases hf⟩
    · exact ⟨o', by rw [freeze_heap w a n hn, if_neg hc]; exact h2, h3⟩
  · obtain ⟨h1, cs', e', fr, h2, h3, h4⟩ := r.room i cs e f b ro c d hi hm
    refine ⟨h1, ?_⟩
    by_cases hc : c = a.block
    · subst hc
      obtain ⟨cs1, e1, f1, b1, he⟩ := h i _ d hi hm
      cases he
      exact ⟨cs', e', _, by rw [freeze_heap w a n hn, if_pos rfl, h2]; rfl, h3, fun hf => by cases hf⟩
    · exact ⟨cs', e', fr, by rw [freeze_heap w a n hn, if_neg hc]; exact h2, h3, h4⟩

theorem Ev.freeze {m : Inj P} {A : AW} {w : World} (r : Rel m A w) {a a' : Addr} {n : Nat} (hn : n ≠ 0) (ha : ARel m a a') {cs : List Value} {e : TypeId} {f b : Nat} (hg : A.get a.block = some (.row cs e f b false)) :
    Ev m A w m (freezeAll (A.members f) A) (w.freeze a' n) := by
  obtain ⟨hs, hs', d, hm, ho⟩ := ha
  obtain ⟨k1, k2, k3⟩ := get_freezeAll (A.members f) A (fun i o h => r.ltMax h)
  have hw : Ev m A w m (freezeAll (A.members f) A) w := by
    refine Ev.weaken r k1 k2 fun i o hi => ?_
    rw [k3] at hi
    split at hi
    · cases h0 : A.get i with
      | none => rw [h0] at hi; cases hi
      | some o0 =>
        rw [h0] at hi
        simp only [Option.map_some, Option.some.injEq] at hi
        subst hi
        refine ⟨o0, rfl, ?_⟩
        cases o0 with
        | row cs e f b ro =>
          refine ⟨rfl, fun h => (by cases h), fun _ => rfl, fun d o' ⟨cs', fr, h1, h2⟩ => ⟨cs', fr, h1, fun k v hv => ?_⟩, fun cs1 e1 f1 b1 ro1 he => by cases he; exact ⟨cs, ro, rfl⟩⟩
          obtain ⟨v', g1, g2, _⟩ := h2 k v hv
          exact ⟨v', g1, g2, fun hf => by cases hf⟩
        | _ => exact ⟨rfl, fun h => h, fun h => h, fun _ _ h => h, fun cs1 e1 f1 b1 ro1 he => by cases he⟩
    · exact ⟨o, hi, rfl, fun h => h, fun h => h, fun _ _ h => h, fun cs1 e1 f1 b1 ro1 he => ⟨cs1, ro1, he⟩⟩
  have hself := (r.mem a.block _ f b hg rfl).1
  have hall : ∀ j o d, (freezeAll (A.members f) A).get j = some o → m j = some (a'.block, d) → ∃ cs e f b, o = .row cs e f b true := by
    intro j o dj hj hmj
    rw [k3] at hj
    by_cases hji : j = a.block
    · subst hji
      rw [if_pos hself, hg] at hj
      cases hj
      exact ⟨_, _, _, _, rfl⟩
    · have : ∃ o0, A.get j = some o0 := by
        cases h0 : A.get j with
        | none => rw [h0] at hj; split at hj <;> cases hj
        | some o0 => exact ⟨o0, rfl⟩
      obtain ⟨o0, h0⟩ := this
      rcases r.sep a.block j _ o0 a'.block d dj (Ne.symm hji) hg h0 hm hmj with ⟨h1, _⟩ | ⟨f1, bi, bj, h1, h2, h3⟩
      · cases h1
      · cases h1
        have hmem := (r.mem j o0 f bj h0 h2).1
        rw [if_pos hmem, h0] at hj
        cases o0 with
        | row cs1 e1 f1 b1 ro1 => cases hj; exact ⟨_, _, _, _, rfl⟩
        | _ => cases h2
  have hsz : (w.freeze a' n).heap.size = w.heap.size := by unfold World.freeze; rw [if_neg hn]; simp
  refine ⟨.refl m, hw.rel.freeze hn hall, by rw [hsz]; exact Nat.le_refl _, ?_, ?_, ?_, ?_, fun c hc hno => ?_, hw.own, hw.next, fun _ _ => rfl⟩
  · unfold World.freeze; rw [if_neg hn]
  · unfold World.freeze; rw [if_neg hn]
  · unfold World.freeze; rw [if_neg hn]
  · unfold World.freeze; rw [if_neg hn]; exact Nat.le_refl _
  · rw [freeze_heap w a' n hn, if_neg]
    rintro rfl
    exact hno ⟨a.block, _, d, hg, rfl, hm⟩

theorem bytes_loaded : ∀ {cs : List Value} {l : List UInt8} {w : World} {a : Addr} {acc : ByteArray}, bytesOfCells cs = some l → (∀ (i : Nat) (v : Value), cs[i]? = some v → w.cell? (a.add i) = some v) →
    (loadBytes a acc cs.length).run P w = .ok ⟨acc.data ++ l.toArray⟩ w
  | [], l, w, a, acc, h, _ => by
    simp only [bytesOfCells, Option.some.injEq] at h
    subst h
    simp [loadBytes]
  | x :: r, l, w, a, acc, h, hc => by
    unfold bytesOfCells at h
    split at h
    · cases ‹x :: r = []›
    rotate_left
    · cases h
    rename_i n r' he
    cases he
    split at h
    rotate_left
    · cases h
    rename_i l' hl
    simp only [Option.some.injEq] at h
    subst h
    have h0 : w.cell? a = some (.int .u8 n) := by simpa [Addr.add] using hc 0 _ rfl
    have ih := bytes_loaded (w := w) (a := a.add 1) (acc := acc.push n.toNat.toUInt8) hl (fun i v hv => by
      have := hc (i + 1) v (by simpa using hv)
      have e : (a.add 1).add i = a.add (i + 1) := by
        unfold Addr.add
        by_cases hj : i = 0
        · subst hj; simp
        · simp [hj]; omega
      rw [e]; exact this)
    simp only [List.length_cons, loadBytes, Sem.run_bind, run_load, h0, Result.andThen]
    rw [ih]
    congr 1
    apply ByteArray.ext
    simp [ByteArray.push]

end
end Go.Abs

namespace Go.Abs

section
variable {P : Program}

theorem minL_sound {k : IntKind} : ∀ {l : List Value} {a n : Int} {m : Inj P} {l' : List Value} (w : World), minL a l = some n → VRels m l l' → (l'.foldlM Builtin.min2 (.int k a)).run P w = .ok (.int k n) w
  | [], a, n, m, l', w, h, hl => by
    cases hl
    simp only [minL, Option.some.injEq] at h
    subst h
    rfl
  | x :: l, a, n, m, l', w, h, hl => by
    cases hl with
    | cons hx ht =>
      cases hx with
      | int k2 b =>
        have := minL_sound (k := k) w (by simpa only [minL] using h) ht
        simpa [List.foldlM_cons, Builtin.min2] using this
      | _ => simp [minL] at h

theorem maxL_sound {k : IntKind} : ∀ {l : List Value} {a n : Int} {m : Inj P} {l' : List Value} (w : World), maxL a l = some n → VRels m l l' → (l'.foldlM Builtin.max2 (.int k a)).run P w = .ok (.int k n) w
  | [], a, n, m, l', w, h, hl => by
    cases hl
    simp only [maxL, Option.some.injEq] at h
    subst h
    rfl
  | x :: l, a, n, m, l', w, h, hl => by
    cases hl with
    | cons hx ht =>
      cases hx with
      | int k2 b =>
        have := maxL_sound (k := k) w (by simpa only [maxL] using h) ht
        simpa [List.foldlM_cons, Builtin.max2] using this
      | _ => simp [maxL] at h

theorem run_unsafeString_at (w : World) (pt : TypeId) (rs : List TypeId) (ty u e : TypeId) (hp : P.underlying pt = some (.pointer u)) (hc : P.cellsOf e = 1) (hs : sameLayout P P.depth e u = true) (a : Addr) (cells : Nat) (hsh : w.shape? a.block = some (e, cells)) (k : IntKind) (n : Nat) (s : ByteArray) (h0 : n ≠ 0)
    (hn : a.off + n ≤ cells) (h63 : n ≤ 9223372036854775807) (hl : (loadBytes a .empty n).run P w = .ok s w) :
    (Builtin.unsafeString_ ⟨pt :: rs⟩ ty ⟨[.pointer (some a), .int k n]⟩).run P w = .ok (.string s) (w.freeze a n) := by
  have hlies := liesAt_bytesOff hc hs (cells / P.cellsOf e) a.off n (by rw [hc]; simpa using hn)
  have h63' : ¬ (9223372036854775807 : Int) < (n : Int) := by omega
  have hmax : IntKind.i64.max = 9223372036854775807 := rfl
  have hneg : ¬ (n : Int) < 0 := by omega
  refine (show Sem.run P (asInt (.int k n) >>= _) w = _ from ?_)
  simp [asInt, asIntOf, hmax, h63', hneg, h0, variablesAt, hsh, elemOf, run_underlying hp, hlies, hl]

theorem run_unsafeString_zero (w : World) (pt : TypeId) (r : List TypeId) (ty : TypeId) (p : Option Addr) (k : IntKind) : (Builtin.unsafeString_ ⟨pt :: r⟩ ty ⟨[.pointer p, .int k 0]⟩).run P w = .ok (.string .empty) w := by
  have hmax : IntKind.i64.max = 9223372036854775807 := rfl
  refine (show Sem.run P (asInt (.int k 0) >>= _) w = _ from ?_)
  cases p <;> simp [asInt, asIntOf, hmax]

theorem builtin_sound {m : Inj P} {A : AW} {w : World} (r : Rel m A w) {b : Builtin} {ts : List TypeId} {ty : TypeId} {cs : Array Bool} {args args' : List Value} (ha : VRels m args args') :
    RNext P m A w (builtinA P A b ts ty args) (builtin b ⟨ts⟩ ty cs ⟨args'⟩) := by
  unfold builtinA
  simp only
  split
  · cases ha with
    | cons hs h1 => cases h1 with
      | cons hx h2 => cases h2; exact RNext.of_val (append_sound r hs hx)
  · cases ha with
    | cons hs h1 => cases h1 with
      | cons hx h2 => cases h2; exact RNext.of_val (copy_sound r hs hx)
  · cases ha with
    | cons hs h1 => cases h1; exact RNext.of_pure r (len_sound r hs)
  · cases ha with
    | cons hs h1 =>
      cases h1
      split
      rotate_left
      · trivial
      rename_i _ _ c _ _ e he
      cases hc : Nat.ble capU c with
      | true => trivial
      | false =>
        rw [cond_false]
        have hlt := ble_false.1 hc
        have hu := sliceElemT_spec he
        cases hs with
        | sliceNil => exact ⟨.value (.int .i64 0), w, m, by simp [builtin, Builtin.cap_, run_underlying hu, goInt], .refl r, _, rfl, .int _ _⟩
        | slice h1 _ _ =>
          rcases h1 with ⟨_, rfl⟩ | ⟨h1, _⟩
          · exact ⟨.value (.int .i64 _), w, m, by simp [builtin, Builtin.cap_, run_underlying hu, goInt], .refl r, _, rfl, .int _ _⟩
          · omega
  · cases ha with
    | cons hs h1 => cases h1 with
      | cons hx h2 =>
        cases h2
        split
        · rename_i A' h
          obtain ⟨w', g1, g2⟩ := delete_sound (ty := ty) r hs hx h
          exact ⟨_, w', m, by simp only [builtin, Sem.run_bind]; exact (congrArg (fun x => Result.andThen x _) g1).trans rfl, g2, _, rfl, .tuple .nil⟩
        · trivial
  · cases ha with
    | cons hs h1 =>
      cases h1
      split
      · rename_i A' h
        obtain ⟨w', g1, g2⟩ := clear_sound (ty := ty) r hs h
        exact ⟨_, w', m, by simp [builtin, g1], g2, _, rfl, .tuple .nil⟩
      · trivial
  · cases ha with
    | cons hs h1 =>
      cases hs
      split
      · rename_i n h
        exact ⟨_, w, m, by simp [builtin, Builtin.min_, minL_sound w h h1], .refl r, _, rfl, .int _ _⟩
      · trivial
  · cases ha with
    | cons hs h1 =>
      cases hs
      split
      · rename_i n h
        exact ⟨_, w, m, by simp [builtin, Builtin.max_, maxL_sound w h h1], .refl r, _, rfl, .int _ _⟩
      · trivial
  · exact ⟨_, w, m, rfl, .refl r, rfl⟩
  · cases ha with
    | cons hs h1 =>
      cases h1
      cases hs
      exact ⟨_, w, m, by simp [builtin, Go.Lib.run_unsafeSliceData_nil], .refl r, _, rfl, .ptrNil⟩
  · cases ha with
    | cons hs h1 =>
      cases h1
      rename_i a n c _
      cases hb : (Nat.blt 0 n || (!Nat.ble capU c && Nat.blt 0 c)) with
      | false => trivial
      | true =>
        rw [cond_true]
        cases hs with
        | slice h1 h2 h3 =>
          rename_i a' c'
          have hpos : 0 < c' := by
            simp only [Bool.or_eq_true, Bool.and_eq_true, Bool.not_eq_true'] at hb
            rcases hb with hb | ⟨hb1, hb2⟩
            · have := blt_true.1 hb; omega
            · have := ble_false.1 hb1
              have := blt_true.1 hb2
              rcases h1 with ⟨_, rfl⟩ | ⟨h1, _⟩ <;> omega
          have := Go.Lib.run_unsafeSliceData_row (P := P) w ⟨ts⟩ ty a' n c' (by omega)
          exact ⟨_, w, m, by simp [builtin, this], .refl r, _, rfl, .ptr (h3 hpos)⟩
  · cases ha with
    | cons hs h1 => cases h1 with
      | cons hx h2 =>
        cases h2
        cases hx
        cases hs with
        | ptrNil => exact ⟨_, w, m, by simp only [builtin, Sem.run_bind]; rw [show Int.ofNat 0 = 0 from rfl, run_unsafeString_zero]; rfl, .refl r, _, rfl, .string _⟩
        | ptr h => exact ⟨_, w, m, by simp only [builtin, Sem.run_bind]; rw [show Int.ofNat 0 = 0 from rfl, run_unsafeString_zero]; rfl, .refl r, _, rfl, .string _⟩
  · rename_i pt r1 a k n hz
    rename_i b0 ts0 args0
    split
    rotate_left
    · trivial
    rename_i cs1 e fam b1 u hcs hg hu
    cases hq : (Nat.blt n room && (Nat.beq (P.cellsOf e) 1 && sameLayout P P.depth e u)) with
    | false => trivial
    | true =>
      rw [cond_true]
      simp only [Bool.and_eq_true] at hq
      have hq1 := blt_true.1 hq.1
      have hq2 := beq_true.1 hq.2.1
      unfold room at hq1
      split
      rotate_left
      · trivial
      rename_i l hl
      cases ha with
      | cons hs h1 => cases h1 with
        | cons hx h2 =>
          cases h2
          cases hx
          cases hs with
          | ptr har =>
            rename_i a'
            have hn0 : n ≠ 0 := by
              rintro rfl
              exact hz rfl
            obtain ⟨g1, l', g2, g3⟩ := r.cells hcs (fun _ => har)
            have g4 := bytesOfCells_rel hl g2
            subst g4
            have g5 := bytes_loaded (P := P) (w := w) (a := a') (acc := .empty) hl g3
            rw [g1] at g5
            obtain ⟨_, hsp, d, hm, ho⟩ := har
            obtain ⟨c1, d1, o', k1, k2, cs', fr, rfl, k3⟩ := r.objAt hg hm
            rw [hm] at k1
            simp only [Option.some.injEq, Prod.mk.injEq] at k1
            obtain ⟨rfl, rfl⟩ := k1
            have hsh : w.shape? a'.block = some (e, cs'.size) := by simp [World.shape?, k2]
            have hlast : a'.off + n ≤ cs'.size := by
              have hc := g3 (n - 1) _ (List.getElem?_eq_getElem (by omega))
              have hadd : a'.add (n - 1) = ⟨a'.block, a'.off + (n - 1), none⟩ := by
                unfold Addr.add
                by_cases hj : n - 1 = 0
                · rw [if_pos hj, hj]
                  cases a'
                  simp_all
                · rw [if_neg hj]
              rw [hadd] at hc
              simp only [World.cell?, k2, Option.isSome_none, Bool.false_eq_true, if_false] at hc
              have := (Array.getElem?_eq_some_iff.1 hc).1
              omega
            have g6 := run_unsafeString_at (P := P) w pt r1 ty u e hu hq2 hq.2.2 a' cs'.size hsh k n _ hn0 hlast (by omega) g5
            refine ⟨.value (.string ⟨⟨l⟩⟩), _, m, ?_, Ev.freeze r hn0 ⟨‹_›, hsp, d, hm, ho⟩ hg, _, rfl, .string _⟩
            simp only [builtin, Sem.run_bind]
            exact (congrArg (fun x => Result.andThen x _) g6).trans (by simp)
  · cases ha with
    | cons hs h1 =>
      cases h1
      cases hs with
      | iface _ hv => exact ⟨_, w, m, by simp [builtin, Instr.panic, goPanic], .refl r, .iface _ hv⟩
  · trivial

end
end Go.Abs

namespace Go.Abs

section
variable {P : Program}

theorem resolve_sound {m : Inj P} {ρ ρ' : Operand → Value} {c : Call} {type : TypeId} {d : Deferred} (hc : ∀ x ∈ c.operands.toList, VRel m (ρ x) (ρ' x)) (h : resolveA ρ c type = some d) (hb : ∀ b, c.callee ≠ .builtin b) (w : World) :
    ∃ f f' cs cs' args args', d = ⟨.fn f ⟨cs⟩, ⟨args⟩⟩ ∧ (resolve ρ' c type).run P w = .ok ⟨.fn f' ⟨cs'⟩, ⟨args'⟩⟩ w ∧ FnRel m f f' ∧ VRels m cs cs' ∧ VRels m args args' := by
  obtain ⟨callee, args, ats⟩ := c
  have hargs : VRels m (args.toList.map ρ) (args.toList.map ρ') := VRels.two fun x hx => hc x (by simp [Call.operands, hx])
  unfold resolveA at h
  simp only at h
  cases callee with
  | builtin b => exact absurd rfl (hb b)
  | invoke recv name =>
    simp only [Option.some.injEq] at h
    subst h
    have hr := hc recv (by simp [Call.operands])
    refine ⟨_, .method name, [], [], _, _, rfl, ?_, .inl ⟨rfl, fun l => by simp⟩, .nil, .cons hr hargs⟩
    simp [resolve]
  | value f =>
    have hr := hc f (by simp [Call.operands])
    simp only at h
    split at h
    · rename_i fn first captured he
      rw [he] at hr
      simp only [Option.some.injEq] at h
      subst h
      generalize hf' : ρ' f = y at hr
      cases hr with
      | func h1 h2 h3 =>
        refine ⟨_, _, _, _, _, _, rfl, ?_, h1, h3, h2.append hargs⟩
        simp [resolve, hf', Deferred.ofValue]
    · cases h

theorem OptRel.map {m : Inj P} {ρ ρ' : Operand → Value} : ∀ {o : Option Operand}, (∀ y, o = some y → VRel m (ρ y) (ρ' y)) → OptRel m (o.map ρ) (o.map ρ')
  | none, _ => trivial
  | some y, h => h y rfl

variable {X : XNames} {m : Inj P} {A : AW} {w : World} {ρ ρ' : Operand → Value} {dst : Option Tmp} {type : TypeId} {pos : String} {after : Array Edge} {guard : Option (Nat × Bool)}

theorem exec_move (r : Rel m A w) {x : Operand} (hρ : ∀ z ∈ (Op.move x).operands.toList, VRel m (ρ z) (ρ' z)) :
    RNext P m A w (execA P X ρ ⟨dst, .move x, type, pos, after, guard⟩ A) (execOp ρ' ⟨dst, .move x, type, pos, after, guard⟩) := by
  unfold execA
  exact ⟨_, w, m, rfl, .refl r, _, rfl, hρ x (by simp [Op.operands])⟩

theorem exec_assign (r : Rel m A w) {x : Operand} (hρ : ∀ z ∈ (Op.assign x).operands.toList, VRel m (ρ z) (ρ' z)) :
    RNext P m A w (execA P X ρ ⟨dst, .assign x, type, pos, after, guard⟩ A) (execOp ρ' ⟨dst, .assign x, type, pos, after, guard⟩) := by
  unfold execA
  exact ⟨_, w, m, rfl, .refl r, _, rfl, hρ x (by simp [Op.operands])⟩

theorem exec_pick (r : Rel m A w) {c a b : Operand} (hρ : ∀ z ∈ (Op.pick c a b).operands.toList, VRel m (ρ z) (ρ' z)) :
    RNext P m A w (execA P X ρ ⟨dst, .pick c a b, type, pos, after, guard⟩ A) (execOp ρ' ⟨dst, .pick c a b, type, pos, after, guard⟩) := by
  unfold execA
  have hc := hρ c (by simp [Op.operands])
  have ha := hρ a (by simp [Op.operands])
  have hb := hρ b (by simp [Op.operands])
  simp only
  split
  · rename_i h
    rw [h] at hc
    generalize hq : ρ' c = y at hc
    cases hc
    exact ⟨.value (ρ' a), w, m, by simp [execOp, hq, asBool], .refl r, _, rfl, ha⟩
  · rename_i h
    rw [h] at hc
    generalize hq : ρ' c = y at hc
    cases hc
    exact ⟨.value (ρ' b), w, m, by simp [execOp, hq, asBool], .refl r, _, rfl, hb⟩
  · trivial

theorem exec_alloc (r : Rel m A w) {e : TypeId} (_hρ : ∀ z ∈ (Op.alloc e).operands.toList, VRel m (ρ z) (ρ' z)) :
    RNext P m A w (execA P X ρ ⟨dst, .alloc e, type, pos, after, guard⟩ A) (execOp ρ' ⟨dst, .alloc e, type, pos, after, guard⟩) := by
  unfold execA
  simp only
  split
  rotate_left
  · trivial
  rename_i z hz
  split
  rotate_left
  · trivial
  rename_i a A' h
  exact RNext.of_one (alloc_sound r hz h)

theorem exec_box (r : Rel m A w) {e : TypeId} {x : Operand} (hρ : ∀ z ∈ (Op.box e x).operands.toList, VRel m (ρ z) (ρ' z)) :
    RNext P m A w (execA P X ρ ⟨dst, .box e x, type, pos, after, guard⟩ A) (execOp ρ' ⟨dst, .box e x, type, pos, after, guard⟩) := by
  unfold execA
  simp only
  split
  rotate_left
  · trivial
  rename_i a A' h
  exact RNext.of_one (box_sound r (hρ x (by simp [Op.operands])) h)

theorem exec_build (r : Rel m A w) {t : TypeId} {parts : Array (Nat × Operand)} (hρ : ∀ z ∈ (Op.build t parts).operands.toList, VRel m (ρ z) (ρ' z)) :
    RNext P m A w (execA P X ρ ⟨dst, .build t parts, type, pos, after, guard⟩ A) (execOp ρ' ⟨dst, .build t parts, type, pos, after, guard⟩) := by
  unfold execA
  have hp : PartsRel m (pickAt parts.toList ρ) (parts.map fun x => (x.1, ρ' x.2)).toList := by
    rw [Array.toList_map]
    exact pickAt_rel parts.toList fun x hx => hρ x.2 (List.mem_map.2 ⟨x, hx, rfl⟩)
  have := build_sound (P := P) (t := t) hp w
  exact RNext.of_pure r this

theorem exec_buildSlice (r : Rel m A w) {t : TypeId} {len : Nat} {parts : Array (Nat × Operand)} (hρ : ∀ z ∈ (Op.buildSlice t len parts).operands.toList, VRel m (ρ z) (ρ' z)) :
    RNext P m A w (execA P X ρ ⟨dst, .buildSlice t len parts, type, pos, after, guard⟩ A) (execOp ρ' ⟨dst, .buildSlice t len parts, type, pos, after, guard⟩) := by
  unfold execA
  have hp : PartsRel m (pickAt parts.toList ρ) (parts.map fun x => (x.1, ρ' x.2)).toList := by
    rw [Array.toList_map]
    exact pickAt_rel parts.toList fun x hx => hρ x.2 (List.mem_map.2 ⟨x, hx, rfl⟩)
  have := buildSlice_sound (P := P) (t := t) (len := len) r hp
  exact RNext.of_val this

theorem exec_load (r : Rel m A w) {t : TypeId} {a : Operand} (hρ : ∀ z ∈ (Op.load t a).operands.toList, VRel m (ρ z) (ρ' z)) :
    RNext P m A w (execA P X ρ ⟨dst, .load t a, type, pos, after, guard⟩ A) (execOp ρ' ⟨dst, .load t a, type, pos, after, guard⟩) := by
  unfold execA
  have ha := hρ a (by simp [Op.operands])
  simp only
  split
  · rename_i b hb
    refine RNext.of_pure r (s := Instr.loadAt t (ρ' a)) fun v hv => ?_
    rw [hb] at ha
    generalize ρ' a = y at ha
    exact load_sound (t := t) r ha hv
  · trivial

theorem exec_store (r : Rel m A w) {t : TypeId} {a x : Operand} (hρ : ∀ z ∈ (Op.store t a x).operands.toList, VRel m (ρ z) (ρ' z)) :
    RNext P m A w (execA P X ρ ⟨dst, .store t a x, type, pos, after, guard⟩ A) (execOp ρ' ⟨dst, .store t a x, type, pos, after, guard⟩) := by
  unfold execA
  have ha := hρ a (by simp [Op.operands])
  have hx := hρ x (by simp [Op.operands])
  simp only
  split
  · rename_i b hb
    refine RNext.of_unit (s := Instr.storeAt t (ρ' a) (ρ' x)) fun A' h => ?_
    rw [hb] at ha
    generalize ρ' a = y at ha
    cases ha with
    | ptr ha =>
      obtain ⟨w', g1, g2, _⟩ := storeVar_sound r h ha hx
      exact ⟨w', by simp [Instr.storeAt, Instr.sureAddr, g1], m, g2⟩
  · trivial

theorem exec_nilCheck (r : Rel m A w) {x : Operand} (hρ : ∀ z ∈ (Op.nilCheck x).operands.toList, VRel m (ρ z) (ρ' z)) :
    RNext P m A w (execA P X ρ ⟨dst, .nilCheck x, type, pos, after, guard⟩ A) (execOp ρ' ⟨dst, .nilCheck x, type, pos, after, guard⟩) := by
  unfold execA
  have hx := hρ x (by simp [Op.operands])
  simp only
  generalize hy : ρ x = y at *
  generalize hy' : ρ' x = y' at *
  split
  · trivial
  · trivial
  · trivial
  · trivial
  · rename_i h1 h2 h3 h4
    refine ⟨.value y', w, m, ?_, .refl r, _, rfl, hx⟩
    simp only [execOp, hy']
    cases hx with
    | func hf ha hc =>
      rename_i f f' a a' c c'
      cases f' <;> first | rfl | skip
      rcases hf with ⟨hf, _⟩ | ⟨l, l', _, hf, _⟩
      · exact absurd (by rw [← hf]) (h4 _ _ _)
      · cases hf
    | ptrNil => exact absurd rfl h1
    | nilIface => exact absurd rfl h2
    | nilFunc => exact absurd rfl h3
    | _ => rfl

theorem exec_binOp (r : Rel m A w) {op : BinOp} {t : TypeId} {x y : Operand} {b : _} (hρ : ∀ z ∈ (Op.binOp op t x y b).operands.toList, VRel m (ρ z) (ρ' z)) :
    RNext P m A w (execA P X ρ ⟨dst, .binOp op t x y b, type, pos, after, guard⟩ A) (execOp ρ' ⟨dst, .binOp op t x y b, type, pos, after, guard⟩) := by
  unfold execA
  exact RNext.of_pure r (bin_sound (hρ x (by simp [Op.operands])) (hρ y (by simp [Op.operands])) w)

theorem exec_unOp (r : Rel m A w) {op : UnOp} {t : TypeId} {x : Operand} (hρ : ∀ z ∈ (Op.unOp op t x).operands.toList, VRel m (ρ z) (ρ' z)) :
    RNext P m A w (execA P X ρ ⟨dst, .unOp op t x, type, pos, after, guard⟩ A) (execOp ρ' ⟨dst, .unOp op t x, type, pos, after, guard⟩) := by
  unfold execA
  exact RNext.of_pure r (un_sound (hρ x (by simp [Op.operands])) w)

theorem exec_convert (r : Rel m A w) {s d : TypeId} {x : Operand} (hρ : ∀ z ∈ (Op.convert s d x).operands.toList, VRel m (ρ z) (ρ' z)) :
    RNext P m A w (execA P X ρ ⟨dst, .convert s d x, type, pos, after, guard⟩ A) (execOp ρ' ⟨dst, .convert s d x, type, pos, after, guard⟩) := by
  unfold execA
  exact RNext.of_val (convert_sound r (hρ x (by simp [Op.operands])))

theorem exec_makeInterface (r : Rel m A w) {t : TypeId} {x : Operand} (hρ : ∀ z ∈ (Op.makeInterface t x).operands.toList, VRel m (ρ z) (ρ' z)) :
    RNext P m A w (execA P X ρ ⟨dst, .makeInterface t x, type, pos, after, guard⟩ A) (execOp ρ' ⟨dst, .makeInterface t x, type, pos, after, guard⟩) := by
  unfold execA
  have hx := hρ x (by simp [Op.operands])
  simp only
  split
  · trivial
  · rename_i td hn hu
    refine ⟨.value (.iface t (ρ' x)), w, m, ?_, .refl r, _, rfl, .iface t hx⟩
    simp only [execOp, Instr.makeInterface, Sem.run_bind, run_underlying hu, Result.andThen_ok]
    cases td <;> first | exact absurd rfl (hn _) | rfl
  · trivial

theorem exec_makeFunc (r : Rel m A w) {fn : Fn} {first captured : Array Operand} (hρ : ∀ z ∈ (Op.makeFunc fn first captured).operands.toList, VRel m (ρ z) (ρ' z)) :
    RNext P m A w (execA P X ρ ⟨dst, .makeFunc fn first captured, type, pos, after, guard⟩ A) (execOp ρ' ⟨dst, .makeFunc fn first captured, type, pos, after, guard⟩) := by
  unfold execA
  simp only
  have hv : (∀ l, fn ≠ .yield l) → RNext P m A w (.ok (.value (.func fn ⟨first.toList.map ρ⟩ ⟨captured.toList.map ρ⟩)) A) (execOp ρ' ⟨dst, .makeFunc fn first captured, type, pos, after, guard⟩) := by
    intro hn
    refine ⟨.value (.func fn ⟨first.toList.map ρ'⟩ ⟨captured.toList.map ρ'⟩), w, m, ?_, .refl r, _, rfl, .func (.inl ⟨rfl, hn⟩) (VRels.two fun y hy => hρ y (by simp [Op.operands]; exact .inl (by simpa using hy))) (VRels.two fun y hy => hρ y (by simp [Op.operands]; exact .inr (by simpa using hy)))⟩
    have e : ∀ l : Array Operand, l.map ρ' = ⟨l.toList.map ρ'⟩ := fun l => by cases l; simp
    simp only [execOp, Instr.makeFunc, e]
    rfl
  split
  · trivial
  · rename_i hn
    exact hv fun l => hn l

theorem exec_makeMap (r : Rel m A w) {t : TypeId} {q : Option Operand} (hρ : ∀ z ∈ (Op.makeMap t q).operands.toList, VRel m (ρ z) (ρ' z)) :
    RNext P m A w (execA P X ρ ⟨dst, .makeMap t q, type, pos, after, guard⟩ A) (execOp ρ' ⟨dst, .makeMap t q, type, pos, after, guard⟩) := by
  unfold execA
  have hnew : ∀ b A', A.new (.map [] 0 false) = some (b, A') → ∃ m', Ev m A w m' A' (w.alloc (.map #[] 0)) ∧ m' b = some (w.heap.size, 0) := by
    intro b A' h
    exact newObj_sound (o' := .map #[] 0) r h ⟨rfl, [], rfl, .nil⟩ rfl
  cases q with
  | none =>
    simp only
    split
    rotate_left
    · trivial
    rename_i b A' h
    obtain ⟨m', g2, g3⟩ := hnew b A' h
    exact ⟨.value (.map (some w.heap.size)), _, m', by simp [execOp, Instr.makeMap], g2, _, rfl, .map g3⟩
  | some y =>
    have hy := hρ y (by simp [Op.operands])
    simp only
    split
    rotate_left
    · trivial
    rename_i mt k n hm hi
    split
    rotate_left
    · trivial
    rename_i b A' h
    obtain ⟨m', g2, g3⟩ := hnew b A' h
    rw [hi] at hy
    generalize hq : ρ' y = z at hy
    cases hy
    unfold mapTypes at hm
    split at hm
    · rename_i hu
      exact ⟨.value (.map (some w.heap.size)), _, m', by simp [execOp, Instr.makeMap, run_underlying hu, hq, asInt, asIntOf], g2, _, rfl, .map g3⟩
    · cases hm

theorem exec_makeSlice (r : Rel m A w) {t : TypeId} {l c : Operand} (hρ : ∀ z ∈ (Op.makeSlice t l c).operands.toList, VRel m (ρ z) (ρ' z)) :
    RNext P m A w (execA P X ρ ⟨dst, .makeSlice t l c, type, pos, after, guard⟩ A) (execOp ρ' ⟨dst, .makeSlice t l c, type, pos, after, guard⟩) := by
  unfold execA
  exact RNext.of_val (makeSlice_sound r (hρ l (by simp [Op.operands])) (hρ c (by simp [Op.operands])))

theorem exec_slice (r : Rel m A w) {t : TypeId} {x : Operand} {lo hi mx : Option Operand} (hρ : ∀ z ∈ (Op.slice t x lo hi mx).operands.toList, VRel m (ρ z) (ρ' z)) :
    RNext P m A w (execA P X ρ ⟨dst, .slice t x lo hi mx, type, pos, after, guard⟩ A) (execOp ρ' ⟨dst, .slice t x lo hi mx, type, pos, after, guard⟩) := by
  unfold execA
  exact RNext.of_pure r (slice_sound r (hρ x (by simp [Op.operands])) (OptRel.map fun y hy => hρ y (by simp [Op.operands, hy])) (OptRel.map fun y hy => hρ y (by simp [Op.operands, hy])) (OptRel.map fun y hy => hρ y (by simp [Op.operands, hy])))

theorem exec_fieldAddr (r : Rel m A w) {s : TypeId} {x : Operand} {f : Nat} (hρ : ∀ z ∈ (Op.fieldAddr s x f).operands.toList, VRel m (ρ z) (ρ' z)) :
    RNext P m A w (execA P X ρ ⟨dst, .fieldAddr s x f, type, pos, after, guard⟩ A) (execOp ρ' ⟨dst, .fieldAddr s x f, type, pos, after, guard⟩) := by
  unfold execA
  exact RNext.of_pure r (fieldAddr_sound (hρ x (by simp [Op.operands])) w)

theorem exec_field (r : Rel m A w) {s : TypeId} {x : Operand} {f : Nat} (hρ : ∀ z ∈ (Op.field s x f).operands.toList, VRel m (ρ z) (ρ' z)) :
    RNext P m A w (execA P X ρ ⟨dst, .field s x f, type, pos, after, guard⟩ A) (execOp ρ' ⟨dst, .field s x f, type, pos, after, guard⟩) := by
  unfold execA
  exact RNext.of_pure r (field_sound (hρ x (by simp [Op.operands])) w)

theorem exec_indexAddr (r : Rel m A w) {t : TypeId} {x ix : Operand} (hρ : ∀ z ∈ (Op.indexAddr t x ix).operands.toList, VRel m (ρ z) (ρ' z)) :
    RNext P m A w (execA P X ρ ⟨dst, .indexAddr t x ix, type, pos, after, guard⟩ A) (execOp ρ' ⟨dst, .indexAddr t x ix, type, pos, after, guard⟩) := by
  unfold execA
  exact RNext.of_pure r (indexAddr_sound (hρ x (by simp [Op.operands])) (hρ ix (by simp [Op.operands])) w)

theorem exec_index (r : Rel m A w) {t : TypeId} {x ix : Operand} (hρ : ∀ z ∈ (Op.index t x ix).operands.toList, VRel m (ρ z) (ρ' z)) :
    RNext P m A w (execA P X ρ ⟨dst, .index t x ix, type, pos, after, guard⟩ A) (execOp ρ' ⟨dst, .index t x ix, type, pos, after, guard⟩) := by
  unfold execA
  exact RNext.of_pure r (index_sound (hρ x (by simp [Op.operands])) (hρ ix (by simp [Op.operands])) w)

theorem exec_lookup (r : Rel m A w) {t : TypeId} {x k : Operand} {ok : Bool} (hρ : ∀ z ∈ (Op.lookup t x k ok).operands.toList, VRel m (ρ z) (ρ' z)) :
    RNext P m A w (execA P X ρ ⟨dst, .lookup t x k ok, type, pos, after, guard⟩ A) (execOp ρ' ⟨dst, .lookup t x k ok, type, pos, after, guard⟩) := by
  unfold execA
  exact RNext.of_pure r (lookup_sound r (hρ x (by simp [Op.operands])) (hρ k (by simp [Op.operands])))

theorem exec_mapUpdate (r : Rel m A w) {t : TypeId} {mm k x : Operand} (hρ : ∀ z ∈ (Op.mapUpdate t mm k x).operands.toList, VRel m (ρ z) (ρ' z)) :
    RNext P m A w (execA P X ρ ⟨dst, .mapUpdate t mm k x, type, pos, after, guard⟩ A) (execOp ρ' ⟨dst, .mapUpdate t mm k x, type, pos, after, guard⟩) := by
  unfold execA
  exact RNext.of_unit (s := Instr.mapUpdate t (ρ' mm) (ρ' k) (ρ' x)) fun A' h => by
    obtain ⟨w', g1, g2⟩ := mapUpdate_sound r (hρ mm (by simp [Op.operands])) (hρ k (by simp [Op.operands])) (hρ x (by simp [Op.operands])) h
    exact ⟨w', g1, m, g2⟩

theorem exec_insert (r : Rel m A w) {t : TypeId} {mm k x : Operand} (hρ : ∀ z ∈ (Op.insert t mm k x).operands.toList, VRel m (ρ z) (ρ' z)) :
    RNext P m A w (execA P X ρ ⟨dst, .insert t mm k x, type, pos, after, guard⟩ A) (execOp ρ' ⟨dst, .insert t mm k x, type, pos, after, guard⟩) := by
  unfold execA
  exact RNext.of_unit (s := Instr.mapUpdate t (ρ' mm) (ρ' k) (ρ' x)) fun A' h => by
    obtain ⟨w', g1, g2⟩ := mapUpdate_sound r (hρ mm (by simp [Op.operands])) (hρ k (by simp [Op.operands])) (hρ x (by simp [Op.operands])) h
    exact ⟨w', g1, m, g2⟩

theorem exec_mapEntry (r : Rel m A w) {t : TypeId} {mm k : Operand} (hρ : ∀ z ∈ (Op.mapEntry t mm k).operands.toList, VRel m (ρ z) (ρ' z)) :
    RNext P m A w (execA P X ρ ⟨dst, .mapEntry t mm k, type, pos, after, guard⟩ A) (execOp ρ' ⟨dst, .mapEntry t mm k, type, pos, after, guard⟩) := by
  unfold execA
  simp only
  split
  · rename_i v A' h
    obtain ⟨v', w', g1, g2, g3⟩ := mapEntry_sound r (hρ mm (by simp [Op.operands])) (hρ k (by simp [Op.operands])) h
    exact RNext.of_one ⟨v', w', m, g1, g2, g3⟩
  · trivial

theorem exec_entryStore (r : Rel m A w) {t : TypeId} {mm s x : Operand} (hρ : ∀ z ∈ (Op.entryStore t mm s x).operands.toList, VRel m (ρ z) (ρ' z)) :
    RNext P m A w (execA P X ρ ⟨dst, .entryStore t mm s x, type, pos, after, guard⟩ A) (execOp ρ' ⟨dst, .entryStore t mm s x, type, pos, after, guard⟩) := by
  unfold execA
  exact RNext.of_unit (s := Instr.entryStore t (ρ' mm) (ρ' s) (ρ' x)) fun A' h => by
    obtain ⟨w', g1, g2⟩ := entryStore_sound r (hρ mm (by simp [Op.operands])) (hρ s (by simp [Op.operands])) (hρ x (by simp [Op.operands])) h
    exact ⟨w', g1, m, g2⟩

theorem exec_range (r : Rel m A w) {t : TypeId} {x : Operand} (hρ : ∀ z ∈ (Op.range t x).operands.toList, VRel m (ρ z) (ρ' z)) :
    RNext P m A w (execA P X ρ ⟨dst, .range t x, type, pos, after, guard⟩ A) (execOp ρ' ⟨dst, .range t x, type, pos, after, guard⟩) := by
  unfold execA
  have hx := hρ x (by simp [Op.operands])
  simp only
  split
  · rename_i s hu hs
    rw [hs] at hx
    generalize hq : ρ' x = z at hx
    cases hx
    split
    rotate_left
    · trivial
    rename_i b A' h
    obtain ⟨m', g2, g3⟩ := newObj_sound (o' := .stringIter s 0) r h ⟨rfl, rfl⟩ rfl
    exact ⟨.value (.pointer (some ⟨w.heap.size, 0, none⟩)), _, m', by simp [execOp, Instr.range, run_underlying hu, hq], g2, _, rfl, .ptr ⟨rfl, rfl, 0, g3, rfl⟩⟩
  · rename_i kt vt hu hs
    rw [hs] at hx
    generalize hq : ρ' x = z at hx
    cases hx
    split
    rotate_left
    · trivial
    rename_i b A' h
    obtain ⟨m', g2, g3⟩ := newObj_sound (o' := .mapIter none 0 #[] 0) r h ⟨rfl, rfl⟩ rfl
    exact ⟨.value (.pointer (some ⟨w.heap.size, 0, none⟩)), _, m', by simp [execOp, Instr.range, run_underlying hu, hq], g2, _, rfl, .ptr ⟨rfl, rfl, 0, g3, rfl⟩⟩
  · rename_i kt vt mm hu hs
    rw [hs] at hx
    split
    rotate_left
    · trivial
    rename_i es clock ro hg
    obtain ⟨c, es', hz, hm, hc, he⟩ := r.map hg hx
    split
    rotate_left
    · trivial
    rename_i b A' h
    obtain ⟨m', g2, g3⟩ := newObj_sound (o' := .mapIter (some c) clock #[] clock) r h ⟨rfl, c, rfl, hm⟩ rfl
    exact ⟨.value (.pointer (some ⟨w.heap.size, 0, none⟩)), _, m', by simp [execOp, Instr.range, run_underlying hu, hz, run_getObj_ok P w c _ hc], g2, _, rfl, .ptr ⟨rfl, rfl, 0, g3, rfl⟩⟩
  · trivial

theorem exec_next (r : Rel m A w) {it : Operand} {isString : Bool} (hρ : ∀ z ∈ (Op.next it isString).operands.toList, VRel m (ρ z) (ρ' z)) :
    RNext P m A w (execA P X ρ ⟨dst, .next it isString, type, pos, after, guard⟩ A) (execOp ρ' ⟨dst, .next it isString, type, pos, after, guard⟩) := by
  unfold execA
  exact nextStr_sound r (hρ it (by simp [Op.operands]))

theorem exec_entry (r : Rel m A w) {it : Operand} (hρ : ∀ z ∈ (Op.entry it).operands.toList, VRel m (ρ z) (ρ' z)) :
    RNext P m A w (execA P X ρ ⟨dst, .entry it, type, pos, after, guard⟩ A) (execOp ρ' ⟨dst, .entry it, type, pos, after, guard⟩) := by
  unfold execA
  exact RNext.of_pure r (entry_sound r (hρ it (by simp [Op.operands])))

theorem exec_typeAssert (r : Rel m A w) {x : Operand} {xt at_ : TypeId} {ok : Bool} (hρ : ∀ z ∈ (Op.typeAssert x xt at_ ok).operands.toList, VRel m (ρ z) (ρ' z)) :
    RNext P m A w (execA P X ρ ⟨dst, .typeAssert x xt at_ ok, type, pos, after, guard⟩ A) (execOp ρ' ⟨dst, .typeAssert x xt at_ ok, type, pos, after, guard⟩) := by
  unfold execA
  exact RNext.of_pure r (typeAssert_sound (hρ x (by simp [Op.operands])) w)

theorem exec_extract (r : Rel m A w) {t : Operand} {ix : Nat} (hρ : ∀ z ∈ (Op.extract t ix).operands.toList, VRel m (ρ z) (ρ' z)) :
    RNext P m A w (execA P X ρ ⟨dst, .extract t ix, type, pos, after, guard⟩ A) (execOp ρ' ⟨dst, .extract t ix, type, pos, after, guard⟩) := by
  unfold execA
  have hx := hρ t (by simp [Op.operands])
  simp only
  split
  · rename_i vs hv
    refine RNext.of_pure r (s := Instr.extract (ρ' t) ix) ?_
    rw [hv] at hx
    generalize ρ' t = y at hx
    exact extract_sound (i := ix) hx w
  · trivial

theorem exec_call (hX : XOk P X) (r : Rel m A w) {c : Call} (hρ : ∀ z ∈ (Op.call c).operands.toList, VRel m (ρ z) (ρ' z)) :
    RNext P m A w (execA P X ρ ⟨dst, .call c, type, pos, after, guard⟩ A) (execOp ρ' ⟨dst, .call c, type, pos, after, guard⟩) := by
  unfold execA
  simp only
  cases hc : c.callee with
  | builtin b =>
    have hargs : VRels m (c.args.toList.map ρ) (c.args.toList.map ρ') := VRels.two fun y hy => hρ y (by simp [Op.operands, Call.operands, hc]; simpa using hy)
    have hra : resolveA ρ c type = some ⟨.builtin b c.argTypes type #[], ⟨c.args.toList.map ρ⟩⟩ := by unfold resolveA; rw [hc]
    rw [hra]
    have e : c.args.map ρ' = ⟨c.args.toList.map ρ'⟩ := by cases c.args; simp
    have h := builtin_sound r (b := b) (ts := c.argTypes.toList) (ty := type) (cs := c.args.map fun | .const _ => true | _ => false) hargs
    have hrun : (execOp ρ' ⟨dst, .call c, type, pos, after, guard⟩).run P w = (builtin b c.argTypes type (c.args.map fun | .const _ => true | _ => false) ⟨c.args.toList.map ρ'⟩).run P w := by
      simp only [execOp, resolve, hc, Sem.run_bind, Sem.run_pure, Result.andThen_ok, e]
      rfl
    unfold RNext at h ⊢
    rw [hrun]
    exact h
  | _ =>
    all_goals
      cases hr : resolveA ρ c type with
      | none => trivial
      | some d =>
        obtain ⟨f, f', cs, cs', args, args', rfl, h1, h2, h3, h4⟩ := resolve_sound hρ hr (fun b => by rw [hc]; simp) w
        have h := invokeFn_sound hX r (c := ⟨cs⟩) h2 h3 h4
        have hrun : (execOp ρ' ⟨dst, .call c, type, pos, after, guard⟩).run P w = (invoke (.fn f' ⟨cs'⟩) ⟨args'⟩).run P w := by
          simp only [execOp, Sem.run_bind, h1, Result.andThen_ok]
        unfold RNext at h ⊢
        rw [hrun]
        exact h

theorem exec_defer (r : Rel m A w) {c : Call} (hρ : ∀ z ∈ (Op.defer c).operands.toList, VRel m (ρ z) (ρ' z)) :
    RNext P m A w (execA P X ρ ⟨dst, .defer c, type, pos, after, guard⟩ A) (execOp ρ' ⟨dst, .defer c, type, pos, after, guard⟩) := by
  unfold execA
  simp only
  split
  · trivial
  · rename_i d hr hb
    obtain ⟨f, f', cs, cs', args, args', rfl, h1, h2, h3, h4⟩ := resolve_sound hρ hr (fun b h => hb b h) w
    refine ⟨.defer ⟨.fn f' ⟨cs'⟩, ⟨args'⟩⟩, w, m, ?_, .refl r, _, rfl, ⟨f', cs', rfl, h2, h3⟩, h4⟩
    simp only [execOp, Sem.run_bind, h1, Result.andThen_ok, Sem.run_pure]
  · trivial

theorem exec_panic (r : Rel m A w) {x : Operand} (hρ : ∀ z ∈ (Op.panic x).operands.toList, VRel m (ρ z) (ρ' z)) :
    RNext P m A w (execA P X ρ ⟨dst, .panic x, type, pos, after, guard⟩ A) (execOp ρ' ⟨dst, .panic x, type, pos, after, guard⟩) := by
  unfold execA
  have hx := hρ x (by simp [Op.operands])
  simp only
  split
  · rename_i t v hv
    rw [hv] at hx
    generalize hq : ρ' x = z at hx
    cases hx with
    | iface _ h => exact ⟨_, w, m, by simp [execOp, hq, Instr.panic, goPanic], .refl r, .iface t h⟩
  · trivial

theorem exec_sound (hX : XOk P X) (r : Rel m A w) {o : Oper} (hρ : ∀ x ∈ o.op.operands.toList, VRel m (ρ x) (ρ' x)) :
    RNext P m A w (execA P X ρ o A) (execOp ρ' o) := by
  obtain ⟨dst, op, type, pos, after, guard⟩ := o
  cases op with
  | move x => exact exec_move r (x := x) hρ
  | assign x => exact exec_assign r (x := x) hρ
  | pick c a b => exact exec_pick r (c := c) (a := a) (b := b) hρ
  | alloc e => exact exec_alloc r (e := e) hρ
  | box e x => exact exec_box r (e := e) (x := x) hρ
  | build t parts => exact exec_build r (t := t) (parts := parts) hρ
  | buildSlice t len parts => exact exec_buildSlice r (t := t) (len := len) (parts := parts) hρ
  | load t a => exact exec_load r (t := t) (a := a) hρ
  | store t a x => exact exec_store r (t := t) (a := a) (x := x) hρ
  | nilCheck x => exact exec_nilCheck r (x := x) hρ
  | binOp op t x y b => exact exec_binOp r (op := op) (t := t) (x := x) (y := y) (b := b) hρ
  | unOp op t x => exact exec_unOp r (op := op) (t := t) (x := x) hρ
  | convert s d x => exact exec_convert r (s := s) (d := d) (x := x) hρ
  | makeInterface t x => exact exec_makeInterface r (t := t) (x := x) hρ
  | makeFunc fn first captured => exact exec_makeFunc r (fn := fn) (first := first) (captured := captured) hρ
  | makeMap t q => exact exec_makeMap r (t := t) (q := q) hρ
  | makeSlice t l c => exact exec_makeSlice r (t := t) (l := l) (c := c) hρ
  | slice t x lo hi mx => exact exec_slice r (t := t) (x := x) (lo := lo) (hi := hi) (mx := mx) hρ
  | fieldAddr s x f => exact exec_fieldAddr r (s := s) (x := x) (f := f) hρ
  | field s x f => exact exec_field r (s := s) (x := x) (f := f) hρ
  | indexAddr t x ix => exact exec_indexAddr r (t := t) (x := x) (ix := ix) hρ
  | index t x ix => exact exec_index r (t := t) (x := x) (ix := ix) hρ
  | lookup t x k ok => exact exec_lookup r (t := t) (x := x) (k := k) (ok := ok) hρ
  | mapUpdate t mm k x => exact exec_mapUpdate r (t := t) (mm := mm) (k := k) (x := x) hρ
  | insert t mm k x => exact exec_insert r (t := t) (mm := mm) (k := k) (x := x) hρ
  | mapEntry t mm k => exact exec_mapEntry r (t := t) (mm := mm) (k := k) hρ
  | entryStore t mm s x => exact exec_entryStore r (t := t) (mm := mm) (s := s) (x := x) hρ
  | range t x => exact exec_range r (t := t) (x := x) hρ
  | next it isString => exact exec_next r (it := it) (isString := isString) hρ
  | entry it => exact exec_entry r (it := it) hρ
  | typeAssert x xt at_ ok => exact exec_typeAssert r (x := x) (xt := xt) (at_ := at_) (ok := ok) hρ
  | extract t ix => exact exec_extract r (t := t) (ix := ix) hρ
  | call c => exact exec_call hX r (c := c) hρ
  | defer c => exact exec_defer r (c := c) hρ
  | panic x => exact exec_panic r (x := x) hρ
  | _ => trivial

end
end Go.Abs
