/-
  This text prints what the functions reached ask of their memory, and shows what they answer. Conditions: none for the last theorem, those that each theorem states for the others.
-/
import Derived.Test.YtkjlldaddekegaaGreatDoorPe
import Derived.DeepKeys2
set_option maxRecDepth 100000
set_option maxHeartbeats 1000000
namespace Go.Abs
section
variable {P : Program}
theorem quiet_fieldR {d : Nat} {xs ys : Array Value} {f : Field} {fs : List Field} {a b : Value} {r : Bool} (hn : decide (f.name ≠ "_") = true) (h1 : quiet P (part f.type xs f.offset) = some a) (h2 : quiet P (part f.type ys f.offset) = some b) (h3 : quiet P (Op.equalIn d f.type a b) = some r) :
    quiet P (Op.eqFields d xs ys (f :: fs)) = if r = true then quiet P (Op.eqFields d xs ys fs) else some false := by
  simp only [Op.eqFields]
  rw [if_pos (of_decide_eq_true hn)]
  show quiet P (Sem.bind _ _) = _
  rw [quiet_bind, h1]
  simp only [Option.bind_some]
  show quiet P (Sem.bind _ _) = _
  rw [quiet_bind, h2]
  simp only [Option.bind_some]
  show quiet P (Sem.bind _ _) = _
  rw [quiet_bind, h3]
  cases r <;> rfl
theorem bytes_beq (a b : ByteArray) : (a == b) = (a.data.toList == b.data.toList) := by
  obtain ⟨⟨x⟩⟩ := a
  obtain ⟨⟨y⟩⟩ := b
  show ((⟨x⟩ : Array UInt8) == ⟨y⟩) = (x == y)
  simp
theorem quiet_eqs {d : Nat} {t : TypeId} {a b : ByteArray} (h : quiet P (underlying t) = some .string) : quiet P (Op.equalIn (d + 1) t (.string a) (.string b)) = some (a.data.toList == b.data.toList) := by
  rw [quiet_eq_string d t a b h, bytes_beq]
end
section
variable {P : Program} {tb ts tst : TypeId}
def appU (P : Program) (U : Nat) (w : AW) (t t2 : TypeId) (s x : Value) : R Value :=
  match sliceElemT P t, s with
  | some e, .slice base n cap =>
    (match szT P e, bytesT P e with
    | some 0, _ => .fail "append size 0"
    | some size, some bytes =>
      match sourceZ P w e t2 size x with
      | none => .fail "append source"
      | some (m, new) =>
        let need := n + m
        bif !(Nat.blt need room && Nat.blt (need * bytes) room && hasZero P e size) then .fail "append room" else
        match m with
        | 0 => .ok s w
        | _ + 1 =>
          let lb := bif Nat.ble U cap then cap - U else cap
          bif Nat.ble need lb then
            match base with
            | none => .fail "append nil with room"
            | some a => (match w.setCells (addA a (n * size)) new with
              | some w' => .ok (.slice base need cap) w'
              | none => .fail "append set")
          else bif Nat.ble U cap then
            -- not known whether there is room
            match base with
            | none => .fail "append nil with unknown capacity"
            | some a => match a.spot, w.get a.block with
              | none, some (.row _ e' fam b0 false) =>
                bif !(Nat.beq e' e && new.all oneCell) then .fail "append elements" else
                (match w.cellsAny a (n * size) with
                | none => .fail "append old cells"
                | some old =>
                  match (poisonFrom (b0 + a.off + n * size) (w.members fam) w).newIn (old ++ new) e fam (b0 + a.off) with
                  | some (a', w') => .ok (.slice (some a') need (U + need)) w'
                  | none => .fail "append new")
              | _, _ => .fail "append base row"
          else
            match (match base with | some a => w.cellsAny a (n * size) | none => some []) with
            | none => .fail "append old cells"
            | some old => (match w.new (.row (old ++ new) e w.next 0 false) with
              | some (b, w') => .ok (.slice (some ⟨b, 0, none⟩) need (U + need)) w'
              | none => .fail "append new")
    | _, _ => .fail "append type")
  | _, _ => .fail "append"
theorem appU_eq (A : AW) (t t2 : TypeId) (s x : Value) : appendA P A t t2 s x = appU P capU A t t2 s x := rfl
end
end Go.Abs
namespace Go.Abs
open Go.ChangeShapes Go.WideShapes Go.ChangeAt Go.RowKit
abbrev Arg := (Nat × Nat) × Option (List Value × TypeId)
def argT (F : Nat) : Nat → List Arg → Trie AO → Trie AO
  | _, [], t => t
  | j, (_, none) :: r, t => argT F (j + 1) r t
  | j, (_, some (cs, e)) :: r, t => (argT F (j + 1) r t).put depth j (some (.row cs e F 0 true))
def wR (n : Nat) (gl : List (Nat × List Value × TypeId)) (L : List Arg) : AW :=
  ⟨argT (n + L.length) n L (rowsT gl), n + L.length + 1, (Trie.nil : Trie (List Nat)).put depth (n + L.length) (some ((List.range L.length).map (n + ·)))⟩
def mR (P : Program) (L : List Arg) : Inj P := mA P (L.map (·.1))
theorem argT_get (F : Nat) : ∀ (L : List Arg) (j : Nat) (t : Trie AO) (i : Nat), j + L.length ≤ maxId → (argT F j L t).get? i = if i < j then t.get? i else match L[i - j]? with
    | some (_, some (cs, e)) => some (.row cs e F 0 true)
    | _ => t.get? i
  | [], j, t, i, _ => by simp [argT]
  | (p, none) :: r, j, t, i, h => by
    simp only [List.length_cons] at h
    simp only [argT]
    rw [argT_get F r (j + 1) t i (by omega)]
    by_cases h1 : i < j
    · rw [if_pos (by omega), if_pos h1]
    · by_cases h2 : i = j
      · subst h2
        rw [if_pos (by omega), if_neg h1, Nat.sub_self]
        rfl
      · rw [if_neg (by omega), if_neg h1, show i - j = (i - (j + 1)) + 1 by omega, List.getElem?_cons_succ]
  | (p, some (cs, e)) :: r, j, t, i, h => by
    simp only [List.length_cons] at h
    simp only [argT]
    rw [Trie.get?_put depth _ j i _ (by unfold depth maxId at *; omega), argT_get F r (j + 1) t i (by omega)]
    by_cases h1 : i < j
    · rw [if_neg (by omega), if_pos (by omega), if_pos h1]
    · by_cases h2 : i = j
      · subst h2
        rw [if_pos rfl, if_neg h1, Nat.sub_self]
        rfl
      · rw [if_neg h2, if_neg (by omega), if_neg h1, show i - j = (i - (j + 1)) + 1 by omega, List.getElem?_cons_succ]
section
variable {P : Program} {W : World} {gl : List (Nat × List Value × TypeId)} {L : List Arg}
theorem wR_get {n : Nat} (hok : okG n gl = true) (hk : n + L.length ≤ maxId) {i : Nat} {o : AO} (h : (wR n gl L).get i = some o) :
    (∃ x ∈ gl, x.1 = i ∧ i < n ∧ o = .row x.2.1 x.2.2 i 0 true) ∨ ∃ j p cs e, i = n + j ∧ L[j]? = some (p, some (cs, e)) ∧ o = .row cs e (n + L.length) 0 true := by
  have h : (argT (n + L.length) n L (rowsT gl)).get? i = some o := h
  rw [argT_get _ L n _ _ hk] at h
  unfold okG at hok
  simp only [Bool.and_eq_true, List.all_eq_true] at hok
  obtain ⟨hn, hl⟩ := hok
  have hn := ble_true.1 hn
  have glob : (rowsT gl).get? i = some o → ∃ x ∈ gl, x.1 = i ∧ i < n ∧ o = .row x.2.1 x.2.2 i 0 true := by
    intro h
    obtain ⟨x, hx, rfl, rfl⟩ := rowsT_get gl (fun x hx => Nat.lt_of_lt_of_le (blt_true.1 (hl x hx).1) hn) i o h
    exact ⟨x, hx, rfl, blt_true.1 (hl x hx).1, rfl⟩
  split at h
  · exact .inl (glob h)
  · split at h
    · rename_i hi p cs e hq
      cases h
      exact .inr ⟨i - n, p, cs, e, by omega, hq, rfl⟩
    · exact .inl (glob h)
theorem wR_fine {n : Nat} (hok : okG n gl = true) (hk : n + L.length + 1 ≤ maxId) : Fine (wR n gl L) := by
  refine ⟨fun i hi => ?_, fun i hi => ?_⟩
  · have hi : n + L.length + 1 ≤ i := hi
    show ((Trie.nil : Trie (List Nat)).put depth (n + L.length) _).get? i = none
    rw [Trie.get?_put depth _ _ i _ (by unfold depth maxId at *; omega), if_neg (by omega)]
    rfl
  · have hi : n + L.length + 1 ≤ i := hi
    cases hq : (wR n gl L).get i with
    | none => rfl
    | some o =>
      rcases wR_get hok (by omega) hq with ⟨x, _, _, h, _⟩ | ⟨j, p, cs, e, rfl, h, _⟩
      · omega
      · have := (List.getElem?_eq_some_iff.1 h).1
        omega
def Args (P : Program) (W : World) (L : List Arg) : Prop := ∀ (j : Nat) (p : Nat × Nat) (cs : List Value) (e : TypeId), L[j]? = some (p, some (cs, e)) → ∃ cs' fr, W.heap[p.1]? = some (.cells cs' e fr) ∧ p.2 ≤ cs'.size ∧
  ∀ i v, cs[i]? = some v → ∃ v', cs'[p.2 + i]? = some v' ∧ VRel (mR P L) v v'
theorem relR (hok : okG P.globals.size gl = true) (hk : P.globals.size + L.length + 1 ≤ maxId) (hW : Holds W gl) (hA : Args P W L) : Rel (mR P L) (wR P.globals.size gl L) W := by
  have hget := fun {i : Nat} {o : AO} (h : (wR P.globals.size gl L).get i = some o) => wR_get hok (by omega) h
  have hl : ∀ x ∈ gl, x.2.1.all (closedV 4) = true := by
    unfold okG at hok
    simp only [Bool.and_eq_true, List.all_eq_true] at hok
    intro x hx
    exact List.all_eq_true.2 (hok.2 x hx).2
  have hlen : (L.map (·.1)).length = L.length := List.length_map _
  have harg : ∀ {j : Nat} {p : Nat × Nat} {q : Option (List Value × TypeId)}, L[j]? = some (p, q) → mR P L (P.globals.size + j) = some p := by
    intro j p q h
    show mA P _ _ = _
    rw [mA_arg, List.getElem?_map, h]
    rfl
  refine ⟨?_, ?_, ?_, ?_, ?_, hk, ?_⟩
  · intro i o c d hi hm
    rcases hget hi with ⟨x, hx, rfl, hlt, rfl⟩ | ⟨j, p, cs, e, rfl, hj, rfl⟩
    · have hm : mA P (L.map (·.1)) x.1 = some (c, d) := hm
      rw [mA_var hlt] at hm
      cases hm
      obtain ⟨fr, hc⟩ := hW x hx
      exact ⟨_, hc, _, fr, rfl, fun i v hv => ⟨v, by simpa using hv, fun _ => closedV_rel 4 v (List.all_eq_true.1 (hl x hx) v (List.mem_of_getElem? hv)), fun h => by cases h⟩⟩
    · rw [harg hj] at hm
      cases hm
      obtain ⟨cs', fr, h1, h2, h3⟩ := hA j _ cs e hj
      refine ⟨_, h1, cs', fr, rfl, fun i v hv => ?_⟩
      obtain ⟨v', g1, g2⟩ := h3 i v hv
      exact ⟨v', g1, fun _ => g2, fun h => by cases h⟩
  · intro i cs e b ro hi c d hm
    rcases hget hi with ⟨x, hx, rfl, hlt, _⟩ | ⟨j, p, cs2, e2, rfl, hj, he⟩
    · have hm : mA P (L.map (·.1)) x.1 = some (c, d) := hm
      rw [mA_var hlt] at hm
      cases hm
      rfl
    · have := (List.getElem?_eq_some_iff.1 hj).1
      simp only [AO.row.injEq] at he
      omega
  · intro i j oi oj c di dj hij hi hj hmi hmj
    refine .inl ?_
    rcases hget hi with ⟨x, hx, rfl, hlt, rfl⟩ | ⟨j, p, cs2, e2, rfl, _, rfl⟩ <;> rcases hget hj with ⟨y, hy, rfl, hlt2, rfl⟩ | ⟨j2, p2, cs3, e3, rfl, _, rfl⟩ <;> exact ⟨rfl, rfl⟩
  · intro i o f b hi hf
    have hmem : ∀ f, (wR P.globals.size gl L).members f = if f = P.globals.size + L.length then (List.range L.length).map (P.globals.size + ·) else [f] := by
      intro f
      show (match ((Trie.nil : Trie (List Nat)).put depth (P.globals.size + L.length) _).get? f with | some l => l | none => [f]) = _
      rw [Trie.get?_put depth _ _ f _ (by unfold depth maxId at *; omega)]
      by_cases h : f = P.globals.size + L.length
      · rw [if_pos h, if_pos h]
      · rw [if_neg h, if_neg h]; rfl
    rcases hget hi with ⟨x, hx, rfl, hlt, rfl⟩ | ⟨j, p, cs2, e2, rfl, hj, rfl⟩
    · simp only [AO.fam, Option.some.injEq, Prod.mk.injEq] at hf
      obtain ⟨rfl, rfl⟩ := hf
      rw [hmem, if_neg (by omega)]
      exact ⟨by simp, by show x.1 < P.globals.size + L.length + 1; omega⟩
    · simp only [AO.fam, Option.some.injEq, Prod.mk.injEq] at hf
      obtain ⟨rfl, rfl⟩ := hf
      have := (List.getElem?_eq_some_iff.1 hj).1
      rw [hmem, if_pos rfl]
      exact ⟨List.mem_map.2 ⟨j, List.mem_range.2 this, rfl⟩, by show _ < P.globals.size + L.length + 1; omega⟩
  · intro i hi
    have hi : P.globals.size + L.length + 1 ≤ i := hi
    have hf := wR_fine (n := P.globals.size) hok hk
    refine ⟨hf.get i hi, ?_, hf.fams i hi⟩
    show (if i < P.globals.size then some (i, 0) else (L.map (·.1))[i - P.globals.size]?) = none
    rw [if_neg (by omega)]
    exact List.getElem?_eq_none (by omega)
  · intro i cs e f b ro c d hi hm
    rcases hget hi with ⟨x, hx, rfl, hlt, he⟩ | ⟨j, p, cs2, e2, rfl, hj, he⟩
    · cases he
      have hm : mA P (L.map (·.1)) x.1 = some (c, d) := hm
      rw [mA_var hlt] at hm
      cases hm
      obtain ⟨fr, hc⟩ := hW x hx
      exact ⟨fun h => absurd rfl h, _, _, fr, hc, by show 0 + 0 ≤ _; omega, fun h => by cases h⟩
    · cases he
      rw [harg hj] at hm
      cases hm
      obtain ⟨cs', fr, h1, h2, h3⟩ := hA j _ _ _ hj
      exact ⟨fun h => absurd rfl h, cs', _, fr, h1, by show _ + 0 ≤ _; omega, fun h => by cases h⟩
theorem ownR (hok : okG P.globals.size gl = true) (hk : P.globals.size + L.length ≤ maxId) (c : Nat) : ¬ Own (mR P L) (wR P.globals.size gl L) c := by
  rintro ⟨i, o, d, hi, hro, _⟩
  rcases wR_get hok hk hi with ⟨x, hx, rfl, hlt, rfl⟩ | ⟨j, p, cs2, e2, rfl, _, rfl⟩ <;> cases hro
theorem calls_trueR {X : XNames} (hP : POk P) (hok : okG P.globals.size gl = true) (hk : P.globals.size + L.length + 1 ≤ maxId) {g : FuncId} {args args' : List Value}
    (hW : Holds W gl) (hA : Args P W L) (ha : VRels (mR P L) args args') (h : Wc P X W (mR P L) g args (wR P.globals.size gl L) fun v _ => v = .bool true) : Calls P g ⟨args'⟩ W fun e W' => e = .returned (.bool true) ∧ Below W.heap.size W W' := by
  refine (calls_of_wc hP h (relR hok hk hW hA) (fun i hi => mA_var hi) (ownR hok (by omega)) ha).mono ?_
  rintro e w' ⟨v, v', m', A', rfl, rfl, h2, h3⟩
  cases h2
  exact ⟨rfl, below_of h3 (ownR hok (by omega))⟩
end
section
variable {H : Type} {enc : TypeId × Value → H} {P : Program}
def flat {β : Type} (f : β → List Value) (l : List β) : List Value := l.flatMap f
theorem flat_length {β : Type} {f : β → List Value} {n : Nat} (hn : ∀ b, (f b).length = n) : ∀ l : List β, (flat f l).length = l.length * n
  | [] => by simp [flat]
  | b :: r => by
    have := flat_length hn r
    simp only [flat, List.flatMap_cons, List.length_append, hn, List.length_cons] at *
    rw [this, Nat.succ_mul]; omega
theorem flat_drop {β : Type} {f : β → List Value} {n : Nat} (hn : ∀ b, (f b).length = n) : ∀ (l : List β) (i : Nat) (b : β), l[i]? = some b → ∃ rest, (flat f l).drop (i * n) = f b ++ rest
  | [], i, b, h => by simp at h
  | x :: r, 0, b, h => by
    simp only [List.getElem?_cons_zero, Option.some.injEq] at h
    subst h
    exact ⟨flat f r, by simp [flat]⟩
  | x :: r, i + 1, b, h => by
    simp only [List.getElem?_cons_succ] at h
    obtain ⟨rest, h2⟩ := flat_drop hn r i b h
    refine ⟨rest, ?_⟩
    rw [← h2]
    simp only [flat, List.flatMap_cons]
    rw [Nat.succ_mul, Nat.add_comm, ← List.drop_drop, List.drop_append, hn, Nat.sub_self]
    rw [show List.drop n (f x) = [] from List.drop_eq_nil_of_le (by rw [hn]; exact Nat.le_refl _)]
    simp
theorem flat_get {β : Type} {f : β → List Value} {n : Nat} (hn : ∀ b, (f b).length = n) {l : List β} {i : Nat} {b : β} (h : l[i]? = some b) {k : Nat} (hk : k < n) : (flat f l)[i * n + k]? = (f b)[k]? := by
  obtain ⟨rest, h2⟩ := flat_drop hn l i b h
  rw [← List.getElem?_drop, h2, List.getElem?_append_left (by rw [hn]; exact hk)]
inductive InSlice (W : World) {β : Type} (f : β → List Value) (s : Value) (l : List β) : Arg → Prop
  | nil (hl : l = []) (hs : IsSlice s) (h0 : ∃ o c, s = .slice o 0 c) : InSlice W f s l (placeOf s, none)
  | blk (a : Addr) (c : Nat) (cs : Array Value) (e' : TypeId) (fr : Nat × Nat) (hs : s = .slice (some a) l.length c) (hc : l.length ≤ c) (hc2 : c < capU) (hsp : a.spot = none) (hb : W.heap[a.block]? = some (.cells cs e' fr)) (ho : a.off ≤ cs.size)
      (hg : ∀ i v, (flat f l)[i]? = some v → cs[a.off + i]? = some v) : InSlice W f s l ((a.block, a.off), some (flat f l, e'))
theorem addr_add0 (a : Addr) (n : Nat) (h : a.spot = none) : a.add n = ⟨a.block, a.off + n, none⟩ := by
  unfold Addr.add
  split
  · rename_i h0; subst h0; obtain ⟨b, o, s⟩ := a; simp only at h; subst h; rfl
  · rfl
theorem read_flat {W : World} {t e : TypeId} {fuel : Nat} {cs : List Value} {x : DataW H × List MemPlace} {β : Type} {f : β → List Value} {ok : β → Prop} (b0 : β) (hu : P.underlying t = some (.slice e)) (hz : 0 < P.cellsOf e) (hn : ∀ b, (f b).length = P.cellsOf e)
    (hel : ∀ q cs y, DataW.trod enc P W 0 (fun _ => true) true q e cs = some y → ∃ b, cs = f b ∧ ok b) (h : DataW.trod enc P W 0 (fun _ => true) true fuel t cs = some x) :
    ∃ s l L, cs = [s] ∧ InSlice W f s l L ∧ (∀ b ∈ l, ok b) := by
  have hsl := read_slice hu hz h
  rcases Go.Deep.open_slice hu h with ⟨rfl, _⟩ | ⟨a, n, c, m, k, D, Pl, rfl, _, hnm, hc, hm, _, hx⟩
  · exact ⟨_, [], _, rfl, .nil rfl (.inl rfl) ⟨none, 0, rfl⟩, by simp⟩
  · obtain ⟨s', hs1, hs2⟩ := hsl
    simp only [List.cons.injEq, and_true] at hs1
    subst hs1
    have hm : m = c := hm
    subst hm
    have hcap : m < capU := by
      have h1 : maxLen < capU := by decide
      omega
    rcases Nat.eq_zero_or_pos n with rfl | hpos
    · exact ⟨_, [], _, rfl, .nil rfl hs2 ⟨some a, m, rfl⟩, by simp⟩
    · have key : ∀ i, i < n → ∃ b : β, ok b ∧ ∀ j, j < P.cellsOf e → ∃ v, (f b)[j]? = some v ∧ W.cell? ((a.add (i * P.cellsOf e)).add j) = some v := by
        intro i hi
        obtain ⟨cs', g1, g2⟩ := hx i (by omega)
        obtain ⟨_, hl, g3⟩ := World.cells?_some g1
        obtain ⟨b, rfl, hok⟩ := hel _ _ _ g2
        refine ⟨b, hok, fun j hj => ?_⟩
        have h4 := g3 j (by omega)
        exact ⟨(f b)[j]'(by rw [hn]; exact hj), List.getElem?_eq_getElem _, by rw [h4]; exact List.getElem?_eq_getElem _⟩
      obtain ⟨bb, _, q⟩ := key 0 hpos
      obtain ⟨v0, _, q2⟩ := q 0 hz
      have hblk : a.spot = none ∧ ∃ cs e' fr, W.heap[a.block]? = some (.cells cs e' fr) ∧ a.off ≤ cs.size := by
        have : W.cell? a = some v0 := by simpa [Addr.add] using q2
        unfold World.cell? at this
        split at this
        · rename_i cs e' fr hh
          split at this
          · cases this
          · rename_i hsp
            refine ⟨?_, cs, e', fr, hh, ?_⟩
            · cases hq : a.spot with
              | none => rfl
              | some z => exact absurd (by simp [hq]) hsp
            · have := (Array.getElem?_eq_some_iff.1 this).1
              omega
        · cases this
      obtain ⟨hsp, cs, e', fr, hh, hoff⟩ := hblk
      let g : Nat → β := fun i => if h : i < n then Classical.choose (key i h) else b0
      have hg : ∀ i (h : i < n), g i = Classical.choose (key i h) := fun i h => dif_pos h
      have hfl : ((List.range n).map g).length = n := by simp
      refine ⟨_, (List.range n).map g, _, rfl, .blk a m cs e' fr (by rw [hfl]) (by rw [hfl]; exact hnm) hcap hsp hh hoff fun i v hi => ?_, fun b hb => ?_⟩
      · have hlt : i < n * P.cellsOf e := by
          have := (List.getElem?_eq_some_iff.1 hi).1
          rw [flat_length hn, hfl] at this
          exact this
        have hdiv : i / P.cellsOf e < n := (Nat.div_lt_iff_lt_mul hz).2 hlt
        have hmod : i % P.cellsOf e < P.cellsOf e := Nat.mod_lt _ hz
        have hie : i / P.cellsOf e * P.cellsOf e + i % P.cellsOf e = i := by rw [Nat.mul_comm]; exact Nat.div_add_mod i _
        have hget : ((List.range n).map g)[i / P.cellsOf e]? = some (g (i / P.cellsOf e)) := by
          rw [List.getElem?_map, List.getElem?_range hdiv]; rfl
        have := flat_get hn hget hmod
        rw [hie, hi, hg _ hdiv] at this
        obtain ⟨_, p2⟩ := Classical.choose_spec (key _ hdiv)
        obtain ⟨v', p3, p4⟩ := p2 _ hmod
        rw [← this] at p3
        cases p3
        rw [addr_add0 a _ hsp, addr_add0 _ _ rfl] at p4
        unfold World.cell? at p4
        rw [hh] at p4
        simp only [Option.isSome_none, Bool.false_eq_true, if_false] at p4
        rw [show a.off + i / P.cellsOf e * P.cellsOf e + i % P.cellsOf e = a.off + i by omega] at p4
        simpa using p4
      · simp only [List.mem_map, List.mem_range] at hb
        obtain ⟨i, hi, rfl⟩ := hb
        rw [hg i hi]
        exact (Classical.choose_spec (key i hi)).1
theorem InSlice.rel {W : World} {β : Type} {f : β → List Value} {s : Value} {l : List β} {La : Arg} (h : InSlice W f s l La) {L : List Arg} {j : Nat} (hL : L[j]? = some La) :
    ∃ s', VRel (mR P L) s' s ∧ ((l = [] ∧ ∃ o c, s' = .slice o 0 c) ∨ ∃ c p e, s' = .slice (some ⟨P.globals.size + j, 0, none⟩) l.length c ∧ L[j]? = some (p, some (flat f l, e))) := by
  cases h with
  | nil hl hs h0 =>
    have : (L.map (·.1))[j]? = some (placeOf s) := by rw [List.getElem?_map, hL]; rfl
    obtain ⟨o, n2, c2, hv⟩ := hs.rel (P := P) (l := L.map (·.1)) j this
    obtain ⟨o', c', rfl⟩ := h0
    have hn2 : n2 = 0 := by cases hv <;> rfl
    subst hn2
    exact ⟨_, hv, .inl ⟨hl, _, _, rfl⟩⟩
  | blk a c cs e' fr hs hc hc2 hsp hb ho hg =>
    subst hs
    refine ⟨_, ?_, .inr ⟨c, _, _, rfl, hL⟩⟩
    refine .slice (.inl ⟨hc2, rfl⟩) hc fun _ => ⟨rfl, hsp, a.off, ?_, rfl⟩
    show mA P _ _ = _
    rw [mA_arg, List.getElem?_map, hL]
    rfl
theorem InSlice.args {W : World} {β : Type} {f : β → List Value} {s : Value} {l : List β} {La : Arg} (h : InSlice W f s l La) (hf : ∀ b, (f b).all (closedV 4) = true) {p : Nat × Nat} {cs : List Value} {e : TypeId} (hq : La = (p, some (cs, e))) {L : List Arg} :
    ∃ cs' fr, W.heap[p.1]? = some (.cells cs' e fr) ∧ p.2 ≤ cs'.size ∧ ∀ i v, cs[i]? = some v → ∃ v', cs'[p.2 + i]? = some v' ∧ VRel (mR P L) v v' := by
  cases h with
  | nil hl hs h0 => simp at hq
  | blk a c cs2 e' fr hs hc hc2 hsp hb ho hg =>
    simp only [Prod.mk.injEq, Option.some.injEq] at hq
    obtain ⟨rfl, rfl, rfl⟩ := hq
    refine ⟨cs2, fr, hb, ho, fun i v hv => ⟨v, hg i v hv, closedV_rel 4 v ?_⟩⟩
    have hm := List.mem_of_getElem? hv
    unfold flat at hm
    obtain ⟨b, _, hb2⟩ := List.mem_flatMap.1 hm
    exact List.all_eq_true.1 (hf b) v hb2
end
end Go.Abs
namespace Go.Abs
structure ET (P : Program) (ts te : TypeId) (n : Nat) {β : Type} (f : β → List Value) : Prop where
  us : P.underlying ts = some (.slice te)
  sz : szT P te = some (n + 1)
  ag : isAggT P te = some true
  by' : ∃ b, bytesT P te = some b ∧ b ≤ 256
  hz : hasZero P te (n + 1) = true
  len : ∀ x, (f x).length = n + 1
  one : ∀ x, (f x).all oneCell = true
  noT : ∀ x, (f x).all (fun v => !isTuple v) = true
section
variable {P : Program} {ts te : TypeId} {n : Nat} {β : Type} {f : β → List Value}
def RdE (n : Nat) (f : β → List Value) (A : AW) (v : Value) (l : List β) (F : List Nat) : Prop :=
  (l = [] ∧ F = [] ∧ ∃ o c, v = .slice o 0 c) ∨ ∃ r o c cs e g b ro, v = .slice (some ⟨r, o, none⟩) l.length c ∧ A.get r = some (.row cs e g b ro) ∧ g < A.next ∧ F = [g] ∧ ∀ (i : Nat) p, l[i]? = some p → ∃ rest, cs.drop (o + i * (n + 1)) = f p ++ rest
theorem RdE.keeps {A A' : AW} {v : Value} {l : List β} {F S : List Nat} (h : RdE n f A v l F) (k : Keeps A A' S) (hd : ∀ x ∈ F, x ∉ S) : RdE n f A' v l F := by
  rcases h with h | ⟨r, o, c, cs, e, g, b, ro, h1, h2, h3, rfl, h4⟩
  · exact .inl h
  · exact .inr ⟨r, o, c, cs, e, g, b, ro, h1, k.get r _ h2 h3 (hd g (by simp)), Nat.lt_of_lt_of_le h3 k.next, rfl, h4⟩
theorem RdE.one {A : AW} {v : Value} {l : List β} {F : List Nat} (h : RdE n f A v l F) : oneCell v = true ∧ isTuple v = false := by
  rcases h with ⟨_, _, o, c, rfl⟩ | ⟨r, o, c, cs, e, g, b, ro, rfl, _⟩ <;> exact ⟨rfl, rfl⟩
theorem RdE.slice {A : AW} {v : Value} {l : List β} {F : List Nat} (h : RdE n f A v l F) : ∃ o c, v = .slice o l.length c := by
  rcases h with ⟨rfl, _, o, c, rfl⟩ | ⟨r, o, c, cs, e, g, b, ro, rfl, _⟩ <;> exact ⟨_, _, rfl⟩
theorem RdE.fam {A : AW} {v : Value} {l : List β} {F : List Nat} (h : RdE n f A v l F) : ∀ x ∈ F, x < A.next := by
  rcases h with ⟨_, rfl, _⟩ | ⟨r, o, c, cs, e, g, b, ro, _, _, h3, rfl, _⟩
  · simp
  · simpa using h3
theorem RdE.nil (A : AW) (o : Option Addr) (c : Nat) : RdE n f A (.slice o 0 c) [] [] := .inl ⟨rfl, rfl, o, c, rfl⟩
theorem RdE.len (T : ET P ts te n f) {A B : AW} {v : Value} {l : List β} {F : List Nat} (h : RdE n f A v l F) : lenA P B ts v = some (.int .i64 (l.length : Int)) := by
  obtain ⟨o, c, rfl⟩ := h.slice
  unfold lenA
  simp only [T.us]
theorem takeCells_app : ∀ (a rest : List Value), a.all (fun v => !isTuple v) = true → takeCells (a ++ rest) a.length = some a
  | [], rest, _ => by simp [takeCells]
  | v :: a, rest, h => by
    simp only [List.all_cons, Bool.and_eq_true, Bool.not_eq_true'] at h
    rw [List.cons_append, List.length_cons, takeCells_cons h.1, takeCells_app a rest h.2]
theorem ia_elem (T : ET P ts te n f) {b o len c i : Nat} (hi : i < len) : indexAddrA P ts (.slice (some ⟨b, o, none⟩) len c) (.int .i64 (i : Int)) = some (.pointer (some ⟨b, o + i * (n + 1), none⟩)) := by
  show indexAddrA P ts _ (.int .i64 (.ofNat i)) = _
  unfold indexAddrA
  simp only [T.us, blt_true.2 hi, cond_true, T.sz]
  unfold addA
  cases hb : Nat.beq (i * (n + 1)) 0 with
  | true => rw [cond_true, Nat.eq_of_beq_eq_true hb, Nat.add_zero]
  | false => rfl
theorem RdE.at (T : ET P ts te n f) {A : AW} {v : Value} {l : List β} {F : List Nat} (h : RdE n f A v l F) {i : Nat} {p : β} (hi : l[i]? = some p) :
    ∃ r o, indexAddrA P ts v (.int .i64 (i : Int)) = some (.pointer (some ⟨r, o, none⟩)) ∧ A.cells? ⟨r, o, none⟩ (n + 1) = some (f p) ∧ loadP P A te (.pointer (some ⟨r, o, none⟩)) = some (.agg ⟨f p⟩) := by
  rcases h with ⟨rfl, _⟩ | ⟨r, o, c, cs, e, g, b, ro, rfl, h2, h3, _, h4⟩
  · simp at hi
  · have hlt : i < l.length := (List.getElem?_eq_some_iff.1 hi).1
    obtain ⟨rest, hr⟩ := h4 i p hi
    have hc : A.cells? ⟨r, o + i * (n + 1), none⟩ (n + 1) = some (f p) := by
      rw [cells_row h2, hr]
      have := takeCells_app (f p) rest (T.noT p)
      rwa [T.len] at this
    refine ⟨r, o + i * (n + 1), ia_elem T hlt, hc, ?_⟩
    show loadVarA P A te _ = _
    unfold loadVarA
    simp only [T.ag, T.sz, hc]
theorem cell_of {A : AW} {r o m : Nat} {cs : List Value} (h : A.cells? ⟨r, o, none⟩ (m + 1) = some cs) {k : Nat} {v : Value} (hk : cs[k]? = some v) : A.cell? ⟨r, o + k, none⟩ = some v := by
  unfold AW.cells? at h
  simp only at h
  unfold AW.cell?
  simp only
  split at h
  · rename_i cs0 e g b ro hg
    have key : ∀ (m o k : Nat) (l cs : List Value), takeCells (l.drop o) m = some cs → cs[k]? = some v → cellOf l (o + k) = some v := by
      intro m
      induction m with
      | zero => intro o k l cs h hk; unfold takeCells at h; simp at h; subst h; simp at hk
      | succ m ih =>
        intro o k l cs h hk
        cases hl : l.drop o with
        | nil => rw [hl] at h; unfold takeCells at h; cases h
        | cons x r =>
          rw [hl] at h
          unfold takeCells at h
          cases hx : isTuple x with
          | true => rw [hx] at h; cases h
          | false =>
            rw [hx, cond_false] at h
            cases hr : takeCells r m with
            | none => rw [hr] at h; cases h
            | some q =>
              rw [hr] at h
              simp only [Option.some.injEq] at h
              subst h
              have hget : l[o]? = some x := by
                have : (l.drop o)[0]? = some x := by rw [hl]; rfl
                rw [List.getElem?_drop, Nat.add_zero] at this
                exact this
              have hr' : l.drop (o + 1) = r := by
                have := drop_of_get hget
                rw [hl] at this
                simpa using this.symm
              cases k with
              | zero =>
                obtain rfl : x = v := by simpa using hk
                exact cellOf_get hget hx
              | succ k =>
                have := ih (o + 1) k l q (by rw [hr']; exact hr) (by simpa using hk)
                rw [show o + (k + 1) = o + 1 + k by omega]
                exact this
    exact key (m + 1) o k cs0 cs h hk
  · cases h
def OwnE (te : TypeId) (n : Nat) (f : β → List Value) (A : AW) (v : Value) (l : List β) (F : List Nat) : Prop := OwnG A te (n + 1) v l.length (flat f l) F
theorem flat_apps (a b : List β) : flat f (a ++ b) = flat f a ++ flat f b := by simp [flat]
theorem OwnE.rd (hlen : ∀ x, (f x).length = n + 1) {A : AW} {v : Value} {l : List β} {F : List Nat} (h : OwnE te n f A v l F) : RdE n f A v l F := by
  rcases h with ⟨rfl, h2, _, rfl⟩ | ⟨b, g, rfl, h2, rfl⟩
  · have : l = [] := List.eq_nil_of_length_eq_zero h2
    subst this
    exact .nil _ _ _
  · exact .inr ⟨b, 0, _, _, _, g, 0, false, rfl, h2.row, h2.ltf, rfl, fun i p hi => by rw [Nat.zero_add]; exact flat_drop hlen l i p hi⟩
theorem OwnE.keeps {A A' : AW} {v : Value} {l : List β} {F S : List Nat} (h : OwnE te n f A v l F) (k : Keeps A A' S) (hd : ∀ x ∈ F, x ∉ S) : OwnE te n f A' v l F := OwnG.keeps h k hd
theorem OwnE.nil (A : AW) : OwnE te n f A (.slice none 0 0) [] [] := OwnG.nil _ _ _
theorem OwnE.lt {A : AW} {v : Value} {l : List β} {F : List Nat} (h : OwnE te n f A v l F) : ∀ x ∈ F, x < A.next := OwnG.lt h
theorem OwnE.one {A : AW} {v : Value} {l : List β} {F : List Nat} (h : OwnE te n f A v l F) : oneCell v = true ∧ isTuple v = false := OwnG.one h
theorem src_elem (T : ET P ts te n f) {A : AW} {q : Nat} {p : β} {e : TypeId} (hq : Row1 A q (f p) e) : sourceZ P A te ts (n + 1) (.slice (some ⟨q, 0, none⟩) 1 1) = some (0 + 1, f p) := by
  unfold sourceZ
  simp only [T.us]
  show sourceA A (n + 1) (.slice (some ⟨q, 0, none⟩) 1 1) = _
  unfold sourceA
  have := takeCells_app (f p) [] (T.noT p)
  rw [List.append_nil, T.len] at this
  simp only [Nat.one_mul, cells_row hq.row, List.drop_zero, this]
theorem OwnE.append (T : ET P ts te n f) {A : AW} {v : Value} {l : List β} {F : List Nat} {p : β} {q : Nat} {e : TypeId} {K : Value → AW → Prop} (h : OwnE te n f A v l F) (hq : Row1 A q (f p) e) (hf : Fine A) (hA : A.next < maxId) (hl : l.length < 1000000)
    (hk : ∀ v' A' F', OwnE te n f A' v' (l ++ [p]) F' → Keeps A A' F → (∀ x ∈ F', x ∈ F ∨ x = A.next) → A'.next = A.next + 1 → Fine A' → K v' A') : bothW (appendA P A ts ts v (.slice (some ⟨q, 0, none⟩) 1 1)) K := by
  have hroom : room = 68719476736 := rfl
  obtain ⟨b, hb, hb2⟩ := T.by'
  have hse : sliceElemT P ts = some te := by unfold sliceElemT; rw [T.us]
  have hm : (l.length + (0 + 1)) * b ≤ (l.length + (0 + 1)) * 256 := Nat.mul_le_mul_left _ hb2
  refine appendG (m := 0) (size := n) hse T.sz hb T.hz (src_elem T hq) (by rw [T.len]; omega) (T.one p) h hf hA (by omega) (by omega) fun v' A' F' h1 h2 h3 h4 h5 => ?_
  refine hk v' A' F' ?_ h2 h3 h4 h5
  show OwnG A' te (n + 1) v' (l ++ [p]).length (flat f (l ++ [p])) F'
  rw [List.length_append, flat_apps]
  have e : flat f [p] = f p := by simp [flat]
  rw [e]
  exact h1
end
section
variable {P : Program} {ts te : TypeId} {n : Nat} {β : Type} {f : β → List Value}
theorem flat_of (hlen : ∀ x, (f x).length = n + 1) {cs : List Value} : ∀ (l : List β) (o : Nat), (∀ (i : Nat) p, l[i]? = some p → ∃ rest, cs.drop (o + i * (n + 1)) = f p ++ rest) → ∃ rest, cs.drop o = flat f l ++ rest
  | [], o, _ => ⟨cs.drop o, by simp [flat]⟩
  | p :: r, o, h => by
    obtain ⟨rest0, h0⟩ := h 0 p rfl
    obtain ⟨rest, h1⟩ := flat_of hlen r (o + (n + 1)) fun i q hq => by
      have := h (i + 1) q (by simpa using hq)
      rwa [Nat.succ_mul, show o + (i * (n + 1) + (n + 1)) = o + (n + 1) + i * (n + 1) by omega] at this
    refine ⟨rest, ?_⟩
    rw [Nat.zero_mul, Nat.add_zero] at h0
    have h2 : cs.drop (o + (n + 1)) = rest0 := by
      rw [← List.drop_drop, h0, ← hlen p, List.drop_left]
    rw [h2] at h1
    rw [h0, h1]
    simp [flat]
theorem flat_noT (h : ∀ x, (f x).all (fun v => !isTuple v) = true) (l : List β) : (flat f l).all (fun v => !isTuple v) = true := by
  rw [List.all_eq_true]
  intro v hv
  obtain ⟨b, _, hb⟩ := List.mem_flatMap.1 hv
  exact List.all_eq_true.1 (h b) v hb
theorem flat_one (h : ∀ x, (f x).all oneCell = true) (l : List β) : (flat f l).all oneCell = true := by
  rw [List.all_eq_true]
  intro v hv
  obtain ⟨b, _, hb⟩ := List.mem_flatMap.1 hv
  exact List.all_eq_true.1 (h b) v hb
theorem RdE.src (T : ET P ts te n f) {A : AW} {x : Value} {l : List β} {F : List Nat} (h : RdE n f A x l F) : sourceZ P A te ts (n + 1) x = some (l.length, flat f l) := by
  unfold sourceZ
  simp only [T.us]
  rcases h with ⟨rfl, _, o, c, rfl⟩ | ⟨r, o, c, cs, e, g, b, ro, rfl, h2, h3, _, h4⟩
  · cases o with
    | none => rfl
    | some a =>
      unfold sourceA
      simp only [Nat.zero_mul]
      rfl
  · show sourceA A (n + 1) _ = _
    unfold sourceA
    obtain ⟨rest, hr⟩ := flat_of T.len l o h4
    have := takeCells_app (flat f l) rest (flat_noT T.noT l)
    rw [flat_length T.len] at this
    simp only [cells_row h2, hr, this]
theorem OwnE.appendL (T : ET P ts te n f) {A : AW} {v x : Value} {l l2 : List β} {F F2 : List Nat} {K : Value → AW → Prop} (h : OwnE te n f A v l F) (hx : RdE n f A x l2 F2) (hf : Fine A) (hA : A.next < maxId) (hl : l.length < 1000000) (hl2 : l2.length < 1000000)
    (hk : ∀ v' A' F', OwnE te n f A' v' (l ++ l2) F' → Keeps A A' F → (∀ x ∈ F', x ∈ F ∨ x = A.next) → A'.next ≤ A.next + 1 → Fine A' → K v' A') : bothW (appendA P A ts ts v x) K := by
  have hroom : room = 68719476736 := rfl
  obtain ⟨b, hb, hb2⟩ := T.by'
  have hse : sliceElemT P ts = some te := by unfold sliceElemT; rw [T.us]
  have hsrc := hx.src T
  cases l2 with
  | nil =>
    have hv : ∃ o m c, v = .slice o m c ∧ m = l.length := by
      rcases h with ⟨rfl, h2, _⟩ | ⟨b', g, rfl, _⟩
      · exact ⟨_, _, _, rfl, h2.symm⟩
      · exact ⟨_, _, _, rfl, rfl⟩
    obtain ⟨o, m, c, rfl, rfl⟩ := hv
    have hm : (l.length + 0) * b ≤ (l.length + 0) * 256 := Nat.mul_le_mul_left _ hb2
    have e : appendA P A ts ts (.slice o l.length c) x = .ok (.slice o l.length c) A := by
      have hsrc : sourceZ P A te ts (n + 1) x = some (0, []) := hsrc
      unfold appendA
      simp only [hse, T.sz, hb, hsrc]
      rw [blt_true.2 (show l.length + 0 < room by omega), blt_true.2 (show (l.length + 0) * b < room by omega), T.hz]
      rfl
    rw [e]
    refine bothW_ok.2 (hk _ A F ?_ (.refl _ _) (fun x hx => .inl hx) (by omega) hf)
    rw [List.append_nil]
    exact h
  | cons p r =>
    rw [List.length_cons] at hl2
    have hm : (l.length + (r.length + 1)) * b ≤ (l.length + (r.length + 1)) * 256 := Nat.mul_le_mul_left _ hb2
    refine appendG (m := r.length) (size := n) hse T.sz hb T.hz hsrc (flat_length T.len _) (flat_one T.one _) h hf hA (by omega) (by omega) fun v' A' F' h1 h2 h3 h4 h5 => ?_
    refine hk v' A' F' ?_ h2 h3 (by omega) h5
    show OwnG A' te (n + 1) v' (l ++ p :: r).length (flat f (l ++ p :: r)) F'
    rw [List.length_append, flat_apps]
    exact h1
end
structure ES (P : Program) (ts te : TypeId) {β : Type} (f : β → List Value) : Prop where
  us : P.underlying ts = some (.slice te)
  sz : szT P te = some 1
  by' : ∃ b, bytesT P te = some b ∧ b ≤ 256
  hz : hasZero P te 1 = true
  ld : ∀ A a, loadP P A te (.pointer (some a)) = A.cell? a
  len : ∀ x, (f x).length = 1
  one : ∀ x, (f x).all oneCell = true
  noT : ∀ x, (f x).all (fun v => !isTuple v) = true
section
variable {P : Program} {ts te : TypeId} {β : Type} {f : β → List Value}
theorem ES.lenR (T : ES P ts te f) {A B : AW} {v : Value} {l : List β} {F : List Nat} (h : RdE 0 f A v l F) : lenA P B ts v = some (.int .i64 (l.length : Int)) := by
  obtain ⟨o, c, rfl⟩ := h.slice
  unfold lenA
  rw [T.us]
theorem ES.src (T : ES P ts te f) {A : AW} {q : Nat} {p : β} {e : TypeId} (hq : Row1 A q (f p) e) : sourceZ P A te ts 1 (.slice (some ⟨q, 0, none⟩) 1 1) = some (0 + 1, f p) := by
  unfold sourceZ
  simp only [T.us]
  show sourceA A 1 (.slice (some ⟨q, 0, none⟩) 1 1) = _
  unfold sourceA
  have := takeCells_app (f p) [] (T.noT p)
  rw [List.append_nil, T.len] at this
  simp only [Nat.one_mul, cells_row hq.row, List.drop_zero, this]
theorem ES.append (T : ES P ts te f) {A : AW} {v : Value} {l : List β} {F : List Nat} {p : β} {q : Nat} {e : TypeId} {K : Value → AW → Prop} (h : OwnE te 0 f A v l F) (hq : Row1 A q (f p) e) (hf : Fine A) (hA : A.next < maxId) (hl : l.length < 100000000)
    (hk : ∀ v' A' F', OwnE te 0 f A' v' (l ++ [p]) F' → Keeps A A' F → (∀ x ∈ F', x ∈ F ∨ x = A.next) → A'.next = A.next + 1 → Fine A' → K v' A') : bothW (appendA P A ts ts v (.slice (some ⟨q, 0, none⟩) 1 1)) K := by
  have hroom : room = 68719476736 := rfl
  obtain ⟨b, hb, hb2⟩ := T.by'
  have hse : sliceElemT P ts = some te := by unfold sliceElemT; rw [T.us]
  have hm : (l.length + (0 + 1)) * b ≤ (l.length + (0 + 1)) * 256 := Nat.mul_le_mul_left _ hb2
  refine appendG (m := 0) (size := 0) hse T.sz hb T.hz (T.src hq) (by rw [T.len]) (T.one p) h hf hA (by omega) (by omega) fun v' A' F' h1 h2 h3 h4 h5 => ?_
  refine hk v' A' F' ?_ h2 h3 h4 h5
  show OwnG A' te (0 + 1) v' (l ++ [p]).length (flat f (l ++ [p])) F'
  rw [List.length_append, flat_apps]
  have e : flat f [p] = f p := by simp [flat]
  rw [e]
  exact h1
theorem ES.ia (T : ES P ts te f) {b o len c i : Nat} (hi : i < len) : indexAddrA P ts (.slice (some ⟨b, o, none⟩) len c) (.int .i64 (i : Int)) = some (.pointer (some ⟨b, o + i, none⟩)) := by
  show indexAddrA P ts (.slice (some ⟨b, o, none⟩) len c) (.int .i64 (.ofNat i)) = _
  unfold indexAddrA
  simp only [T.us, T.sz, blt_true.2 hi, cond_true, Nat.mul_one]
  unfold addA
  cases hb : Nat.beq i 0 with
  | true =>
    have := Nat.eq_of_beq_eq_true hb
    subst this
    simp
  | false => simp
theorem ES.at (T : ES P ts te f) {A : AW} {v : Value} {l : List β} {F : List Nat} (h : RdE 0 f A v l F) {i : Nat} {p : β} (hi : l[i]? = some p) {w : Value} (hw : f p = [w]) : ∃ a, indexAddrA P ts v (.int .i64 (i : Int)) = some (.pointer (some a)) ∧ loadP P A te (.pointer (some a)) = some w := by
  have hlt := (List.getElem?_eq_some_iff.1 hi).1
  rcases h with ⟨rfl, _⟩ | ⟨r, o, c, cs, e, g, b, ro, rfl, h2, h3, h4, h5⟩
  · simp at hi
  · obtain ⟨rest, hr⟩ := h5 i p hi
    refine ⟨_, T.ia hlt, ?_⟩
    rw [T.ld, cell_row h2]
    have hn := T.noT p
    rw [hw] at hr hn
    have h1 : cs[o + i]? = some w := by
      have := congrArg (fun l : List Value => l[0]?) hr
      simpa using this
    exact cellOf_get h1 (by simpa using hn)
end
structure En (α β : Type) where
  k : α
  v : β
  b : Nat
section
variable {α β : Type} (ke : α → Value) (ve : β → Value)
def En.entry (e : En α β) : MapEntry := { key := ke e.k, val := ve e.v, born := e.b }
structure MT (P : Program) (t kt et : TypeId) (ke : α → Value) (keq : α → α → Bool) : Prop where
  ty : P.underlying t = some (.map kt et)
  eq : ∀ a b, eqA P kt (ke a) (ke b) = some (keq a b)
  dec : ∀ {a b}, keq a b = true ↔ a = b
  q : ∀ e a, keyQ P e kt (ke a) = true
  same : ∀ a, (closedV 4 (ke a) && Instr.sameBits 10000 (ke a) (ke a)) = true
structure OwnM (A : AW) (r : Nat) (es : List (En α β)) (c : Nat) : Prop where
  row : Map1 A r (es.map (En.entry ke ve)) c
  lt : ∀ e ∈ es, e.b < c
  nb : (es.map En.b).Nodup
  nk : (es.map En.k).Nodup
end
section
variable {P : Program} {X : XNames} {W0 : World} {m0 : Inj P} {α β : Type} {ke : α → Value} {ve : β → Value} {keq : α → α → Bool} {t kt et : TypeId}
theorem OwnM.keeps {A A' : AW} {r : Nat} {es : List (En α β)} {c : Nat} {S : List Nat} (h : OwnM ke ve A r es c) (k : Keeps A A' S) (hn : r ∉ S) : OwnM ke ve A' r es c := ⟨h.row.keeps k hn, h.lt, h.nb, h.nk⟩
theorem OwnM.ltA {A : AW} {r : Nat} {es : List (En α β)} {c : Nat} (h : OwnM ke ve A r es c) : r < A.next := h.row.lt
def lookE (keq : α → α → Bool) : List (En α β) → α → Option β
  | [], _ => none
  | e :: es, k => if keq k e.k = true then some e.v else lookE keq es k
def atE (keq : α → α → Bool) : List (En α β) → α → Nat → Option Nat
  | [], _, _ => none
  | e :: es, k, i => if keq k e.k = true then some i else atE keq es k (i + 1)
theorem find_eq (T : MT P t kt et ke keq) (k : α) : ∀ (es : List (En α β)) (i : Nat), findA P kt (ke k) (es.map (En.entry ke ve)) i = some (atE keq es k i)
  | [], i => rfl
  | e :: es, i => by
    show (match eqA P kt (ke k) (ke e.k) with | some true => some (some i) | some false => findA P kt (ke k) (es.map (En.entry ke ve)) (i + 1) | none => none) = _
    rw [T.eq]
    unfold atE
    cases h : keq k e.k with
    | true => simp
    | false =>
      simp only [Bool.false_eq_true, if_false]
      exact find_eq T k es (i + 1)
theorem at_some {es : List (En α β)} {k : α} {i j : Nat} (h : atE keq es k i = some j) : i ≤ j ∧ j - i < es.length ∧ ∃ e, es[j - i]? = some e ∧ keq k e.k = true ∧ lookE keq es k = some e.v := by
  induction es generalizing i with
  | nil => cases h
  | cons e es ih =>
    unfold atE at h
    unfold lookE
    split at h
    · rename_i hk
      cases h
      rw [if_pos hk, Nat.sub_self]
      exact ⟨Nat.le_refl _, by simp, e, rfl, hk, rfl⟩
    · rename_i hk
      obtain ⟨h1, h2, e', h3, h4, h5⟩ := ih h
      refine ⟨by omega, by simp; omega, e', ?_, h4, ?_⟩
      · rw [show j - i = (j - (i + 1)) + 1 by omega]
        exact h3
      · rw [if_neg hk]
        exact h5
theorem at_none {es : List (En α β)} {k : α} {i : Nat} (h : atE keq es k i = none) : (∀ e ∈ es, keq k e.k = false) ∧ lookE keq es k = none := by
  induction es generalizing i with
  | nil => exact ⟨by simp, rfl⟩
  | cons e es ih =>
    unfold atE at h
    unfold lookE
    split at h
    · cases h
    · rename_i hk
      obtain ⟨h1, h2⟩ := ih h
      refine ⟨fun x hx => ?_, by rw [if_neg hk]; exact h2⟩
      rcases List.mem_cons.1 hx with rfl | hx
      · simpa using hk
      · exact h1 x hx
theorem mapTypes_eq (T : MT P t kt et ke keq) : mapTypes P t = some (kt, et) := by unfold mapTypes; rw [T.ty]
theorem OwnM.look (T : MT P t kt et ke keq) {A : AW} {r : Nat} {es : List (En α β)} {c : Nat} (h : OwnM ke ve A r es c) {z : Value} (hz : zeroT P et = some z) (k : α) (ok : Bool) :
    lookupA P A t (.map (some r)) (ke k) ok = some (match lookE keq es k with | some v => (bif ok then .tuple #[ve v, .bool true] else ve v) | none => (bif ok then .tuple #[z, .bool false] else z)) := by
  unfold lookupA mapRef
  simp only [mapTypes_eq T, h.row.row, T.q, cond_true, find_eq T]
  cases ha : atE keq es k 0 with
  | none =>
    rw [(at_none ha).2]
    simp only [hz]
  | some i =>
    obtain ⟨_, _, e, h3, _, h5⟩ := at_some ha
    rw [Nat.sub_zero] at h3
    rw [h5]
    simp only [List.getElem?_map, h3, Option.map_some]
    rfl
def putE (keq : α → α → Bool) : List (En α β) → α → β → Nat → List (En α β)
  | [], k, v, c => [⟨k, v, c⟩]
  | e :: es, k, v, c => if keq k e.k = true then ⟨k, v, e.b⟩ :: es else e :: putE keq es k v c
theorem set_put (k : α) (v : β) (c : Nat) : ∀ (es : List (En α β)) (i j : Nat), (∀ {a b}, keq a b = true ↔ a = b) → atE keq es k i = some j → setVal (es.map (En.entry ke ve)) (j - i) (ke k) (ve v) = (putE keq es k v c).map (En.entry ke ve)
  | [], i, j, _, h => by cases h
  | e :: es, i, j, hd, h => by
    unfold atE at h
    unfold putE
    split at h
    · rename_i hk
      cases h
      rw [if_pos hk, Nat.sub_self]
      rfl
    · rename_i hk
      have := (at_some h).1
      rw [if_neg hk, show j - i = (j - (i + 1)) + 1 by omega]
      show e.entry ke ve :: setVal (es.map (En.entry ke ve)) (j - (i + 1)) (ke k) (ve v) = _
      rw [set_put k v c es (i + 1) j hd h]
      rfl
theorem put_none {es : List (En α β)} {k : α} (hn : ∀ e ∈ es, keq k e.k = false) (v : β) (c : Nat) : putE keq es k v c = es ++ [(⟨k, v, c⟩ : En α β)] := by
  induction es with
  | nil => rfl
  | cons e es ih =>
    unfold putE
    rw [if_neg (by rw [hn e List.mem_cons_self]; simp), ih fun x hx => hn x (List.mem_cons_of_mem _ hx)]
    rfl
theorem put_keys (k : α) (v : β) (c : Nat) : ∀ (es : List (En α β)), (∀ {a b}, keq a b = true ↔ a = b) → (∃ e ∈ es, keq k e.k = true) → (putE keq es k v c).map En.k = es.map En.k ∧ (putE keq es k v c).map En.b = es.map En.b
  | [], _, h => by obtain ⟨e, he, _⟩ := h; cases he
  | e :: es, hd, h => by
    unfold putE
    split
    · rename_i hk
      rw [List.map_cons, List.map_cons, List.map_cons, List.map_cons, ← hd.1 hk]
      exact ⟨rfl, rfl⟩
    · rename_i hk
      obtain ⟨x, hx, h2⟩ := h
      rcases List.mem_cons.1 hx with rfl | hx
      · exact absurd h2 hk
      · obtain ⟨h3, h4⟩ := put_keys k v c es hd ⟨x, hx, h2⟩
        rw [List.map_cons, List.map_cons, List.map_cons, List.map_cons, h3, h4]
        exact ⟨rfl, rfl⟩
theorem OwnM.put (T : MT P t kt et ke keq) {A : AW} {r : Nat} {es : List (En α β)} {c : Nat} (h : OwnM ke ve A r es c) (hf : Fine A) (hb : A.next ≤ maxId) {k : α} {v : β} {K : AW → Prop}
    (hk : ∀ A' c', OwnM ke ve A' r (putE keq es k v c) c' → Keeps A A' [r] → A'.next = A.next → Fine A' → K A') : effW (mapUpdateA P A t (.map (some r)) (ke k) (ve v)) K := by
  unfold mapUpdateA
  simp only [mapTypes_eq T, h.row.row, T.q, cond_true, find_eq T]
  cases ha : atE keq es k 0 with
  | none =>
    obtain ⟨h1, h2⟩ := at_none ha
    obtain ⟨g1, g2, g3, g4⟩ := h.row.put (es' := es.map (En.entry ke ve) ++ [{ key := ke k, val := ve v, born := c }]) (c' := c + 1) hf hb
    simp only
    refine effW_some.2 (hk _ (c + 1) ⟨?_, ?_, ?_, ?_⟩ g2 g3 g4)
    · rw [put_none h1, List.map_append]
      exact g1
    · rw [put_none h1]
      intro e he
      rcases List.mem_append.1 he with he | he
      · have := h.lt e he; omega
      · rw [List.mem_singleton.1 he]
        exact Nat.lt_succ_self c
    · rw [put_none h1, List.map_append, List.nodup_append]
      refine ⟨h.nb, by simp, fun a ha b hb => ?_⟩
      obtain ⟨e, he, rfl⟩ := List.mem_map.1 ha
      have := h.lt e he
      simp at hb
      omega
    · rw [put_none h1, List.map_append, List.nodup_append]
      refine ⟨h.nk, by simp, fun a ha b hb => ?_⟩
      obtain ⟨e, he, rfl⟩ := List.mem_map.1 ha
      have := h1 e he
      simp at hb
      subst hb
      intro h0
      rw [T.dec.2 h0.symm] at this
      cases this
  | some i =>
    obtain ⟨_, _, e, h3, h4, _⟩ := at_some ha
    rw [Nat.sub_zero] at h3
    have hke : k = e.k := T.dec.1 h4
    simp only [List.getElem?_map, h3, Option.map_some]
    have hs : (closedV 4 (e.entry ke ve).key && Instr.sameBits 10000 (e.entry ke ve).key (ke k)) = true := by
      show (closedV 4 (ke e.k) && Instr.sameBits 10000 (ke e.k) (ke k)) = true
      rw [hke]
      exact T.same _
    rw [hs, cond_true]
    have hset := set_put (ke := ke) (ve := ve) k v c es 0 i T.dec ha
    rw [Nat.sub_zero] at hset
    rw [hset]
    obtain ⟨g1, g2, g3, g4⟩ := h.row.put (es' := (putE keq es k v c).map (En.entry ke ve)) (c' := c) hf hb
    obtain ⟨p1, p2⟩ := put_keys k v c es T.dec ⟨e, List.mem_of_getElem? h3, h4⟩
    refine effW_some.2 (hk _ c ⟨g1, fun x hx => ?_, by rw [p2]; exact h.nb, by rw [p1]; exact h.nk⟩ g2 g3 g4)
    have : x.b ∈ (putE keq es k v c).map En.b := List.mem_map.2 ⟨x, hx, rfl⟩
    rw [p2] at this
    obtain ⟨y, hy, hyb⟩ := List.mem_map.1 this
    have := h.lt y hy
    omega
structure Iter (A : AW) (it m c : Nat) (vs : List (En α β)) : Prop where
  get : A.get it = some (.mit (some m) c (vs.map En.b) c)
  lt : it < A.next
theorem Iter.keeps {A A' : AW} {it m c : Nat} {vs : List (En α β)} {S : List Nat} (h : Iter A it m c vs) (k : Keeps A A' S) (hn : it ∉ S) : Iter A' it m c vs := ⟨k.get it _ h.get h.lt hn, Nat.lt_of_lt_of_le h.lt k.next⟩
theorem OwnM.range (T : MT P t kt et ke keq) {A : AW} {r : Nat} {es : List (En α β)} {c : Nat} (h : OwnM ke ve A r es c) (hf : Fine A) (hA : A.next < maxId) {K : Value → AW → Prop}
    (hk : ∀ A', Iter (α := α) (β := β) A' A.next r c [] → Keeps A A' [] → A'.next = A.next + 1 → Fine A' → K (.pointer (some ⟨A.next, 0, none⟩)) A') : anW P X W0 m0 (rangeP P A t (.map (some r))) K := by
  unfold rangeP AW.new
  simp only [T.ty, h.row.row, blt_true.2 hA, cond_true]
  exact .inl ⟨_, _, rfl, hk (A.push (.mit (some r) c [] c)) ⟨by rw [AW.push_get _ hA, if_pos rfl]; rfl, by rw [AW.push_next]; omega⟩ ((AW.push_ext _ hA).keeps hf) rfl (hf.push _ hA)⟩
theorem put_iter {A : AW} {it m c : Nat} {vs : List (En α β)} (h : Iter A it m c vs) (hf : Fine A) (hA : A.next ≤ maxId) (e : En α β) : Iter (A.put it (.mit (some m) c (vs.map En.b ++ [e.b]) c)) it m c (vs ++ [e]) ∧ Keeps A (A.put it (.mit (some m) c (vs.map En.b ++ [e.b]) c)) [it] ∧
    (A.put it (.mit (some m) c (vs.map En.b ++ [e.b]) c)).next = A.next ∧ Fine (A.put it (.mit (some m) c (vs.map En.b ++ [e.b]) c)) := by
  have hlt := h.lt
  have hg : ∀ i, (A.put it (.mit (some m) c (vs.map En.b ++ [e.b]) c)).get i = if i = it then some (.mit (some m) c (vs.map En.b ++ [e.b]) c) else A.get i := fun i => AW.get_put A it i _ (by omega)
  refine ⟨⟨by rw [hg, if_pos rfl, List.map_append]; rfl, hlt⟩, ⟨Nat.le_refl _, fun i o hi _ hn => ?_, fun f _ _ => rfl⟩, rfl, ⟨hf.fams, fun i hi => ?_⟩⟩
  · rw [hg, if_neg (fun e => ?_)]
    · exact hi
    · subst e
      rw [h.get] at hi
      cases hi
      exact hn (List.mem_singleton.2 rfl)
  · have hi : A.next ≤ i := hi
    rw [hg, if_neg (by omega)]
    exact hf.get i hi
theorem inj_b {es : List (En α β)} (hn : (es.map En.b).Nodup) : ∀ {x y : En α β}, x ∈ es → y ∈ es → x.b = y.b → x = y := by
  induction es with
  | nil => intro x y hx; cases hx
  | cons e es ih =>
    simp only [List.map_cons, List.nodup_cons] at hn
    intro x y hx hy hxy
    rcases List.mem_cons.1 hx with hx | hx
    · rcases List.mem_cons.1 hy with hy | hy
      · rw [hx, hy]
      · exact absurd (List.mem_map.2 ⟨y, hy, by rw [← hxy, hx]⟩) hn.1
    · rcases List.mem_cons.1 hy with hy | hy
      · exact absurd (List.mem_map.2 ⟨x, hx, by rw [hxy, hy]⟩) hn.1
      · exact ih hn.2 hx hy hxy
theorem nodup_of {γ δ : Type} (f : γ → δ) : ∀ {l : List γ}, (l.map f).Nodup → l.Nodup
  | [], _ => List.nodup_nil
  | x :: l, h => by
    simp only [List.map_cons, List.nodup_cons] at h
    exact List.nodup_cons.2 ⟨fun hx => h.1 (List.mem_map.2 ⟨x, hx, rfl⟩), nodup_of f h.2⟩
theorem OwnM.next {A : AW} {r it : Nat} {es vs : List (En α β)} {c : Nat} (h : OwnM ke ve A r es c) (hi : Iter A it r c vs) (hv : ∀ e ∈ vs, e ∈ es) (hf : Fine A) (hA : A.next ≤ maxId) {K : Value → AW → Prop}
    (hmore : ∀ e A', e ∈ es → e ∉ vs → Iter A' it r c (vs ++ [e]) → Keeps A A' [it] → A'.next = A.next → Fine A' → K (.tuple #[.bool true, ke e.k, ve e.v]) A') (hdone : (∀ e ∈ es, e ∈ vs) → K (.tuple #[.bool false]) A) :
    anW P X W0 m0 (nextA A (.pointer (some ⟨it, 0, none⟩)) false) K := by
  refine .inr (.inr (.inr ⟨it, A, by unfold nextA; simp only [hi.get], r, c, vs.map En.b, c, es.map (En.entry ke ve), c, false, hi.get, h.row.row, ?_, fun cd hcd => ?_⟩))
  · cases hes : es with
    | nil => simp
    | cons e es' =>
      have : e.b < c := h.lt e (by rw [hes]; simp)
      have hb : Nat.ble c e.b = false := ble_false.2 this
      simp [En.entry, hb]
  · have inj : ∀ {x y : En α β}, x ∈ es → y ∈ es → x.b = y.b → x = y := inj_b h.nb
    have seen : ∀ e ∈ es, (vs.map En.b).contains e.b = true ↔ e ∈ vs := by
      intro e he
      rw [List.contains_iff_mem, List.mem_map]
      constructor
      · rintro ⟨x, hx, hxe⟩
        rw [← inj (hv x hx) he hxe]
        exact hx
      · intro hv'
        exact ⟨e, hv', rfl⟩
    unfold candsOf at hcd
    rcases List.mem_append.1 hcd with hcd | hcd
    · split at hcd
      · rename_i hem
        obtain rfl : cd = none := by simpa using hcd
        refine hdone fun e he => ?_
        by_cases hin : e ∈ vs
        · exact hin
        · exfalso
          have hc : (vs.map En.b).contains e.b = false := by
            cases hcc : (vs.map En.b).contains e.b with
            | false => rfl
            | true => exact absurd ((seen e he).1 hcc) hin
          have : e.entry ke ve ∈ (((es.map (En.entry ke ve)).filter fun e => !(vs.map En.b).contains e.born).filter fun e => Nat.blt e.born c) := by
            rw [List.mem_filter, List.mem_filter]
            refine ⟨⟨List.mem_map.2 ⟨e, he, rfl⟩, ?_⟩, blt_true.2 (h.lt e he)⟩
            show (!(vs.map En.b).contains e.b) = true
            rw [hc]; rfl
          rw [List.isEmpty_iff.1 hem] at this
          cases this
      · cases hcd
    · obtain ⟨me, hme, rfl⟩ := List.mem_map.1 hcd
      have hme2 : me ∈ (es.map (En.entry ke ve)).filter fun e => !(vs.map En.b).contains e.born := by
        rcases List.mem_append.1 hme with hme | hme
        · exact (List.mem_filter.1 hme).1
        · exact (List.mem_filter.1 hme).1
      obtain ⟨hm1, hm2⟩ := List.mem_filter.1 hme2
      obtain ⟨e, he, rfl⟩ := List.mem_map.1 hm1
      have hm2 : (!(vs.map En.b).contains e.b) = true := hm2
      have hnv : e ∉ vs := fun hin => by rw [(seen e he).2 hin] at hm2; cases hm2
      obtain ⟨g1, g2, g3, g4⟩ := put_iter hi hf hA e
      exact hmore e _ he hnv g1 g2 g3 g4
theorem lastOf_snoc (l : List Nat) (x : Nat) : lastOf (l ++ [x]) = some x := by
  induction l with
  | nil => rfl
  | cons a l ih =>
    cases l with
    | nil => rfl
    | cons b l => exact ih
theorem OwnM.entry {A : AW} {r it : Nat} {es vs : List (En α β)} {c : Nat} (h : OwnM ke ve A r es c) {e : En α β} (hi : Iter A it r c (vs ++ [e])) (he : e ∈ es) {K : Value → AW → Prop} (hk : K (.tuple #[ke e.k, ve e.v]) A) :
    anW P X W0 m0 (entryP A (.pointer (some ⟨it, 0, none⟩))) K := by
  have hfind : ∀ (l : List (En α β)) (i : Nat), e ∈ l → (l.map En.b).Nodup → ∃ j, findBorn e.b (l.map (En.entry ke ve)) i = some (i + j) ∧ l[j]? = some e := by
    intro l
    induction l with
    | nil => intro i h; cases h
    | cons x l ih =>
      intro i hx hn
      simp only [List.map_cons, List.nodup_cons] at hn
      by_cases hxb : x.b = e.b
      · rcases List.mem_cons.1 hx with rfl | hx
        · refine ⟨0, ?_, rfl⟩
          show (bif Nat.beq e.b e.b then some i else _) = _
          rw [Nat.beq_refl]
          rfl
        · exact absurd (List.mem_map.2 ⟨e, hx, hxb.symm⟩) hn.1
      · rcases List.mem_cons.1 hx with rfl | hx
        · exact absurd rfl hxb
        · obtain ⟨j, h1, h2⟩ := ih (i + 1) hx hn.2
          refine ⟨j + 1, ?_, h2⟩
          show (bif Nat.beq x.b e.b then some i else findBorn e.b (l.map (En.entry ke ve)) (i + 1)) = _
          have : Nat.beq x.b e.b = false := by
            cases hb : Nat.beq x.b e.b with
            | false => rfl
            | true => exact absurd (Nat.eq_of_beq_eq_true hb) hxb
          rw [this, cond_false, h1, show i + 1 + j = i + (j + 1) by omega]
  obtain ⟨j, h1, h2⟩ := hfind es 0 he h.nb
  rw [Nat.zero_add] at h1
  have hl : lastOf ((vs ++ [e]).map En.b) = some e.b := by rw [List.map_append]; exact lastOf_snoc _ _
  have e1 : entryA A (.pointer (some ⟨it, 0, none⟩)) = some (.tuple #[ke e.k, ve e.v]) := by
    unfold entryA
    simp only [hi.get, hl, h.row.row, Nat.beq_refl, cond_true, h1, List.getElem?_map, h2, Option.map_some]
    rfl
  unfold entryP
  rw [e1]
  exact .inl ⟨_, _, rfl, hk⟩
theorem told_all {es vs : List (En α β)} (hn : (es.map En.b).Nodup) (hvn : (vs.map En.b).Nodup) (h1 : ∀ e ∈ vs, e ∈ es) (h2 : ∀ e ∈ es, e ∈ vs) : vs.Perm es := by
  have n1 : es.Nodup := nodup_of _ hn
  have n2 : vs.Nodup := nodup_of _ hvn
  exact (List.perm_ext_iff_of_nodup n2 n1).2 fun e => ⟨h1 e, h2 e⟩
end
section
variable {P : Program} {X : XNames} {W0 : World} {m0 : Inj P}
theorem put_obj {A : AW} {i : Nat} {o o' : AO} (h : A.get i = some o) (hfam : famOf i o = i) (hlt : i < A.next) (hf : Fine A) (hA : A.next ≤ maxId) : (A.put i o').get i = some o' ∧ Keeps A (A.put i o') [i] ∧ (A.put i o').next = A.next ∧ Fine (A.put i o') := by
  have hg : ∀ j, (A.put i o').get j = if j = i then some o' else A.get j := fun j => AW.get_put A i j _ (by omega)
  refine ⟨by rw [hg, if_pos rfl], ⟨Nat.le_refl _, fun j q hj _ hn => ?_, fun f _ _ => rfl⟩, rfl, ⟨hf.fams, fun j hj => ?_⟩⟩
  · rw [hg, if_neg (fun e => ?_)]
    · exact hj
    · subst e
      rw [h] at hj
      cases hj
      exact hn (by rw [hfam]; exact List.mem_singleton.2 rfl)
  · have hj : A.next ≤ j := hj
    rw [hg, if_neg (by omega)]
    exact hf.get j hj
structure LoopR (A : AW) (l : Nat) (r : ALoop) : Prop where
  get : A.get l = some (.loop r)
  lt : l < A.next
theorem LoopR.keeps {A A' : AW} {l : Nat} {r : ALoop} {S : List Nat} (h : LoopR A l r) (k : Keeps A A' S) (hn : l ∉ S) : LoopR A' l r := ⟨k.get l _ h.get h.lt hn, Nat.lt_of_lt_of_le h.lt k.next⟩
structure DefR (A : AW) (D : Nat) : Prop where
  get : A.get D = some (.deferred (some []))
  lt : D < A.next
theorem DefR.keeps {A A' : AW} {D : Nat} {S : List Nat} (h : DefR A D) (k : Keeps A A' S) (hn : D ∉ S) : DefR A' D := ⟨k.get D _ h.get h.lt hn, Nat.lt_of_lt_of_le h.lt k.next⟩
theorem loopW_made {A : AW} {fn : FuncId} {tm : Tm} {ps : List Tmp} {assign body : Code} {K : Nat → Nat → AW → Prop} (hf : Fine A) (hA : A.next + 1 < maxId)
    (hk : ∀ A', DefR A' A.next → LoopR A' (A.next + 1) { state := .ready, pending := none, fn := fn, tm := tm, params := ps, assign := assign, body := body, defers := A.next } → Keeps A A' [] → A'.next = A.next + 2 → Fine A' → K A.next (A.next + 1) A') :
    loopW A fn tm ps assign body K := by
  have e1 : A.new (.deferred (some [])) = some (A.next, A.push (.deferred (some []))) := by
    unfold AW.new
    simp only [blt_true.2 (show A.next < maxId by omega), cond_true]
    rfl
  have f1 := hf.push (.deferred (some [])) (show A.next < maxId by omega)
  have k1 := (AW.push_ext (A := A) (.deferred (some [])) (show A.next < maxId by omega)).keeps hf
  have n1 : (A.push (.deferred (some []))).next = A.next + 1 := rfl
  generalize A.push (.deferred (some [])) = A1 at e1 f1 k1 n1
  refine ⟨A.next, A1, A1.next, A1.push (.loop { state := .ready, pending := none, fn := fn, tm := tm, params := ps, assign := assign, body := body, defers := A.next }), e1, ?_, ?_⟩
  · unfold AW.new
    simp only [blt_true.2 (show A1.next < maxId by omega), cond_true]
    rfl
  · have k2 := (AW.push_ext (A := A1) (.loop { state := .ready, pending := none, fn := fn, tm := tm, params := ps, assign := assign, body := body, defers := A.next }) (show A1.next < maxId by omega)).keeps f1
    have hD : DefR A1 A.next := ⟨by
      unfold AW.new at e1
      rw [blt_true.2 (show A.next < maxId by omega), cond_true, Option.some.injEq, Prod.mk.injEq] at e1
      rw [← e1.2]
      show (A.put A.next _).get A.next = _
      rw [AW.get_put A A.next A.next _ (by omega), if_pos rfl], by omega⟩
    rw [n1]
    refine hk _ (hD.keeps k2 (by simp)) ⟨?_, ?_⟩ (k1.trans k2 (by simp)) ?_ (f1.push _ (by omega))
    · rw [← n1, AW.push_get _ (by omega), if_pos rfl]
    · rw [AW.push_next]; omega
    · rw [AW.push_next]; omega
theorem beginW_made {A : AW} {l : Nat} {r : ALoop} {K : AW → Prop} (h : LoopR A l r) (hs : r.state = .ready) (hf : Fine A) (hA : A.next ≤ maxId) (hk : ∀ A', LoopR A' l { r with state := .busy } → Keeps A A' [l] → A'.next = A.next → Fine A' → K A') : beginW A l K := by
  obtain ⟨h1, h2, h3, h4⟩ := put_obj (o' := .loop { r with state := .busy }) h.get rfl h.lt hf hA
  exact ⟨r, h.get, hs, hk _ ⟨h1, h.lt⟩ h2 h3 h4⟩
theorem leaveW_made {A : AW} {l : Nat} {r : ALoop} {j : Option Code} {K : Value → AW → Prop} (h : LoopR A l r) (hf : Fine A) (hA : A.next ≤ maxId) (hk : ∀ A', LoopR A' l { r with state := if j.isNone then .ready else .done, pending := j } → Keeps A A' [l] → A'.next = A.next → Fine A' → K (.bool j.isNone) A') : leaveW A l j K := by
  obtain ⟨h1, h2, h3, h4⟩ := put_obj (o' := .loop { r with state := if j.isNone then .ready else .done, pending := j }) h.get rfl h.lt hf hA
  exact ⟨r, h.get, hk _ ⟨h1, h.lt⟩ h2 h3 h4⟩
theorem endLoopW_made {A : AW} {l : Nat} {r : ALoop} {p q : AW → Prop} (h : LoopR A l r) (hs : r.state ≠ .busy) (hp : r.pending = none) (hf : Fine A) (hA : A.next ≤ maxId) (hk : ∀ A', Keeps A A' [l] → A'.next = A.next → Fine A' → p A') : endLoopW A l p q := by
  obtain ⟨h1, h2, h3, h4⟩ := put_obj (o' := .loop { r with state := .exhausted }) h.get rfl h.lt hf hA
  exact ⟨r, h.get, hs, .inl ⟨hp, hk _ h2 h3 h4⟩⟩
theorem takeDs_one {A : AW} {D : Nat} {K : AW → Prop} (h : DefR A D) (hf : Fine A) (hA : A.next ≤ maxId) (hk : ∀ A', Keeps A A' [D] → A'.next = A.next → Fine A' → K A') : takeDs [D] A K := by
  obtain ⟨h1, h2, h3, h4⟩ := put_obj (o' := .deferred none) h.get rfl h.lt hf hA
  exact ⟨h.get, hk _ h2 h3 h4⟩
theorem yield_round {A : AW} {l : Nat} {r : ALoop} {args : List Value} {K : Value → AW → Prop} (h : LoopR A l r) (hn : args.length = r.params.length) (hk : RoundW P X W0 m0 l r.fn (setAll r.tm (r.params.zip args)) r.assign r.body A K) :
    anW P X W0 m0 (dynA P X A (.func (.yield l) #[] #[]) args) K := by
  refine .inr (.inr (.inl ⟨l, r.fn, setAll r.tm (r.params.zip args), r.assign, r.body, A, ?_, hk⟩))
  unfold dynA invokeA
  simp only [h.get]
  rw [show (#[] : Array Value).toList ++ args = args from rfl]
  rw [show Nat.beq args.length r.params.length = true by rw [hn, Nat.beq_refl]]
  rfl
end
end Go.Abs
namespace Go.Proofs.YtkjlldaddekegaaGreatDoor
open Go.Abs
structure Nm where
  f : Nat
  g : ByteArray
  b : ByteArray
def Nm.cells (p : Nm) : List Value := [.int .u32 (p.f : Int), .string p.g, .string p.b]
noncomputable def keqN (a b : Nm) : Bool := @decide (a = b) (Classical.propDecidable _)
theorem keqN_iff {a b : Nm} : keqN a b = true ↔ a = b := by unfold keqN; exact @decide_eq_true_iff _ (Classical.propDecidable _)
theorem ba_eq {a b : ByteArray} (h : a.data.toList = b.data.toList) : a = b := by
  obtain ⟨⟨x⟩⟩ := a
  obtain ⟨⟨y⟩⟩ := b
  simp only at h
  rw [h]
theorem fa_24_0 (b o : Nat) : fieldAddrA Tryz.prog 24 (.pointer (some ⟨b, o, none⟩)) 0 = some (.pointer (some ⟨b, o, none⟩)) := by kernel_rfl
theorem fa_24_1 (b o : Nat) : fieldAddrA Tryz.prog 24 (.pointer (some ⟨b, o, none⟩)) 1 = some (.pointer (some ⟨b, o + 1, none⟩)) := by kernel_rfl
theorem fa_24_2 (b o : Nat) : fieldAddrA Tryz.prog 24 (.pointer (some ⟨b, o, none⟩)) 2 = some (.pointer (some ⟨b, o + 2, none⟩)) := by kernel_rfl
theorem fa_38_0 (b o : Nat) : fieldAddrA Tryz.prog 38 (.pointer (some ⟨b, o, none⟩)) 0 = some (.pointer (some ⟨b, o, none⟩)) := by kernel_rfl
theorem fa_38_1 (b o : Nat) : fieldAddrA Tryz.prog 38 (.pointer (some ⟨b, o, none⟩)) 1 = some (.pointer (some ⟨b, o + 1, none⟩)) := by kernel_rfl
theorem fa_46_0 (b o : Nat) : fieldAddrA Tryz.prog 46 (.pointer (some ⟨b, o, none⟩)) 0 = some (.pointer (some ⟨b, o, none⟩)) := by kernel_rfl
theorem fa_46_1 (b o : Nat) : fieldAddrA Tryz.prog 46 (.pointer (some ⟨b, o, none⟩)) 1 = some (.pointer (some ⟨b, o + 1, none⟩)) := by kernel_rfl
theorem fa_50_0 (b o : Nat) : fieldAddrA Tryz.prog 50 (.pointer (some ⟨b, o, none⟩)) 0 = some (.pointer (some ⟨b, o, none⟩)) := by kernel_rfl
theorem fa_50_1 (b o : Nat) : fieldAddrA Tryz.prog 50 (.pointer (some ⟨b, o, none⟩)) 1 = some (.pointer (some ⟨b, o + 3, none⟩)) := by kernel_rfl
theorem fa_50_2 (b o : Nat) : fieldAddrA Tryz.prog 50 (.pointer (some ⟨b, o, none⟩)) 2 = some (.pointer (some ⟨b, o + 4, none⟩)) := by kernel_rfl
theorem fa_50_3 (b o : Nat) : fieldAddrA Tryz.prog 50 (.pointer (some ⟨b, o, none⟩)) 3 = some (.pointer (some ⟨b, o + 5, none⟩)) := by kernel_rfl
theorem fa_50_4 (b o : Nat) : fieldAddrA Tryz.prog 50 (.pointer (some ⟨b, o, none⟩)) 4 = some (.pointer (some ⟨b, o + 6, none⟩)) := by kernel_rfl
theorem fa_50_5 (b o : Nat) : fieldAddrA Tryz.prog 50 (.pointer (some ⟨b, o, none⟩)) 5 = some (.pointer (some ⟨b, o + 7, none⟩)) := by kernel_rfl
theorem fa_70_0 (b o : Nat) : fieldAddrA Tryz.prog 70 (.pointer (some ⟨b, o, none⟩)) 0 = some (.pointer (some ⟨b, o, none⟩)) := by kernel_rfl
theorem fa_70_3 (b o : Nat) : fieldAddrA Tryz.prog 70 (.pointer (some ⟨b, o, none⟩)) 3 = some (.pointer (some ⟨b, o + 3, none⟩)) := by kernel_rfl
theorem fa_79_0 (b o : Nat) : fieldAddrA Tryz.prog 79 (.pointer (some ⟨b, o, none⟩)) 0 = some (.pointer (some ⟨b, o, none⟩)) := by kernel_rfl
theorem fa_79_1 (b o : Nat) : fieldAddrA Tryz.prog 79 (.pointer (some ⟨b, o, none⟩)) 1 = some (.pointer (some ⟨b, o + 1, none⟩)) := by kernel_rfl
theorem fa_79_2 (b o : Nat) : fieldAddrA Tryz.prog 79 (.pointer (some ⟨b, o, none⟩)) 2 = some (.pointer (some ⟨b, o + 2, none⟩)) := by kernel_rfl
theorem fa_79_3 (b o : Nat) : fieldAddrA Tryz.prog 79 (.pointer (some ⟨b, o, none⟩)) 3 = some (.pointer (some ⟨b, o + 3, none⟩)) := by kernel_rfl
theorem fa_79_4 (b o : Nat) : fieldAddrA Tryz.prog 79 (.pointer (some ⟨b, o, none⟩)) 4 = some (.pointer (some ⟨b, o + 4, none⟩)) := by kernel_rfl
theorem fa_79_5 (b o : Nat) : fieldAddrA Tryz.prog 79 (.pointer (some ⟨b, o, none⟩)) 5 = some (.pointer (some ⟨b, o + 5, none⟩)) := by kernel_rfl
theorem fa_79_6 (b o : Nat) : fieldAddrA Tryz.prog 79 (.pointer (some ⟨b, o, none⟩)) 6 = some (.pointer (some ⟨b, o + 6, none⟩)) := by kernel_rfl
theorem fa_79_7 (b o : Nat) : fieldAddrA Tryz.prog 79 (.pointer (some ⟨b, o, none⟩)) 7 = some (.pointer (some ⟨b, o + 7, none⟩)) := by kernel_rfl
theorem fa_83_0 (b o : Nat) : fieldAddrA Tryz.prog 83 (.pointer (some ⟨b, o, none⟩)) 0 = some (.pointer (some ⟨b, o, none⟩)) := by kernel_rfl
theorem fa_83_1 (b o : Nat) : fieldAddrA Tryz.prog 83 (.pointer (some ⟨b, o, none⟩)) 1 = some (.pointer (some ⟨b, o + 3, none⟩)) := by kernel_rfl
theorem fa_121_1 (b o : Nat) : fieldAddrA Tryz.prog 121 (.pointer (some ⟨b, o, none⟩)) 1 = some (.pointer (some ⟨b, o + 1, none⟩)) := by kernel_rfl
theorem fa_121_2 (b o : Nat) : fieldAddrA Tryz.prog 121 (.pointer (some ⟨b, o, none⟩)) 2 = some (.pointer (some ⟨b, o + 2, none⟩)) := by kernel_rfl
theorem fa_135_0 (b o : Nat) : fieldAddrA Tryz.prog 135 (.pointer (some ⟨b, o, none⟩)) 0 = some (.pointer (some ⟨b, o, none⟩)) := by kernel_rfl
theorem fa_135_1 (b o : Nat) : fieldAddrA Tryz.prog 135 (.pointer (some ⟨b, o, none⟩)) 1 = some (.pointer (some ⟨b, o + 1, none⟩)) := by kernel_rfl
theorem fa_135_2 (b o : Nat) : fieldAddrA Tryz.prog 135 (.pointer (some ⟨b, o, none⟩)) 2 = some (.pointer (some ⟨b, o + 4, none⟩)) := by kernel_rfl
theorem fa_159_0 (b o : Nat) : fieldAddrA Tryz.prog 159 (.pointer (some ⟨b, o, none⟩)) 0 = some (.pointer (some ⟨b, o, none⟩)) := by kernel_rfl
theorem fa_159_1 (b o : Nat) : fieldAddrA Tryz.prog 159 (.pointer (some ⟨b, o, none⟩)) 1 = some (.pointer (some ⟨b, o + 1, none⟩)) := by kernel_rfl
theorem fa_159_2 (b o : Nat) : fieldAddrA Tryz.prog 159 (.pointer (some ⟨b, o, none⟩)) 2 = some (.pointer (some ⟨b, o + 2, none⟩)) := by kernel_rfl
theorem fv_50_1 (l : List Value) : fieldA Tryz.prog 50 (.agg ⟨l⟩) 1 = l[3]? := by kernel_rfl
theorem ld_3 (A : AW) (a : Addr) : loadP Tryz.prog A 3 (.pointer (some a)) = A.cell? a := by kernel_rfl
theorem ld_4 (A : AW) (a : Addr) : loadP Tryz.prog A 4 (.pointer (some a)) = A.cell? a := by kernel_rfl
theorem ld_5 (A : AW) (a : Addr) : loadP Tryz.prog A 5 (.pointer (some a)) = A.cell? a := by kernel_rfl
theorem ld_9 (A : AW) (a : Addr) : loadP Tryz.prog A 9 (.pointer (some a)) = A.cell? a := by kernel_rfl
theorem ld_22 (A : AW) (a : Addr) : loadP Tryz.prog A 22 (.pointer (some a)) = A.cell? a := by kernel_rfl
theorem ld_24 (A : AW) (a : Addr) : loadP Tryz.prog A 24 (.pointer (some a)) = (match A.cells? a 3 with | some l => some (.agg ⟨l⟩) | none => none) := by kernel_rfl
theorem ld_25 (A : AW) (a : Addr) : loadP Tryz.prog A 25 (.pointer (some a)) = A.cell? a := by kernel_rfl
theorem ld_27 (A : AW) (a : Addr) : loadP Tryz.prog A 27 (.pointer (some a)) = A.cell? a := by kernel_rfl
theorem ld_34 (A : AW) (a : Addr) : loadP Tryz.prog A 34 (.pointer (some a)) = A.cell? a := by kernel_rfl
theorem ld_41 (A : AW) (a : Addr) : loadP Tryz.prog A 41 (.pointer (some a)) = A.cell? a := by kernel_rfl
theorem ld_47 (A : AW) (a : Addr) : loadP Tryz.prog A 47 (.pointer (some a)) = A.cell? a := by kernel_rfl
theorem ld_48 (A : AW) (a : Addr) : loadP Tryz.prog A 48 (.pointer (some a)) = A.cell? a := by kernel_rfl
theorem ld_50 (A : AW) (a : Addr) : loadP Tryz.prog A 50 (.pointer (some a)) = (match A.cells? a 8 with | some l => some (.agg ⟨l⟩) | none => none) := by kernel_rfl
theorem ld_52 (A : AW) (a : Addr) : loadP Tryz.prog A 52 (.pointer (some a)) = A.cell? a := by kernel_rfl
theorem ld_68 (A : AW) (a : Addr) : loadP Tryz.prog A 68 (.pointer (some a)) = A.cell? a := by kernel_rfl
theorem ld_72 (A : AW) (a : Addr) : loadP Tryz.prog A 72 (.pointer (some a)) = A.cell? a := by kernel_rfl
theorem ld_75 (A : AW) (a : Addr) : loadP Tryz.prog A 75 (.pointer (some a)) = A.cell? a := by kernel_rfl
theorem ld_76 (A : AW) (a : Addr) : loadP Tryz.prog A 76 (.pointer (some a)) = A.cell? a := by kernel_rfl
theorem ld_77 (A : AW) (a : Addr) : loadP Tryz.prog A 77 (.pointer (some a)) = A.cell? a := by kernel_rfl
theorem ld_119 (A : AW) (a : Addr) : loadP Tryz.prog A 119 (.pointer (some a)) = A.cell? a := by kernel_rfl
theorem ld_133 (A : AW) (a : Addr) : loadP Tryz.prog A 133 (.pointer (some a)) = A.cell? a := by kernel_rfl
theorem ld_223 (A : AW) (a : Addr) : loadP Tryz.prog A 223 (.pointer (some a)) = A.cell? a := by kernel_rfl
theorem st_4 (A : AW) (a : Addr) (v : Value) : storeP Tryz.prog A 4 (.pointer (some a)) v = (bif Nat.beq v.cells.toList.length 1 then A.setCells a v.cells.toList else none) := by kernel_rfl
theorem st_5 (A : AW) (a : Addr) (v : Value) : storeP Tryz.prog A 5 (.pointer (some a)) v = (bif Nat.beq v.cells.toList.length 1 then A.setCells a v.cells.toList else none) := by kernel_rfl
theorem st_9 (A : AW) (a : Addr) (v : Value) : storeP Tryz.prog A 9 (.pointer (some a)) v = (bif Nat.beq v.cells.toList.length 1 then A.setCells a v.cells.toList else none) := by kernel_rfl
theorem st_22 (A : AW) (a : Addr) (v : Value) : storeP Tryz.prog A 22 (.pointer (some a)) v = (bif Nat.beq v.cells.toList.length 1 then A.setCells a v.cells.toList else none) := by kernel_rfl
theorem st_24 (A : AW) (a : Addr) (v : Value) : storeP Tryz.prog A 24 (.pointer (some a)) v = (bif Nat.beq v.cells.toList.length 3 then A.setCells a v.cells.toList else none) := by kernel_rfl
theorem st_34 (A : AW) (a : Addr) (v : Value) : storeP Tryz.prog A 34 (.pointer (some a)) v = (bif Nat.beq v.cells.toList.length 1 then A.setCells a v.cells.toList else none) := by kernel_rfl
theorem st_41 (A : AW) (a : Addr) (v : Value) : storeP Tryz.prog A 41 (.pointer (some a)) v = (bif Nat.beq v.cells.toList.length 1 then A.setCells a v.cells.toList else none) := by kernel_rfl
theorem st_47 (A : AW) (a : Addr) (v : Value) : storeP Tryz.prog A 47 (.pointer (some a)) v = (bif Nat.beq v.cells.toList.length 1 then A.setCells a v.cells.toList else none) := by kernel_rfl
theorem st_48 (A : AW) (a : Addr) (v : Value) : storeP Tryz.prog A 48 (.pointer (some a)) v = (bif Nat.beq v.cells.toList.length 1 then A.setCells a v.cells.toList else none) := by kernel_rfl
theorem st_50 (A : AW) (a : Addr) (v : Value) : storeP Tryz.prog A 50 (.pointer (some a)) v = (bif Nat.beq v.cells.toList.length 8 then A.setCells a v.cells.toList else none) := by kernel_rfl
theorem st_52 (A : AW) (a : Addr) (v : Value) : storeP Tryz.prog A 52 (.pointer (some a)) v = (bif Nat.beq v.cells.toList.length 1 then A.setCells a v.cells.toList else none) := by kernel_rfl
theorem st_76 (A : AW) (a : Addr) (v : Value) : storeP Tryz.prog A 76 (.pointer (some a)) v = (bif Nat.beq v.cells.toList.length 1 then A.setCells a v.cells.toList else none) := by kernel_rfl
theorem st_133 (A : AW) (a : Addr) (v : Value) : storeP Tryz.prog A 133 (.pointer (some a)) v = (bif Nat.beq v.cells.toList.length 1 then A.setCells a v.cells.toList else none) := by kernel_rfl
theorem st_135 (A : AW) (a : Addr) (v : Value) : storeP Tryz.prog A 135 (.pointer (some a)) v = (bif Nat.beq v.cells.toList.length 5 then A.setCells a v.cells.toList else none) := by kernel_rfl
theorem st_159 (A : AW) (a : Addr) (v : Value) : storeP Tryz.prog A 159 (.pointer (some a)) v = (bif Nat.beq v.cells.toList.length 4 then A.setCells a v.cells.toList else none) := by kernel_rfl
theorem ln_9 (A : AW) (s : ByteArray) : lenA Tryz.prog A 9 (.string s) = some (.int .i64 s.data.toList.length) := by kernel_rfl
theorem ln_48 (A : AW) (a : Option Addr) (n c : Nat) : lenA Tryz.prog A 48 (.slice a n c) = some (.int .i64 n) := by kernel_rfl
theorem zero24 : zeroT Tryz.prog 24 = some (.agg #[.int .u32 0, .string .empty, .string .empty]) := by kernel_rfl
theorem zero135 : zeroT Tryz.prog 135 = some (.agg #[.int .u8 0, .int .u32 0, .string .empty, .string .empty, .int .u8 0]) := by kernel_rfl
theorem zero159 : zeroT Tryz.prog 159 = some (.agg #[.int .u8 0, .int .u8 0, .int .u8 0, .nilFunc]) := by kernel_rfl
theorem zero50 : zeroT Tryz.prog 50 = some (.agg #[.int .u32 0, .string .empty, .string .empty, .int .u8 0, .bool false, .slice none 0 0, .int .u32 0, .int .u32 0]) := by kernel_rfl
theorem ft24 : quiet Tryz.prog (underlying 24) = some (.struct (Tryz.prog.fieldsOf 24)) := by kernel_rfl
noncomputable def F24 (i : Nat) : Field := (Tryz.prog.fieldsOf 24).toList.getD i default
theorem fs24 : (Tryz.prog.fieldsOf 24).toList = [F24 0, F24 1, F24 2] := by kernel_rfl
theorem pt24_0 (f : Int) (g b : ByteArray) : quiet Tryz.prog (part (F24 0).type ⟨[.int .u32 f, .string g, .string b]⟩ (F24 0).offset) = some (.int .u32 f) := by kernel_rfl
theorem pt24_1 (f : Int) (g b : ByteArray) : quiet Tryz.prog (part (F24 1).type ⟨[.int .u32 f, .string g, .string b]⟩ (F24 1).offset) = some (.string g) := by kernel_rfl
theorem pt24_2 (f : Int) (g b : ByteArray) : quiet Tryz.prog (part (F24 2).type ⟨[.int .u32 f, .string g, .string b]⟩ (F24 2).offset) = some (.string b) := by kernel_rfl
theorem ty24_0 : (F24 0).type = 22 := by kernel_rfl
theorem ty24_1 : (F24 1).type = 9 := by kernel_rfl
theorem ty24_2 : (F24 2).type = 9 := by kernel_rfl
theorem ut9 : quiet Tryz.prog (underlying 9) = some .string := by kernel_rfl
theorem ut22 : quiet Tryz.prog (underlying 22) = some (.int .u32) := by kernel_rfl
def sameX (f f' : Int) (g g' b b' : ByteArray) : Bool := f == f' && (g.data.toList == g'.data.toList && b.data.toList == b'.data.toList)
theorem quiet24 (n : Nat) (f f' : Int) (g g' b b' : ByteArray) : quiet Tryz.prog (Op.equalIn (n + 1 + 1) 24 (.agg ⟨[.int .u32 f, .string g, .string b]⟩) (.agg ⟨[.int .u32 f', .string g', .string b']⟩)) = some (sameX f f' g g' b b') := by
  rw [quiet_struct (n + 1) 24 _ _ ft24 (by kernel_rfl), fs24]
  rw [quiet_fieldR (by kernel_rfl) (pt24_0 f g b) (pt24_0 f' g' b') (by rw [ty24_0]; exact quiet_eq_int n 22 _ _ _ _ ut22)]
  rw [quiet_fieldR (by kernel_rfl) (pt24_1 f g b) (pt24_1 f' g' b') (by rw [ty24_1]; exact quiet_eqs ut9)]
  rw [quiet_fieldR (by kernel_rfl) (pt24_2 f g b) (pt24_2 f' g' b') (by rw [ty24_2]; exact quiet_eqs ut9)]
  unfold sameX
  cases f == f' <;> cases g.data.toList == g'.data.toList <;> cases b.data.toList == b'.data.toList <;> rfl
theorem sameX_iff {p q : Nm} : sameX (p.f : Int) (q.f : Int) p.g q.g p.b q.b = true ↔ p = q := by
  unfold sameX
  simp only [Bool.and_eq_true, beq_iff_eq]
  constructor
  · rintro ⟨h1, h2, h3⟩
    have h2 := ba_eq h2
    have h3 := ba_eq h3
    obtain ⟨f, g, b⟩ := p
    obtain ⟨f', g', b'⟩ := q
    simp only at h1 h2 h3
    have : f = f' := by omega
    rw [this, h2, h3]
  · rintro rfl
    exact ⟨rfl, rfl, rfl⟩
theorem sameX_kq (p q : Nm) : sameX (p.f : Int) (q.f : Int) p.g q.g p.b q.b = keqN p q := by
  rw [Bool.eq_iff_iff, sameX_iff, keqN_iff]
def kN (p : Nm) : Value := .agg ⟨p.cells⟩
theorem eqAN (p q : Nm) : eqA Tryz.prog 24 (kN p) (kN q) = some (keqN p q) := by
  unfold eqA
  have hc : (closedV 4 (kN p) && closedV 4 (kN q)) = true := rfl
  rw [hc, cond_true, ← sameX_kq]
  exact quiet24 9998 _ _ _ _ _ _
theorem eqN (p q : Nm) (xo yo : Operand) : binA Tryz.prog .eql 24 xo yo (.agg ⟨p.cells⟩) (.agg ⟨q.cells⟩) = some (.bool (keqN p q)) := by
  have hg : eqGuardA Tryz.prog 24 xo yo (kN p) (kN q) = true := by
    show (!Tryz.prog.eqGuardType Tryz.prog.depth 24) = true
    kernel_rfl
  show (bif eqGuardA Tryz.prog 24 xo yo (kN p) (kN q) then (match eqA Tryz.prog 24 (kN p) (kN q) with | some b => some (Value.bool b) | none => none) else none) = _
  rw [hg, cond_true, eqAN]
theorem neqN (p q : Nm) (xo yo : Operand) : binA Tryz.prog .neq 24 xo yo (.agg ⟨p.cells⟩) (.agg ⟨q.cells⟩) = some (.bool !(keqN p q)) := by
  have hg : eqGuardA Tryz.prog 24 xo yo (kN p) (kN q) = true := by
    show (!Tryz.prog.eqGuardType Tryz.prog.depth 24) = true
    kernel_rfl
  show (bif eqGuardA Tryz.prog 24 xo yo (kN p) (kN q) then (match eqA Tryz.prog 24 (kN p) (kN q) with | some b => some (Value.bool !b) | none => none) else none) = _
  rw [hg, cond_true, eqAN]
theorem keyN (e : Bool) (p : Nm) : keyQ Tryz.prog e 24 (kN p) = true := by
  cases e <;> kernel_rfl
theorem sameBN (p : Nm) : (closedV 4 (kN p) && Instr.sameBits 10000 (kN p) (kN p)) = true := by
  have hs : Instr.sameBits 10000 (kN p) (kN p) = true := by
    show Instr.sameBits (9999 + 1) (.agg ⟨p.cells⟩) (.agg ⟨p.cells⟩) = true
    simp only [Nm.cells, Instr.sameBits, beq_self_eq_true, Bool.true_and]
    simp [Instr.sameBits, beq_toListBytes]
  rw [hs]; rfl
def kU (n : Nat) : Value := .int .u8 (n : Int)
theorem eqAU (a b : Nat) : eqA Tryz.prog 5 (kU a) (kU b) = some (a == b) := by
  unfold eqA
  have hc : (closedV 4 (kU a) && closedV 4 (kU b)) = true := rfl
  rw [hc, cond_true]
  show quiet Tryz.prog (Op.equalIn (9999 + 1) 5 (.int .u8 (a : Int)) (.int .u8 (b : Int))) = _
  rw [quiet_eq_int 9999 5 .u8 .u8 _ _ (by kernel_rfl)]
  congr 1
  rw [Bool.eq_iff_iff, beq_iff_eq, beq_iff_eq]
  exact Int.ofNat_inj
theorem keyU (e : Bool) (n : Nat) : keyQ Tryz.prog e 5 (kU n) = true := by
  cases e <;> kernel_rfl
theorem sameBU (n : Nat) : (closedV 4 (kU n) && Instr.sameBits 10000 (kU n) (kU n)) = true := by
  have hs : Instr.sameBits 10000 (kU n) (kU n) = true := by
    show Instr.sameBits (9999 + 1) (.int .u8 (n : Int)) (.int .u8 (n : Int)) = true
    simp [Instr.sameBits]
  rw [hs]; rfl
structure GV where
  x : Nm
  st : Nat
  pv : Value
  w : Nat
  t : Nat
def GV.cells (g : GV) : List Value := [.int .u32 (g.x.f : Int), .string g.x.g, .string g.x.b, .int .u8 (g.st : Int), .bool false, g.pv, .int .u32 (g.w : Int), .int .u32 (g.t : Int)]
def vG (g : GV) : Value := .agg ⟨g.cells⟩
def vI (n : Int) : Value := .int .i64 n
theorem mtG : MT Tryz.prog 75 24 50 kN keqN := ⟨by kernel_rfl, eqAN, keqN_iff, keyN, sameBN⟩
theorem mtA : MT Tryz.prog 77 5 3 kU (fun a b => a == b) := ⟨by kernel_rfl, eqAU, fun {a b} => by simp, keyU, sameBU⟩
structure Pt where
  n : Nat
  x : Nm
def Pt.cells (p : Pt) : List Value := [.int .u8 (p.n : Int), .int .u32 (p.x.f : Int), .string p.x.g, .string p.x.b, .int .u8 0]
structure Ml where
  n : Nat
  k : Nat
  x : Nm
def Ml.cells (p : Ml) : List Value := [.int .u8 (p.n : Int), .int .u8 (p.k : Int), .int .u32 (p.x.f : Int), .string p.x.g, .string p.x.b, .int .u8 0, .int .u16 0, .slice none 0 0]
def bC (n : Nat) : List Value := [.int .u8 (n : Int)]
theorem etP : ET Tryz.prog 48 135 4 Pt.cells := ⟨by kernel_rfl, by kernel_rfl, by kernel_rfl, ⟨56, by kernel_rfl, by decide⟩, by kernel_rfl, fun _ => rfl, fun _ => rfl, fun _ => rfl⟩
theorem etM : ET Tryz.prog 41 46 7 Ml.cells := ⟨by kernel_rfl, by kernel_rfl, by kernel_rfl, ⟨88, by kernel_rfl, by decide⟩, by kernel_rfl, fun _ => rfl, fun _ => rfl, fun _ => rfl⟩
theorem etN : ET Tryz.prog 34 24 2 Nm.cells := ⟨by kernel_rfl, by kernel_rfl, by kernel_rfl, ⟨40, by kernel_rfl, by decide⟩, by kernel_rfl, fun _ => rfl, fun _ => rfl, fun _ => rfl⟩
theorem etB : ES Tryz.prog 52 5 bC := ⟨by kernel_rfl, by kernel_rfl, ⟨1, by kernel_rfl, by decide⟩, by kernel_rfl, fun A a => by kernel_rfl, fun _ => rfl, fun _ => rfl, fun _ => rfl⟩
theorem etS : ES Tryz.prog 223 133 bC := ⟨by kernel_rfl, by kernel_rfl, ⟨1, by kernel_rfl, by decide⟩, by kernel_rfl, fun A a => by kernel_rfl, fun _ => rfl, fun _ => rfl, fun _ => rfl⟩
end Go.Proofs.YtkjlldaddekegaaGreatDoor
namespace Go.Abs
section
variable {P : Program} {ts te : TypeId} {n : Nat} {β : Type} {f : β → List Value}
def OwnF (te : TypeId) (n : Nat) (f : β → List Value) (A : AW) (v : Value) (l : List β) (F : List Nat) : Prop :=
  OwnE te n f A v l F ∨ ∃ b, v = .slice (some ⟨b, 0, none⟩) l.length l.length ∧ l.length < 1000000 ∧ Row1 A b (flat f l) te ∧ F = [b]
theorem OwnF.nil (A : AW) : OwnF te n f A (.slice none 0 0) [] [] := .inl (OwnE.nil A)
theorem OwnF.keeps {A A' : AW} {v : Value} {l : List β} {F S : List Nat} (h : OwnF te n f A v l F) (k : Keeps A A' S) (hd : ∀ x ∈ F, x ∉ S) : OwnF te n f A' v l F := by
  rcases h with h | ⟨b, h1, h0, h2, rfl⟩
  · exact .inl (h.keeps k hd)
  · exact .inr ⟨b, h1, h0, h2.keeps k (hd b (by simp)), rfl⟩
theorem OwnF.rd (hlen : ∀ x, (f x).length = n + 1) {A : AW} {v : Value} {l : List β} {F : List Nat} (h : OwnF te n f A v l F) : RdE n f A v l F := by
  rcases h with h | ⟨b, rfl, h0, h2, rfl⟩
  · exact h.rd hlen
  · exact .inr ⟨b, 0, _, _, _, b, 0, false, rfl, h2.row, h2.lt, rfl, fun i p hi => by rw [Nat.zero_add]; exact flat_drop hlen l i p hi⟩
theorem OwnF.lt {A : AW} {v : Value} {l : List β} {F : List Nat} (h : OwnF te n f A v l F) : ∀ x ∈ F, x < A.next := by
  rcases h with h | ⟨b, h1, h0, h2, rfl⟩
  · exact OwnE.lt h
  · intro x hx; have := List.mem_singleton.1 hx; rw [this]; exact h2.lt
theorem OwnF.slice {A : AW} {v : Value} {l : List β} {F : List Nat} (h : OwnF te n f A v l F) : ∃ o c, v = .slice o l.length c := by
  rcases h with h | ⟨b, rfl, h0, h2, rfl⟩
  · rcases h with ⟨rfl, h2, _⟩ | ⟨b', g, rfl, _⟩
    · exact ⟨none, 0, by rw [h2]⟩
    · exact ⟨_, _, rfl⟩
  · exact ⟨_, _, rfl⟩
theorem OwnF.appendS {t2 : TypeId} (hus : P.underlying ts = some (.slice te)) (hsz : szT P te = some (n + 1)) (hby : ∃ b, bytesT P te = some b ∧ b ≤ 256) (hhz : hasZero P te (n + 1) = true) (hlen : ∀ x, (f x).length = n + 1) (hone : ∀ x, (f x).all oneCell = true)
    {A : AW} {v x : Value} {l l2 : List β} {F : List Nat} {K : Value → AW → Prop} (h : OwnF te n f A v l F) (hx : sourceZ P A te t2 (n + 1) x = some (l2.length, flat f l2)) (hf : Fine A) (hA : A.next < maxId) (hl : l.length < 1000000) (hl2 : l2.length < 1000000)
    (hk : ∀ v' A' F', OwnF te n f A' v' (l ++ l2) F' → Keeps A A' F → (∀ x ∈ F', x ∈ F ∨ x = A.next) → A'.next ≤ A.next + 1 → Fine A' → K v' A') : bothW (appendA P A ts t2 v x) K := by
  have hroom : room = 68719476736 := rfl
  obtain ⟨b, hb, hb2⟩ := hby
  have hse : sliceElemT P ts = some te := by unfold sliceElemT; rw [hus]
  cases l2 with
  | nil =>
    obtain ⟨o, c, rfl⟩ := h.slice
    have hm : (l.length + 0) * b ≤ (l.length + 0) * 256 := Nat.mul_le_mul_left _ hb2
    have e : appendA P A ts t2 (.slice o l.length c) x = .ok (.slice o l.length c) A := by
      have hsrc : sourceZ P A te t2 (n + 1) x = some (0, []) := hx
      unfold appendA
      simp only [hse, hsz, hb, hsrc]
      rw [blt_true.2 (show l.length + 0 < room by omega), blt_true.2 (show (l.length + 0) * b < room by omega), hhz]
      rfl
    rw [e]
    refine bothW_ok.2 (hk _ A F ?_ (.refl _ _) (fun x hx => .inl hx) (by omega) hf)
    rw [List.append_nil]
    exact h
  | cons p r =>
    rw [List.length_cons] at hl2
    have hx : sourceZ P A te t2 (n + 1) x = some (r.length + 1, flat f (p :: r)) := hx
    have hm : (l.length + (r.length + 1)) * b ≤ (l.length + (r.length + 1)) * 256 := Nat.mul_le_mul_left _ hb2
    rcases h with h | ⟨bb, rfl, h0, h2, rfl⟩
    · refine appendG (m := r.length) (size := n) hse hsz hb hhz hx (flat_length hlen _) (flat_one hone _) h hf hA (by omega) (by omega) fun v' A' F' h1 h2 h3 h4 h5 => ?_
      refine hk v' A' F' (.inl ?_) h2 h3 (by omega) h5
      show OwnG A' te (n + 1) v' (l ++ p :: r).length (flat f (l ++ p :: r)) F'
      rw [List.length_append, flat_apps]
      exact h1
    · have hcu : Nat.ble capU l.length = false := ble_false.2 (by unfold capU; omega)
      have hold : A.cellsAny ⟨bb, 0, none⟩ (l.length * (n + 1)) = some (flat f l) := by
        rw [← flat_length hlen]
        unfold AW.cellsAny
        cases hl : (flat f l).length with
        | zero =>
          have : flat f l = [] := List.eq_nil_of_length_eq_zero hl
          rw [this]
        | succ k =>
          simp only [h2.row, List.drop_zero]
          have := takeAny_all (flat f l)
          rw [hl] at this
          exact this
      have hnew : A.new (.row (flat f l ++ flat f (p :: r)) te A.next 0 false) = some (A.next, A.push (.row (flat f l ++ flat f (p :: r)) te A.next 0 false)) := by
        unfold AW.new
        simp only [blt_true.2 hA, cond_true]
        rfl
      have e : appendA P A ts t2 (.slice (some ⟨bb, 0, none⟩) l.length l.length) x = .ok (.slice (some ⟨A.next, 0, none⟩) (l.length + (r.length + 1)) (capU + (l.length + (r.length + 1)))) (A.push (.row (flat f l ++ flat f (p :: r)) te A.next 0 false)) := by
        unfold appendA
        simp only [hse, hsz, hb, hx]
        rw [blt_true.2 (show l.length + (r.length + 1) < room by omega), blt_true.2 (show (l.length + (r.length + 1)) * b < room by omega), hhz]
        have hfit' : Nat.ble (l.length + (r.length + 1)) l.length = false := ble_false.2 (by omega)
        simp only [hcu, cond_false, hfit', Bool.not_true, Bool.and_self]
        simp only [hold, hnew]
      rw [e, ← flat_apps]
      have hfp := hf.push (.row (flat f (l ++ p :: r)) te A.next 0 false) hA
      have hrow : (A.push (.row (flat f (l ++ p :: r)) te A.next 0 false)).get A.next = some (.row (flat f (l ++ p :: r)) te A.next 0 false) := by rw [AW.push_get _ hA, if_pos rfl]
      refine bothW_ok.2 (hk _ _ [A.next] (.inl (.inr ⟨A.next, A.next, by simp, ?_, rfl⟩)) (((AW.push_ext _ hA).keeps hf).more (by simp)) (fun x hx => .inr (by simpa using hx)) (by rw [AW.push_next]; omega) hfp)
      refine ⟨by rw [List.length_append, List.length_cons]; omega, hrow, by rw [flat_length hlen], Nat.zero_le _, Nat.zero_le _, by rw [AW.push_next]; omega, fun i hi => ?_⟩
      have : (A.push (.row (flat f (l ++ p :: r)) te A.next 0 false)).members A.next = [A.next] := hf.alone (Nat.le_refl _)
      rw [this] at hi
      obtain rfl : i = A.next := by simpa using hi
      exact ⟨Nat.zero_le _, by rw [AW.push_next]; omega, _, _, _, _, hrow⟩
theorem OwnF.appendL (T : ET P ts te n f) {A : AW} {v x : Value} {l l2 : List β} {F F2 : List Nat} {K : Value → AW → Prop} (h : OwnF te n f A v l F) (hx : RdE n f A x l2 F2) (hf : Fine A) (hA : A.next < maxId) (hl : l.length < 1000000) (hl2 : l2.length < 1000000)
    (hk : ∀ v' A' F', OwnF te n f A' v' (l ++ l2) F' → Keeps A A' F → (∀ x ∈ F', x ∈ F ∨ x = A.next) → A'.next ≤ A.next + 1 → Fine A' → K v' A') : bothW (appendA P A ts ts v x) K :=
  h.appendS T.us T.sz T.by' T.hz T.len T.one (hx.src T) hf hA hl hl2 hk
theorem OwnF.append (T : ET P ts te n f) {A : AW} {v : Value} {l : List β} {F : List Nat} {p : β} {q : Nat} {e : TypeId} {K : Value → AW → Prop} (h : OwnF te n f A v l F) (hq : Row1 A q (f p) e) (hf : Fine A) (hA : A.next < maxId) (hl : l.length < 1000000)
    (hk : ∀ v' A' F', OwnF te n f A' v' (l ++ [p]) F' → Keeps A A' F → (∀ x ∈ F', x ∈ F ∨ x = A.next) → A'.next ≤ A.next + 1 → Fine A' → K v' A') : bothW (appendA P A ts ts v (.slice (some ⟨q, 0, none⟩) 1 1)) K := by
  refine h.appendS (l2 := [p]) T.us T.sz T.by' T.hz T.len T.one ?_ hf hA hl (by simp) hk
  have := src_elem T hq
  rw [this]
  simp [flat]
end
end Go.Abs
namespace Go.Proofs.YtkjlldaddekegaaGreatDoor
open Go.Abs
structure Grow (A A' : AW) (n : Nat) : Prop where
  keeps : Keeps A A' []
  fine : Fine A'
  next : A'.next ≤ A.next + n
theorem Grow.le {A A' : AW} {n : Nat} (h : Grow A A' n) : A.next ≤ A'.next := h.keeps.next
theorem Grow.refl {A : AW} (hf : Fine A) : Grow A A 0 := ⟨.refl _ _, hf, Nat.le_refl _⟩
theorem Grow.trans {A B C : AW} {n m : Nat} (h : Grow A B n) (k : Grow B C m) : Grow A C (n + m) := ⟨h.keeps.trans k.keeps (by simp), k.fine, by have := h.next; have := k.next; omega⟩
theorem Grow.more {A B : AW} {n m : Nat} (h : Grow A B n) (hm : n ≤ m) : Grow A B m := ⟨h.keeps, h.fine, by have := h.next; omega⟩
theorem Grow.made {A A' : AW} {cs : List Value} {e : TypeId} (m : Made A A' cs e) (hf : Fine A) : Grow A A' 1 := ⟨m.keeps hf, m.fine, by rw [m.next]; omega⟩
theorem Grow.own {A B C : AW} {n m : Nat} {F : List Nat} (h : Grow A B n) (k : Keeps B C F) (hF : ∀ x ∈ F, A.next ≤ x) (hc : C.next ≤ B.next + m) (hf : Fine C) : Grow A C (n + m) :=
  ⟨h.keeps.trans k fun x hx => .inr (hF x hx), hf, by have := h.next; omega⟩
theorem bin_rem {P : Program} {t : TypeId} {xo yo : Operand} {k : IntKind} {a b : Int} (hb : b ≠ 0) : binA P .rem t xo yo (.int k a) (.int k b) = some (.int k (a.tmod b)) := by simp [binA, binOp, Op.intDiv, hb, quiet, closedO, closedV, pure]
theorem bs_made {A : AW} {r : R Value} {cs : List Value} {e : TypeId} {n : Nat} {K : Value → AW → Prop} (hr : r = (match A.newRow cs e with | some (a, w') => .ok (.slice (some a) n n) w' | none => .fail "buildSlice new")) (hc : cs.all oneCell = true) (hf : Fine A) (h : A.next < maxId)
    (hk : ∀ A', Made A A' cs e → K (.slice (some ⟨A.next, 0, none⟩) n n) A') : bothW r K := by
  subst hr
  unfold AW.newRow AW.new
  simp only [hc, cond_true, blt_true.2 h]
  exact bothW_ok.2 (hk (A.push (.row cs e A.next 0 false)) ⟨AW.push_ext _ h, rfl, by rw [AW.push_get _ h, if_pos rfl], hf.alone (Nat.le_refl _), hf.push _ h⟩)
theorem ownF_made {β : Type} {te : TypeId} {n : Nat} {f : β → List Value} {A A' : AW} {l : List β} (m : Made A A' (flat f l) te) (hl : l.length < 1000000) : OwnF te n f A' (.slice (some ⟨A.next, 0, none⟩) l.length l.length) l [A.next] := .inr ⟨A.next, rfl, hl, m.row1, rfl⟩
theorem setL_same : ∀ (cs : List Value) (o : Nat) (v : Value), cs[o]? = some v → setL cs o [v] = cs
  | [], _, _, h => by simp at h
  | c :: cs, 0, v, h => by simp at h; subst h; rfl
  | c :: cs, o + 1, v, h => by
    have := setL_same cs o v (by simpa using h)
    show c :: setL cs o [v] = c :: cs
    rw [this]
theorem pe48n (xo yo : Operand) : binA Tryz.prog .eql 48 xo yo (.slice none 0 0) (.slice none 0 0) = some (.bool true) := by kernel_rfl
theorem pe48s (a : Addr) (n c : Nat) (xo yo : Operand) : binA Tryz.prog .eql 48 xo yo (.slice (some a) n c) (.slice none 0 0) = some (.bool false) := by kernel_rfl
section
variable {W0 : World} {m0 : Inj Tryz.prog}
theorem cutn {fn : FuncId} {T : Nat → List Item} {L : Nat → List Tmp} {Q : Value → AW → Prop} {sz : Nat} : Cuts Tryz.prog theX W0 m0 fn T L (fun _ _ _ => False) Q sz := cuts_none (S := fun _ _ _ => False) fun _ _ _ h => h
theorem wc222 {A : AW} {v : Value} {s : List Nat} {F : List Nat} {K : Value → AW → Prop} (hv : RdE 0 bC A v (0 :: s) F) (hk : K (.int .i64 0) A) : Wc Tryz.prog theX W0 m0 222 [v, .int .u8 0] A K := by
  let I : Nat → Nat → List Value → AW → Prop := fun g id vals A' => id = 0 ∧ vals = [v, .int .u8 0, .int .i64 ((0 :: s).length : Int), .int .i64 0] ∧ A' = A ∧ g = 0
  refine w222 _ _ _ (c222 (I := I) ?_) ?_
  · rintro g id vals A' d ⟨rfl, rfl, rfl, rfl⟩ hd
    rw [l222_0]
    simp only [L222, List.map_cons, List.map_nil, List.cons.injEq, and_true] at hd
    obtain ⟨d0, d1, d7, d8⟩ := hd
    obtain ⟨a, h1, h2⟩ := etS.at (i := 0) hv (p := 0) rfl rfl
    simp only [d0, d1, d7, d8, bin_lss, pureW_some, forkW_dec]
    refine ⟨fun _ => ?_, fun h => absurd (by simp only [List.length_cons]; omega) h⟩
    simp only [show (0 : Int) = ((0 : Nat) : Int) from rfl] at *
    simp only [h1, h2, pureW_some, bin_eql, forkW_beq]
    exact ⟨fun _ => hk, fun h => absurd rfl h⟩
  · rw [e222]
    have := etS.lenR (B := A) hv
    simp only [this, pureW_some]
    exact cutW_self.2 ⟨0, rfl, rfl, rfl, rfl⟩
theorem wc164 {A : AW} {v : Value} {s : List Nat} {F : List Nat} {K : Value → AW → Prop} (hv : RdE 0 bC A v (0 :: s) F) (hk : K (.bool true) A) : Wc Tryz.prog theX W0 m0 164 [v, .int .u8 0] A K := by
  refine w164 _ _ _ cutn ?_
  rw [e164]
  refine wc222 hv ?_
  simp only [bin_geq, pureW_some]
  exact hk
theorem wc216 {A : AW} {v : Value} {q : Nat} {s : List Nat} {p : Pt} {F : List Nat} {K : Value → AW → Prop} (hq : Go.Abs.Row1 A q [v] 223) (hv : RdE 0 bC A v (0 :: s) F) (hf : Fine A) (hA : A.next < maxId) (hk : ∀ A', Grow A A' 1 → K (.bool false) A') :
    Wc Tryz.prog theX W0 m0 216 [.agg ⟨p.cells⟩, .pointer (some ⟨q, 0, none⟩)] A K := by
  refine w216 _ _ _ cutn ?_
  rw [e216]
  refine newP_made hf hA rfl fun A1 m1 => ?_
  have k1 := m1.keeps hf
  have hq1 := hq.keeps k1 (by simp)
  have r1 : Go.Abs.Row1 A1 A.next p.cells 135 := m1.row1
  simp only [Pt.cells] at r1
  simp only [ld_223, cell_row hq1.row, cellOf, hv.one.2, cond_false, pureW_some, fa_135_2, ld_133, cell_row r1.row, isT_int, Nat.zero_add]
  refine wc164 (hv.keeps k1 (by simp)) ?_
  simp only [un_not, pureW_some]
  exact hk _ (Grow.made m1 hf)
theorem wc217 {A : AW} {v : Value} {q : Nat} {s : List Nat} {p : Pt} {F : List Nat} {K : Value → AW → Prop} (hq : Go.Abs.Row1 A q [v] 223) (hv : RdE 0 bC A v (0 :: s) F) (hf : Fine A) (hA : A.next < maxId) (hk : ∀ A', Grow A A' 1 → K (.bool true) A') :
    Wc Tryz.prog theX W0 m0 217 [.agg ⟨p.cells⟩, .pointer (some ⟨q, 0, none⟩)] A K := by
  refine w217 _ _ _ cutn ?_
  rw [e217]
  refine newP_made hf hA rfl fun A1 m1 => ?_
  have k1 := m1.keeps hf
  have hq1 := hq.keeps k1 (by simp)
  have r1 : Go.Abs.Row1 A1 A.next p.cells 135 := m1.row1
  simp only [Pt.cells] at r1
  simp only [ld_223, cell_row hq1.row, cellOf, hv.one.2, cond_false, pureW_some, fa_135_2, ld_133, cell_row r1.row, isT_int, Nat.zero_add]
  exact wc164 (hv.keeps k1 (by simp)) (hk _ (Grow.made m1 hf))
theorem dyn216 (A : AW) (a v : Value) : dynA Tryz.prog theX A (.func (.func 216) ⟨[]⟩ ⟨[a]⟩) [v] = .ok (.enter 216 [v, a]) A := by kernel_rfl
theorem dyn217 (A : AW) (a v : Value) : dynA Tryz.prog theX A (.func (.func 217) ⟨[]⟩ ⟨[a]⟩) [v] = .ok (.enter 217 [v, a]) A := by kernel_rfl
theorem an_fun {A : AW} {f : FuncId} {fv : Value} {args all : List Value} {K : Value → AW → Prop} (hdyn : dynA Tryz.prog theX A fv args = .ok (.enter f all) A) (hkn : memN f theX.known = false) (h : Wc Tryz.prog theX W0 m0 f all A K) :
    anW Tryz.prog theX W0 m0 (dynA Tryz.prog theX A fv args) K := by
  rw [hdyn]
  refine .inr (.inl ⟨_, _, _, rfl, ?_⟩)
  unfold toW
  rw [hkn, cond_false]
  exact h
theorem wc78w {A : AW} {v w : Value} {q : Nat} {s : List Nat} {ps : List Pt} {F Fp : List Nat} {K : Value → AW → Prop} (hp : RdE 4 Pt.cells A w ps Fp) (hq : Go.Abs.Row1 A q [v] 223) (hv : RdE 0 bC A v (0 :: s) F) (hf : Fine A) (hl : ps.length < 100000) (hA : A.next + ps.length < maxId)
    (hk : ∀ A', Grow A A' ps.length → K (.int .i64 (-1)) A') : Wc Tryz.prog theX W0 m0 78 [w, .func (.func 216) ⟨[]⟩ ⟨[.pointer (some ⟨q, 0, none⟩)]⟩] A K := by
  let I : Nat → Nat → List Value → AW → Prop := fun g id vals A' => id = 0 ∧ ∃ i : Nat, vals = [w, .func (.func 216) ⟨[]⟩ ⟨[.pointer (some ⟨q, 0, none⟩)]⟩, .int .i64 (ps.length : Int), .int .i64 (i : Int)] ∧ i ≤ ps.length ∧ Grow A A' i ∧ g = ps.length - i
  refine w78 _ _ _ (c78 (I := I) ?_) ?_
  · rintro g id vals A' d ⟨rfl, i, rfl, hi, gr, rfl⟩ hd
    rw [l78_0]
    simp only [L78, List.map_cons, List.map_nil, List.cons.injEq, and_true] at hd
    obtain ⟨d0, d1, d7, d8⟩ := hd
    simp only [d0, d1, d7, d8, bin_lss, pureW_some, forkW_dec]
    have gn := gr.next
    refine ⟨fun hlt => ?_, fun hge => ?_⟩
    · have hlt : i < ps.length := by omega
      have hpi := List.getElem?_eq_getElem hlt
      generalize ps[i] = p at hpi
      obtain ⟨r, o, a1, _, a2⟩ := (hp.keeps gr.keeps (by simp)).at etP hpi
      simp only [a1, a2, pureW_some]
      refine an_fun (dyn216 A' _ _) rfl (wc216 (hq.keeps gr.keeps (by simp)) (hv.keeps gr.keeps (by simp)) gr.fine (by omega) fun A2 g2 => ?_)
      refine forkW_bool.2 ⟨fun h => (by cases h), fun _ => ?_⟩
      simp only [bin_add, pureW_some]
      rw [wrap_i64 (n := (i : Int) + 1) (by omega) (by omega)]
      exact cutW_self.2 ⟨ps.length - (i + 1), by omega, rfl, i + 1, rfl, by omega, gr.trans g2, rfl⟩
    · exact hk A' (gr.more hi)
  · rw [e78]
    simp only [hp.len etP, pureW_some]
    exact cutW_self.2 ⟨ps.length, rfl, 0, rfl, by omega, Grow.refl hf, rfl⟩
theorem wc78s {A : AW} {v w : Value} {q : Nat} {s : List Nat} {p : Pt} {ps : List Pt} {F Fp : List Nat} {K : Value → AW → Prop} (hp : RdE 4 Pt.cells A w (p :: ps) Fp) (hq : Go.Abs.Row1 A q [v] 223) (hv : RdE 0 bC A v (0 :: s) F) (hf : Fine A) (hA : A.next < maxId)
    (hk : ∀ A', Grow A A' 1 → K (.int .i64 0) A') : Wc Tryz.prog theX W0 m0 78 [w, .func (.func 217) ⟨[]⟩ ⟨[.pointer (some ⟨q, 0, none⟩)]⟩] A K := by
  let I : Nat → Nat → List Value → AW → Prop := fun g id vals A' => id = 0 ∧ vals = [w, .func (.func 217) ⟨[]⟩ ⟨[.pointer (some ⟨q, 0, none⟩)]⟩, .int .i64 ((p :: ps).length : Int), .int .i64 ((0 : Nat) : Int)] ∧ A' = A ∧ g = 0
  refine w78 _ _ _ (c78 (I := I) ?_) ?_
  · rintro g id vals A' d ⟨rfl, rfl, rfl, rfl⟩ hd
    rw [l78_0]
    simp only [L78, List.map_cons, List.map_nil, List.cons.injEq, and_true] at hd
    obtain ⟨d0, d1, d7, d8⟩ := hd
    simp only [d0, d1, d7, d8, bin_lss, pureW_some, forkW_dec]
    refine ⟨fun _ => ?_, fun h => absurd (by simp only [List.length_cons]; omega) h⟩
    obtain ⟨r, o, a1, _, a2⟩ := hp.at etP (i := 0) (p := p) rfl
    simp only [a1, a2, pureW_some]
    refine an_fun (dyn217 A' _ _) rfl (wc217 hq hv hf hA fun A2 g2 => ?_)
    exact forkW_bool.2 ⟨fun _ => hk A2 g2, fun h => by cases h⟩
  · rw [e78]
    simp only [hp.len etP, pureW_some]
    exact cutW_self.2 ⟨0, rfl, rfl, rfl, rfl⟩
theorem wc150 {A : AW} {v w : Value} {s : List Nat} {ps : List Pt} {F Fp : List Nat} {K : Value → AW → Prop} (hp : RdE 4 Pt.cells A w ps Fp) (hv : RdE 0 bC A v (0 :: s) F) (hf : Fine A) (hl : ps.length < 100000) (hA : A.next + ps.length + 2 < maxId)
    (hk : ∀ A', Grow A A' (ps.length + 1) → K (.bool true) A') : Wc Tryz.prog theX W0 m0 150 [w, v] A K := by
  refine w150 _ _ _ cutn ?_
  rw [e150]
  obtain ⟨ov, cv, rfl⟩ := hv.slice
  refine newP_made (cs := [_]) hf (by omega) rfl fun A1 m1 => ?_
  have n1 := m1.next
  have k1 := m1.keeps hf
  refine w162 _ _ _ cutn ?_
  rw [e162]
  refine wc78w (hp.keeps k1 (by simp)) m1.row1 (hv.keeps k1 (by simp)) m1.fine hl (by omega) fun A2 g2 => ?_
  simp only [bin_geq, pureW_some, un_not]
  exact hk A2 (((Grow.made m1 hf).trans g2).more (by omega))
theorem wc151 {A : AW} {v w : Value} {s : List Nat} {p : Pt} {ps : List Pt} {F Fp : List Nat} {K : Value → AW → Prop} (hp : RdE 4 Pt.cells A w (p :: ps) Fp) (hv : RdE 0 bC A v (0 :: s) F) (hf : Fine A) (hA : A.next + 2 < maxId)
    (hk : ∀ A', Grow A A' 2 → K (.bool true) A') : Wc Tryz.prog theX W0 m0 151 [w, v] A K := by
  refine w151 _ _ _ cutn ?_
  rw [e151]
  obtain ⟨ov, cv, rfl⟩ := hv.slice
  refine newP_made (cs := [_]) hf (by omega) rfl fun A1 m1 => ?_
  have n1 := m1.next
  have k1 := m1.keeps hf
  refine w162 _ _ _ cutn ?_
  rw [e162]
  refine wc78s (hp.keeps k1 (by simp)) m1.row1 (hv.keeps k1 (by simp)) m1.fine (by omega) fun A2 g2 => ?_
  simp only [bin_geq, pureW_some]
  exact hk A2 ((Grow.made m1 hf).trans g2)
theorem wc66 {A : AW} {x : Value} {l : List Pt} {F : List Nat} {K : Value → AW → Prop} (h : OwnF 135 4 Pt.cells A x l F) (hf : Fine A) (hA : A.next + 5 < maxId) (hl : l.length < 1000000)
    (hk : ∀ A' v F', OwnF 135 4 Pt.cells A' v l F' → (∀ y ∈ F', A.next ≤ y) → Grow A A' 2 → K v A') : Wc Tryz.prog theX W0 m0 66 [x] A K := by
  refine w66 _ _ cutn ?_
  rw [e66]
  have hrd := h.rd fun _ => rfl
  have hc : x = .slice none 0 0 ∧ l = [] ∨ ∃ a n c, x = .slice (some a) n c := by
    rcases h with h | ⟨b, rfl, _⟩
    · rcases h with ⟨rfl, h2, _⟩ | ⟨b', g, rfl, _⟩
      · exact .inl ⟨rfl, List.eq_nil_of_length_eq_zero h2⟩
      · exact .inr ⟨_, _, _, rfl⟩
    · exact .inr ⟨_, _, _, rfl⟩
  rcases hc with ⟨rfl, rfl⟩ | ⟨a, n, c, rfl⟩
  · simp only [pe48n, pureW_some]
    exact forkW_bool.2 ⟨fun _ => hk A _ [] (OwnF.nil _) (by simp) ((Grow.refl hf).more (by omega)), fun h => by simp at h⟩
  · simp only [pe48s, pureW_some]
    refine forkW_bool.2 ⟨fun h => by simp at h, fun _ => ?_⟩
    refine bs_made (cs := []) (e := 135) (n := 0) (by kernel_rfl) rfl hf (by omega) fun A1 m1 => ?_
    have n1 := m1.next
    have ho : OwnF 135 4 Pt.cells A1 (.slice (some ⟨A.next, 0, none⟩) 0 0) ([] : List Pt) [A.next] := ownF_made (l := ([] : List Pt)) m1 (by decide)
    refine ho.appendL etP (hrd.keeps (m1.keeps hf) (by simp)) m1.fine (by omega) (by simp) (by omega) fun v2 A2 F2 o2 k2 hF2 n2 f2 => ?_
    rw [List.nil_append] at o2
    exact hk A2 v2 F2 o2 (fun y hy => (hF2 y hy).elim (fun h => by have := List.mem_singleton.1 h; omega) fun h => by omega) (((Grow.made m1 hf).own k2 (by simp) (m := 1) n2 f2).more (by omega))
theorem store_same {A : AW} {x a : Value} {l : List Pt} {F : List Nat} {i : Nat} {p : Pt} {K : AW → Prop} (h : OwnF 135 4 Pt.cells A x l F) (hi : l[i]? = some p) (hx : indexAddrA Tryz.prog 48 x (.int .i64 (i : Int)) = some a) (hf : Fine A) (hA : A.next ≤ maxId)
    (hk : ∀ A', OwnF 135 4 Pt.cells A' x l F → Keeps A A' F → A'.next = A.next → Fine A' → K A') : ∃ b o, a = .pointer (some ⟨b, o, none⟩) ∧ effW (storeP Tryz.prog A 133 (.pointer (some ⟨b, o + 4, none⟩)) (.int .u8 0)) K := by
  have hlt := (List.getElem?_eq_some_iff.1 hi).1
  have hfl : (flat Pt.cells l).length = l.length * 5 := flat_length (f := Pt.cells) (n := 5) (fun _ => rfl) l
  have hg : (flat Pt.cells l)[i * 5 + 4]? = some (.int .u8 0) := by rw [flat_get (f := Pt.cells) (n := 5) (fun _ => rfl) hi (by decide)]; rfl
  have he : setL (flat Pt.cells l) (i * 5 + 4) [.int .u8 0] = flat Pt.cells l := setL_same _ _ _ hg
  rcases h with h | ⟨b, rfl, h0, h2, rfl⟩
  · rcases h with ⟨rfl, h2, _⟩ | ⟨b, g, rfl, h3, rfl⟩
    · omega
    · rw [ia_elem etP hlt] at hx
      cases hx
      refine ⟨b, 0 + i * 5, rfl, ?_⟩
      refine storeG (F := [g]) (n := l.length) (cs := flat Pt.cells l) (size := 5) (e := 135) (.inr ⟨b, g, rfl, h3, rfl⟩) hf hA (st_133 _ _ _) rfl (by omega) rfl fun A' h4 k4 n4 f4 => hk A' (.inl ?_) k4 n4 f4
      have h4 : OwnG A' 135 5 (.slice (some ⟨b, 0, none⟩) l.length (capU + l.length)) l.length (setL (flat Pt.cells l) (0 + i * 5 + 4) [.int .u8 0]) [g] := h4
      rw [Nat.zero_add, he] at h4
      exact h4
  · rw [ia_elem etP hlt] at hx
    cases hx
    refine ⟨b, 0 + i * 5, rfl, ?_⟩
    refine h2.store hf hA (st_133 _ _ _) rfl (by omega) rfl fun A' h4 k4 n4 f4 => hk A' (.inr ⟨b, rfl, h0, ?_, rfl⟩) k4 n4 f4
    have h4 : Go.Abs.Row1 A' b (setL (flat Pt.cells l) (0 + i * 5 + 4) [.int .u8 0]) 135 := h4
    rw [Nat.zero_add, he] at h4
    exact h4
theorem wc149 {A : AW} {x : Value} {l : List Pt} {F : List Nat} {K : Value → AW → Prop} (h : OwnF 135 4 Pt.cells A x l F) (hf : Fine A) (hA : A.next + 5 < maxId) (hl : l.length < 1000000)
    (hk : ∀ A' v F', OwnF 135 4 Pt.cells A' v l F' → (∀ y ∈ F', A.next ≤ y) → Grow A A' 2 → K v A') : Wc Tryz.prog theX W0 m0 149 [x] A K := by
  let I : Nat → Nat → List Value → AW → Prop := fun g id vals A' => id = 0 ∧ ∃ (i : Nat) (v : Value) (F' : List Nat), vals = [v, .int .i64 (l.length : Int), .int .i64 (i : Int)] ∧ i ≤ l.length ∧ OwnF 135 4 Pt.cells A' v l F' ∧ (∀ y ∈ F', A.next ≤ y) ∧ Grow A A' 2 ∧ g = l.length - i
  refine w149 _ _ (c149 (I := I) ?_) ?_
  · rintro g id vals A' d ⟨rfl, i, v, F', rfl, hi, ho, hF, gr, rfl⟩ hd
    rw [l149_0]
    simp only [L149, List.map_cons, List.map_nil, List.cons.injEq, and_true] at hd
    obtain ⟨d3, d8, d9⟩ := hd
    simp only [d3, d8, d9, bin_lss, pureW_some, forkW_dec]
    have gn := gr.next
    refine ⟨fun hlt => ?_, fun hge => hk A' v F' ho hF gr⟩
    have hlt : i < l.length := by omega
    obtain ⟨r, o, a1, _⟩ := (ho.rd fun _ => rfl).at etP (List.getElem?_eq_getElem hlt)
    obtain ⟨b, o2, e1, e2⟩ := store_same (K := fun At3 => pureW (binA Tryz.prog .add 3 (.tmp 9) (.const (.int .i64 1)) (.int .i64 (i : Int)) (.int .i64 1)) fun t4 => cutW (T149 0) (T149 0) (∃ g2, g2 < l.length - i ∧ I g2 0 [v, .int .i64 (l.length : Int), t4] At3)) ho (List.getElem?_eq_getElem hlt) a1 gr.fine (by omega) fun A2 o2 k2 n2 f2 => by
      simp only [bin_add, pureW_some]
      rw [wrap_i64 (n := (i : Int) + 1) (by omega) (by omega)]
      exact cutW_self.2 ⟨l.length - (i + 1), by omega, rfl, i + 1, v, F', rfl, by omega, o2, hF, ⟨gr.keeps.trans k2 fun x hx => .inr (hF x hx), f2, by omega⟩, rfl⟩
    cases e1
    simp only [a1, pureW_some, fa_135_2]
    exact e2
  · rw [e149]
    refine wc66 h hf hA hl fun A1 v F' o1 hF g1 => ?_
    simp only [(o1.rd fun _ => rfl).len etP, pureW_some]
    exact cutW_self.2 ⟨l.length, rfl, 0, v, F', rfl, by omega, o1, hF, g1, rfl⟩
end
def okX (p : Nm) : Bool := !(p.g.data.toList == []) && (decide (p.g.data.toList.length ≤ 64) && decide (p.b.data.toList.length ≤ 64))
def Nm.key (p : Nm) : Nm := ⟨p.f, p.g, ⟨⟨[]⟩⟩⟩
noncomputable def okPs (x : Nm) : Nat → List Pt → Bool
  | _, [] => true
  | last, p :: r => decide (last < p.n) && (decide (p.n ≤ 8) && (okX p.x && (keqN p.x.key x.key && okPs x p.n r)))
noncomputable def okD (x : Nm) (ps : List Pt) : Bool := okX x && (x.b.data.toList == [] && (decide (1 ≤ ps.length) && (decide (ps.length ≤ 8) && okPs x 0 ps)))
theorem es (b : ByteArray) : (b.data.toList == (⟨⟨[]⟩⟩ : ByteArray).data.toList) = (b.data.toList == []) := rfl
theorem bs223 {A : AW} {r : R Value} {s : List Nat} {K : Value → AW → Prop} (hr : r = (match A.newRow (flat bC s) 133 with | some (a, w') => .ok (.slice (some a) s.length s.length) w' | none => .fail "buildSlice new")) (hf : Fine A) (h : A.next < maxId) (hl : s.length < 10)
    (hk : ∀ A', RdE 0 bC A' (.slice (some ⟨A.next, 0, none⟩) s.length s.length) s [A.next] → Made A A' (flat bC s) 133 → K (.slice (some ⟨A.next, 0, none⟩) s.length s.length) A') : bothW r K :=
  bs_made hr (flat_one (fun _ => rfl) s) hf h fun A' m => hk A' ((ownF_made m (by omega)).rd fun _ => rfl) m
theorem fresh223 : freshOf Tryz.prog (evalT (Tm.fill ⟨5, .nil⟩ 0 [.int .u8 0, .int .u8 1, .int .u8 2, .int .u8 3, .int .u8 4])) (.buildSlice 223 5 #[(0, .tmp 0), (1, .tmp 1), (2, .tmp 2), (3, .tmp 3), (4, .tmp 4)]) = some (.slice [.int .u8 0, .int .u8 1, .int .u8 2, .int .u8 3, .int .u8 4] 133 5) := by kernel_rfl
theorem freshW_223 {A : AW} {b : Nat} {p : Prop} (h : A.get b = some (.row [.int .u8 0, .int .u8 1, .int .u8 2, .int .u8 3, .int .u8 4] 133 b 0 false)) (hp : p) :
    freshW (freshOf Tryz.prog (evalT (Tm.fill ⟨5, .nil⟩ 0 [.int .u8 0, .int .u8 1, .int .u8 2, .int .u8 3, .int .u8 4])) (.buildSlice 223 5 #[(0, .tmp 0), (1, .tmp 1), (2, .tmp 2), (3, .tmp 3), (4, .tmp 4)])) A (.slice (some ⟨b, 0, none⟩) 5 5) p := by
  refine ⟨⟨_, fresh223, ?_⟩, hp⟩
  simp only [stillFresh, rowHas, h, sameL, same_int, Bool.and_self, Option.isNone_none, Bool.true_and, Nat.beq_refl]
theorem ba83 (f : Int) (g b : ByteArray) (o : Option Addr) (n c : Nat) : buildA Tryz.prog 83 [(0, .agg ⟨[.int .u32 f, .string g, .string b]⟩), (1, .slice o n c)] = some (.agg ⟨[.int .u32 f, .string g, .string b, .slice o n c]⟩) := by kernel_rfl
section
variable {W0 : World} {m0 : Inj Tryz.prog}
theorem wc97 {p : Nm} {A : AW} {K : Value → AW → Prop} (hf : Fine A) (hA : A.next < maxId) (hk : ∀ A', Grow A A' 1 → K (.int .i64 (if okX p = true then 0 else 40)) A') : Wc Tryz.prog theX W0 m0 97 [.agg ⟨p.cells⟩] A K := by
  refine w97 _ _ cutn ?_
  rw [e97]
  refine newP_made (cs := p.cells) hf hA rfl fun A1 m1 => ?_
  have r1 : Go.Abs.Row1 A1 A.next [.int .u32 (p.f : Int), .string p.g, .string p.b] 24 := m1.row1
  have hk := hk _ (Grow.made m1 hf)
  simp only [fa_24_1, fa_24_2, ld_9, cell_row r1.row, cellOf, isT_string, isT_int, cond_false, pureW_some, Nat.zero_add, bin_streq, ln_9, bin_gtr, forkW_dec, es]
  refine forkW_bool.2 ⟨fun h => ?_, fun h => ⟨fun h2 => ?_, fun h2 => ⟨fun h3 => ?_, fun h3 => ?_⟩⟩⟩
  · rw [if_neg (by unfold okX; rw [h]; simp)] at hk; exact hk
  · rw [if_neg (by unfold okX; rw [h, show decide (p.g.data.toList.length ≤ 64) = false from decide_eq_false (by omega)]; simp)] at hk; exact hk
  · rw [if_neg (by unfold okX; rw [h, show decide (p.b.data.toList.length ≤ 64) = false from decide_eq_false (by omega)]; simp)] at hk; exact hk
  · rw [if_pos (by unfold okX; rw [h, show decide (p.g.data.toList.length ≤ 64) = true from decide_eq_true (by omega), show decide (p.b.data.toList.length ≤ 64) = true from decide_eq_true (by omega)]; rfl)] at hk; exact hk
theorem wc138 {p q : Nm} {A : AW} {K : Value → AW → Prop} (hf : Fine A) (hA : A.next + 2 < maxId) (hk : ∀ A', Grow A A' 2 → K (.bool (keqN p.key q.key)) A') : Wc Tryz.prog theX W0 m0 138 [.agg ⟨p.cells⟩, .agg ⟨q.cells⟩] A K := by
  refine w138 _ _ _ cutn ?_
  rw [e138]
  refine newP_made (cs := p.cells) hf (by omega) rfl fun A1 m1 => ?_
  have n1 := m1.next
  refine newP_made (cs := q.cells) m1.fine (by omega) rfl fun A2 m2 => ?_
  have n2 := m2.next
  have g2 := (Grow.made m1 hf).trans (.made m2 m1.fine)
  have r1 : Go.Abs.Row1 A2 A.next p.cells 24 := (m1.row1).keeps (m2.keeps m1.fine) (by simp)
  have r2 : Go.Abs.Row1 A2 A1.next q.cells 24 := m2.row1
  simp only [fa_24_2, pureW_some, Nat.zero_add]
  refine r1.store m2.fine (by omega) (st_9 _ _ _) rfl (by simp [Nm.cells]) rfl fun A3 r3 k3 n3 f3 => ?_
  have r3 : Go.Abs.Row1 A3 A.next p.key.cells 24 := r3
  refine (r2.keeps k3 (by simp; omega)).store f3 (by omega) (st_9 _ _ _) rfl (by simp [Nm.cells]) rfl fun A4 r4 k4 n4 f4 => ?_
  have r4 : Go.Abs.Row1 A4 A1.next q.key.cells 24 := r4
  have r3 := r3.keeps k4 (by simp; omega)
  have h1 : loadP Tryz.prog A4 24 (.pointer (some ⟨A.next, 0, none⟩)) = some (.agg ⟨p.key.cells⟩) := by rw [ld_24, cells_row r3.row]; rfl
  have h2 : loadP Tryz.prog A4 24 (.pointer (some ⟨A1.next, 0, none⟩)) = some (.agg ⟨q.key.cells⟩) := by rw [ld_24, cells_row r4.row]; rfl
  simp only [h1, h2, pureW_some, eqN]
  refine hk _ ⟨(g2.keeps.trans k3 (by simp)).trans k4 (by simp; omega), f4, by have := g2.next; omega⟩
theorem ld_name {A : AW} {b : Nat} {p : Nm} {pre post : List Value} {e : TypeId} (h : Go.Abs.Row1 A b (pre ++ (p.cells ++ post)) e) : loadP Tryz.prog A 24 (.pointer (some ⟨b, pre.length, none⟩)) = some (.agg ⟨p.cells⟩) := by
  rw [ld_24, cells_row h.row, List.drop_left]
  obtain ⟨f, g, b⟩ := p
  have : takeCells ((Nm.mk f g b).cells ++ post) 3 = some (Nm.mk f g b).cells := takeCells_app (Nm.mk f g b).cells post rfl
  rw [this]
theorem drop_get {α : Type} {l : List α} {i : Nat} {p : α} (h : l[i]? = .some p) : l.drop i = p :: l.drop (i + 1) := by
  obtain ⟨h1, h2⟩ := List.getElem?_eq_some_iff.1 h
  rw [List.drop_eq_getElem_cons h1, h2]
theorem wc65 {x : Nm} {pv : Value} {ps : List Pt} {F : List Nat} {A : AW} {K : Value → AW → Prop} (hp : RdE 4 Pt.cells A pv ps F) (hl : ps.length < 100000) (hn : ∀ p ∈ ps, p.n < 256) (hf : Fine A) (hA : A.next + 10 + 10 * ps.length < maxId)
    (hk : ∀ A', Grow A A' (2 + 5 * ps.length) → K (.int .i64 (if okD x ps = true then 0 else 260)) A') : Wc Tryz.prog theX W0 m0 65 [.agg ⟨x.cells ++ [pv]⟩] A K := by
  obtain ⟨ov, cv, rfl⟩ := hp.slice
  let I : Nat → Nat → List Value → AW → Prop := fun g id vals A' => id = 0 ∧ ∃ (i last : Nat), vals = [.pointer (some ⟨A.next, 0, none⟩), .int .u8 (last : Int), .slice ov ps.length cv, .int .i64 (ps.length : Int), .int .i64 (i : Int)] ∧ i ≤ ps.length ∧ okD x ps = okPs x last (ps.drop i) ∧
    Go.Abs.Row1 A' A.next [.int .u32 (x.f : Int), .string x.g, .string x.b, .slice ov ps.length cv] 83 ∧ Grow A A' (2 + 5 * i) ∧ g = ps.length - i
  refine w65 _ _ (c65 (I := I) ?_) ?_
  · rintro g id vals A' d ⟨rfl, i, last, rfl, hi, hok, r1, gr, rfl⟩ hd
    rw [l65_0]
    simp only [L65, List.map_cons, List.map_nil, List.cons.injEq, and_true] at hd
    obtain ⟨d1, d3, d29, d30, d31⟩ := hd
    simp only [d1, d3, d29, d30, d31, bin_lss, pureW_some, forkW_dec]
    have gn := gr.next
    have gl := gr.le
    refine ⟨fun hlt => ?_, fun hge => ?_⟩
    · have hlt : i < ps.length := by omega
      have hpi := List.getElem?_eq_getElem hlt
      have hmem := List.getElem_mem hlt
      generalize ps[i] = p at hpi hmem
      have hpn := hn p hmem
      rw [drop_get hpi] at hok
      obtain ⟨r, o, a1, _, a2⟩ := (hp.keeps gr.keeps (by simp)).at etP hpi
      simp only [a1, a2, pureW_some]
      refine allocP_made zero135 gr.fine (by omega) rfl fun A2 m2 => ?_
      have n2 := m2.next
      have k2 := m2.keeps gr.fine
      refine m2.row1.store m2.fine (by omega) (st_135 _ _ _) rfl (by simp [Value.cells, Pt.cells]) rfl fun A3 r3 k3 n3 f3 => ?_
      have K3 : Keeps A' A3 [] := k2.trans k3 (by simp)
      have r3 : Go.Abs.Row1 A3 A'.next [.int .u8 (p.n : Int), .int .u32 (p.x.f : Int), .string p.x.g, .string p.x.b, .int .u8 0] 135 := r3
      have hfail : ∀ B n, okPs x last (p :: ps.drop (i + 1)) = false → Grow A3 B n → n ≤ 4 → K (.int .i64 260) B := fun B n hb gB hn => by
        have := hk B ⟨(gr.keeps.trans K3 (by simp)).trans gB.keeps (by simp), gB.fine, by have := gB.next; omega⟩
        rw [hok, hb, if_neg (by simp)] at this
        exact this
      simp only [fa_135_0, fa_135_1, fa_135_2, ld_5, ld_133, cell_row r3.row, cellOf, isT_int, cond_false, pureW_some, Nat.zero_add, bin_leq, bin_gtr, bin_neq, forkW_dec, forkW_bne]
      refine ⟨fun h1 => hfail A3 0 (by unfold okPs; rw [show decide (last < p.n) = false from decide_eq_false (by omega)]; rfl) (.refl f3) (by omega), fun h1 => ?_⟩
      refine ⟨fun h2 => hfail A3 0 (by unfold okPs; rw [show decide (p.n ≤ 8) = false from decide_eq_false (by omega)]; simp) (.refl f3) (by omega), fun h2 => ?_⟩
      refine ⟨fun h3 => absurd rfl h3, fun _ => ?_⟩
      have hx : loadP Tryz.prog A3 24 (.pointer (some ⟨A'.next, 1, none⟩)) = some (.agg ⟨p.x.cells⟩) := ld_name (pre := [.int .u8 (p.n : Int)]) (post := [.int .u8 0]) r3
      simp only [hx, pureW_some]
      refine wc97 f3 (by omega) fun A4 g4 => ?_
      have n4 := g4.next
      simp only [bin_neq, pureW_some, forkW_bne]
      refine ⟨fun h4 => hfail A4 1 ?_ g4 (by omega), fun h4 => ?_⟩
      · have : okX p.x = false := by
          cases hx : okX p.x with
          | false => rfl
          | true => rw [hx, if_pos rfl] at h4; exact absurd rfl h4
        unfold okPs; rw [this]; simp
      have hok4 : okX p.x = true := by
        cases hx : okX p.x with
        | true => rfl
        | false => rw [hx, if_neg (by simp)] at h4; cases h4
      have r1' : Go.Abs.Row1 A4 A.next [.int .u32 (x.f : Int), .string x.g, .string x.b, .slice ov ps.length cv] 83 := (r1.keeps K3 (by simp)).keeps g4.keeps (by simp)
      have r4 := r3.keeps g4.keeps (by simp)
      have hx4 : loadP Tryz.prog A4 24 (.pointer (some ⟨A'.next, 1, none⟩)) = some (.agg ⟨p.x.cells⟩) := ld_name (pre := [.int .u8 (p.n : Int)]) (post := [.int .u8 0]) r4
      have hx1 : loadP Tryz.prog A4 24 (.pointer (some ⟨A.next, 0, none⟩)) = some (.agg ⟨x.cells⟩) := ld_name (pre := []) (post := [_]) r1'
      simp only [fa_83_0, hx4, hx1, pureW_some]
      refine wc138 g4.fine (by omega) fun A5 g5 => ?_
      have g35 := g4.trans g5
      have n5 := g35.next
      simp only [un_not, pureW_some]
      refine forkW_bool.2 ⟨fun h5 => hfail A5 3 ?_ g35 (by omega), fun h5 => ?_⟩
      · have : keqN p.x.key x.key = false := by simpa using h5
        unfold okPs; rw [this]; simp
      have hok5 : keqN p.x.key x.key = true := by simpa using h5
      have r5 := r4.keeps g5.keeps (by simp)
      simp only [cell_row r5.row, cellOf, isT_int, cond_false, pureW_some, bin_add]
      rw [wrap_i64 (n := (i : Int) + 1) (by omega) (by omega)]
      refine cutW_self.2 ⟨ps.length - (i + 1), by omega, rfl, i + 1, p.n, rfl, by omega, ?_, r1'.keeps g5.keeps (by simp), ⟨(gr.keeps.trans K3 (by simp)).trans g35.keeps (by simp), g5.fine, by omega⟩, rfl⟩
      rw [hok]
      show okPs x last (p :: ps.drop (i + 1)) = _
      conv => lhs; unfold okPs
      rw [hok4, hok5, show decide (last < p.n) = true from decide_eq_true (by omega), show decide (p.n ≤ 8) = true from decide_eq_true (by omega)]
      rfl
    · have hia : i = ps.length := by omega
      have := hk A' (gr.more (by omega))
      rw [hok, hia, List.drop_length] at this
      exact this
  · rw [e65]
    refine newP_made (cs := x.cells ++ [.slice ov ps.length cv]) hf (by omega) rfl fun A1 m1 => ?_
    have n1 := m1.next
    have r1 : Go.Abs.Row1 A1 A.next [.int .u32 (x.f : Int), .string x.g, .string x.b, .slice ov ps.length cv] 83 := m1.row1
    have hx1 : loadP Tryz.prog A1 24 (.pointer (some ⟨A.next, 0, none⟩)) = some (.agg ⟨x.cells⟩) := ld_name (pre := []) (post := [_]) r1
    simp only [fa_83_0, hx1, pureW_some]
    refine wc97 m1.fine (by omega) fun A2 g2 => ?_
    have g12 := (Grow.made m1 hf).trans g2
    have hfail : okD x ps = false → K (.int .i64 260) A2 := fun hb => by
      have := hk A2 (g12.more (by omega))
      rw [hb, if_neg (by simp)] at this
      exact this
    have r2 := r1.keeps g2.keeps (by simp)
    simp only [bin_neq, pureW_some, forkW_bne, fa_24_2, fa_83_1, ld_9, ld_48, cell_row r2.row, cellOf, isT_string, isT_int, isT_slice, cond_false, Nat.zero_add, bin_strneq, es, ln_48, bin_lss, bin_gtr, forkW_dec]
    refine ⟨fun h1 => hfail ?_, fun h1 => ?_⟩
    · have : okX x = false := by
        cases hx : okX x with
        | false => rfl
        | true => rw [hx, if_pos rfl] at h1; exact absurd rfl h1
      unfold okD; rw [this]; rfl
    have hok1 : okX x = true := by
      cases hx : okX x with
      | true => rfl
      | false => rw [hx, if_neg (by simp)] at h1; cases h1
    refine forkW_bool.2 ⟨fun h2 => hfail ?_, fun h2 => ?_⟩
    · have : (x.b.data.toList == []) = false := by simpa using h2
      unfold okD; rw [this]; simp
    have hok2 : (x.b.data.toList == []) = true := by simpa using h2
    refine ⟨fun h3 => hfail ?_, fun h3 => ⟨fun h4 => hfail ?_, fun h4 => ?_⟩⟩
    · unfold okD; rw [show decide (1 ≤ ps.length) = false from decide_eq_false (by omega)]; simp
    · unfold okD; rw [show decide (ps.length ≤ 8) = false from decide_eq_false (by omega)]; simp
    refine cutW_self.2 ⟨ps.length, rfl, 0, 0, rfl, by omega, ?_, r2, g12.more (by omega), rfl⟩
    unfold okD
    rw [hok1, hok2, show decide (1 ≤ ps.length) = true from decide_eq_true (by omega), show decide (ps.length ≤ 8) = true from decide_eq_true (by omega)]
    rfl
end
def OneC (v : Value) : Prop := ∃ o n c, v = .slice o n c
theorem OneC.noT {v : Value} (h : OneC v) : isTuple v = false := by obtain ⟨_, _, _, rfl⟩ := h; rfl
theorem ownF_one {te : TypeId} {n : Nat} {β : Type} {f : β → List Value} {A : AW} {v : Value} {l : List β} {F : List Nat} (h : OwnF te n f A v l F) : OneC v := by obtain ⟨o, c, rfl⟩ := h.slice; exact ⟨_, _, _, rfl⟩
theorem g_one {g : GV} (h : OneC g.pv) : g.cells.all oneCell = true := by
  obtain ⟨o, n, c, hp⟩ := h
  unfold GV.cells
  rw [hp]
  rfl
theorem ld_g {A : AW} {b : Nat} {g : GV} (h : Go.Abs.Row1 A b g.cells 50) (hg : OneC g.pv) : loadP Tryz.prog A 50 (.pointer (some ⟨b, 0, none⟩)) = some (vG g) := by
  rw [ld_50, cells_row h.row]
  obtain ⟨o, n, c, hp⟩ := hg
  obtain ⟨x, st, pv, w, t⟩ := g
  simp only at hp
  subst hp
  rfl
theorem ld_gx {A : AW} {b : Nat} {g : GV} (h : Go.Abs.Row1 A b g.cells 50) : loadP Tryz.prog A 24 (.pointer (some ⟨b, 0, none⟩)) = some (.agg ⟨g.x.cells⟩) :=
  ld_name (pre := []) (post := [.int .u8 (g.st : Int), .bool false, g.pv, .int .u32 (g.w : Int), .int .u32 (g.t : Int)]) h
theorem setL_all8 {cs new : List Value} (h : cs.length = 8) (h2 : new.length = 8) : setL cs 0 new = new := by
  match cs, h, new, h2 with
  | [_, _, _, _, _, _, _, _], _, [_, _, _, _, _, _, _, _], _ => rfl
theorem st_g {A : AW} {b : Nat} {cs : List Value} {g : GV} {K : AW → Prop} (h : Go.Abs.Row1 A b cs 50) (hl : cs.length = 8) (hg : OneC g.pv) (hf : Fine A) (hA : A.next ≤ maxId) (hk : ∀ A', Go.Abs.Row1 A' b g.cells 50 → Keeps A A' [b] → A'.next = A.next → Fine A' → K A') :
    effW (storeP Tryz.prog A 50 (.pointer (some ⟨b, 0, none⟩)) (vG g)) K := by
  refine h.store hf hA (st_50 _ _ _) rfl (by rw [hl]; decide) (g_one hg) fun A' h1 k1 n1 f1 => hk A' ?_ k1 n1 f1
  have h1 : Go.Abs.Row1 A' b (setL cs 0 g.cells) 50 := h1
  rw [setL_all8 hl rfl] at h1
  exact h1
section
variable {W0 : World} {m0 : Inj Tryz.prog}
theorem wc81 {g : GV} {ps : List Pt} {F : List Nat} {A : AW} {K : Value → AW → Prop} (hp : OwnF 135 4 Pt.cells A g.pv ps F) (hl : ps.length < 100000) (hn : ∀ p ∈ ps, p.n < 256) (hs : g.st = 1 ∨ g.st = 2 ∨ g.st = 4) (hw : g.w ≤ 3) (ht : g.t ≤ 5) (hf : Fine A) (hA : A.next + 40 + 20 * ps.length < maxId)
    (hk : ∀ A', Grow A A' (20 + 10 * ps.length) → K (.int .i64 (if okD g.x ps = true then 0 else 270)) A') : Wc Tryz.prog theX W0 m0 81 [vG g] A K := by
  have hone := ownF_one hp
  refine w81 _ _ cutn ?_
  rw [e81]
  refine newP_made (cs := g.cells) hf (by omega) (g_one hone) fun A1 m1 => ?_
  have n1 := m1.next
  have k1 := m1.keeps hf
  have r1 : Go.Abs.Row1 A1 A.next g.cells 50 := m1.row1
  have hp1 := hp.keeps k1 (by simp)
  have r1e : Go.Abs.Row1 A1 A.next [.int .u32 (g.x.f : Int), .string g.x.g, .string g.x.b, .int .u8 (g.st : Int), .bool false, g.pv, .int .u32 (g.w : Int), .int .u32 (g.t : Int)] 50 := r1
  simp only [fa_50_0, fa_50_3, ld_gx r1, pureW_some, ld_48, cell_row r1e.row, cellOf, isT_string, isT_int, isT_bool, hone.noT, cond_false, Nat.zero_add]
  refine wc149 hp1 m1.fine (by omega) (by omega) fun A2 v2 F2 o2 hF2 g2 => ?_
  have n2 := g2.next
  have r2 := r1.keeps g2.keeps (by simp)
  obtain ⟨ov, cv, hv2⟩ := o2.slice
  have hb : buildA Tryz.prog 83 [(0, .agg ⟨g.x.cells⟩), (1, v2)] = some (.agg ⟨g.x.cells ++ [v2]⟩) := by rw [hv2]; exact ba83 _ _ _ _ _ _
  simp only [ld_gx r2, pureW_some, eqW_self, hb]
  refine wc65 (o2.rd fun _ => rfl) hl hn g2.fine (by omega) fun A3 g3 => ?_
  have n3 := g3.next
  have g13 := ((Grow.made m1 hf).trans g2).trans g3
  have r3 := r2.keeps g3.keeps (by simp)
  have r3e : Go.Abs.Row1 A3 A.next [.int .u32 (g.x.f : Int), .string g.x.g, .string g.x.b, .int .u8 (g.st : Int), .bool false, g.pv, .int .u32 (g.w : Int), .int .u32 (g.t : Int)] 50 := r3
  cases hok : okD g.x ps with
  | false =>
    simp only [hok, Bool.false_eq_true, if_false] at hk ⊢
    have hk := hk A3 (g13.more (by omega))
    simp only [bin_eql, pureW_some, fa_50_0, fa_50_1, fa_50_3, ld_gx r3, ld_48, ld_47, cell_row r3e.row, cellOf, isT_string, isT_int, isT_bool, hone.noT, cond_false, Nat.zero_add, eqW_self, hb, un_not, Bool.not_false]
    refine forkW_beq.2 ⟨fun h => by simp at h, fun _ => ?_⟩
    refine forkW_beq.2 ⟨fun _ => forkW_bool.2 ⟨fun _ => hk, fun h => by cases h⟩, fun _ => forkW_beq.2 ⟨fun _ => forkW_bool.2 ⟨fun _ => hk, fun h => by cases h⟩, fun _ => forkW_beq.2 ⟨fun _ => forkW_bool.2 ⟨fun _ => hk, fun h => by cases h⟩, fun _ => forkW_beq.2 ⟨fun _ => forkW_bool.2 ⟨fun _ => hk, fun h => by cases h⟩, fun _ => forkW_beq.2 ⟨fun _ => forkW_bool.2 ⟨fun _ => hk, fun h => by cases h⟩, fun _ => forkW_bool.2 ⟨fun _ => hk, fun h => by cases h⟩⟩⟩⟩⟩⟩
  | true =>
    simp only [hok, if_true] at hk ⊢
    have hne : ∃ p r, ps = p :: r := by
      cases ps with
      | nil => unfold okD at hok; simp at hok
      | cons p r => exact ⟨p, r, rfl⟩
    simp only [bin_eql, pureW_some]
    refine forkW_beq.2 ⟨fun _ => ?_, fun h => absurd rfl h⟩
    refine bs223 (s := [0, 1, 2, 3, 4]) (by kernel_rfl) g3.fine (by omega) (by decide) fun A4 rd4 m4 => ?_
    have n4 := m4.next
    have k4 := m4.keeps g3.fine
    have r4 := r3.keeps k4 (by simp)
    have r4e : Go.Abs.Row1 A4 A.next [.int .u32 (g.x.f : Int), .string g.x.g, .string g.x.b, .int .u8 (g.st : Int), .bool false, g.pv, .int .u32 (g.w : Int), .int .u32 (g.t : Int)] 50 := r4
    refine freshW_223 m4.row ?_
    simp only [eqW_self, pureW_some, hb, fa_50_3, fa_50_0, ld_48, cell_row r4e.row, cellOf, isT_string, isT_int, isT_bool, hone.noT, cond_false, Nat.zero_add, ld_gx r4]
    have rd := (hp.rd fun _ => rfl)
    have g14 := g13.trans (Grow.made m4 g3.fine)
    refine wc150 (rd.keeps g14.keeps (by simp)) rd4 m4.fine hl (by omega) fun A5 g5 => ?_
    have n5 := g5.next
    have g15 := g14.trans g5
    have r5e := r4e.keeps g5.keeps (by simp)
    refine forkW_bool.2 ⟨fun _ => ?_, fun h => by cases h⟩
    simp only [fa_50_4, fa_50_5, fa_50_1, ld_22, ld_47, cell_row r5e.row, cellOf, isT_string, isT_int, isT_bool, hone.noT, cond_false, Nat.zero_add, pureW_some, bin_leq, bin_eql]
    refine forkW_dec.2 ⟨fun _ => ?_, fun h => absurd (by omega) h⟩
    have rd5 := rd.keeps g15.keeps (by simp)
    have n15 := g15.next
    rcases hs with hs | hs | hs
    · rw [hs]
      refine forkW_beq.2 ⟨fun _ => forkW_dec.2 ⟨fun _ => ?_, fun h => absurd (by omega) h⟩, fun h => absurd rfl h⟩
      simp only [fa_50_2, fa_50_3, ld_4, ld_48, cell_row r5e.row, cellOf, isT_string, isT_int, isT_bool, hone.noT, cond_false, Nat.zero_add, pureW_some, un_not, Bool.not_false]
      refine forkW_bool.2 ⟨fun _ => ?_, fun h => by cases h⟩
      refine bs223 (s := [0]) (by kernel_rfl) g5.fine (by omega) (by decide) fun A6 rd6 m6 => ?_
      have n6 := m6.next
      refine wc150 (rd5.keeps (m6.keeps g5.fine) (by simp)) rd6 m6.fine hl (by omega) fun A7 g7 => ?_
      simp only [un_not, pureW_some]
      refine forkW_bool.2 ⟨fun h => (by cases h), fun _ => ?_⟩
      exact hk A7 (((g15.trans (Grow.made m6 g5.fine)).trans g7).more (by omega))
    · rw [hs]
      refine forkW_beq.2 ⟨fun h => absurd h (by decide), fun _ => forkW_beq.2 ⟨fun _ => forkW_dec.2 ⟨fun _ => ?_, fun h => absurd (by omega) h⟩, fun h => absurd rfl h⟩⟩
      simp only [fa_50_2, fa_50_3, ld_4, ld_48, cell_row r5e.row, cellOf, isT_string, isT_int, isT_bool, hone.noT, cond_false, Nat.zero_add, pureW_some, un_not, Bool.not_false]
      refine forkW_bool.2 ⟨fun _ => ?_, fun h => by cases h⟩
      refine bs223 (s := [0, 1, 2]) (by kernel_rfl) g5.fine (by omega) (by decide) fun A6 rd6 m6 => ?_
      have n6 := m6.next
      refine wc150 (rd5.keeps (m6.keeps g5.fine) (by simp)) rd6 m6.fine hl (by omega) fun A7 g7 => ?_
      simp only [un_not, pureW_some]
      refine forkW_bool.2 ⟨fun h => (by cases h), fun _ => ?_⟩
      exact hk A7 (((g15.trans (Grow.made m6 g5.fine)).trans g7).more (by omega))
    · rw [hs]
      refine forkW_beq.2 ⟨fun h => absurd h (by decide), fun _ => forkW_beq.2 ⟨fun h => absurd h (by decide), fun _ => forkW_beq.2 ⟨fun h => absurd h (by decide), fun _ => forkW_beq.2 ⟨fun _ => forkW_dec.2 ⟨fun _ => ?_, fun h => absurd (by omega) h⟩, fun h => absurd rfl h⟩⟩⟩⟩
      simp only [fa_50_2, fa_50_3, ld_4, ld_48, cell_row r5e.row, cellOf, isT_string, isT_int, isT_bool, hone.noT, cond_false, Nat.zero_add, pureW_some, un_not, Bool.not_false]
      refine forkW_bool.2 ⟨fun _ => ?_, fun h => by cases h⟩
      refine bs223 (s := [0, 1]) (by kernel_rfl) g5.fine (by omega) (by decide) fun A6 rd6 m6 => ?_
      have n6 := m6.next
      obtain ⟨p, r, rfl⟩ := hne
      refine wc151 (rd5.keeps (m6.keeps g5.fine) (by simp)) rd6 m6.fine (by omega) fun A7 g7 => ?_
      simp only [un_not, pureW_some]
      refine forkW_bool.2 ⟨fun h => (by cases h), fun _ => ?_⟩
      exact hk A7 (((g15.trans (Grow.made m6 g5.fine)).trans g7).more (by omega))
theorem wc83 {g : GV} {ps : List Pt} {F : List Nat} {A : AW} {K : Value → AW → Prop} (hp : OwnF 135 4 Pt.cells A g.pv ps F) (hl : ps.length < 100000) (hf : Fine A) (hA : A.next + 10 < maxId)
    (hk : ∀ A' v F', OwnF 135 4 Pt.cells A' v ps F' → (∀ y ∈ F', A.next ≤ y) → Grow A A' 4 → K (vG { g with pv := v }) A') : Wc Tryz.prog theX W0 m0 83 [vG g] A K := by
  have hone := ownF_one hp
  refine w83 _ _ cutn ?_
  rw [e83]
  refine newP_made (cs := g.cells) hf (by omega) (g_one hone) fun A1 m1 => ?_
  have n1 := m1.next
  refine allocP_made zero50 m1.fine (by omega) rfl fun A2 m2 => ?_
  have n2 := m2.next
  have g2 := (Grow.made m1 hf).trans (.made m2 m1.fine)
  have r1 : Go.Abs.Row1 A2 A.next g.cells 50 := (m1.row1).keeps (m2.keeps m1.fine) (by simp)
  have r2 := m2.row1
  have r1e : Go.Abs.Row1 A2 A.next [.int .u32 (g.x.f : Int), .string g.x.g, .string g.x.b, .int .u8 (g.st : Int), .bool false, g.pv, .int .u32 (g.w : Int), .int .u32 (g.t : Int)] 50 := r1
  simp only [fa_50_3, ld_48, cell_row r1e.row, cellOf, isT_string, isT_int, isT_bool, hone.noT, cond_false, Nat.zero_add, pureW_some]
  refine wc66 (hp.keeps g2.keeps (by simp)) m2.fine (by omega) (by omega) fun A3 v F' o3 hF3 g3 => ?_
  have n3 := g3.next
  have hv := ownF_one o3
  refine (r1.keeps g3.keeps (by simp)).store g3.fine (by omega) (st_48 _ _ _) (by obtain ⟨_, _, _, rfl⟩ := hv; rfl) (by simp [GV.cells]) (by obtain ⟨_, _, _, rfl⟩ := hv; rfl) fun A4 r4 k4 n4 f4 => ?_
  have r4 : Go.Abs.Row1 A4 A.next { g with pv := v }.cells 50 := by obtain ⟨_, _, _, rfl⟩ := hv; exact r4
  simp only [ld_g r4 hv, pureW_some]
  refine st_g (g := { g with pv := v }) ((r2.keeps g3.keeps (by simp)).keeps k4 (by simp; omega)) rfl hv f4 (by omega) fun A5 r5 k5 n5 f5 => ?_
  simp only [ld_g r5 hv, pureW_some]
  have hle := g3.le
  refine hk A5 v F' ((o3.keeps k4 (fun x hx => by have := hF3 x hx; simp; omega)).keeps k5 (fun x hx => by have := hF3 x hx; simp; omega)) (fun y hy => by have := hF3 y hy; omega) ?_
  exact ⟨((g2.keeps.trans g3.keeps (by simp)).trans k4 (by simp)).trans k5 (by simp; omega), f5, by omega⟩
theorem wc87 {g : GV} {p : Pt} {ps : List Pt} {F : List Nat} {A : AW} {K : Value → AW → Prop} (hp : OwnF 135 4 Pt.cells A g.pv (p :: ps) F) (hs : g.st = 2 ∨ g.st = 4) (hf : Fine A) (hA : A.next + 10 < maxId)
    (hk : ∀ A', Grow A A' 5 → K (vG g) A') : Wc Tryz.prog theX W0 m0 87 [vG g] A K := by
  have hone := ownF_one hp
  refine w87 _ _ cutn ?_
  rw [e87]
  refine newP_made (cs := g.cells) hf (by omega) (g_one hone) fun A1 m1 => ?_
  have n1 := m1.next
  refine allocP_made zero50 m1.fine (by omega) rfl fun A2 m2 => ?_
  have n2 := m2.next
  have g2 := (Grow.made m1 hf).trans (.made m2 m1.fine)
  have r1 : Go.Abs.Row1 A2 A.next g.cells 50 := (m1.row1).keeps (m2.keeps m1.fine) (by simp)
  have r2 := m2.row1
  have r1e : Go.Abs.Row1 A2 A.next [.int .u32 (g.x.f : Int), .string g.x.g, .string g.x.b, .int .u8 (g.st : Int), .bool false, g.pv, .int .u32 (g.w : Int), .int .u32 (g.t : Int)] 50 := r1
  simp only [fa_50_1, ld_47, cell_row r1e.row, cellOf, isT_string, isT_int, isT_bool, hone.noT, cond_false, Nat.zero_add, pureW_some, bin_eql, ld_g r1 hone]
  rcases hs with hs | hs
  · rw [hs]
    refine forkW_beq.2 ⟨fun h => absurd h (by decide), fun _ => forkW_beq.2 ⟨fun h => absurd h (by decide), fun _ => ?_⟩⟩
    refine st_g r2 rfl hone m2.fine (by omega) fun A3 r3 k3 n3 f3 => ?_
    simp only [ld_g r3 hone, pureW_some]
    exact hk A3 ⟨g2.keeps.trans k3 (by simp; omega), f3, by omega⟩
  · rw [hs]
    refine forkW_beq.2 ⟨fun h => absurd h (by decide), fun _ => forkW_beq.2 ⟨fun _ => ?_, fun h => absurd rfl h⟩⟩
    simp only [fa_50_3, ld_48, cell_row r1e.row, cellOf, isT_string, isT_int, isT_bool, hone.noT, cond_false, Nat.zero_add, pureW_some]
    refine bs223 (s := [0, 1]) (by kernel_rfl) m2.fine (by omega) (by decide) fun A3 rd3 m3 => ?_
    have n3 := m3.next
    have k3 := m3.keeps m2.fine
    refine wc151 (((hp.keeps g2.keeps (by simp)).rd fun _ => rfl).keeps k3 (by simp)) rd3 m3.fine (by omega) fun A4 g4 => ?_
    have n4 := g4.next
    have l4 := g4.le
    simp only [un_not, pureW_some]
    refine forkW_bool.2 ⟨fun h => (by cases h), fun _ => ?_⟩
    have r1 := (r1.keeps k3 (by simp)).keeps g4.keeps (by simp)
    simp only [ld_g r1 hone, pureW_some]
    refine st_g ((r2.keeps k3 (by simp)).keeps g4.keeps (by simp)) rfl hone g4.fine (by omega) fun A5 r5 k5 n5 f5 => ?_
    simp only [ld_g r5 hone, pureW_some]
    refine hk A5 ⟨(((g2.keeps.trans k3 (by simp)).trans g4.keeps (by simp)).trans k5 (by simp; omega)), f5, by omega⟩
end
theorem min_two {k : IntKind} {a b : Int} : minP (.int k a) [.int k b] = some (.int k (if b < a then b else a)) := by simp [minP, minL]
theorem wrap_u32 {n : Int} (h1 : 0 ≤ n) (h2 : n < 4294967296) : IntKind.u32.wrap n = n := by
  have : IntKind.u32.wrap n = n % 4294967296 := by simp [IntKind.wrap, IntKind.bits, IntKind.signed]
  rw [this]; omega
theorem nilP_some (a : Addr) : nilP (.pointer (some a)) = some (.pointer (some a)) := rfl
def tickG (st w t : Nat) : (Nat × Nat × Nat) × Bool := if 0 < w then ((st, w - 1, t), false) else if st = 2 ∧ t = 5 then ((4, 2, 1), true) else ((st, 2, min (t + 1) 5), true)
structure Rw where
  st : Nat
  fr : Nat
  k : Nat
  f : FuncId
def Rw.cells (r : Rw) : List Value := [.int .u8 (r.st : Int), .int .u8 (r.fr : Int), .int .u8 (r.k : Int), .func (.func r.f) #[] #[]]
def rws : List Rw := [⟨2, 0, 1, 153⟩, ⟨3, 1, 2, 154⟩, ⟨4, 0, 3, 154⟩, ⟨4, 1, 3, 154⟩]
theorem etR : ET Tryz.prog 155 159 3 Rw.cells := ⟨by kernel_rfl, by kernel_rfl, by kernel_rfl, ⟨16, by kernel_rfl, by decide⟩, by kernel_rfl, fun _ => rfl, fun _ => rfl, fun _ => rfl⟩
def hit (st : Nat) (r : Rw) : Bool := r.st == st && r.fr == 0
def mlOf (p : Pt) (r : Rw) : Ml := ⟨p.n, r.k, p.x⟩
def mls (st : Nat) (p : Pt) (l : List Rw) : List Ml := (l.filter (hit st)).map (mlOf p)
def kindOf (st : Nat) : Nat := if st = 2 then 1 else 3
def lettersOf (st : Nat) (ps : List Pt) : List Ml := ps.map fun p => ⟨p.n, kindOf st, p.x⟩
theorem mls_all {st : Nat} (hs : st = 2 ∨ st = 4) (p : Pt) : mls st p rws = [⟨p.n, kindOf st, p.x⟩] := by
  rcases hs with rfl | rfl <;> rfl
theorem ba38 (k : Nat) (x : Nm) : buildA Tryz.prog 38 [(0, .int .u8 (k : Int)), (1, .agg ⟨x.cells⟩)] = some (.agg ⟨[.int .u8 (k : Int), .int .u32 (x.f : Int), .string x.g, .string x.b, .int .u8 0, .int .u16 0, .slice none 0 0]⟩) := by kernel_rfl
theorem ba46 (n k : Nat) (x : Nm) : buildA Tryz.prog 46 [(0, .int .u8 (n : Int)), (1, .agg ⟨[.int .u8 (k : Int), .int .u32 (x.f : Int), .string x.g, .string x.b, .int .u8 0, .int .u16 0, .slice none 0 0]⟩)] = some (.agg ⟨(Ml.mk n k x).cells⟩) := by kernel_rfl
theorem newMl {A : AW} {m : Ml} {K : Value → AW → Prop} (hf : Fine A) (h : A.next < maxId) (hk : ∀ A', Made A A' m.cells 46 → K (.slice (some ⟨A.next, 0, none⟩) 1 1) A') : bothW (buildSliceA Tryz.prog A 41 1 [(0, .agg ⟨m.cells⟩)]) K :=
  bs_made (cs := m.cells) (e := 46) (n := 1) (by kernel_rfl) rfl hf h hk
section
variable {W0 : World} {m0 : Inj Tryz.prog}
theorem wc86 {g : GV} {p : Pt} {ps : List Pt} {F : List Nat} {s : Nat} {A : AW} {K : Value → AW → Prop} (hp : OwnF 135 4 Pt.cells A g.pv (p :: ps) F) (hl : (p :: ps).length < 100000) (hs : s = 2 ∨ s = 4) (hf : Fine A) (hA : A.next + 30 < maxId)
    (hk : ∀ A' v F', OwnF 135 4 Pt.cells A' v (p :: ps) F' → (∀ y ∈ F', A.next ≤ y) → Grow A A' 15 → K (vG ⟨g.x, s, v, 0, 0⟩) A') : Wc Tryz.prog theX W0 m0 86 [vG g, .int .u8 (s : Int)] A K := by
  have hone := ownF_one hp
  refine w86 _ _ _ cutn ?_
  rw [e86]
  refine newP_made (cs := g.cells) hf (by omega) (g_one hone) fun A1 m1 => ?_
  have n1 := m1.next
  refine allocP_made zero50 m1.fine (by omega) rfl fun A2 m2 => ?_
  have n2 := m2.next
  have g2 := (Grow.made m1 hf).trans (.made m2 m1.fine)
  have r1 : Go.Abs.Row1 A2 A.next g.cells 50 := (m1.row1).keeps (m2.keeps m1.fine) (by simp)
  have r2 := m2.row1
  simp only [ld_g r1 hone, pureW_some]
  refine wc83 (hp.keeps g2.keeps (by simp)) hl m2.fine (by omega) fun A3 v F' o3 hF3 g3 => ?_
  have n3 := g3.next
  have l3 := g3.le
  have hv := ownF_one o3
  refine st_g (g := { g with pv := v }) (r1.keeps g3.keeps (by simp)) rfl hv g3.fine (by omega) fun A4 r4 k4 n4 f4 => ?_
  simp only [fa_50_1, fa_50_2, fa_50_4, fa_50_5, pureW_some, Nat.zero_add]
  refine r4.store f4 (by omega) (st_47 _ _ _) rfl (by simp [GV.cells]) rfl fun A5 r5 k5 n5 f5 => ?_
  have r5 : Go.Abs.Row1 A5 A.next { g with pv := v, st := s }.cells 50 := r5
  refine r5.store f5 (by omega) (st_22 _ _ _) rfl (by simp [GV.cells]) rfl fun A6 r6 k6 n6 f6 => ?_
  have r6 : Go.Abs.Row1 A6 A.next { g with pv := v, st := s, w := 0 }.cells 50 := r6
  refine r6.store f6 (by omega) (st_22 _ _ _) rfl (by simp [GV.cells]) rfl fun A7 r7 k7 n7 f7 => ?_
  have r7 : Go.Abs.Row1 A7 A.next (GV.mk g.x s v 0 0).cells 50 := r7
  have hb : ((s : Int) == 3) = false := by rcases hs with rfl | rfl <;> rfl
  simp only [bin_eql, pureW_some, hb]
  refine r7.store f7 (by omega) (st_4 _ _ _) rfl (by simp [GV.cells]) rfl fun A8 r8 k8 n8 f8 => ?_
  have r8 : Go.Abs.Row1 A8 A.next (GV.mk g.x s v 0 0).cells 50 := r8
  have K8 : Keeps A3 A8 [A.next] := (((k4.trans k5 (by simp)).trans k6 (by simp)).trans k7 (by simp)).trans k8 (by simp)
  have o8 := o3.keeps K8 (fun x hx => by have := hF3 x hx; simp; omega)
  simp only [ld_g r8 hv, pureW_some]
  refine wc87 (g := ⟨g.x, s, v, 0, 0⟩) o8 hs f8 (by omega) fun A9 g9 => ?_
  have n9 := g9.next
  have l9 := g9.le
  refine st_g (g := ⟨g.x, s, v, 0, 0⟩) (((r2.keeps g3.keeps (by simp)).keeps K8 (by simp; omega)).keeps g9.keeps (by simp)) rfl hv g9.fine (by omega) fun B rB kB nB fB => ?_
  simp only [ld_g rB hv, pureW_some]
  refine hk B v F' ((o8.keeps g9.keeps (by simp)).keeps kB (fun x hx => by have := hF3 x hx; simp; omega)) (fun y hy => by have := hF3 y hy; omega) ⟨?_, fB, by omega⟩
  exact (((g2.keeps.trans g3.keeps (by simp)).trans K8 (by simp)).trans g9.keeps (by simp)).trans kB (by simp; omega)
theorem wc88 {g : GV} {ps : List Pt} {F : List Nat} {A : AW} {K : Value → AW → Prop} (hp : OwnF 135 4 Pt.cells A g.pv ps F) (hl : ps.length < 100000) (hn : ∀ p ∈ ps, p.n < 256) (hs : g.st = 1 ∨ g.st = 2 ∨ g.st = 4) (hw : g.w ≤ 3) (ht : g.t ≤ 5) (hf : Fine A) (hA : A.next + 60 + 20 * ps.length < maxId)
    (hk : ∀ A', Grow A A' (30 + 10 * ps.length) → K (.bool false) A') : Wc Tryz.prog theX W0 m0 88 [vG g] A K := by
  have hone := ownF_one hp
  refine w88 _ _ cutn ?_
  rw [e88]
  refine newP_made (cs := g.cells) hf (by omega) (g_one hone) fun A1 m1 => ?_
  have n1 := m1.next
  have k1 := m1.keeps hf
  have r1 : Go.Abs.Row1 A1 A.next g.cells 50 := m1.row1
  have hp1 := hp.keeps k1 (by simp)
  simp only [ld_g r1 hone, pureW_some]
  refine wc81 hp1 hl hn hs hw ht m1.fine (by omega) fun A2 g2 => ?_
  have n2 := g2.next
  have g12 := (Grow.made m1 hf).trans g2
  have r2 := r1.keeps g2.keeps (by simp)
  have r2e : Go.Abs.Row1 A2 A.next [.int .u32 (g.x.f : Int), .string g.x.g, .string g.x.b, .int .u8 (g.st : Int), .bool false, g.pv, .int .u32 (g.w : Int), .int .u32 (g.t : Int)] 50 := r2
  simp only [bin_eql, pureW_some, fa_50_1, fa_50_3, ld_47, ld_48, cell_row r2e.row, cellOf, isT_string, isT_int, isT_bool, hone.noT, cond_false, Nat.zero_add]
  refine forkW_beq.2 ⟨fun h => forkW_beq.2 ⟨fun _ => ?_, fun _ => hk A2 (g12.more (by omega))⟩, fun _ => hk A2 (g12.more (by omega))⟩
  have hok : okD g.x ps = true := by
    cases ho : okD g.x ps with
    | true => rfl
    | false => rw [ho, if_neg (by simp)] at h; cases h
  refine bs223 (s := [0]) (by kernel_rfl) g2.fine (by omega) (by decide) fun A3 rd3 m3 => ?_
  have n3 := m3.next
  cases ps with
  | nil => unfold okD at hok; simp at hok
  | cons p r =>
    refine wc151 (((hp.keeps g12.keeps (by simp)).rd fun _ => rfl).keeps (m3.keeps g2.fine) (by simp)) rd3 m3.fine (by omega) fun A4 g4 => ?_
    simp only [un_not, pureW_some]
    exact hk A4 (((g12.trans (Grow.made m3 g2.fine)).trans g4).more (by omega))
theorem wc44 {g : GV} {p : Pt} {ps : List Pt} {F : List Nat} {A : AW} {K : Value → AW → Prop} (hp : OwnF 135 4 Pt.cells A g.pv (p :: ps) F) (hl : (p :: ps).length < 100000) (hn : ∀ q ∈ p :: ps, q.n < 256) (hs : g.st = 1) (hw : g.w ≤ 3) (ht : g.t ≤ 5) (hok : okD g.x (p :: ps) = true) (hf : Fine A) (hA : A.next + 90 + 20 * (p :: ps).length < maxId)
    (hk : ∀ A' v F', OwnF 135 4 Pt.cells A' v (p :: ps) F' → (∀ y ∈ F', A.next ≤ y) → Grow A A' (40 + 10 * (p :: ps).length) → K (.tuple ⟨[vG ⟨g.x, 2, v, 0, 0⟩, .int .i64 0]⟩) A') : Wc Tryz.prog theX W0 m0 44 [vG g, .bool true] A K := by
  have hone := ownF_one hp
  refine w44 _ _ _ cutn ?_
  rw [e44]
  refine newP_made (cs := g.cells) hf (by omega) (g_one hone) fun A1 m1 => ?_
  have n1 := m1.next
  refine allocP_made zero50 m1.fine (by omega) rfl fun A2 m2 => ?_
  have n2 := m2.next
  have g2 := (Grow.made m1 hf).trans (.made m2 m1.fine)
  have r1 : Go.Abs.Row1 A2 A.next g.cells 50 := (m1.row1).keeps (m2.keeps m1.fine) (by simp)
  have r2 := m2.row1
  simp only [ld_g r1 hone, pureW_some]
  refine wc81 (hp.keeps g2.keeps (by simp)) hl hn (.inl hs) hw ht m2.fine (by omega) fun A3 g3 => ?_
  have n3 := g3.next
  have l3 := g3.le
  have g13 := g2.trans g3
  have r3 := r1.keeps g3.keeps (by simp)
  have r3e : Go.Abs.Row1 A3 A.next [.int .u32 (g.x.f : Int), .string g.x.g, .string g.x.b, .int .u8 (g.st : Int), .bool false, g.pv, .int .u32 (g.w : Int), .int .u32 (g.t : Int)] 50 := r3
  rw [if_pos hok]
  simp only [bin_neq, pureW_some, fa_50_1, ld_47, cell_row r3e.row, cellOf, isT_string, isT_int, isT_bool, hone.noT, cond_false, Nat.zero_add, hs, ld_g r3 hone]
  refine forkW_bne.2 ⟨fun h => absurd rfl h, fun _ => forkW_bne.2 ⟨fun h => absurd rfl h, fun _ => forkW_bool.2 ⟨fun _ => ?_, fun h => by cases h⟩⟩⟩
  refine wc86 (s := 2) (hp.keeps g13.keeps (by simp)) hl (.inl rfl) g3.fine (by omega) fun A4 v F' o4 hF4 g4 => ?_
  have n4 := g4.next
  have l4 := g4.le
  have hv := ownF_one o4
  refine st_g (g := ⟨g.x, 2, v, 0, 0⟩) ((r2.keeps g3.keeps (by simp)).keeps g4.keeps (by simp)) rfl hv g4.fine (by omega) fun A5 r5 k5 n5 f5 => ?_
  simp only [ld_g r5 hv, pureW_some]
  refine hk A5 v F' (o4.keeps k5 (fun x hx => by have := hF4 x hx; simp; omega)) (fun y hy => by have := hF4 y hy; omega) ⟨?_, f5, by omega⟩
  exact ((g13.keeps.trans g4.keeps (by simp))).trans k5 (by simp; omega)
theorem wc46 {g : GV} {p : Pt} {ps : List Pt} {F : List Nat} {A : AW} {K : Value → AW → Prop} (hp : OwnF 135 4 Pt.cells A g.pv (p :: ps) F) (hl : (p :: ps).length < 100000) (hn : ∀ q ∈ p :: ps, q.n < 256) (hs : g.st = 2 ∨ g.st = 4) (hw : g.w ≤ 3) (ht : g.t ≤ 5) (hok : okD g.x (p :: ps) = true) (hf : Fine A) (hA : A.next + 90 + 20 * (p :: ps).length < maxId)
    (hk : ∀ A' v F', OwnF 135 4 Pt.cells A' v (p :: ps) F' → (∀ y ∈ F', A.next ≤ y) → Grow A A' (45 + 10 * (p :: ps).length) → K (.tuple ⟨[vG ⟨g.x, (tickG g.st g.w g.t).1.1, v, (tickG g.st g.w g.t).1.2.1, (tickG g.st g.w g.t).1.2.2⟩, .bool (tickG g.st g.w g.t).2, .int .i64 0]⟩) A') : Wc Tryz.prog theX W0 m0 46 [vG g] A K := by
  have hone := ownF_one hp
  refine w46 _ _ cutn ?_
  rw [e46]
  refine newP_made (cs := g.cells) hf (by omega) (g_one hone) fun A1 m1 => ?_
  have n1 := m1.next
  refine allocP_made zero50 m1.fine (by omega) rfl fun A2 m2 => ?_
  have n2 := m2.next
  have g2 := (Grow.made m1 hf).trans (.made m2 m1.fine)
  have r1 : Go.Abs.Row1 A2 A.next g.cells 50 := (m1.row1).keeps (m2.keeps m1.fine) (by simp)
  have r2 := m2.row1
  simp only [ld_g r1 hone, pureW_some]
  refine wc81 (hp.keeps g2.keeps (by simp)) hl hn (.inr hs) hw ht m2.fine (by omega) fun A3 g3 => ?_
  have n3 := g3.next
  have l3 := g3.le
  have g13 := g2.trans g3
  have r3 := r1.keeps g3.keeps (by simp)
  rw [if_pos hok]
  simp only [bin_neq, pureW_some, ld_g r3 hone]
  refine forkW_bne.2 ⟨fun h => absurd rfl h, fun _ => ?_⟩
  refine wc83 (hp.keeps g13.keeps (by simp)) hl g3.fine (by omega) fun A4 v F' o4 hF4 g4 => ?_
  have n4 := g4.next
  have l4 := g4.le
  have hv := ownF_one o4
  refine st_g (g := { g with pv := v }) (r3.keeps g4.keeps (by simp)) rfl hv g4.fine (by omega) fun A5 r5 k5 n5 f5 => ?_
  have r5e : Go.Abs.Row1 A5 A.next [.int .u32 (g.x.f : Int), .string g.x.g, .string g.x.b, .int .u8 (g.st : Int), .bool false, v, .int .u32 (g.w : Int), .int .u32 (g.t : Int)] 50 := r5
  have o5 := o4.keeps k5 (fun x hx => by have := hF4 x hx; simp; omega)
  have K5 : Keeps A A5 [] := ((g13.keeps.trans g4.keeps (by simp))).trans k5 (by simp)
  have r25 := ((r2.keeps g3.keeps (by simp)).keeps g4.keeps (by simp)).keeps k5 (by simp; omega)
  have hn1 : ((g.st : Int) == 1) = false := by rcases hs with h | h <;> rw [h] <;> rfl
  have hn5 : ((g.st : Int) == 5) = false := by rcases hs with h | h <;> rw [h] <;> rfl
  simp only [fa_50_1, fa_50_4, fa_50_5, ld_47, ld_22, cell_row r5e.row, cellOf, isT_string, isT_int, isT_bool, hv.noT, cond_false, Nat.zero_add, pureW_some, bin_eql, bin_gtr, hn1, hn5]
  refine forkW_bool.2 ⟨fun h => (by cases h), fun _ => forkW_bool.2 ⟨fun h => (by cases h), fun _ => forkW_dec.2 ⟨fun hw0 => ?_, fun hw0 => ?_⟩⟩⟩
  · have hT : tickG g.st g.w g.t = ((g.st, g.w - 1, g.t), false) := by unfold tickG; rw [if_pos (by omega)]
    rw [hT] at hk
    simp only [bin_sub, pureW_some]
    rw [wrap_u32 (n := (g.w : Int) - 1) (by omega) (by omega), show (g.w : Int) - 1 = ((g.w - 1 : Nat) : Int) by omega]
    refine r5.store f5 (by omega) (st_22 _ _ _) rfl (by simp [GV.cells]) rfl fun A6 r6 k6 n6 f6 => ?_
    have r6 : Go.Abs.Row1 A6 A.next (GV.mk g.x g.st v (g.w - 1) g.t).cells 50 := r6
    simp only [ld_g r6 hv, pureW_some]
    refine st_g (g := ⟨g.x, g.st, v, g.w - 1, g.t⟩) (r25.keeps k6 (by simp; omega)) rfl hv f6 (by omega) fun A7 r7 k7 n7 f7 => ?_
    simp only [ld_g r7 hv, pureW_some]
    exact hk A7 v F' ((o5.keeps k6 (fun x hx => by have := hF4 x hx; simp; omega)).keeps k7 (fun x hx => by have := hF4 x hx; simp; omega)) (fun y hy => by have := hF4 y hy; omega) ⟨(K5.trans k6 (by simp)).trans k7 (by simp; omega), f7, by omega⟩
  · -- what stands at the end, whatever state was there
    have htail : ∀ (B : AW) (st t : Nat) (v : Value) (F' : List Nat), st < 256 → t ≤ 5 → OwnF 135 4 Pt.cells B v (p :: ps) F' → (∀ y ∈ F', A.next + 2 ≤ y) → Go.Abs.Row1 B A.next (GV.mk g.x st v 0 t).cells 50 → (∃ cs, Go.Abs.Row1 B A1.next cs 50 ∧ cs.length = 8) → Fine B → Keeps A B [] → B.next + 2 < maxId → B.next ≤ A.next + (45 + 10 * (p :: ps).length) →
        tickG g.st g.w g.t = ((st, 2, min (t + 1) 5), true) →
        pureW (binA Tryz.prog .add 22 (.tmp 46) (.const (.int .u32 1)) (.int .u32 (t : Int)) (.int .u32 1)) fun t51 => pureW (minP t51 [(.int .u32 5)]) fun t52 => effW (storeP Tryz.prog B 22 (.pointer (some ⟨A.next, 6, none⟩)) (.int .u32 2)) fun At54 => effW (storeP Tryz.prog At54 22 (.pointer (some ⟨A.next, 7, none⟩)) t52) fun At56 => pureW (loadP Tryz.prog At56 50 (.pointer (some ⟨A.next, 0, none⟩))) fun t57 => effW (storeP Tryz.prog At56 50 (.pointer (some ⟨A1.next, 0, none⟩)) t57) fun At58 => pureW (loadP Tryz.prog At58 50 (.pointer (some ⟨A1.next, 0, none⟩))) fun t59 => K (.tuple ⟨[t59, (.bool true), (.int .i64 0)]⟩) At58 := by
      intro B st t v F' hst ht5 oB hFB rB ⟨cs, rB2, hcs⟩ fB KB hB nB hT
      have hv := ownF_one oB
      rw [hT] at hk
      have hmin : (if (5 : Int) < ((t + 1 : Nat) : Int) then (5 : Int) else ((t + 1 : Nat) : Int)) = ((min (t + 1) 5 : Nat) : Int) := by split <;> omega
      simp only [pureW_some, bin_add]
      rw [wrap_u32 (n := (t : Int) + 1) (by omega) (by omega), show (t : Int) + 1 = ((t + 1 : Nat) : Int) by omega]
      simp only [min_two, pureW_some]
      rw [hmin]
      refine rB.store fB (by omega) (st_22 _ _ _) rfl (by simp [GV.cells]) rfl fun B1 r1 k1 n1 f1 => ?_
      have r1 : Go.Abs.Row1 B1 A.next (GV.mk g.x st v 2 t).cells 50 := r1
      refine r1.store f1 (by omega) (st_22 _ _ _) rfl (by simp [GV.cells]) rfl fun B2 r2 k2 n2 f2 => ?_
      have r2 : Go.Abs.Row1 B2 A.next (GV.mk g.x st v 2 (min (t + 1) 5)).cells 50 := r2
      simp only [ld_g r2 hv, pureW_some]
      refine st_g (g := ⟨g.x, st, v, 2, min (t + 1) 5⟩) ((rB2.keeps k1 (by simp; omega)).keeps k2 (by simp; omega)) hcs hv f2 (by omega) fun B3 r3 k3 n3 f3 => ?_
      simp only [ld_g r3 hv, pureW_some]
      exact hk B3 v F' (((oB.keeps k1 (fun x hx => by have := hFB x hx; simp; omega)).keeps k2 (fun x hx => by have := hFB x hx; simp; omega)).keeps k3 (fun x hx => by have := hFB x hx; simp; omega)) (fun y hy => by have := hFB y hy; omega) ⟨((KB.trans k1 (by simp)).trans k2 (by simp)).trans k3 (by simp; omega), f3, by omega⟩
    have hw0 : g.w = 0 := by omega
    have r5' : Go.Abs.Row1 A5 A.next (GV.mk g.x g.st v 0 g.t).cells 50 := by
      have h := r5
      rw [show ({ g with pv := v } : GV) = ⟨g.x, g.st, v, 0, g.t⟩ by rw [← hw0]] at h
      exact h
    refine forkW_beq.2 ⟨fun h2 => forkW_beq.2 ⟨fun h5 => ?_, fun h5 => ?_⟩, fun h2 => ?_⟩
    · simp only [ld_g r5 hv, pureW_some]
      refine wc86 (g := { g with pv := v }) (s := 4) o5 hl (.inr rfl) f5 (by omega) fun A6 v6 F6 o6 hF6 g6 => ?_
      have n6 := g6.next
      have l6 := g6.le
      have hv6 := ownF_one o6
      refine st_g (g := ⟨g.x, 4, v6, 0, 0⟩) (r5.keeps g6.keeps (by simp)) rfl hv6 g6.fine (by omega) fun A7 r7 k7 n7 f7 => ?_
      have r7e : Go.Abs.Row1 A7 A.next [.int .u32 (g.x.f : Int), .string g.x.g, .string g.x.b, .int .u8 ((4 : Nat) : Int), .bool false, v6, .int .u32 ((0 : Nat) : Int), .int .u32 ((0 : Nat) : Int)] 50 := r7
      simp only [cell_row r7e.row, cellOf, isT_string, isT_int, isT_bool, hv6.noT, cond_false, pureW_some, bin_eql]
      refine forkW_beq.2 ⟨fun h => absurd h (by decide), fun _ => ?_⟩
      refine htail A7 4 0 v6 F6 (by omega) (by omega) (o6.keeps k7 (fun x hx => by have := hF6 x hx; simp; omega)) (fun y hy => by have := hF6 y hy; omega) r7 ⟨_, (r25.keeps g6.keeps (by simp)).keeps k7 (by simp; omega), rfl⟩ f7 ((K5.trans g6.keeps (by simp)).trans k7 (by simp)) (by omega) (by omega) ?_
      unfold tickG
      rw [if_neg (by omega), if_pos ⟨by omega, by omega⟩]
      rfl
    · refine htail A5 g.st g.t v F' (by omega) ht o5 (fun y hy => by have := hF4 y hy; omega) r5' ⟨_, r25, rfl⟩ f5 K5 (by omega) (by omega) ?_
      unfold tickG
      rw [if_neg (by omega), if_neg (by omega)]
    · refine htail A5 g.st g.t v F' (by omega) ht o5 (fun y hy => by have := hF4 y hy; omega) r5' ⟨_, r25, rfl⟩ f5 K5 (by omega) (by omega) ?_
      unfold tickG
      rw [if_neg (by omega), if_neg (by omega)]
end
theorem ba159_0 : buildA Tryz.prog 159 [(0, .int .u8 2), (1, .int .u8 0), (2, .int .u8 1), (3, .func (.func 153) #[] #[])] = some (.agg ⟨(Rw.mk 2 0 1 153).cells⟩) := by kernel_rfl
theorem ba159_1 : buildA Tryz.prog 159 [(0, .int .u8 3), (1, .int .u8 1), (2, .int .u8 2), (3, .func (.func 154) #[] #[])] = some (.agg ⟨(Rw.mk 3 1 2 154).cells⟩) := by kernel_rfl
theorem ba159_2 : buildA Tryz.prog 159 [(0, .int .u8 4), (1, .int .u8 0), (2, .int .u8 3), (3, .func (.func 154) #[] #[])] = some (.agg ⟨(Rw.mk 4 0 3 154).cells⟩) := by kernel_rfl
theorem ba159_3 : buildA Tryz.prog 159 [(0, .int .u8 4), (1, .int .u8 1), (2, .int .u8 3), (3, .func (.func 154) #[] #[])] = some (.agg ⟨(Rw.mk 4 1 3 154).cells⟩) := by kernel_rfl
theorem bs155 (A : AW) : buildSliceA Tryz.prog A 155 4 [(0, .agg ⟨(Rw.mk 2 0 1 153).cells⟩), (1, .agg ⟨(Rw.mk 3 1 2 154).cells⟩), (2, .agg ⟨(Rw.mk 4 0 3 154).cells⟩), (3, .agg ⟨(Rw.mk 4 1 3 154).cells⟩)] = (match A.newRow (flat Rw.cells rws) 159 with | some (a, w') => .ok (.slice (some a) 4 4) w' | none => .fail "buildSlice new") := by kernel_rfl
section
variable {W0 : World} {m0 : Inj Tryz.prog}
theorem wc85 {A : AW} {K : Value → AW → Prop} (hf : Fine A) (hA : A.next < maxId) (hk : ∀ A', RdE 3 Rw.cells A' (.slice (some ⟨A.next, 0, none⟩) 4 4) rws [A.next] → Grow A A' 1 → K (.slice (some ⟨A.next, 0, none⟩) 4 4) A') : Wc Tryz.prog theX W0 m0 85 [] A K := by
  refine w85 _ cutn ?_
  rw [e85]
  simp only [ba159_0, ba159_1, ba159_2, ba159_3, pureW_some]
  refine bs_made (bs155 A) rfl hf hA fun A1 m1 => ?_
  exact hk A1 ((ownF_made (l := rws) m1 (by decide)).rd fun _ => rfl) (Grow.made m1 hf)
theorem hit_k (st : Nat) (r : Rw) : ((r.st : Int) == (st : Int)) = (r.st == st) := by
  rw [Bool.eq_iff_iff, beq_iff_eq, beq_iff_eq]; exact Int.ofNat_inj
theorem hit_0 (r : Rw) : ((r.fr : Int) == 0) = (r.fr == 0) := by
  rw [Bool.eq_iff_iff, beq_iff_eq, beq_iff_eq]; omega
theorem mls_snoc (st : Nat) (p : Pt) (l : List Rw) (r : Rw) : mls st p (l ++ [r]) = mls st p l ++ (if hit st r = true then [mlOf p r] else []) := by
  unfold mls
  rw [List.filter_append, List.map_append]
  congr 1
  by_cases h : hit st r = true
  · rw [if_pos h]; simp [h]
  · rw [if_neg h]; simp [h]
theorem wc98 {g : GV} {ps : List Pt} {F : List Nat} {A : AW} {K : Value → AW → Prop} (hp : OwnF 135 4 Pt.cells A g.pv ps F) (hl : ps.length < 10000) (hn : ∀ q ∈ ps, q.n < 256) (hs : g.st = 2 ∨ g.st = 4) (hw : g.w ≤ 3) (ht : g.t ≤ 5) (hok : okD g.x ps = true) (hf : Fine A) (hA : A.next + 90 + 50 * ps.length < maxId)
    (hk : ∀ A' v F', OwnE 46 7 Ml.cells A' v (lettersOf g.st ps) F' → (∀ y ∈ F', A.next ≤ y) → Grow A A' (30 + 40 * ps.length) → K v A') : Wc Tryz.prog theX W0 m0 98 [vG g] A K := by
  have hone := ownF_one hp
  have hrd := hp.rd fun _ => rfl
  obtain ⟨ov, cv, hpv⟩ := hrd.slice
  let I : Nat → Nat → List Value → AW → Prop := fun n id vals A' => ∃ (i : Nat) (out : Value) (Fo : List Nat), i ≤ ps.length ∧ (∀ y ∈ Fo, A.next + 1 ≤ y) ∧ Go.Abs.Row1 A' A.next g.cells 50 ∧ Fine A' ∧ Keeps A A' [] ∧
    ((id = 0 ∧ vals = [.pointer (some ⟨A.next, 0, none⟩), out, g.pv, .int .i64 (ps.length : Int), .int .i64 (i : Int)] ∧ OwnE 46 7 Ml.cells A' out (lettersOf g.st (ps.take i)) Fo ∧ A'.next ≤ A.next + (30 + 10 * ps.length) + 30 * i ∧ n = (ps.length - i) * 10) ∨
    (∃ (p : Pt) (q j : Nat) (rv : Value) (Fr : List Nat), id = 2 ∧ vals = [.pointer (some ⟨A.next, 0, none⟩), out, .pointer (some ⟨q, 0, none⟩), g.pv, .int .i64 (ps.length : Int), .int .i64 (i : Int), rv, .int .i64 4, .int .i64 (j : Int)] ∧ ps[i]? = some p ∧ j ≤ 4 ∧
      OwnE 46 7 Ml.cells A' out (lettersOf g.st (ps.take i) ++ mls g.st p (rws.take j)) Fo ∧ Go.Abs.Row1 A' q p.cells 135 ∧ A.next < q ∧ RdE 3 Rw.cells A' rv rws Fr ∧ (∀ y ∈ Fr, A.next < y ∧ y ≠ q ∧ y ∉ Fo) ∧ q ∉ Fo ∧ A'.next ≤ A.next + (30 + 10 * ps.length) + 30 * i + 2 + 4 * j ∧ n = (ps.length - i) * 10 - 1 - j))
  refine w98 _ _ (c98 (I := I) ?_) ?_
  · rintro n id vals A' d ⟨i, out, Fo, hi, hFo, r1, fA, KA, ⟨rfl, rfl, ho, nx, rfl⟩ | ⟨p, q, j, rv, Fr, rfl, rfl, hpi, hj, ho, rq, hq, hrv, hFr, hqo, nx, rfl⟩⟩ hd
    · rw [l98_0]
      simp only [L98, List.map_cons, List.map_nil, List.cons.injEq, and_true] at hd
      obtain ⟨d1, d3, d12, d13, d14⟩ := hd
      have hle := KA.next
      simp only [d1, d3, d12, d13, d14, bin_lss, pureW_some, forkW_dec]
      refine ⟨fun hlt => ?_, fun hge => ?_⟩
      · have hlt : i < ps.length := by omega
        have hpi := List.getElem?_eq_getElem hlt
        generalize ps[i] = p at hpi
        obtain ⟨r, o, a1, _, a2⟩ := (hrd.keeps KA (by simp)).at etP hpi
        simp only [a1, a2, pureW_some]
        have r1lt := r1.lt
        refine allocP_made zero135 fA (by omega) rfl fun A2 m2 => ?_
        have n2 := m2.next
        have k2 := m2.keeps fA
        refine m2.row1.store m2.fine (by omega) (st_135 _ _ _) rfl (by simp [Value.cells, Pt.cells]) rfl fun A3 r3 k3 n3 f3 => ?_
        have K3 : Keeps A' A3 [] := k2.trans k3 (by simp)
        have r3 : Go.Abs.Row1 A3 A'.next p.cells 135 := r3
        refine wc85 f3 (by omega) fun A4 rd4 g4 => ?_
        have n4 := g4.next
        have hlen := rd4.len (B := A4) etR
        simp only [hlen, pureW_some]
        have ho4 := (ho.keeps K3 (by simp)).keeps g4.keeps (by simp)
        have holt := ho.lt
        refine cutW_self.2 ⟨(ps.length - i) * 10 - 1 - 0, by omega, i, out, Fo, hi, hFo, (r1.keeps K3 (by simp)).keeps g4.keeps (by simp), g4.fine, (KA.trans K3 (by simp)).trans g4.keeps (by simp), .inr ⟨p, A'.next, 0, _, _, rfl, rfl, hpi, by omega, ?_, r3.keeps g4.keeps (by simp), by omega, rd4, ?_, fun h => by have := holt _ h; omega, by omega, rfl⟩⟩
        · show OwnE 46 7 Ml.cells A4 out (lettersOf g.st (ps.take i) ++ []) Fo
          rw [List.append_nil]; exact ho4
        · intro y hy
          have := List.mem_singleton.1 hy
          exact ⟨by omega, by omega, fun h => by have := holt _ h; omega⟩
      · have hia : i = ps.length := by omega
        subst hia
        rw [List.take_length] at ho
        exact hk A' out Fo ho (fun y hy => by have := hFo y hy; omega) ⟨KA, fA, by omega⟩
    · rw [l98_2]
      simp only [L98, List.map_cons, List.map_nil, List.cons.injEq, and_true] at hd
      obtain ⟨d1, d3, d5, d12, d13, d14, d18, d19, d20⟩ := hd
      have hle := KA.next
      have hlt : i < ps.length := (List.getElem?_eq_some_iff.1 hpi).1
      have r1lt := r1.lt
      have holt := ho.lt
      simp only [d1, d3, d5, d12, d13, d14, d18, d19, d20, bin_lss, pureW_some, forkW_dec]
      refine ⟨fun hjlt => ?_, fun hge => ?_⟩
      · have hj4 : j < rws.length := by show j < 4; omega
        have hrj := List.getElem?_eq_getElem hj4
        generalize rws[j] = r at hrj
        obtain ⟨rr, o, a1, _, a2⟩ := hrv.at etR hrj
        simp only [a1, a2, pureW_some]
        refine allocP_made zero159 fA (by omega) rfl fun A2 m2 => ?_
        have n2 := m2.next
        have k2 := m2.keeps fA
        refine m2.row1.store m2.fine (by omega) (st_159 _ _ _) rfl (by simp [Value.cells, Rw.cells]) rfl fun A3 r3 k3 n3 f3 => ?_
        have K3 : Keeps A' A3 [] := k2.trans k3 (by simp)
        have r3 : Go.Abs.Row1 A3 A'.next [.int .u8 (r.st : Int), .int .u8 (r.fr : Int), .int .u8 (r.k : Int), .func (.func r.f) #[] #[]] 159 := r3
        have rg := r1.keeps K3 (by simp)
        have rge : Go.Abs.Row1 A3 A.next [.int .u32 (g.x.f : Int), .string g.x.g, .string g.x.b, .int .u8 (g.st : Int), .bool false, g.pv, .int .u32 (g.w : Int), .int .u32 (g.t : Int)] 50 := rg
        have rq3 := rq.keeps K3 (by simp)
        have rqe : Go.Abs.Row1 A3 q [.int .u8 (p.n : Int), .int .u32 (p.x.f : Int), .string p.x.g, .string p.x.b, .int .u8 0] 135 := rq3
        have hxp : loadP Tryz.prog A3 24 (.pointer (some ⟨q, 1, none⟩)) = some (.agg ⟨p.x.cells⟩) := ld_name (pre := [.int .u8 (p.n : Int)]) (post := [.int .u8 0]) rqe
        simp only [fa_159_0, fa_159_1, fa_159_2, fa_50_1, fa_135_0, fa_135_1, fa_135_2, ld_47, ld_133, ld_5, cell_row r3.row, cell_row rge.row, cell_row rqe.row, cellOf, isT_string, isT_int, isT_bool, hone.noT, cond_false, Nat.zero_add, pureW_some, bin_eql, hit_k, hit_0, hxp, ba38, ba46, bin_add]
        rw [wrap_i64 (n := (j : Int) + 1) (by omega) (by omega)]
        have hsn : mls g.st p (rws.take (j + 1)) = mls g.st p (rws.take j) ++ (if hit g.st r = true then [mlOf p r] else []) := by
          rw [List.take_add_one, hrj]; exact mls_snoc _ _ _ _
        have hno : hit g.st r = false → cutW (T98 2) (T98 2) (∃ g2, g2 < (ps.length - i) * 10 - 1 - j ∧ I g2 2 [.pointer (some ⟨A.next, 0, none⟩), out, .pointer (some ⟨q, 0, none⟩), g.pv, .int .i64 (ps.length : Int), .int .i64 (i : Int), rv, .int .i64 4, .int .i64 ((j : Int) + 1)] A3) := fun hh => by
          refine cutW_self.2 ⟨(ps.length - i) * 10 - 1 - (j + 1), by omega, i, out, Fo, hi, hFo, rg, f3, KA.trans K3 (by simp), .inr ⟨p, q, j + 1, rv, Fr, rfl, rfl, hpi, by omega, ?_, rq3, hq, hrv.keeps K3 (by simp), hFr, hqo, by omega, rfl⟩⟩
          rw [hsn, if_neg (by rw [hh]; simp), List.append_nil]
          exact ho.keeps K3 (by simp)
        refine forkW_bool.2 ⟨fun h1 => forkW_bool.2 ⟨fun h2 => ?_, fun h2 => hno (by unfold hit; rw [h1, h2]; rfl)⟩, fun h1 => hno (by unfold hit; rw [h1]; rfl)⟩
        have hh : hit g.st r = true := by unfold hit; rw [h1, h2]; rfl
        refine newMl (m := ⟨p.n, r.k, p.x⟩) f3 (by omega) fun A4 m4 => ?_
        have n4 := m4.next
        have k4 := m4.keeps f3
        have K4 : Keeps A' A4 [] := K3.trans k4 (by simp)
        have hlen2 : (lettersOf g.st (ps.take i) ++ mls g.st p (rws.take j)).length < 1000000 := by
          have h1 : (lettersOf g.st (ps.take i)).length ≤ i := by unfold lettersOf; rw [List.length_map, List.length_take]; omega
          have h2 : (mls g.st p (rws.take j)).length ≤ j := by unfold mls; rw [List.length_map]; exact Nat.le_trans (List.length_filter_le _ _) (by rw [List.length_take]; omega)
          rw [List.length_append]; omega
        refine OwnE.append etM (ho.keeps K4 (by simp)) m4.row1 m4.fine (by omega) hlen2 fun out5 A5 F5 o5 k5 hF5 n5 f5 => ?_
        refine cutW_self.2 ⟨(ps.length - i) * 10 - 1 - (j + 1), by omega, i, out5, F5, hi, fun y hy => ?_, (rg.keeps k4 (by simp)).keeps k5 (fun h => by have := hFo _ h; omega), f5, (KA.trans K4 (by simp)).trans k5 (fun x hx => .inr (by have := hFo x hx; omega)), .inr ⟨p, q, j + 1, rv, Fr, rfl, rfl, hpi, by omega, ?_, (rq3.keeps k4 (by simp)).keeps k5 hqo, hq, (hrv.keeps K4 (by simp)).keeps k5 (fun y hy => (hFr y hy).2.2), fun y hy => ?_, fun h => ?_, by omega, rfl⟩⟩
        · rcases hF5 y hy with h | h
          · exact hFo y h
          · omega
        · rw [hsn, if_pos hh, ← List.append_assoc]
          exact o5
        · refine ⟨(hFr y hy).1, (hFr y hy).2.1, fun h => ?_⟩
          rcases hF5 y h with h | h
          · exact (hFr y hy).2.2 h
          · have := hrv.fam y hy; omega
        · have hqlt := rq.lt
          rcases hF5 q h with h | h
          · exact hqo h
          · omega
      · have hj4 : j = 4 := by omega
        subst hj4
        simp only [bin_add, pureW_some]
        rw [wrap_i64 (n := (i : Int) + 1) (by omega) (by omega)]
        refine cutW_self.2 ⟨(ps.length - (i + 1)) * 10, by omega, i + 1, out, Fo, by omega, hFo, r1, fA, KA, .inl ⟨rfl, rfl, ?_, by omega, rfl⟩⟩
        have e : rws.take 4 = rws := rfl
        rw [e, mls_all hs] at ho
        have : lettersOf g.st (ps.take (i + 1)) = lettersOf g.st (ps.take i) ++ [⟨p.n, kindOf g.st, p.x⟩] := by
          rw [List.take_add_one, hpi]; unfold lettersOf; simp
        rw [this]
        exact ho
  · rw [e98]
    refine newP_made (cs := g.cells) hf (by omega) (g_one hone) fun A1 m1 => ?_
    have n1 := m1.next
    have k1 := m1.keeps hf
    have r1 : Go.Abs.Row1 A1 A.next g.cells 50 := m1.row1
    simp only [ld_g r1 hone, pureW_some]
    refine wc81 (hp.keeps k1 (by simp)) (by omega) hn (.inr hs) hw ht m1.fine (by omega) fun A2 g2 => ?_
    have n2 := g2.next
    have r2 := r1.keeps g2.keeps (by simp)
    have r2e : Go.Abs.Row1 A2 A.next [.int .u32 (g.x.f : Int), .string g.x.g, .string g.x.b, .int .u8 (g.st : Int), .bool false, g.pv, .int .u32 (g.w : Int), .int .u32 (g.t : Int)] 50 := r2
    rw [if_pos hok]
    simp only [bin_neq, pureW_some]
    refine forkW_bne.2 ⟨fun h => absurd rfl h, fun _ => ?_⟩
    simp only [fa_50_3, ld_48, cell_row r2e.row, cellOf, isT_string, isT_int, isT_bool, hone.noT, cond_false, Nat.zero_add, pureW_some, (hrd.keeps (k1.trans g2.keeps (by simp)) (by simp)).len (B := A2) etP]
    exact cutW_self.2 ⟨(ps.length - 0) * 10, 0, .slice none 0 0, [], by omega, by simp, r2, g2.fine, k1.trans g2.keeps (by simp), .inl ⟨rfl, rfl, .nil _, by omega, rfl⟩⟩
def CR (A : AW) (c lg dk rm am sr : Nat) (out : Value) : Prop := Go.Abs.Row1 A c [.pointer (some ⟨lg, 0, none⟩), .pointer (some ⟨dk, 0, none⟩), .int .i64 8, .map (some rm), .int .u64 (sr : Int), .map (some am), out, .bool false] 79
theorem letters_len (st : Nat) (ps : List Pt) : (lettersOf st ps).length = ps.length := by unfold lettersOf; rw [List.length_map]
theorem ownE_one {te : TypeId} {n : Nat} {β : Type} {f : β → List Value} {A : AW} {v : Value} {l : List β} {F : List Nat} (h : OwnE te n f A v l F) : OneC v := by
  rcases h with ⟨rfl, _⟩ | ⟨_, _, rfl, _⟩
  · exact ⟨_, _, _, rfl⟩
  · exact ⟨_, _, _, rfl⟩
theorem wc47 {g : GV} {ps : List Pt} {F Fo : List Nat} {c lg dk rm am sr : Nat} {out : Value} {L : List Ml} {A : AW} {K : Value → AW → Prop} (hc : CR A c lg dk rm am sr out) (ho : OwnE 46 7 Ml.cells A out L Fo) (hco : c ∉ Fo) (hL : L.length < 1000) (hp : OwnF 135 4 Pt.cells A g.pv ps F) (hl : ps.length < 10000) (hn : ∀ q ∈ ps, q.n < 256) (hs : g.st = 2 ∨ g.st = 4) (hw : g.w ≤ 3) (ht : g.t ≤ 5) (hok : okD g.x ps = true) (hf : Fine A) (hA : A.next + 100 + 50 * ps.length < maxId)
    (hk : ∀ A' out' Fo', CR A' c lg dk rm am sr out' → OwnE 46 7 Ml.cells A' out' (L ++ lettersOf g.st ps) Fo' → (∀ y ∈ Fo', y ∈ Fo ∨ A.next ≤ y) → Keeps A A' (c :: Fo) → A'.next ≤ A.next + (35 + 40 * ps.length) → Fine A' → K (.tuple ⟨[]⟩) A') : Wc Tryz.prog theX W0 m0 47 [.pointer (some ⟨c, 0, none⟩), vG g] A K := by
  have hone := ownF_one hp
  have hoo := ownE_one ho
  have hclt := hc.lt
  refine w47 _ _ _ cutn ?_
  rw [e47]
  refine newP_made (cs := g.cells) hf (by omega) (g_one hone) fun A1 m1 => ?_
  have n1 := m1.next
  have k1 := m1.keeps hf
  have r1 : Go.Abs.Row1 A1 A.next g.cells 50 := m1.row1
  have hc1 := Row1.keeps hc k1 (by simp)
  simp only [nilP_some, pureW_some, fa_79_6, ld_41, cell_row hc1.row, cellOf, isT_ptr, isT_int, isT_map, isT_bool, hoo.noT, cond_false, Nat.zero_add, ld_g r1 hone]
  refine wc98 (hp.keeps k1 (by simp)) hl hn hs hw ht hok m1.fine (by omega) fun A2 v F' o2 hF2 g2 => ?_
  have n2 := g2.next
  have l2 := g2.le
  have K2 : Keeps A A2 [] := k1.trans g2.keeps (by simp)
  have hc2 := Row1.keeps hc1 g2.keeps (by simp)
  simp only [nilP_some, pureW_some, fa_79_6, ld_41, cell_row hc2.row, cellOf, isT_ptr, isT_int, isT_map, isT_bool, hoo.noT, cond_false, Nat.zero_add, eqW_self]
  refine OwnE.appendL etM (ho.keeps K2 (by simp)) (OwnE.rd (fun _ => rfl) o2) g2.fine (by omega) (by omega) (by rw [letters_len]; omega) fun out3 A3 F3 o3 k3 hF3 n3 f3 => ?_
  have hc3 := Row1.keeps hc2 k3 hco
  have ho3 := ownE_one o3
  refine hc3.store f3 (by omega) (st_41 _ _ _) (by obtain ⟨_, _, _, rfl⟩ := ho3; rfl) (by simp) (by obtain ⟨_, _, _, rfl⟩ := ho3; rfl) fun A4 r4 k4 n4 f4 => ?_
  have hF3' : c ∉ F3 := fun h => by
    rcases hF3 c h with h | h
    · exact hco h
    · omega
  have holt := ho.lt
  refine hk A4 out3 F3 (by obtain ⟨_, _, _, rfl⟩ := ho3; exact r4) (o3.keeps k4 (fun x hx h => hF3' (by have := List.mem_singleton.1 h; rw [← this]; exact hx))) (fun y hy => ?_) ?_ (by omega) f4
  · rcases hF3 y hy with h | h
    · exact .inl h
    · exact .inr (by omega)
  · exact ((K2.more (by simp)).trans k3 (fun x hx => .inl (List.mem_cons_of_mem _ hx))).trans k4 (fun x hx => .inl (by simp at hx; simp [hx]))
end
end Go.Proofs.YtkjlldaddekegaaGreatDoor
