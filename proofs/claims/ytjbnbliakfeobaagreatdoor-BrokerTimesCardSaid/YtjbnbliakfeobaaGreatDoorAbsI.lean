/-
  Rows that a call owns, and what an operation leaves as it was, by families. Conditions: those of each theorem.
-/
import Derived.Test.YtjbnbliakfeobaaGreatDoorAbsH
import Derived.Test.YtjbnbliakfeobaaGreatDoorAbsG
import Derived.Test.YtjbnbliakfeobaaGreatDoorAbsF
set_option linter.all false

namespace Go.Abs

section
variable {P : Program}

/-- an object's family: a row's, else its own number -/
def famOf (i : Nat) : AO → Nat
  | .row _ _ f _ _ => f
  | _ => i

/-- all that was there, beside these families, is there as it was -/
structure Keeps (A A' : AW) (S : List Nat) : Prop where
  next : A.next ≤ A'.next
  get : ∀ i o, A.get i = some o → famOf i o < A.next → famOf i o ∉ S → A'.get i = some o
  mem : ∀ f, f < A.next → f ∉ S → A'.members f = A.members f
theorem Keeps.refl (A : AW) (S : List Nat) : Keeps A A S := ⟨Nat.le_refl _, fun _ _ h _ _ => h, fun _ _ _ => rfl⟩
theorem Keeps.trans {A B C : AW} {S T : List Nat} (h : Keeps A B S) (k : Keeps B C T) (hT : ∀ x ∈ T, x ∈ S ∨ A.next ≤ x) : Keeps A C S :=
  ⟨Nat.le_trans h.next k.next, fun i o hi hlt hn => k.get i o (h.get i o hi hlt hn) (Nat.lt_of_lt_of_le hlt h.next) (fun hm => by
    rcases hT _ hm with h1 | h1
    · exact hn h1
    · omega), fun f hf hn => by
    rw [k.mem f (Nat.lt_of_lt_of_le hf h.next) (fun hm => by
      rcases hT _ hm with h1 | h1
      · exact hn h1
      · omega), h.mem f hf hn]⟩
theorem Keeps.more {A B : AW} {S T : List Nat} (h : Keeps A B S) (hs : ∀ x ∈ S, x ∈ T ∨ A.next ≤ x) : Keeps A B T :=
  ⟨h.next, fun i o hi hlt hn => h.get i o hi hlt (fun hm => by
    rcases hs _ hm with h1 | h1
    · exact hn h1
    · omega), fun f hf hn => h.mem f hf (fun hm => by
    rcases hs _ hm with h1 | h1
    · exact hn h1
    · omega)⟩
theorem Ext.keeps {A A' : AW} (h : Ext A A') (hf : Fine A) : Keeps A A' [] :=
  ⟨h.next, fun i o hi _ _ => by rw [h.get i (hf.lt hi)]; exact hi, fun f hf _ => h.mem f hf⟩
theorem Made.keeps {A A' : AW} {cs : List Value} {e : TypeId} (m : Made A A' cs e) (hf : Fine A) : Keeps A A' [] := m.ext.keeps hf

/-- a row that stands alone -/
structure Row1 (A : AW) (b : Nat) (cs : List Value) (e : TypeId) : Prop where
  row : A.get b = some (.row cs e b 0 false)
  mem : A.members b = [b]
  lt : b < A.next
theorem Made.row1 {A A' : AW} {cs : List Value} {e : TypeId} (m : Made A A' cs e) : Row1 A' A.next cs e := ⟨m.row, m.mem, by rw [m.next]; omega⟩
theorem Row1.keeps {A A' : AW} {b : Nat} {cs : List Value} {e : TypeId} {S : List Nat} (h : Row1 A b cs e) (k : Keeps A A' S) (hn : b ∉ S) : Row1 A' b cs e :=
  ⟨k.get b _ h.row h.lt hn, by rw [k.mem b h.lt hn]; exact h.mem, Nat.lt_of_lt_of_le h.lt k.next⟩

theorem Wrote.keeps {A A' : AW} {b f : Nat} {o : AO} {cs : List Value} {e b0 : Nat} {ro : Bool} (w : Wrote A A' b o) (h : A.get b = some (.row cs e f b0 ro)) : Keeps A A' [f] :=
  ⟨by rw [w.next]; exact Nat.le_refl _, fun i o hi _ hn => by
    by_cases hib : i = b
    · subst hib
      rw [h] at hi
      cases hi
      exact absurd (List.mem_singleton.2 rfl) hn
    · rw [w.get i hib]; exact hi, fun f _ _ => w.mem f⟩

theorem Row1.store {A : AW} {b off n : Nat} {v : Value} {cs : List Value} {e : TypeId} {r : Option AW} {K : AW → Prop} (h : Row1 A b cs e) (hf : Fine A) (hb : A.next ≤ maxId)
    (hr : r = (bif Nat.beq v.cells.toList.length n then A.setCells ⟨b, off, none⟩ v.cells.toList else none)) (hv : v.cells.toList.length = n) (hl : off + n ≤ cs.length) (ho : v.cells.toList.all oneCell = true)
    (hk : ∀ A', Row1 A' b (setL cs off v.cells.toList) e → Keeps A A' [b] → A'.next = A.next → Fine A' → K A') : effW r K := by
  have hlt := h.lt
  refine effW_store hr hv h.row h.mem hl ho (by omega) fun A' w => ?_
  exact hk A' ⟨w.row, by rw [w.mem]; exact h.mem, by rw [w.next]; exact h.lt⟩ (w.keeps h.row) w.next (w.fine hf h.row)

/-! slices of the call's own, with the families that they lie in -/
def OwnG (A : AW) (e : TypeId) (size : Nat) (v : Value) (n : Nat) (cs : List Value) (F : List Nat) : Prop :=
  (v = .slice none 0 0 ∧ n = 0 ∧ cs = [] ∧ F = []) ∨ ∃ b f, v = .slice (some ⟨b, 0, none⟩) n (capU + n) ∧ OwnAt 0 A e size n cs b f ∧ F = [f]
theorem OwnG.nil (A : AW) (e : TypeId) (size : Nat) : OwnG A e size (.slice none 0 0) 0 [] [] := .inl ⟨rfl, rfl, rfl, rfl⟩
theorem OwnG.ownS {A : AW} {e : TypeId} {size : Nat} {v : Value} {n : Nat} {cs : List Value} {F : List Nat} (h : OwnG A e size v n cs F) : OwnS 0 A e size v n cs := by
  rcases h with ⟨h1, h2, h3, _⟩ | ⟨b, f, h1, h2, _⟩
  · exact .inl ⟨h1, h2, h3⟩
  · exact .inr ⟨b, f, h1, h2⟩
theorem OwnG.one {A : AW} {e : TypeId} {size : Nat} {v : Value} {n : Nat} {cs : List Value} {F : List Nat} (h : OwnG A e size v n cs F) : oneCell v = true ∧ isTuple v = false := h.ownS.one
theorem OwnG.lt {A : AW} {e : TypeId} {size : Nat} {v : Value} {n : Nat} {cs : List Value} {F : List Nat} (h : OwnG A e size v n cs F) : ∀ x ∈ F, x < A.next := by
  rcases h with ⟨_, _, _, rfl⟩ | ⟨b, f, _, h2, rfl⟩
  · intro x hx; simp at hx
  · intro x hx
    obtain rfl : x = f := by simpa using hx
    exact h2.ltf
theorem OwnG.nodup {A : AW} {e : TypeId} {size : Nat} {v : Value} {n : Nat} {cs : List Value} {F : List Nat} (h : OwnG A e size v n cs F) : F.Nodup := by
  rcases h with ⟨_, _, _, rfl⟩ | ⟨b, f, _, h2, rfl⟩ <;> simp
theorem OwnG.keeps {A A' : AW} {e : TypeId} {size : Nat} {v : Value} {n : Nat} {cs : List Value} {F S : List Nat} (h : OwnG A e size v n cs F) (k : Keeps A A' S) (hd : ∀ x ∈ F, x ∉ S) : OwnG A' e size v n cs F := by
  rcases h with h | ⟨b, f, rfl, h, rfl⟩
  · exact .inl h
  · have hfs : f ∉ S := hd f (by simp)
    refine .inr ⟨b, f, rfl, ⟨h.pos, k.get b _ h.row h.ltf hfs, h.len, Nat.zero_le _, Nat.zero_le _, Nat.lt_of_lt_of_le h.ltf k.next, fun i hi => ?_⟩, rfl⟩
    rw [k.mem f h.ltf hfs] at hi
    obtain ⟨_, h2, cs', e', b', ro', h3⟩ := h.mem i hi
    exact ⟨Nat.zero_le _, Nat.lt_of_lt_of_le h2 k.next, cs', e', b', ro', k.get i _ h3 h.ltf hfs⟩

theorem appendG {A : AW} {t t2 e : TypeId} {size bytes : Nat} {v x : Value} {n m : Nat} {cs new : List Value} {F : List Nat} (ht : sliceElemT P t = some e) (hs : szT P e = some (size + 1)) (hb : bytesT P e = some bytes)
    (hz : hasZero P e (size + 1) = true) (hx : sourceZ P A e t2 (size + 1) x = some (m + 1, new)) (hnew : new.length = (m + 1) * (size + 1)) (hone : new.all oneCell = true) (h : OwnG A e (size + 1) v n cs F) (hf : Fine A)
    (hmax : A.next < maxId) (hr1 : n + (m + 1) < room) (hr2 : (n + (m + 1)) * bytes < room) {K : Value → AW → Prop}
    (hk : ∀ v' A' F', OwnG A' e (size + 1) v' (n + (m + 1)) (cs ++ new) F' → Keeps A A' F → (∀ x ∈ F', x ∈ F ∨ x = A.next) → A'.next = A.next + 1 → Fine A' → K v' A') : bothW (appendA P A t t2 v x) K := by
  obtain ⟨v', A', h1, a⟩ := append_own (P := P) ht hs hb hz hx hnew hone h.ownS hf (Nat.zero_le _) hmax hr1 hr2
  rw [h1]
  refine bothW_ok.2 ?_
  have hfam : ∀ b f, v = .slice (some ⟨b, 0, none⟩) n (capU + n) → OwnAt 0 A e (size + 1) n cs b f → f ∈ F := by
    intro b f hv ho
    rcases h with ⟨h1, _⟩ | ⟨b', f', h1, h2, rfl⟩
    · rw [h1] at hv; cases hv
    · rw [h1] at hv
      simp only [Value.slice.injEq, Option.some.injEq, Addr.mk.injEq] at hv
      obtain ⟨⟨rfl, _⟩, _⟩ := hv
      have := ho.row
      rw [h2.row] at this
      simp only [Option.some.injEq, AO.row.injEq] at this
      simp [this.2.2.1]
  have hkeep : Keeps A A' F := ⟨by rw [a.next]; omega, fun i o hi hlt hn => by
      rw [a.get i (hf.lt hi) (fun b f hv ho him => ?_)]
      · exact hi
      · obtain ⟨_, _, cs', e', b', ro', h3⟩ := ho.mem i him
        rw [hi] at h3
        cases h3
        exact hn (hfam b f hv ho), fun g hg hn => a.mem g hg fun b f hv ho hgf => hn (hgf ▸ hfam b f hv ho)⟩
  rcases a.own with ⟨_, h2, _⟩ | ⟨b, f, h2, h3⟩
  · omega
  · refine hk v' A' [f] (.inr ⟨b, f, h2, h3, rfl⟩) hkeep (fun x hx => ?_) a.next a.fine
    obtain rfl : x = f := by simpa using hx
    rcases a.fam b x h2 h3 with h4 | ⟨b', h4, h5⟩
    · exact .inr h4
    · exact .inl (hfam b' x h4 h5)

theorem mem_of_fams {A A' : AW} (h : A'.fams = A.fams) (g : Nat) : A'.members g = A.members g := by unfold AW.members; rw [h]

theorem poisonAt_get (self coord : Nat) : ∀ (l : List Nat) (A : AW), (∀ i ∈ l, i < maxId) → (∀ i, i ∉ l ∨ i = self → (poisonAt self coord l A).get i = A.get i) ∧
    (∀ i cs e f b ro, A.get i = some (.row cs e f b ro) → ∃ cs', (poisonAt self coord l A).get i = some (.row cs' e f b ro)) ∧ (poisonAt self coord l A).next = A.next ∧ (poisonAt self coord l A).fams = A.fams
  | [], A, _ => ⟨fun _ _ => rfl, fun i cs e f b ro h => ⟨cs, h⟩, rfl, rfl⟩
  | x :: r, A, hl => by
    unfold poisonAt
    cases hxs : Nat.beq x self with
    | true =>
      have hx : x = self := Nat.eq_of_beq_eq_true hxs
      obtain ⟨h1, h2, h3, h4⟩ := poisonAt_get self coord r A (fun i hi => hl i (by simp [hi]))
      refine ⟨fun i hi => h1 i ?_, h2, h3, h4⟩
      rcases hi with hi | hi
      · exact .inl (fun hm => hi (by simp [hm]))
      · exact .inr hi
    | false =>
      have hx : x ≠ self := fun e => by rw [e, Nat.beq_refl] at hxs; cases hxs
      simp only [cond_false]
      have same : ∀ B : AW, (∀ i, i ≠ x → B.get i = A.get i) → (∀ i cs e f b ro, A.get i = some (.row cs e f b ro) → ∃ cs', B.get i = some (.row cs' e f b ro)) → B.next = A.next → B.fams = A.fams →
          (∀ i, i ∉ x :: r ∨ i = self → (poisonAt self coord r B).get i = A.get i) ∧ (∀ i cs e f b ro, A.get i = some (.row cs e f b ro) → ∃ cs', (poisonAt self coord r B).get i = some (.row cs' e f b ro)) ∧ (poisonAt self coord r B).next = A.next ∧ (poisonAt self coord r B).fams = A.fams := by
        intro B g1 g2 g3 g4
        obtain ⟨h1, h2, h3, h4⟩ := poisonAt_get self coord r B (fun i hi => hl i (by simp [hi]))
        refine ⟨fun i hi => ?_, fun i cs e f b ro hi => ?_, by rw [h3, g3], by rw [h4, g4]⟩
        · rw [h1 i (by
            rcases hi with hi | hi
            · exact .inl (fun hm => hi (by simp [hm]))
            · exact .inr hi), g1 i (by
            rcases hi with hi | hi
            · exact fun e => hi (by simp [e])
            · subst hi; exact fun e => hx e.symm)]
        · obtain ⟨cs', hb⟩ := g2 i cs e f b ro hi
          exact h2 i cs' e f b ro hb
      split
      · rename_i cs2 e2 f2 b2 ro2 hx2
        cases hble : Nat.ble b2 coord with
        | false => exact same A (fun _ _ => rfl) (fun i cs e f b ro h => ⟨cs, h⟩) rfl rfl
        | true =>
          simp only [cond_true]
          refine same _ (fun i hi => by rw [AW.get_put A x i _ (hl x (by simp)), if_neg hi]) (fun i cs e f b ro hi => ?_) rfl rfl
          rw [AW.get_put A x i _ (hl x (by simp))]
          by_cases hix : i = x
          · subst hix
            rw [hx2] at hi
            cases hi
            exact ⟨_, by rw [if_pos rfl]⟩
          · exact ⟨cs, by rw [if_neg hix]; exact hi⟩
      · exact same A (fun _ _ => rfl) (fun i cs e f b ro h => ⟨cs, h⟩) rfl rfl

theorem setCells_fam : ∀ {new : List Value} {A : AW} {b off : Nat} {cs : List Value} {e f : Nat}, A.get b = some (.row cs e f 0 false) → (∀ i ∈ A.members f, i < maxId) → off + new.length ≤ cs.length → new.all oneCell = true → b < maxId →
    ∃ A', A.setCells ⟨b, off, none⟩ new = some A' ∧ A'.get b = some (.row (setL cs off new) e f 0 false) ∧ (∀ i, i ≠ b → i ∉ A.members f → A'.get i = A.get i) ∧
      (∀ i cs e f b ro, A.get i = some (.row cs e f b ro) → ∃ cs', A'.get i = some (.row cs' e f b ro)) ∧ A'.next = A.next ∧ A'.fams = A.fams
  | [], A, b, off, cs, e, f, hg, hm, hl, ho, hb => ⟨A, rfl, hg, fun _ _ _ => rfl, fun i cs e f b ro h => ⟨cs, h⟩, rfl, rfl⟩
  | v :: r, A, b, off, cs, e, f, hg, hm, hl, ho, hb => by
    simp only [List.all_cons, Bool.and_eq_true] at ho
    simp only [List.length_cons] at hl
    have hble : Nat.ble cs.length off = false := ble_false.2 (by omega)
    obtain ⟨p1, p2, p3, p4⟩ := poisonAt_get b (0 + off) (A.members f) (A.put b (.row (cs.set off v) e f 0 false)) hm
    have h1 : A.setCell ⟨b, off, none⟩ v = some (poisonAt b (0 + off) (A.members f) (A.put b (.row (cs.set off v) e f 0 false))) := by
      unfold AW.setCell
      simp only [hg, ho.1, Bool.not_true, Bool.false_or, hble, cond_false]
    have hmem : ∀ g, (poisonAt b (0 + off) (A.members f) (A.put b (.row (cs.set off v) e f 0 false))).members g = A.members g := mem_of_fams p4
    have hg' : (poisonAt b (0 + off) (A.members f) (A.put b (.row (cs.set off v) e f 0 false))).get b = some (.row (cs.set off v) e f 0 false) := by
      rw [p1 b (.inr rfl), AW.get_put A b b _ hb, if_pos rfl]
    obtain ⟨A', h2, h3, h4, h5, h6, h7⟩ := setCells_fam (new := r) (off := off + 1) hg' (by rw [hmem]; exact hm) (by simp; omega) ho.2 hb
    refine ⟨A', ?_, h3, fun i hi hn => ?_, fun i cs2 e2 f2 b2 ro2 hi => ?_, by rw [h6, p3]; rfl, by rw [h7, p4]; rfl⟩
    · simp only [AW.setCells, h1]
      exact h2
    · rw [h4 i hi (by rw [hmem]; exact hn), p1 i (.inl hn), AW.get_put A b i _ hb, if_neg hi]
    · have : ∃ cs', (A.put b (.row (cs.set off v) e f 0 false)).get i = some (.row cs' e2 f2 b2 ro2) := by
        rw [AW.get_put A b i _ hb]
        by_cases hib : i = b
        · subst hib
          rw [hg] at hi
          cases hi
          exact ⟨_, by rw [if_pos rfl]⟩
        · exact ⟨cs2, by rw [if_neg hib]; exact hi⟩
      obtain ⟨cs3, h8⟩ := this
      obtain ⟨cs4, h9⟩ := p2 i cs3 e2 f2 b2 ro2 h8
      exact h5 i cs4 e2 f2 b2 ro2 h9

/-- a store into a slice of the call's own -/
theorem storeG {A : AW} {e : TypeId} {size : Nat} {n : Nat} {cs : List Value} {F : List Nat} {b off k : Nat} {w : Value} {r : Option AW} {K : AW → Prop} (h : OwnG A e size (.slice (some ⟨b, 0, none⟩) n (capU + n)) n cs F) (hf : Fine A) (hmax : A.next ≤ maxId)
    (hr : r = (bif Nat.beq w.cells.toList.length k then A.setCells ⟨b, off, none⟩ w.cells.toList else none)) (hv : w.cells.toList.length = k) (hl : off + k ≤ cs.length) (ho : w.cells.toList.all oneCell = true)
    (hk : ∀ A', OwnG A' e size (.slice (some ⟨b, 0, none⟩) n (capU + n)) n (setL cs off w.cells.toList) F → Keeps A A' F → A'.next = A.next → Fine A' → K A') : effW r K := by
  rcases h with ⟨h1, _⟩ | ⟨b', f, h1, h, rfl⟩
  · cases h1
  simp only [Value.slice.injEq, Option.some.injEq, Addr.mk.injEq, and_true] at h1
  subst h1
  have hbl := hf.lt h.row
  have hml : ∀ i ∈ A.members f, i < maxId := fun i hi => by have := (h.mem i hi).2.1; omega
  obtain ⟨A', g1, g2, g3, g4, g5, g6⟩ := setCells_fam (new := w.cells.toList) (off := off) h.row hml (by omega) ho (by omega)
  have hmem : ∀ g, A'.members g = A.members g := mem_of_fams g6
  rw [hr, hv, Nat.beq_refl, cond_true, g1]
  refine effW_some.2 (hk A' (.inr ⟨b, f, rfl, ⟨h.pos, g2, by rw [setL_length]; exact h.len, Nat.zero_le _, Nat.zero_le _, by rw [g5]; exact h.ltf, fun i hi => ?_⟩, rfl⟩) ⟨by rw [g5]; exact Nat.le_refl _, fun i o hi _ hn => ?_, fun g _ _ => hmem g⟩ g5 ⟨fun i hi => ?_, fun i hi => ?_⟩)
  · rw [hmem] at hi
    obtain ⟨_, h2, cs', e', b', ro', h3⟩ := h.mem i hi
    obtain ⟨cs2, h4⟩ := g4 i _ _ _ _ _ h3
    exact ⟨Nat.zero_le _, by rw [g5]; exact h2, cs2, e', b', ro', h4⟩
  · rw [g3 i (fun e => ?_) (fun hm => ?_)]
    · exact hi
    · subst e
      rw [h.row] at hi
      cases hi
      exact hn (List.mem_singleton.2 rfl)
    · obtain ⟨_, _, cs', e', b', ro', h3⟩ := h.mem i hm
      rw [hi] at h3
      cases h3
      exact hn (List.mem_singleton.2 rfl)
  · rw [g6]; exact hf.fams i (by rw [g5] at hi; exact hi)
  · rw [g5] at hi
    rw [g3 i (fun e => by omega) (fun hm => by have := (h.mem i hm).2.1; omega)]
    exact hf.get i hi

/-! maps -/
structure Map1 (A : AW) (r : Nat) (es : List MapEntry) (c : Nat) : Prop where
  row : A.get r = some (.map es c false)
  lt : r < A.next
theorem Map1.keeps {A A' : AW} {r : Nat} {es : List MapEntry} {c : Nat} {S : List Nat} (h : Map1 A r es c) (k : Keeps A A' S) (hn : r ∉ S) : Map1 A' r es c :=
  ⟨k.get r _ h.row h.lt hn, Nat.lt_of_lt_of_le h.lt k.next⟩
theorem Map1.put {A : AW} {r : Nat} {es es' : List MapEntry} {c c' : Nat} (h : Map1 A r es c) (hf : Fine A) (hb : A.next ≤ maxId) : Map1 (A.put r (.map es' c' false)) r es' c' ∧ Keeps A (A.put r (.map es' c' false)) [r] ∧ (A.put r (.map es' c' false)).next = A.next ∧ Fine (A.put r (.map es' c' false)) := by
  have hlt := h.lt
  have hg : ∀ i, (A.put r (.map es' c' false)).get i = if i = r then some (.map es' c' false) else A.get i := fun i => AW.get_put A r i _ (by omega)
  refine ⟨⟨by rw [hg, if_pos rfl], hlt⟩, ⟨Nat.le_refl _, fun i o hi _ hn => ?_, fun f _ _ => rfl⟩, rfl, ⟨hf.fams, fun i hi => ?_⟩⟩
  · rw [hg, if_neg (fun e => ?_)]
    · exact hi
    · subst e
      rw [h.row] at hi
      cases hi
      exact hn (List.mem_singleton.2 rfl)
  · have hi : A.next ≤ i := hi
    rw [hg, if_neg (by omega)]
    exact hf.get i hi
theorem newMap {A : AW} {K : Value → AW → Prop} (hf : Fine A) (h : A.next < maxId) (hk : ∀ A', Map1 A' A.next [] 0 → Keeps A A' [] → A'.next = A.next + 1 → Fine A' → K (.map (some A.next)) A') : bothW (newMapP A) K := by
  have e : newMapP A = .ok (.map (some A.next)) (A.push (.map [] 0 false)) := by
    unfold newMapP AW.new
    simp only [blt_true.2 h, cond_true]
    rfl
  rw [e]
  exact bothW_ok.2 (hk _ ⟨by rw [AW.push_get _ h, if_pos rfl], by rw [AW.push_next]; omega⟩ ((AW.push_ext _ h).keeps hf) rfl (hf.push _ h))

end
end Go.Abs


namespace Go.Abs
open Go.ChangeShapes Go.WideShapes Go.ChangeAt Go.RowKit

/-- a place of an argument: its block and offset, and what stands there, if that is looked at -/
abbrev Arg := (Nat × Nat) × Option (List Value × TypeId)
def argT (F : Nat) : Nat → List Arg → Trie AO → Trie AO
  | _, [], t => t
  | j, (_, none) :: r, t => argT F (j + 1) r t
  | j, (_, some (cs, e)) :: r, t => (argT F (j + 1) r t).put depth j (some (.row cs e F 0 true))
/-- the variables' rows, and behind them the arguments' -/
def wR (n : Nat) (gl : List (Nat × List Value × TypeId)) (L : List Arg) : AW :=
  ⟨argT (n + L.length) n L (rowsT gl), n + L.length + 1, (Trie.nil : Trie (List Nat)).put depth (n + L.length) (some ((List.range L.length).map (n + ·)))⟩
def mR (P : Program) (L : List Arg) : Inj P := mA P (L.map (·.1))

theorem argT_get (F : Nat) : ∀ (L : List Arg) (j : Nat) (t : Trie AO) (i : Nat), j + L.length ≤ maxId → (argT F j L t).get? i = if i < j then t.get? i else match L[i - j]? with
    | some (_, some (cs, e)) => some (.row cs e F 0 true)
    | _ => t.get? i
  | [], j, t, i, _ => by simp [argT]
  | (p, none) :: r, j, t, i, h => by
    simp only [List.length_cons] at h
    simp only [argT]
    rw [argT_get F r (j + 1) t i (by omega)]
    by_cases h1 : i < j
    · rw [if_pos (by omega), if_pos h1]
    · by_cases h2 : i = j
      · subst h2
        rw [if_pos (by omega), if_neg h1, Nat.sub_self]
        rfl
      · rw [if_neg (by omega), if_neg h1, show i - j = (i - (j + 1)) + 1 by omega, List.getElem?_cons_succ]
  | (p, some (cs, e)) :: r, j, t, i, h => by
    simp only [List.length_cons] at h
    simp only [argT]
    rw [Trie.get?_put depth _ j i _ (by unfold depth maxId at *; omega), argT_get F r (j + 1) t i (by omega)]
    by_cases h1 : i < j
    · rw [if_neg (by omega), if_pos (by omega), if_pos h1]
    · by_cases h2 : i = j
      · subst h2
        rw [if_pos rfl, if_neg h1, Nat.sub_self]
        rfl
      · rw [if_neg h2, if_neg (by omega), if_neg h1, show i - j = (i - (j + 1)) + 1 by omega, List.getElem?_cons_succ]

section
variable {P : Program} {W : World} {gl : List (Nat × List Value × TypeId)} {L : List Arg}

theorem wR_arg {n : Nat} (hk : n + L.length ≤ maxId) {j : Nat} {p : Nat × Nat} {cs : List Value} {e : TypeId} (h : L[j]? = some (p, some (cs, e))) : (wR n gl L).get (n + j) = some (.row cs e (n + L.length) 0 true) := by
  show (argT _ n L _).get? _ = _
  rw [argT_get _ L n _ _ hk, if_neg (by omega), Nat.add_sub_cancel_left, h]
theorem wR_get {n : Nat} (hok : okG n gl = true) (hk : n + L.length ≤ maxId) {i : Nat} {o : AO} (h : (wR n gl L).get i = some o) :
    (∃ x ∈ gl, x.1 = i ∧ i < n ∧ o = .row x.2.1 x.2.2 i 0 true) ∨ ∃ j p cs e, i = n + j ∧ L[j]? = some (p, some (cs, e)) ∧ o = .row cs e (n + L.length) 0 true := by
  have h : (argT (n + L.length) n L (rowsT gl)).get? i = some o := h
  rw [argT_get _ L n _ _ hk] at h
  unfold okG at hok
  simp only [Bool.and_eq_true, List.all_eq_true] at hok
  obtain ⟨hn, hl⟩ := hok
  have hn := ble_true.1 hn
  have glob : (rowsT gl).get? i = some o → ∃ x ∈ gl, x.1 = i ∧ i < n ∧ o = .row x.2.1 x.2.2 i 0 true := by
    intro h
    obtain ⟨x, hx, rfl, rfl⟩ := rowsT_get gl (fun x hx => Nat.lt_of_lt_of_le (blt_true.1 (hl x hx).1) hn) i o h
    exact ⟨x, hx, rfl, blt_true.1 (hl x hx).1, rfl⟩
  split at h
  · exact .inl (glob h)
  · split at h
    · rename_i hi p cs e hq
      cases h
      exact .inr ⟨i - n, p, cs, e, by omega, hq, rfl⟩
    · exact .inl (glob h)

theorem wR_fine {n : Nat} (hok : okG n gl = true) (hk : n + L.length + 1 ≤ maxId) : Fine (wR n gl L) := by
  refine ⟨fun i hi => ?_, fun i hi => ?_⟩
  · have hi : n + L.length + 1 ≤ i := hi
    show ((Trie.nil : Trie (List Nat)).put depth (n + L.length) _).get? i = none
    rw [Trie.get?_put depth _ _ i _ (by unfold depth maxId at *; omega), if_neg (by omega)]
    rfl
  · have hi : n + L.length + 1 ≤ i := hi
    cases hq : (wR n gl L).get i with
    | none => rfl
    | some o =>
      rcases wR_get hok (by omega) hq with ⟨x, _, _, h, _⟩ | ⟨j, p, cs, e, rfl, h, _⟩
      · omega
      · have := (List.getElem?_eq_some_iff.1 h).1
        omega

/-- what stands at the arguments' places -/
def Args (P : Program) (W : World) (L : List Arg) : Prop := ∀ (j : Nat) (p : Nat × Nat) (cs : List Value) (e : TypeId), L[j]? = some (p, some (cs, e)) → ∃ cs' fr, W.heap[p.1]? = some (.cells cs' e fr) ∧ p.2 ≤ cs'.size ∧
  ∀ i v, cs[i]? = some v → ∃ v', cs'[p.2 + i]? = some v' ∧ VRel (mR P L) v v'

theorem relR (hok : okG P.globals.size gl = true) (hk : P.globals.size + L.length + 1 ≤ maxId) (hW : Holds W gl) (hA : Args P W L) : Rel (mR P L) (wR P.globals.size gl L) W := by
  have hget := fun {i : Nat} {o : AO} (h : (wR P.globals.size gl L).get i = some o) => wR_get hok (by omega) h
  have hl : ∀ x ∈ gl, x.2.1.all (closedV 4) = true := by
    unfold okG at hok
    simp only [Bool.and_eq_true, List.all_eq_true] at hok
    intro x hx
    exact List.all_eq_true.2 (hok.2 x hx).2
  have hlen : (L.map (·.1)).length = L.length := List.length_map _
  have harg : ∀ {j : Nat} {p : Nat × Nat} {q : Option (List Value × TypeId)}, L[j]? = some (p, q) → mR P L (P.globals.size + j) = some p := by
    intro j p q h
    show mA P _ _ = _
    rw [mA_arg, List.getElem?_map, h]
    rfl
  refine ⟨?_, ?_, ?_, ?_, ?_, hk, ?_⟩
  · intro i o c d hi hm
    rcases hget hi with ⟨x, hx, rfl, hlt, rfl⟩ | ⟨j, p, cs, e, rfl, hj, rfl⟩
    · have hm : mA P (L.map (·.1)) x.1 = some (c, d) := hm
      rw [mA_var hlt] at hm
      cases hm
      obtain ⟨fr, hc⟩ := hW x hx
      exact ⟨_, hc, _, fr, rfl, fun i v hv => ⟨v, by simpa using hv, fun _ => closedV_rel 4 v (List.all_eq_true.1 (hl x hx) v (List.mem_of_getElem? hv)), fun h => by cases h⟩⟩
    · rw [harg hj] at hm
      cases hm
      obtain ⟨cs', fr, h1, h2, h3⟩ := hA j _ cs e hj
      refine ⟨_, h1, cs', fr, rfl, fun i v hv => ?_⟩
      obtain ⟨v', g1, g2⟩ := h3 i v hv
      exact ⟨v', g1, fun _ => g2, fun h => by cases h⟩
  · intro i cs e b ro hi c d hm
    rcases hget hi with ⟨x, hx, rfl, hlt, _⟩ | ⟨j, p, cs2, e2, rfl, hj, he⟩
    · have hm : mA P (L.map (·.1)) x.1 = some (c, d) := hm
      rw [mA_var hlt] at hm
      cases hm
      rfl
    · have := (List.getElem?_eq_some_iff.1 hj).1
      simp only [AO.row.injEq] at he
      omega
  · intro i j oi oj c di dj hij hi hj hmi hmj
    refine .inl ?_
    rcases hget hi with ⟨x, hx, rfl, hlt, rfl⟩ | ⟨j, p, cs2, e2, rfl, _, rfl⟩ <;> rcases hget hj with ⟨y, hy, rfl, hlt2, rfl⟩ | ⟨j2, p2, cs3, e3, rfl, _, rfl⟩ <;> exact ⟨rfl, rfl⟩
  · intro i o f b hi hf
    have hmem : ∀ f, (wR P.globals.size gl L).members f = if f = P.globals.size + L.length then (List.range L.length).map (P.globals.size + ·) else [f] := by
      intro f
      show (match ((Trie.nil : Trie (List Nat)).put depth (P.globals.size + L.length) _).get? f with | some l => l | none => [f]) = _
      rw [Trie.get?_put depth _ _ f _ (by unfold depth maxId at *; omega)]
      by_cases h : f = P.globals.size + L.length
      · rw [if_pos h, if_pos h]
      · rw [if_neg h, if_neg h]; rfl
    rcases hget hi with ⟨x, hx, rfl, hlt, rfl⟩ | ⟨j, p, cs2, e2, rfl, hj, rfl⟩
    · simp only [AO.fam, Option.some.injEq, Prod.mk.injEq] at hf
      obtain ⟨rfl, rfl⟩ := hf
      rw [hmem, if_neg (by omega)]
      exact ⟨by simp, by show x.1 < P.globals.size + L.length + 1; omega⟩
    · simp only [AO.fam, Option.some.injEq, Prod.mk.injEq] at hf
      obtain ⟨rfl, rfl⟩ := hf
      have := (List.getElem?_eq_some_iff.1 hj).1
      rw [hmem, if_pos rfl]
      exact ⟨List.mem_map.2 ⟨j, List.mem_range.2 this, rfl⟩, by show _ < P.globals.size + L.length + 1; omega⟩
  · intro i hi
    have hi : P.globals.size + L.length + 1 ≤ i := hi
    have hf := wR_fine (n := P.globals.size) hok hk
    refine ⟨hf.get i hi, ?_, hf.fams i hi⟩
    show (if i < P.globals.size then some (i, 0) else (L.map (·.1))[i - P.globals.size]?) = none
    rw [if_neg (by omega)]
    exact List.getElem?_eq_none (by omega)
  · intro i cs e f b ro c d hi hm
    rcases hget hi with ⟨x, hx, rfl, hlt, he⟩ | ⟨j, p, cs2, e2, rfl, hj, he⟩
    · cases he
      have hm : mA P (L.map (·.1)) x.1 = some (c, d) := hm
      rw [mA_var hlt] at hm
      cases hm
      obtain ⟨fr, hc⟩ := hW x hx
      exact ⟨fun h => absurd rfl h, _, _, fr, hc, by show 0 + 0 ≤ _; omega, fun h => by cases h⟩
    · cases he
      rw [harg hj] at hm
      cases hm
      obtain ⟨cs', fr, h1, h2, h3⟩ := hA j _ _ _ hj
      exact ⟨fun h => absurd rfl h, cs', _, fr, h1, by show _ + 0 ≤ _; omega, fun h => by cases h⟩

theorem ownR (hok : okG P.globals.size gl = true) (hk : P.globals.size + L.length ≤ maxId) (c : Nat) : ¬ Own (mR P L) (wR P.globals.size gl L) c := by
  rintro ⟨i, o, d, hi, hro, _⟩
  rcases wR_get hok hk hi with ⟨x, hx, rfl, hlt, rfl⟩ | ⟨j, p, cs2, e2, rfl, _, rfl⟩ <;> cases hro

theorem calls_trueR {X : XNames} (hP : POk P) (hok : okG P.globals.size gl = true) (hk : P.globals.size + L.length + 1 ≤ maxId) {g : FuncId} {args args' : List Value}
    (hW : Holds W gl) (hA : Args P W L) (ha : VRels (mR P L) args args') (h : Wc P X W (mR P L) g args (wR P.globals.size gl L) fun v _ => v = .bool true) : Calls P g ⟨args'⟩ W fun e W' => e = .returned (.bool true) ∧ Below W.heap.size W W' := by
  refine (calls_of_wc hP h (relR hok hk hW hA) (fun i hi => mA_var hi) (ownR hok (by omega)) ha).mono ?_
  rintro e w' ⟨v, v', m', A', rfl, rfl, h2, h3⟩
  cases h2
  exact ⟨rfl, below_of h3 (ownR hok (by omega))⟩
end

/-! slices of flat elements: f tells an element's cells -/
section
variable {H : Type} {enc : TypeId × Value → H} {P : Program}

def flat {β : Type} (f : β → List Value) (l : List β) : List Value := l.flatMap f
theorem flat_length {β : Type} {f : β → List Value} {n : Nat} (hn : ∀ b, (f b).length = n) : ∀ l : List β, (flat f l).length = l.length * n
  | [] => by simp [flat]
  | b :: r => by
    have := flat_length hn r
    simp only [flat, List.flatMap_cons, List.length_append, hn, List.length_cons] at *
    rw [this, Nat.succ_mul]; omega
theorem flat_drop {β : Type} {f : β → List Value} {n : Nat} (hn : ∀ b, (f b).length = n) : ∀ (l : List β) (i : Nat) (b : β), l[i]? = some b → ∃ rest, (flat f l).drop (i * n) = f b ++ rest
  | [], i, b, h => by simp at h
  | x :: r, 0, b, h => by
    simp only [List.getElem?_cons_zero, Option.some.injEq] at h
    subst h
    exact ⟨flat f r, by simp [flat]⟩
  | x :: r, i + 1, b, h => by
    simp only [List.getElem?_cons_succ] at h
    obtain ⟨rest, h2⟩ := flat_drop hn r i b h
    refine ⟨rest, ?_⟩
    rw [← h2]
    simp only [flat, List.flatMap_cons]
    rw [Nat.succ_mul, Nat.add_comm, ← List.drop_drop, List.drop_append, hn, Nat.sub_self]
    rw [show List.drop n (f x) = [] from List.drop_eq_nil_of_le (by rw [hn]; exact Nat.le_refl _)]
    simp
theorem flat_get {β : Type} {f : β → List Value} {n : Nat} (hn : ∀ b, (f b).length = n) {l : List β} {i : Nat} {b : β} (h : l[i]? = some b) {k : Nat} (hk : k < n) : (flat f l)[i * n + k]? = (f b)[k]? := by
  obtain ⟨rest, h2⟩ := flat_drop hn l i b h
  rw [← List.getElem?_drop, h2, List.getElem?_append_left (by rw [hn]; exact hk)]

/-- a slice that came in: its elements, and its place -/
inductive InSlice (W : World) {β : Type} (f : β → List Value) (s : Value) (l : List β) : Arg → Prop
  | nil (hl : l = []) (hs : IsSlice s) (h0 : ∃ o c, s = .slice o 0 c) : InSlice W f s l (placeOf s, none)
  | blk (a : Addr) (c : Nat) (cs : Array Value) (e' : TypeId) (fr : Nat × Nat) (hs : s = .slice (some a) l.length c) (hc : l.length ≤ c) (hc2 : c < capU) (hsp : a.spot = none) (hb : W.heap[a.block]? = some (.cells cs e' fr)) (ho : a.off ≤ cs.size)
      (hg : ∀ i v, (flat f l)[i]? = some v → cs[a.off + i]? = some v) : InSlice W f s l ((a.block, a.off), some (flat f l, e'))

theorem addr_add0 (a : Addr) (n : Nat) (h : a.spot = none) : a.add n = ⟨a.block, a.off + n, none⟩ := by
  unfold Addr.add
  split
  · rename_i h0; subst h0; obtain ⟨b, o, s⟩ := a; simp only at h; subst h; rfl
  · rfl

theorem read_flat {W : World} {t e : TypeId} {fuel : Nat} {cs : List Value} {x : DataW H × List MemPlace} {β : Type} {f : β → List Value} {ok : β → Prop} (b0 : β) (hu : P.underlying t = some (.slice e)) (hz : 0 < P.cellsOf e) (hn : ∀ b, (f b).length = P.cellsOf e)
    (hel : ∀ q cs y, DataW.trod enc P W 0 (fun _ => true) true q e cs = some y → ∃ b, cs = f b ∧ ok b) (h : DataW.trod enc P W 0 (fun _ => true) true fuel t cs = some x) :
    ∃ s l L, cs = [s] ∧ InSlice W f s l L ∧ (∀ b ∈ l, ok b) := by
  have hsl := read_slice hu hz h
  rcases Go.Deep.open_slice hu h with ⟨rfl, _⟩ | ⟨a, n, c, m, k, D, Pl, rfl, _, hnm, hc, hm, _, hx⟩
  · exact ⟨_, [], _, rfl, .nil rfl (.inl rfl) ⟨none, 0, rfl⟩, by simp⟩
  · obtain ⟨s', hs1, hs2⟩ := hsl
    simp only [List.cons.injEq, and_true] at hs1
    subst hs1
    have hm : m = c := hm
    subst hm
    have hcap : m < capU := by
      have h1 : maxLen < capU := by decide
      omega
    rcases Nat.eq_zero_or_pos n with rfl | hpos
    · exact ⟨_, [], _, rfl, .nil rfl hs2 ⟨some a, m, rfl⟩, by simp⟩
    · have key : ∀ i, i < n → ∃ b : β, ok b ∧ ∀ j, j < P.cellsOf e → ∃ v, (f b)[j]? = some v ∧ W.cell? ((a.add (i * P.cellsOf e)).add j) = some v := by
        intro i hi
        obtain ⟨cs', g1, g2⟩ := hx i (by omega)
        obtain ⟨_, hl, g3⟩ := World.cells?_some g1
        obtain ⟨b, rfl, hok⟩ := hel _ _ _ g2
        refine ⟨b, hok, fun j hj => ?_⟩
        have h4 := g3 j (by omega)
        exact ⟨(f b)[j]'(by rw [hn]; exact hj), List.getElem?_eq_getElem _, by rw [h4]; exact List.getElem?_eq_getElem _⟩
      obtain ⟨bb, _, q⟩ := key 0 hpos
      obtain ⟨v0, _, q2⟩ := q 0 hz
      have hblk : a.spot = none ∧ ∃ cs e' fr, W.heap[a.block]? = some (.cells cs e' fr) ∧ a.off ≤ cs.size := by
        have : W.cell? a = some v0 := by simpa [Addr.add] using q2
        unfold World.cell? at this
        split at this
        · rename_i cs e' fr hh
          split at this
          · cases this
          · rename_i hsp
            refine ⟨?_, cs, e', fr, hh, ?_⟩
            · cases hq : a.spot with
              | none => rfl
              | some z => exact absurd (by simp [hq]) hsp
            · have := (Array.getElem?_eq_some_iff.1 this).1
              omega
        · cases this
      obtain ⟨hsp, cs, e', fr, hh, hoff⟩ := hblk
      let g : Nat → β := fun i => if h : i < n then Classical.choose (key i h) else b0
      have hg : ∀ i (h : i < n), g i = Classical.choose (key i h) := fun i h => dif_pos h
      have hfl : ((List.range n).map g).length = n := by simp
      refine ⟨_, (List.range n).map g, _, rfl, .blk a m cs e' fr (by rw [hfl]) (by rw [hfl]; exact hnm) hcap hsp hh hoff fun i v hi => ?_, fun b hb => ?_⟩
      · have hlt : i < n * P.cellsOf e := by
          have := (List.getElem?_eq_some_iff.1 hi).1
          rw [flat_length hn, hfl] at this
          exact this
        have hdiv : i / P.cellsOf e < n := (Nat.div_lt_iff_lt_mul hz).2 hlt
        have hmod : i % P.cellsOf e < P.cellsOf e := Nat.mod_lt _ hz
        have hie : i / P.cellsOf e * P.cellsOf e + i % P.cellsOf e = i := by rw [Nat.mul_comm]; exact Nat.div_add_mod i _
        have hget : ((List.range n).map g)[i / P.cellsOf e]? = some (g (i / P.cellsOf e)) := by
          rw [List.getElem?_map, List.getElem?_range hdiv]; rfl
        have := flat_get hn hget hmod
        rw [hie, hi, hg _ hdiv] at this
        obtain ⟨_, p2⟩ := Classical.choose_spec (key _ hdiv)
        obtain ⟨v', p3, p4⟩ := p2 _ hmod
        rw [← this] at p3
        cases p3
        rw [addr_add0 a _ hsp, addr_add0 _ _ rfl] at p4
        unfold World.cell? at p4
        rw [hh] at p4
        simp only [Option.isSome_none, Bool.false_eq_true, if_false] at p4
        rw [show a.off + i / P.cellsOf e * P.cellsOf e + i % P.cellsOf e = a.off + i by omega] at p4
        simpa using p4
      · simp only [List.mem_map, List.mem_range] at hb
        obtain ⟨i, hi, rfl⟩ := hb
        rw [hg i hi]
        exact (Classical.choose_spec (key i hi)).1

/-- how it stands in the abstract heap -/
theorem InSlice.rel {W : World} {β : Type} {f : β → List Value} {s : Value} {l : List β} {La : Arg} (h : InSlice W f s l La) {L : List Arg} {j : Nat} (hL : L[j]? = some La) :
    ∃ s', VRel (mR P L) s' s ∧ ((l = [] ∧ ∃ o c, s' = .slice o 0 c) ∨ ∃ c p e, s' = .slice (some ⟨P.globals.size + j, 0, none⟩) l.length c ∧ L[j]? = some (p, some (flat f l, e))) := by
  cases h with
  | nil hl hs h0 =>
    have : (L.map (·.1))[j]? = some (placeOf s) := by rw [List.getElem?_map, hL]; rfl
    obtain ⟨o, n2, c2, hv⟩ := hs.rel (P := P) (l := L.map (·.1)) j this
    obtain ⟨o', c', rfl⟩ := h0
    have hn2 : n2 = 0 := by cases hv <;> rfl
    subst hn2
    exact ⟨_, hv, .inl ⟨hl, _, _, rfl⟩⟩
  | blk a c cs e' fr hs hc hc2 hsp hb ho hg =>
    subst hs
    refine ⟨_, ?_, .inr ⟨c, _, _, rfl, hL⟩⟩
    refine .slice (.inl ⟨hc2, rfl⟩) hc fun _ => ⟨rfl, hsp, a.off, ?_, rfl⟩
    show mA P _ _ = _
    rw [mA_arg, List.getElem?_map, hL]
    rfl
/-- what the arguments ask of a place -/
theorem InSlice.args {W : World} {β : Type} {f : β → List Value} {s : Value} {l : List β} {La : Arg} (h : InSlice W f s l La) (hf : ∀ b, (f b).all (closedV 4) = true) {p : Nat × Nat} {cs : List Value} {e : TypeId} (hq : La = (p, some (cs, e))) {L : List Arg} :
    ∃ cs' fr, W.heap[p.1]? = some (.cells cs' e fr) ∧ p.2 ≤ cs'.size ∧ ∀ i v, cs[i]? = some v → ∃ v', cs'[p.2 + i]? = some v' ∧ VRel (mR P L) v v' := by
  cases h with
  | nil hl hs h0 => simp at hq
  | blk a c cs2 e' fr hs hc hc2 hsp hb ho hg =>
    simp only [Prod.mk.injEq, Option.some.injEq] at hq
    obtain ⟨rfl, rfl, rfl⟩ := hq
    refine ⟨cs2, fr, hb, ho, fun i v hv => ⟨v, hg i v hv, closedV_rel 4 v ?_⟩⟩
    have hm := List.mem_of_getElem? hv
    unfold flat at hm
    obtain ⟨b, _, hb2⟩ := List.mem_flatMap.1 hm
    exact List.all_eq_true.1 (hf b) v hb2
end
end Go.Abs


namespace Go.Abs
def entryP (w : AW) (it : Value) : R AN := match entryA w it with | some v => .ok (.value v) w | none => .fail "entry"
def rangeP (P : Program) (w : AW) (t : TypeId) (x : Value) : R AN := match P.underlying t, x with
    | some .string, .string s => (match w.new (.sit s 0) with | some (b, w) => .ok (.value (.pointer (some ⟨b, 0, none⟩))) w | none => .fail "range")
    | some (.map _ _), .map none => (match w.new (.mit none 0 [] 0) with | some (b, w) => .ok (.value (.pointer (some ⟨b, 0, none⟩))) w | none => .fail "range")
    | some (.map _ _), .map (some m) => (match w.get m with
      | some (.map _ clock _) => (match w.new (.mit (some m) clock [] clock) with | some (b, w) => .ok (.value (.pointer (some ⟨b, 0, none⟩))) w | none => .fail "range")
      | _ => .fail "range")
    | _, _ => .fail "range"
def panicP (w : AW) (x : Value) : R AN := match x with | .iface t v => .panic (.iface t v) w | _ => .fail "panic"
end Go.Abs


namespace Go.Abs

section
variable {P : Program} {X X' : XNames}
theorem Valid.other (he : execA P X = execA P X') {A : AW} {ops : Array Oper} {tm : Tm} {i : Nat} (h : Valid P X A ops tm i) : Valid P X' A ops tm i := by
  intro o d ho hd
  refine ⟨(h o d ho hd).1, fun hw => ⟨fun hq => ?_, fun hq => ((h o d ho hd).2 hw).2 hq⟩⟩
  rw [← he]
  exact ((h o d ho hd).2 hw).1 hq
theorem DrawAt.other (he : execA P X = execA P X') {m : Inj P} {A : AW} {live : Bool} {lo hi : Nat} {tm : Tm} {tmps : Array Value} {ops : Array Oper} {S : Nat → Prop} {C : Nat} {rl pl rest : List Nat}
    (D : DrawAt P X m A live lo hi tm tmps ops S C rl pl rest) : DrawAt P X' m A live lo hi tm tmps ops S C rl pl rest :=
  ⟨D.plan, D.slotsOk, D.opsOk, D.rls, D.lin, D.sub, D.bits, D.closed, D.inb, D.effs, D.size, D.small, D.oob, D.slots, D.ghost, D.apart, fun h i hc hs => (D.valid h i hc hs).imp id (Valid.other he), D.wait⟩
theorem FRel.other (he : execA P X = execA P X') {m : Inj P} {A : AW} {live : Bool} {lo hi : Nat} {a : AFr} {f : Frame} (r : FRel P X m A live lo hi a f) : FRel P X' m A live lo hi a f := by
  refine ⟨r.core, ?_⟩
  cases r.body with
  | plain g tm todo => exact .plain g tm todo
  | draw ops S C rl pl rest k k' g1 g2 g3 g4 g5 D => exact .draw ops S C rl pl rest k k' g1 g2 g3 g4 g5 (D.other he)
theorem Stk.other (he : execA P X = execA P X') {m : Inj P} {A : AW} {base hi : Nat} {l : List AFr} {l' : List Frame} (s : Stk P X m A base hi l l') : Stk P X' m A base hi l l' := by
  induction s with
  | nil hi h => exact .nil hi h
  | cons lo hi a f l l' hl r t ih => exact .cons lo hi a f l l' hl (r.other he) ih
theorem SRel.other (he : execA P X = execA P X') {f0 : FuncId} {base lo : Nat} {m : Inj P} {s : ASt} {f : Frame} {cs : List Frame} {w : World} (h : SRel P X f0 base lo m s f cs w) : SRel P X' f0 base lo m s f cs w :=
  ⟨h.rel, h.glob, h.below, h.top.other he, h.stk.other he, h.bot⟩
theorem Answers.other (he : execA P X = execA P X') {W0 : World} {m0 : Inj P} {ok : Value → Bool} {s : ASt} (h : Answers P X' W0 m0 ok s) : Answers P X W0 m0 ok s := by
  obtain ⟨l, h1, h2⟩ := h
  exact ⟨l, fun f0 base lo cs0 m f csW w hr ho => h1 f0 base lo cs0 m f csW w (hr.other he) ho, h2⟩
end

/-- the same names, and what is told -/
def XNames.told (X : XNames) (l : List (FuncId × Tmp × Value)) : XNames := { X with says := l }
theorem told_exec (P : Program) (X : XNames) (l l' : List (FuncId × Tmp × Value)) : execA P (X.told l) = execA P (X.told l') := rfl
theorem XOk.told {P : Program} {X : XNames} (h : XOk P X) (l : List (FuncId × Tmp × Value)) : XOk P (X.told l) := ⟨h.clone, h.noEscape, h.noZero⟩
end Go.Abs


namespace Go.Abs

section
variable {P : Program} {X : XNames} {W0 : World} {m0 : Inj P}
theorem wp_draw_all (hP : POk P) {s : ASt} {id : Nat} {ops : Array Oper} {k : List Item} {Q : Value → AW → Prop} (hm : s.fr.mode = .run) (hd : s.fr.dr = false) (ht : s.fr.todo = .code (.region id ops true) :: k) (hb : Back ops.toList)
    (hs : ∀ rest, Lin ops.toList (fun _ => False) rest → WP P X W0 m0 { s with fr := { s.fr with todo := .inRegion ops rest :: k } } Q) : WP P X W0 m0 s Q := by
  intro f0 base lo cs0 m f csW w h ho
  obtain ⟨htm, htodo⟩ := h.plain hd
  have hbase := h.baseLe
  have hlo := h.below
  rw [ht] at htodo
  generalize htf : f.todo = y at htodo
  cases htodo with
  | cons hx hk =>
    rename_i x' k'
    obtain ⟨rfl, hcode⟩ := hx
    have hfm := h.fmode hm
    obtain ⟨t, hstep⟩ := w_draw (P := P) (cs := csW ++ cs0) (w := w) hfm htf
    have hsched : Region.schedule (P.follows .mixedOrders) ops t = Region.linearise .any ops t := by simp [Region.schedule, hP.mixed]
    rw [hsched] at hstep
    have hev := Ev.drawn h.rel (w.drawn + 1) (Nat.le_succ _)
    have hevl := hev.low (lo := base) (by omega)
    obtain ⟨v, A', hq, v', m', w', f', u1, u2, u3, u4, u5⟩ := hs _ (lin_of hb t) f0 base lo cs0 m { f with todo := .inRegion ops (Region.linearise .any ops t) :: k' } csW { w with drawn := w.drawn + 1 }
      ⟨hev.rel, h.glob, hlo, ⟨⟨h.top.core.fn, h.top.core.kind, h.top.core.kindOk, h.top.core.mode, h.top.core.round, h.top.core.defers⟩, .plain hd htm (.cons ⟨rfl, hcode⟩ hk)⟩, h.stk.mono (.refl m) fun _ _ => rfl, h.bot.top rfl rfl rfl⟩ (ho.next hevl)
    exact ⟨v, A', hq, v', m', w', f', (Steps.one hstep).trans u1, u2, hevl.trans u3, u4, u5⟩

/-- objects are known by their families -/
def MemOk (A : AW) : Prop := ∀ i o f b, A.get i = some o → o.fam = some (f, b) → i ∈ A.members f ∧ f < A.next
theorem wp_mem {s : ASt} {Q : Value → AW → Prop} (h : MemOk s.w → Fine s.w → WP P X W0 m0 s Q) : WP P X W0 m0 s Q := by
  intro f0 base lo cs0 m f csW w hr ho
  exact h hr.rel.mem ⟨fun i hi => (hr.rel.fresh i hi).2.2, fun i hi => (hr.rel.fresh i hi).1⟩ f0 base lo cs0 m f csW w hr ho
theorem rel_up {m : Inj P} {A B : AW} {w : World} (r : Rel m A w) (hn : A.next ≤ B.next) (hl : B.next ≤ maxId) (hf : Fine B) (hm : MemOk B) (hg : ∀ i o, B.get i = some o → A.get i = some o) : Rel m B w where
  obj i o c d h1 h2 := r.obj i o c d (hg i o h1) h2
  home i cs e b ro h1 := r.home i cs e b ro (hg _ _ h1)
  sep i j oi oj c di dj h h1 h2 := r.sep i j oi oj c di dj h (hg _ _ h1) (hg _ _ h2)
  mem i o f b h1 h2 := hm i o f b h1 h2
  fresh i hi := ⟨hf.get i hi, (r.fresh i (by omega)).2.1, hf.fams i hi⟩
  lim := hl
  room i cs e f b ro c d h1 h2 := r.room i cs e f b ro c d (hg _ _ h1) h2
theorem wp_up {fr : AFr} {cs : List AFr} {A B : AW} {Q : Value → AW → Prop} (hd : fr.dr = false) (hn : A.next ≤ B.next) (hl : B.next ≤ maxId) (hf : Fine B) (hm : MemOk B) (hg : ∀ i o, B.get i = some o → A.get i = some o)
    (h : WP P X W0 m0 ⟨fr, cs, B⟩ Q) : WP P X W0 m0 ⟨fr, cs, A⟩ Q := by
  intro f0 base lo cs0 m f csW w hr ho
  have hrel := rel_up hr.rel hn hl hf hm hg
  obtain ⟨htm, htodo⟩ := hr.plain hd
  have hev : EvL base m A w m B w := ⟨.refl m, hrel, Nat.le_refl _, rfl, rfl, rfl, Nat.le_refl _, fun _ _ _ => rfl, fun c _ ⟨i, o, d, h1, h2, h3⟩ => ⟨i, o, d, hg i o h1, h2, h3⟩, hn, fun _ _ => rfl⟩
  obtain ⟨v, A', hq, v', m', w', f', u1, u2, u3, u4, u5⟩ := h f0 base lo cs0 m f csW w ⟨hrel, hr.glob, Nat.le_trans hr.below hn, ⟨hr.top.core, .plain hd htm htodo⟩, hr.stk.mono (.refl m) fun _ _ => rfl, hr.bot⟩ (ho.next hev)
  exact ⟨v, A', hq, v', m', w', f', u1, u2, hev.trans u3, u4, u5⟩
end
end Go.Abs


namespace Go.Abs

def findL : List (Nat × Nat) → Nat → Option Nat
  | [], _ => none
  | p :: r, i => bif Nat.beq p.1 i then some p.2 else findL r i
def findR : List (Nat × Nat) → Nat → Option Nat
  | [], _ => none
  | p :: r, j => bif Nat.beq p.2 j then some p.1 else findR r j
theorem findL_mem : ∀ {L : List (Nat × Nat)} {i j : Nat}, findL L i = some j → (i, j) ∈ L
  | [], i, j, h => by cases h
  | p :: r, i, j, h => by
    unfold findL at h
    cases hb : Nat.beq p.1 i with
    | true =>
      rw [hb, cond_true, Option.some.injEq] at h
      have := Nat.eq_of_beq_eq_true hb
      subst this h
      simp
    | false =>
      rw [hb, cond_false] at h
      exact List.mem_cons_of_mem _ (findL_mem h)
/-- each number has one other, and the other way about -/
def okL (L : List (Nat × Nat)) : Bool := L.all fun p => (match findR L p.2 with | some i => Nat.beq i p.1 | none => false) && (match findL L p.1 with | some j => Nat.beq j p.2 | none => false)
theorem okL_spec {L : List (Nat × Nat)} (h : okL L = true) {i j : Nat} (hm : (i, j) ∈ L) : findR L j = some i ∧ findL L i = some j := by
  have := List.all_eq_true.1 h _ hm
  simp only [Bool.and_eq_true] at this
  obtain ⟨h1, h2⟩ := this
  constructor
  · split at h1
    · rename_i x hx
      rw [hx, Nat.eq_of_beq_eq_true h1]
    · cases h1
  · split at h2
    · rename_i x hx
      rw [hx, Nat.eq_of_beq_eq_true h2]
    · cases h2

def mapO {α β : Type} (f : α → Option β) : List α → Option (List β)
  | [] => some []
  | x :: r => match f x, mapO f r with
    | some y, some l => some (y :: l)
    | _, _ => none
theorem mapO_cons {α β : Type} {f : α → Option β} {x : α} {r : List α} {l : List β} (h : mapO f (x :: r) = some l) : ∃ y t, f x = some y ∧ mapO f r = some t ∧ l = y :: t := by
  unfold mapO at h
  split at h
  · rename_i y t h1 h2
    simp only [Option.some.injEq] at h
    exact ⟨y, t, h1, h2, h.symm⟩
  · cases h

def renV (L : List (Nat × Nat)) : Nat → Value → Option Value
  | 0, _ => none
  | n + 1, v => match v with
    | .bool b => some (.bool b)
    | .int k x => some (.int k x)
    | .string s => some (.string s)
    | .nilFunc => some .nilFunc
    | .nilIface => some .nilIface
    | .pointer none => some (.pointer none)
    | .pointer (some a) => (match findL L a.block with | some j => some (.pointer (some ⟨j, a.off, a.spot⟩)) | none => none)
    | .slice none k c => some (.slice none k c)
    | .slice (some a) k c => (match findL L a.block with | some j => some (.slice (some ⟨j, a.off, a.spot⟩) k c) | none => none)
    | .map none => some (.map none)
    | .map (some r) => (match findL L r with | some j => some (.map (some j)) | none => none)
    | .func (.func f) ⟨a⟩ ⟨c⟩ => (match mapO (renV L n) a, mapO (renV L n) c with | some a, some c => some (.func (.func f) ⟨a⟩ ⟨c⟩) | _, _ => none)
    | .iface t v => (match renV L n v with | some u => some (.iface t u) | none => none)
    | .agg ⟨l⟩ => (match mapO (renV L n) l with | some l => some (.agg ⟨l⟩) | none => none)
    | .tuple ⟨l⟩ => (match mapO (renV L n) l with | some l => some (.tuple ⟨l⟩) | none => none)
    | _ => none

section
variable {P : Program} {L : List (Nat × Nat)}
/-- where the objects lie, by their new numbers -/
def injR (L : List (Nat × Nat)) (m : Inj P) : Inj P where
  map j := match findR L j with | some i => m i | none => none
  room j := match findR L j with | some i => m.room i | none => 0
  el j := match findR L j with | some i => m.el i | none => 0
  st j := match findR L j with | some i => m.st i | none => 0
  ok j h := by
    cases hf : findR L j with
    | none => rw [hf] at h; exact absurd rfl h
    | some i => rw [hf] at h; exact m.ok i h
theorem injR_at (hL : okL L = true) (m : Inj P) {i j : Nat} (h : findL L i = some j) : injR L m j = m i ∧ (injR L m).room j = m.room i ∧ (injR L m).el j = m.el i ∧ (injR L m).st j = m.st i := by
  have := (okL_spec hL (findL_mem h)).1
  refine ⟨?_, ?_, ?_, ?_⟩
  · show (match findR L j with | some i => m i | none => none) = _
    rw [this]
  · show (match findR L j with | some i => m.room i | none => 0) = _
    rw [this]
  · show (match findR L j with | some i => m.el i | none => 0) = _
    rw [this]
  · show (match findR L j with | some i => m.st i | none => 0) = _
    rw [this]
theorem renL_rel {m : Inj P} {f : Value → Option Value} (hf : ∀ v u v', f v = some u → VRel m v v' → VRel (injR L m) u v') : ∀ {l l2 l' : List Value}, mapO f l = some l2 → VRels m l l' → VRels (injR L m) l2 l'
  | _, _, _, h, .nil => by
    simp only [mapO, Option.some.injEq] at h
    subst h
    exact .nil
  | _, _, _, h, .cons r t => by
    obtain ⟨y, s, h1, h2, rfl⟩ := mapO_cons h
    exact .cons (hf _ _ _ h1 r) (renL_rel hf h2 t)
theorem renV_rel (hL : okL L = true) {m : Inj P} : ∀ (n : Nat) (v u v' : Value), renV L n v = some u → VRel m v v' → VRel (injR L m) u v'
  | 0, _, _, _, h, _ => by cases h
  | n + 1, v, u, v', h, r => by
    have ih := renV_rel hL (m := m) n
    cases r with
    | bool b => simp only [renV, Option.some.injEq] at h; subst h; exact .bool b
    | int k x => simp only [renV, Option.some.injEq] at h; subst h; exact .int k x
    | float => simp [renV] at h
    | complex => simp [renV] at h
    | string s => simp only [renV, Option.some.injEq] at h; subst h; exact .string s
    | nilFunc => simp only [renV, Option.some.injEq] at h; subst h; exact .nilFunc
    | nilIface => simp only [renV, Option.some.injEq] at h; subst h; exact .nilIface
    | ptrNil => simp only [renV, Option.some.injEq] at h; subst h; exact .ptrNil
    | ptr ha =>
      simp only [renV] at h
      split at h
      · rename_i j hj
        simp only [Option.some.injEq] at h
        subst h
        obtain ⟨h1, h2, d, h3, h4⟩ := ha
        exact .ptr ⟨h1, h2, d, by rw [(injR_at hL m hj).1]; exact h3, h4⟩
      · cases h
    | sliceNil => simp only [renV, Option.some.injEq] at h; subst h; exact .sliceNil
    | slice hc hn ha =>
      simp only [renV] at h
      split at h
      · rename_i j hj
        simp only [Option.some.injEq] at h
        subst h
        obtain ⟨g1, g2, g3, g4⟩ := injR_at hL m hj
        exact .slice (hc.imp id fun ⟨h1, h2, h3, h5, x, h4⟩ => ⟨h1, h2, by rw [g2, g4]; exact h3, by rw [g2]; exact h5, x, by rw [g1]; exact h4⟩) hn fun p => by
          obtain ⟨h1, h2, d, h3, h4⟩ := ha p
          exact ⟨h1, h2, d, by rw [g1]; exact h3, h4⟩
      · cases h
    | mapNil => simp only [renV, Option.some.injEq] at h; subst h; exact .mapNil
    | map hr =>
      simp only [renV] at h
      split at h
      · rename_i j hj
        simp only [Option.some.injEq] at h
        subst h
        exact .map (by rw [(injR_at hL m hj).1]; exact hr)
      · cases h
    | chanNil => simp [renV] at h
    | func hf ha hc =>
      rename_i f f' a a' c c'
      cases f with
      | func g =>
        simp only [renV] at h
        split at h
        · rename_i x y hx hy
          simp only [Option.some.injEq] at h
          subst h
          refine .func ?_ (renL_rel ih hx ha) (renL_rel ih hy hc)
          rcases hf with ⟨e, _⟩ | ⟨l, l', e, _⟩
          · exact .inl ⟨e, fun l e => by cases e⟩
          · cases e
        · cases h
      | _ => simp [renV] at h
    | iface t r =>
      simp only [renV] at h
      split at h
      · rename_i x hx
        simp only [Option.some.injEq] at h
        subst h
        exact .iface t (ih _ _ _ hx r)
      · cases h
    | agg r =>
      simp only [renV] at h
      split at h
      · rename_i x hx
        simp only [Option.some.injEq] at h
        subst h
        exact .agg (renL_rel ih hx r)
      · cases h
    | tuple r =>
      simp only [renV] at h
      split at h
      · rename_i x hx
        simp only [Option.some.injEq] at h
        subst h
        exact .tuple (renL_rel ih hx r)
      · cases h
end
end Go.Abs


namespace Go.Abs

def mapT {α β : Type} (f : α → Option β) : Trie α → Option (Trie β)
  | .nil => some .nil
  | .node v l r => match (match v with | none => some none | some x => (match f x with | some y => some (some y) | none => none) : Option (Option β)), mapT f l, mapT f r with
    | some v, some l, some r => some (.node v l r)
    | _, _, _ => none
theorem mapT_get {α β : Type} {f : α → Option β} : ∀ {t : Trie α} {t2 : Trie β}, mapT f t = some t2 → ∀ i, (t.get? i = none ∧ t2.get? i = none) ∨ ∃ x y, t.get? i = some x ∧ t2.get? i = some y ∧ f x = some y
  | .nil, t2, h, i => by
    simp only [mapT, Option.some.injEq] at h
    subst h
    exact .inl ⟨rfl, rfl⟩
  | .node v l r, t2, h, i => by
    unfold mapT at h
    split at h
    · rename_i w l2 r2 hv hl hr
      simp only [Option.some.injEq] at h
      subst h
      unfold Trie.get?
      cases h0 : Nat.beq i 0 with
      | true =>
        simp only [cond_true]
        cases v with
        | none =>
          simp only [Option.some.injEq] at hv
          subst hv
          exact .inl ⟨rfl, rfl⟩
        | some x =>
          simp only at hv
          split at hv
          · rename_i y hy
            simp only [Option.some.injEq] at hv
            subst hv
            exact .inr ⟨x, y, rfl, rfl, hy⟩
          · cases hv
      | false =>
        simp only [cond_false]
        cases h1 : Nat.beq (i % 2) 1 with
        | true => simp only [cond_true]; exact mapT_get hl _
        | false => simp only [cond_false]; exact mapT_get hr _
    · cases h

def okI : Item → Bool
  | .inRangeFunc _ => false
  | .endRangeFunc _ => false
  | _ => true
def isRun : FrameMode → Bool
  | .run => true
  | _ => false
def renFr (L : List (Nat × Nat)) (n : Nat) (fr : AFr) : Option AFr :=
  match mapT (renV L n) fr.tm.t, fr.defers, fr.roundOf, fr.dr, fr.todo.all okI && isRun fr.mode with
  | some t, [], none, false, true => some { fr with tm := ⟨fr.tm.sz, t⟩ }
  | _, _, _, _, _ => none
def renC (L : List (Nat × Nat)) (n : Nat) (v : Value) : Option Value := bif isTuple v then some v else renV L n v
def renE (L : List (Nat × Nat)) (n : Nat) (e : MapEntry) : Option MapEntry := match renV L n e.key, renV L n e.val with
  | some k, some v => some { key := k, val := v, born := e.born }
  | _, _ => none
def renO (L : List (Nat × Nat)) (n : Nat) : AO → Option AO
  | .row cs e f b ro => (match findL L f, mapO (renC L n) cs with | some g, some cs => some (.row cs e g b ro) | _, _ => none)
  | .map es c ro => (match mapO (renE L n) es with | some es => some (.map es c ro) | none => none)
  | _ => none
def renHp (L : List (Nat × Nat)) (n : Nat) (A : AW) : List (Nat × Nat) → Trie AO → Option (Trie AO)
  | [], t => some t
  | p :: r, t => match A.get p.1 with
    | none => renHp L n A r t
    | some o => (match renO L n o with
      | some o2 => renHp L n A r (t.put depth p.2 (some o2))
      | none => none)
def renFm (L : List (Nat × Nat)) (A : AW) : List (Nat × Nat) → Trie (List Nat) → Trie (List Nat)
  | [], t => t
  | p :: r, t => match A.fams.get? p.1 with
    | none => renFm L A r t
    | some l => renFm L A r (t.put depth p.2 (some (l.filterMap (findL L))))
/-- the same state by other numbers -/
def renS (L : List (Nat × Nat)) (n N : Nat) (s : ASt) : Option ASt :=
  match renFr L n s.fr, mapO (renFr L n) s.cs, renHp L n s.w L .nil with
  | some fr, some cs, some h => some ⟨fr, cs, ⟨h, N, renFm L s.w L .nil⟩⟩
  | _, _, _ => none
/-- what the numbers must be -/
def okN (L : List (Nat × Nat)) (nG N : Nat) : Bool := okL L && (L.all (fun p => Nat.blt p.2 N) && (Nat.ble N maxId && (List.range nG).all fun g => match findL L g with | some j => Nat.beq j g | none => false))

section
variable {P : Program} {X : XNames} {L : List (Nat × Nat)} {n N : Nat}
theorem tm_ren (hL : okL L = true) {m : Inj P} {tm : Tm} {t : Trie Value} {f : Array Value} (h : mapT (renV L (n + 1)) tm.t = some t) (r : TmRel m tm f) : TmRel (injR L m) ⟨tm.sz, t⟩ f := by
  refine ⟨r.size, r.small, fun i => ?_⟩
  have hv := r.val i
  unfold Tm.get at hv ⊢
  rcases mapT_get h i with ⟨h1, h2⟩ | ⟨x, y, h1, h2, h3⟩
  · rw [h1] at hv
    simp only [h2]
    exact renV_rel hL 1 undef undef _ rfl hv
  · rw [h1] at hv
    simp only [h2]
    exact renV_rel hL _ _ _ _ h3 hv
theorem irel_any {m m2 : Inj P} {x y : Item} (h : okI x = true) (r : IRel m x y) : IRel m2 x y := by
  cases x <;> first | exact r | cases h
theorem frel_ren (hL : okL L = true) {m : Inj P} {A A2 : AW} {live live2 : Bool} {lo hi : Nat} {a a2 : AFr} {f : Frame} (h : renFr L (n + 1) a = some a2) (r : FRel P X m A live lo hi a f) :
    FRel P X (injR L m) A2 live2 0 0 a2 f ∧ a2.kind = a.kind ∧ a2.fn = a.fn ∧ a2.roundOf = a.roundOf ∧ a2.dr = false := by
  unfold renFr at h
  split at h
  · rename_i t ht hd hro hdr hok
    simp only [Option.some.injEq] at h
    subst h
    simp only [Bool.and_eq_true] at hok
    have hc := r.core
    have hmode : a.mode = .run := by
      have := hok.2
      unfold isRun at this
      split at this
      · assumption
      · cases this
    refine ⟨⟨⟨hc.fn, hc.kind, hc.kindOk, ?_, ?_, ?_⟩, ?_⟩, rfl, rfl, rfl, hdr⟩
    · have := hc.mode
      rw [hmode] at this ⊢
      generalize f.mode = y at this ⊢
      cases this
      exact .run
    · have := hc.round
      rw [hro] at this ⊢
      cases hf : f.roundOf with
      | none => exact trivial
      | some l => rw [hf] at this; exact this.elim
    · have := hc.defers
      rw [hd] at this ⊢
      generalize f.defers = y at this ⊢
      cases this
      exact .nil
    · cases r.body with
      | plain g tm todo =>
        refine .plain hdr (tm_ren hL ht tm) ?_
        have : ∀ {x : List Item} {y : List Item}, x.all okI = true → All2 (IRel m) x y → All2 (IRel (injR L m)) x y := by
          intro x y hx hxy
          induction hxy with
          | nil => exact .nil
          | cons h1 _ ih =>
            simp only [List.all_cons, Bool.and_eq_true] at hx
            exact .cons (irel_any hx.1 h1) (ih hx.2)
        exact this hok.1 todo
      | draw ops S C rl pl rest k k' g1 => rw [hdr] at g1; cases g1
  · cases h
theorem mapO_get {α β : Type} {f : α → Option β} : ∀ {l : List α} {l2 : List β}, mapO f l = some l2 → ∀ {i : Nat} {y : β}, l2[i]? = some y → ∃ x, l[i]? = some x ∧ f x = some y
  | [], l2, h, i, y, hy => by
    simp only [mapO, Option.some.injEq] at h
    subst h
    simp at hy
  | x :: r, l2, h, i, y, hy => by
    obtain ⟨z, s, h1, h2, rfl⟩ := mapO_cons h
    cases i with
    | zero =>
      simp only [List.getElem?_cons_zero, Option.some.injEq] at hy
      subst hy
      exact ⟨x, rfl, h1⟩
    | succ i => exact mapO_get h2 (by simpa using hy)
theorem entries_ren (hL : okL L = true) {m : Inj P} : ∀ {es es2 : List MapEntry} {es' : List MapEntry}, mapO (renE L n) es = some es2 → All2 (ERel m) es es' → All2 (ERel (injR L m)) es2 es'
  | _, _, _, h, .nil => by
    simp only [mapO, Option.some.injEq] at h
    subst h
    exact .nil
  | _, _, _, h, .cons r t => by
    obtain ⟨z, s, h1, h2, rfl⟩ := mapO_cons h
    refine .cons ?_ (entries_ren hL h2 t)
    unfold renE at h1
    split at h1
    · rename_i k v hk hv
      simp only [Option.some.injEq] at h1
      subst h1
      exact ⟨renV_rel hL _ _ _ _ hk r.key, renV_rel hL _ _ _ _ hv r.val, r.born⟩
    · cases h1
theorem obj_ren (hL : okL L = true) {m : Inj P} {d : Nat} {o o2 : AO} {o' : Obj} (h : renO L n o = some o2) (r : ORel m d o o') : ORel (injR L m) d o2 o' := by
  cases o with
  | row cs e f b ro =>
    simp only [renO] at h
    split at h
    · rename_i g cs2 hg hcs
      simp only [Option.some.injEq] at h
      subst h
      obtain ⟨cs', fr, e', hr⟩ := r
      refine ⟨cs', fr, e', fun i v hv => ?_⟩
      obtain ⟨x, hx, hf⟩ := mapO_get hcs hv
      obtain ⟨v', h1, h2, h3⟩ := hr i x hx
      refine ⟨v', h1, fun ht => ?_, h3⟩
      unfold renC at hf
      cases hx2 : isTuple x with
      | true =>
        rw [hx2, cond_true, Option.some.injEq] at hf
        rw [← hf, hx2] at ht
        cases ht
      | false =>
        rw [hx2, cond_false] at hf
        exact renV_rel hL _ _ _ _ hf (h2 hx2)
    · cases h
  | map es c ro =>
    simp only [renO] at h
    split at h
    · rename_i es2 he
      simp only [Option.some.injEq] at h
      subst h
      obtain ⟨h0, es', e', hr⟩ := r
      exact ⟨h0, es', e', entries_ren hL he hr⟩
    · cases h
  | _ => simp [renO] at h
theorem obj_ro {o o2 : AO} (h : renO L n o = some o2) : o2.ro = o.ro ∧ (∀ g b, o2.fam = some (g, b) → ∃ f, o.fam = some (f, b) ∧ findL L f = some g) ∧ ∀ cs e g b ro, o2 = .row cs e g b ro → ∃ cs0 f, o = .row cs0 e f b ro ∧ findL L f = some g := by
  cases o with
  | row cs e f b ro =>
    simp only [renO] at h
    split at h
    · rename_i g cs2 hg hcs
      simp only [Option.some.injEq] at h
      subst h
      refine ⟨rfl, fun g' b' e' => ?_, fun cs1 e1 g1 b1 ro1 e' => ?_⟩
      · cases e'; exact ⟨f, rfl, hg⟩
      · cases e'; exact ⟨cs, f, rfl, hg⟩
    · cases h
  | map es c ro =>
    simp only [renO] at h
    split at h
    · rename_i es2 he
      simp only [Option.some.injEq] at h
      subst h
      exact ⟨rfl, fun g' b' e' => (by cases e'), fun _ _ _ _ _ e' => (by cases e')⟩
    · cases h
  | _ => simp [renO] at h
theorem heap_ren {A : AW} (hlt : ∀ p ∈ L, p.2 + 1 < 2 ^ depth) : ∀ (l : List (Nat × Nat)) {t t2 : Trie AO}, (∀ p ∈ l, p ∈ L) → renHp L n A l t = some t2 → (∀ j o2, t.get? j = some o2 → ∃ i o, (i, j) ∈ L ∧ A.get i = some o ∧ renO L n o = some o2) →
    ∀ j o2, t2.get? j = some o2 → ∃ i o, (i, j) ∈ L ∧ A.get i = some o ∧ renO L n o = some o2
  | [], t, t2, _, h, ht => by
    simp only [renHp, Option.some.injEq] at h
    subst h
    exact ht
  | p :: r, t, t2, hp, h, ht => by
    unfold renHp at h
    split at h
    · exact heap_ren hlt r (fun q hq => hp q (List.mem_cons_of_mem _ hq)) h ht
    · rename_i o ho
      split at h
      · rename_i o2 ho2
        refine heap_ren hlt r (fun q hq => hp q (List.mem_cons_of_mem _ hq)) h fun j x hx => ?_
        rw [Trie.get?_put depth t p.2 j (some o2) (hlt p (hp p List.mem_cons_self))] at hx
        split at hx
        · rename_i e
          simp only [Option.some.injEq] at hx
          subst e hx
          exact ⟨p.1, o, hp p List.mem_cons_self, ho, ho2⟩
        · exact ht j x hx
      · cases h
theorem fams_ren {A : AW} (hL : okL L = true) (hlt : ∀ p ∈ L, p.2 + 1 < 2 ^ depth) : ∀ (l : List (Nat × Nat)) {t : Trie (List Nat)}, (∀ p ∈ l, p ∈ L) →
    (∀ j s, t.get? j = some s → ∃ i s0, (i, j) ∈ L ∧ A.fams.get? i = some s0 ∧ s = s0.filterMap (findL L)) →
    (∀ j s, (renFm L A l t).get? j = some s → ∃ i s0, (i, j) ∈ L ∧ A.fams.get? i = some s0 ∧ s = s0.filterMap (findL L)) ∧
    (∀ i j s0, ((i, j) ∈ l ∨ ((i, j) ∈ L ∧ t.get? j = some (s0.filterMap (findL L)))) → (i, j) ∈ L → A.fams.get? i = some s0 → (renFm L A l t).get? j = some (s0.filterMap (findL L)))
  | [], t, _, ht => ⟨ht, fun i j s0 h _ _ => by
    rcases h with h | h
    · simp at h
    · exact h.2⟩
  | p :: r, t, hp, ht => by
    have hr : ∀ q ∈ r, q ∈ L := fun q hq => hp q (List.mem_cons_of_mem _ hq)
    unfold renFm
    split
    · rename_i hn
      obtain ⟨h1, h2⟩ := fams_ren hL hlt r hr ht
      refine ⟨h1, fun i j s0 h hm hs => h2 i j s0 ?_ hm hs⟩
      rcases h with h | h
      · rcases List.mem_cons.1 h with e | h
        · subst e
          rw [hs] at hn
          cases hn
        · exact .inl h
      · exact .inr h
    · rename_i s1 hs1
      have hput := fun j => Trie.get?_put depth t p.2 j (some (s1.filterMap (findL L))) (hlt p (hp p List.mem_cons_self))
      obtain ⟨h1, h2⟩ := fams_ren hL hlt r (t := t.put depth p.2 (some (s1.filterMap (findL L)))) hr fun j s hx => by
        rw [hput j] at hx
        split at hx
        · rename_i e
          simp only [Option.some.injEq] at hx
          subst e hx
          exact ⟨p.1, s1, hp p List.mem_cons_self, hs1, rfl⟩
        · exact ht j s hx
      refine ⟨h1, fun i j s0 h hm hs => h2 i j s0 ?_ hm hs⟩
      by_cases e : j = p.2
      · subst e
        have ei : i = p.1 := by
          have a1 := (okL_spec hL hm).1
          have a2 := (okL_spec hL (i := p.1) (j := p.2) (hp p List.mem_cons_self)).1
          rw [a1] at a2
          exact Option.some.inj a2
        subst ei
        rw [hs1] at hs
        simp only [Option.some.injEq] at hs
        subst hs
        exact .inr ⟨hm, by rw [hput, if_pos rfl]⟩
      · rcases h with h | h
        · rcases List.mem_cons.1 h with e' | h
          · subst e'
            exact absurd rfl e
          · exact .inl h
        · exact .inr ⟨h.1, by rw [hput, if_neg e]; exact h.2⟩

/-- what a run has kept of the world, whatever the numbers -/
structure EvW (m : Inj P) (A : AW) (w : World) (m' : Inj P) (A' : AW) (w' : World) : Prop where
  size : w.heap.size ≤ w'.heap.size
  os : w'.os = w.os
  tape : w'.tape = w.tape
  output : w'.output = w.output
  draws : w.drawn ≤ w'.drawn
  keep : ∀ c, c < w.heap.size → ¬ Own m A c → w'.heap[c]? = w.heap[c]?
  own : ∀ c, c < w.heap.size → Own m' A' c → Own m A c
theorem EvL.evw {lo : Nat} {m m' : Inj P} {A A' : AW} {w w' : World} (h : EvL lo m A w m' A' w') : EvW m A w m' A' w' := ⟨h.size, h.os, h.tape, h.output, h.draws, h.keep, h.own⟩
theorem EvW.trans {m m' m'' : Inj P} {A A' A'' : AW} {w w' w'' : World} (h : EvW m A w m' A' w') (k : EvW m' A' w' m'' A'' w'') : EvW m A w m'' A'' w'' where
  size := Nat.le_trans h.size k.size
  os := k.os.trans h.os
  tape := k.tape.trans h.tape
  output := k.output.trans h.output
  draws := Nat.le_trans h.draws k.draws
  keep c hc hn := by
    have hs := h.size
    rw [k.keep c (by omega) (fun ho => hn (h.own c hc ho)), h.keep c hc hn]
  own c hc ho := by
    have hs := h.size
    exact h.own c hc (k.own c (by omega) ho)
/-- the frame at the bottom of s returns what Q asks; of the numbers nothing is said -/
def WPw (P : Program) (X : XNames) (W0 : World) (m0 : Inj P) (s : ASt) (Q : Value → Prop) : Prop :=
  ∀ (f0 : FuncId) (base lo : Nat) (cs0 : List Frame) (m : Inj P) (f : Frame) (csW : List Frame) (w : World), SRel P X f0 base lo m s f csW w → Old W0 m0 m s.w w →
    ∃ v m' A' v' w' f', Q v ∧ Steps P (lone f (csW ++ cs0) w) (lone f' cs0 w') ∧ VRel m' v v' ∧ EvW m s.w w m' A' w' ∧ f'.leaving P w' (.returned v') ∧ f'.fn = f0
variable {W0 : World} {m0 : Inj P} {Q : Value → Prop}
theorem WP.weak {s : ASt} (h : WP P X W0 m0 s fun v _ => Q v) : WPw P X W0 m0 s Q := by
  intro f0 base lo cs0 m f csW w hr ho
  obtain ⟨v, A', hq, v', m', w', f', u1, u2, u3, u4, u5⟩ := h f0 base lo cs0 m f csW w hr ho
  exact ⟨v, m', A', v', w', f', hq, u1, u2, u3.evw, u4, u5⟩
theorem Answers.wpw {s : ASt} (h : Answers P X W0 m0 isT s) : WPw P X W0 m0 s fun v => isT v = true := by
  obtain ⟨l, h1, h2⟩ := h
  exact (h1.wp (Q := fun v _ => isT v = true) h2).weak
theorem Reach.wpw {s s' : ASt} (h : Reach P X W0 m0 s [s']) (h' : WPw P X W0 m0 s' Q) : WPw P X W0 m0 s Q := by
  intro f0 base lo cs0 m f csW w hr ho
  obtain ⟨s1, hs1, lo1, m1, f1, cs1, w1, t1, t2, t3⟩ := h f0 base lo cs0 m f csW w hr ho
  obtain rfl : s1 = s' := by simpa using hs1
  obtain ⟨v, m', A', v', w', f', hq, u1, u2, u3, u4, u5⟩ := h' f0 base lo1 cs0 m1 f1 cs1 w1 t3 (ho.next t2)
  exact ⟨v, m', A', v', w', f', hq, t1.trans u1, u2, t2.evw.trans u3, u4, u5⟩
theorem WPw.other {X' : XNames} (he : execA P X = execA P X') {s : ASt} (h : WPw P X' W0 m0 s Q) : WPw P X W0 m0 s Q :=
  fun f0 base lo cs0 m f csW w hr ho => h f0 base lo cs0 m f csW w (hr.other he) ho
theorem WPw.mono {Q' : Value → Prop} {s : ASt} (h : WPw P X W0 m0 s Q) (hq : ∀ v, Q v → Q' v) : WPw P X W0 m0 s Q' := by
  intro f0 base lo cs0 m f csW w hr ho
  obtain ⟨v, m', A', v', w', f', h1, h2⟩ := h f0 base lo cs0 m f csW w hr ho
  exact ⟨v, m', A', v', w', f', hq v h1, h2⟩
theorem stk_ren (hL : okL L = true) {m : Inj P} {A A2 : AW} {cs cs2 : List AFr} {base hi : Nat} {csW : List Frame} (h : mapO (renFr L (n + 1)) cs = some cs2) (s : Stk P X m A base hi cs csW) : Stk P X (injR L m) A2 0 0 cs2 csW := by
  induction s generalizing cs2 with
  | nil hi hb =>
    simp only [mapO, Option.some.injEq] at h
    subst h
    exact .nil 0 (Nat.le_refl _)
  | cons lo hi a f l l' hl r t ih =>
    obtain ⟨z, s, h1, h2, rfl⟩ := mapO_cons h
    exact .cons 0 0 z f s l' (Nat.le_refl _) (frel_ren hL h1 r).1 (ih h2)
theorem bot_ren {f0 : FuncId} : ∀ {l l2 : List AFr}, mapO (renFr L (n + 1)) l = some l2 → (∀ a a2, renFr L (n + 1) a = some a2 → a2.kind = a.kind ∧ a2.fn = a.fn ∧ a2.roundOf = a.roundOf) → Bot f0 l → Bot f0 l2
  | [], _, _, _, hb => hb.elim
  | [x], l2, h, hf, hb => by
    obtain ⟨z, s, h1, h2, rfl⟩ := mapO_cons h
    simp only [mapO, Option.some.injEq] at h2
    subst h2
    obtain ⟨g1, g2, g3⟩ := hf _ _ h1
    exact ⟨g1.trans hb.1, g2.trans hb.2.1, g3.trans hb.2.2⟩
  | x :: y :: r, l2, h, hf, hb => by
    obtain ⟨z, s, h1, h2, rfl⟩ := mapO_cons h
    have := bot_ren h2 hf hb.tail
    cases s with
    | nil => exact this.elim
    | cons u v => exact this.push
theorem fr_same {a a2 : AFr} (h : renFr L n a = some a2) : a2.kind = a.kind ∧ a2.fn = a.fn ∧ a2.roundOf = a.roundOf := by
  unfold renFr at h
  split at h
  · simp only [Option.some.injEq] at h
    subst h
    exact ⟨rfl, rfl, rfl⟩
  · cases h
/-- the same state by other numbers -/
theorem wpw_ren {s s2 : ASt} (hm0 : ∀ i x, m0 i = some x → i < P.globals.size) (hok : okN L P.globals.size N = true) (h : renS L (n + 1) N s = some s2) (hq : WPw P X W0 m0 s2 Q) : WPw P X W0 m0 s Q := by
  intro f0 base lo cs0 m f csW w hr ho
  unfold okN at hok
  simp only [Bool.and_eq_true] at hok
  obtain ⟨hL, hlt, hN, hgl⟩ := hok
  have hN := ble_true.1 hN
  have hlt : ∀ p ∈ L, p.2 < N := fun p hp => blt_true.1 (List.all_eq_true.1 hlt p hp)
  have hd : ∀ p ∈ L, p.2 + 1 < 2 ^ depth := fun p hp => by
    have := hlt p hp
    unfold depth maxId at *
    omega
  have hg : ∀ g, g < P.globals.size → findL L g = some g := fun g hg => by
    have := List.all_eq_true.1 hgl g (List.mem_range.2 hg)
    split at this
    · rename_i j hj
      rw [hj, Nat.eq_of_beq_eq_true this]
    · cases this
  unfold renS at h
  split at h
  · rename_i fr cs hp hfr hcs hhp
    simp only [Option.some.injEq] at h
    subst h
    have hA : ∀ j o2, AW.get ⟨hp, N, renFm L s.w L .nil⟩ j = some o2 → ∃ i o, (i, j) ∈ L ∧ s.w.get i = some o ∧ renO L (n + 1) o = some o2 :=
      heap_ren hd L (fun p h => h) hhp fun j o2 hx => by simp [Trie.get?] at hx
    obtain ⟨hF1, hF2⟩ := fams_ren (A := s.w) hL hd L (t := .nil) (fun p h => h) fun j l hx => by simp [Trie.get?] at hx
    have hm2 : ∀ {i j : Nat}, (i, j) ∈ L → injR L m j = m i ∧ (injR L m).room j = m.room i ∧ (injR L m).el j = m.el i ∧ (injR L m).st j = m.st i := fun h => injR_at hL m (okL_spec hL h).2
    have hinj : ∀ {i i' j : Nat}, (i, j) ∈ L → (i', j) ∈ L → i = i' := fun h h' => Option.some.inj ((okL_spec hL h).1.symm.trans (okL_spec hL h').1)
    have hfun : ∀ {i j j' : Nat}, (i, j) ∈ L → (i, j') ∈ L → j = j' := fun h h' => Option.some.inj ((okL_spec hL h).2.symm.trans (okL_spec hL h').2)
    have hrel : Rel (injR L m) ⟨hp, N, renFm L s.w L .nil⟩ w := by
      refine ⟨fun j o2 c d h1 h2 => ?_, fun j cs e b ro h1 c d h2 => ?_, fun j k oj ok c dj dk hne h1 h2 h3 h4 => ?_, fun j o2 g b h1 h2 => ?_, fun j hj => ?_, hN, fun j cs e g b ro c d h1 h2 => ?_⟩
      · obtain ⟨i, o, hi, ho1, ho2⟩ := hA j o2 h1
        rw [(hm2 hi).1] at h2
        obtain ⟨o', k1, k2⟩ := hr.rel.obj i o c d ho1 h2
        exact ⟨o', k1, obj_ren hL ho2 k2⟩
      · obtain ⟨i, o, hi, ho1, ho2⟩ := hA j _ h1
        obtain ⟨cs0, f1, rfl, hf1⟩ := (obj_ro ho2).2.2 _ _ _ _ _ rfl
        have := hinj hi (findL_mem hf1)
        subst this
        rw [(hm2 hi).1] at h2
        exact hr.rel.home _ _ _ _ _ ho1 c d h2
      · obtain ⟨i, o, hi, ho1, ho2⟩ := hA j oj h1
        obtain ⟨i', o', hi', ho1', ho2'⟩ := hA k ok h2
        rw [(hm2 hi).1] at h3
        rw [(hm2 hi').1] at h4
        have hii : i ≠ i' := fun e => by subst e; exact hne (hfun hi hi')
        rcases hr.rel.sep i i' o o' c dj dk hii ho1 ho1' h3 h4 with ⟨a1, a2⟩ | ⟨f1, bi, bj, a1, a2, a3⟩
        · exact .inl ⟨(obj_ro ho2).1.trans a1, (obj_ro ho2').1.trans a2⟩
        · refine .inr ?_
          cases o with
          | row cs1 e1 f2 b1 ro1 =>
            cases o' with
            | row cs2 e2 f3 b2 ro2 =>
              cases a1; cases a2
              simp only [renO] at ho2 ho2'
              split at ho2
              · rename_i g1 c1 hg1 hc1
                split at ho2'
                · rename_i g2 c2 hg2 hc2
                  simp only [Option.some.injEq] at ho2 ho2'
                  subst ho2 ho2'
                  rw [hg1] at hg2
                  cases hg2
                  exact ⟨g1, _, _, rfl, rfl, a3⟩
                · cases ho2'
              · cases ho2
            | _ => cases a2
          | _ => cases a1
      · obtain ⟨i, o, hi, ho1, ho2⟩ := hA j o2 h1
        obtain ⟨f1, k1, k2⟩ := (obj_ro ho2).2.1 g b h2
        obtain ⟨k3, k4⟩ := hr.rel.mem i o f1 b ho1 k1
        have hfm := findL_mem k2
        refine ⟨?_, hlt _ hfm⟩
        unfold AW.members at k3 ⊢
        cases hs : s.w.fams.get? f1 with
        | none =>
          rw [hs] at k3
          have : i = f1 := by simpa using k3
          subst this
          have hgj := hfun hi hfm
          subst hgj
          cases hx : (renFm L s.w L .nil).get? j with
          | none => simp
          | some l =>
            obtain ⟨i', s0, q1, q2, _⟩ := hF1 j l hx
            have := hinj hi q1
            subst this
            rw [hs] at q2
            cases q2
        | some l =>
          rw [hs] at k3
          simp only at k3
          rw [hF2 f1 g l (.inl hfm) hfm hs]
          exact List.mem_filterMap.2 ⟨i, k3, (okL_spec hL hi).2⟩
      · refine ⟨?_, ?_, ?_⟩
        · cases hx : AW.get ⟨hp, N, renFm L s.w L .nil⟩ j with
          | none => rfl
          | some o2 =>
            obtain ⟨i, o, hi, _⟩ := hA j o2 hx
            have hj : N ≤ j := hj
            have : j < N := hlt _ hi
            omega
        · show (match findR L j with | some i => m i | none => none) = none
          cases hx : findR L j with
          | none => rfl
          | some i =>
            have hmem : (i, j) ∈ L := by
              have : ∀ {l : List (Nat × Nat)}, findR l j = some i → (i, j) ∈ l := by
                intro l
                induction l with
                | nil => intro h; cases h
                | cons p r ih =>
                  intro h
                  unfold findR at h
                  cases hb : Nat.beq p.2 j with
                  | true =>
                    rw [hb, cond_true, Option.some.injEq] at h
                    have := Nat.eq_of_beq_eq_true hb
                    subst this h
                    simp
                  | false =>
                    rw [hb, cond_false] at h
                    exact List.mem_cons_of_mem _ (ih h)
              exact this hx
            have hj : N ≤ j := hj
            have : j < N := hlt _ hmem
            omega
        · cases hx : (renFm L s.w L .nil).get? j with
          | none => first | rfl | exact hx
          | some l =>
            obtain ⟨i', s0, q1, _⟩ := hF1 j l hx
            have hj : N ≤ j := hj
            have : j < N := hlt _ q1
            omega
      · obtain ⟨i, o, hi, ho1, ho2⟩ := hA j _ h1
        obtain ⟨cs0, f1, rfl, hf1⟩ := (obj_ro ho2).2.2 _ _ _ _ _ rfl
        obtain ⟨a1, a2, a3, _⟩ := hm2 hi
        rw [a1] at h2
        rw [a2, a3]
        exact hr.rel.room _ _ _ _ _ _ _ _ ho1 h2
    have hown : ∀ c, Own (injR L m) ⟨hp, N, renFm L s.w L .nil⟩ c → Own m s.w c := fun c ⟨j, o2, d, h1, h2, h3⟩ => by
      obtain ⟨i, o, hi, ho1, ho2⟩ := hA j o2 h1
      rw [(hm2 hi).1] at h3
      exact ⟨i, o, d, ho1, (obj_ro ho2).1.symm.trans h2, h3⟩
    have hbot : Bot f0 (fr :: cs) := bot_ren (L := L) (n := n) (l := s.fr :: s.cs) (by unfold mapO; rw [hfr, hcs]) (fun a a2 h => fr_same h) hr.bot
    have htop : FRel P X (injR L m) ⟨hp, N, renFm L s.w L .nil⟩ true 0 N fr f := by
      obtain ⟨k1, _, _, _, k2⟩ := frel_ren (A2 := ⟨hp, N, renFm L s.w L .nil⟩) (live2 := true) hL hfr hr.top
      refine ⟨k1.core, ?_⟩
      cases k1.body with
      | plain g1 g2 g3 => exact .plain g1 g2 g3
      | draw ops S C rl pl rest k k' g1 => rw [k2] at g1; cases g1
    have hsr : SRel P X f0 0 0 (injR L m) ⟨fr, cs, ⟨hp, N, renFm L s.w L .nil⟩⟩ f csW w :=
      ⟨hrel, fun g hgs => (by rw [(injR_at hL m (hg g hgs)).1]; exact hr.glob g hgs), Nat.zero_le _, htop, stk_ren hL hcs hr.stk, hbot⟩
    have hold : Old W0 m0 (injR L m) ⟨hp, N, renFm L s.w L .nil⟩ w := ⟨⟨fun i x hx => by
      rw [(injR_at hL m (hg i (hm0 i x hx))).1]
      exact ho.le.map i x hx, fun i x hx => by
      obtain ⟨_, a2, a3, a4⟩ := injR_at hL m (hg i (hm0 i x hx))
      obtain ⟨b1, b2, b3⟩ := ho.le.room i x hx
      exact ⟨a2.trans b1, a3.trans b2, a4.trans b3⟩⟩, ho.below, fun c hc hx => ho.own c hc (hown c hx)⟩
    obtain ⟨v, m', A', v', w', f', hv, u1, u2, u3, u4, u5⟩ := hq f0 0 0 cs0 _ f csW w hsr hold
    refine ⟨v, m', A', v', w', f', hv, u1, u2, ?_, u4, u5⟩
    exact EvW.trans ⟨Nat.le_refl _, rfl, rfl, rfl, Nat.le_refl _, fun _ _ _ => rfl, fun c _ hx => hown c hx⟩ u3
  · cases h
end
end Go.Abs


namespace Go.Abs

/-- slots that nothing was written to hold what they say -/
def fillZ : List Nat → Trie Value → Trie Value
  | [], t => t
  | z :: r, t => fillZ r (t.put depth z (some (match t.get? z with | some v => v | none => undef)))
theorem fillZ_get : ∀ (Z : List Nat) (t : Trie Value), (∀ z ∈ Z, z + 1 < 2 ^ depth) → ∀ i, (match (fillZ Z t).get? i with | some v => v | none => undef) = (match t.get? i with | some v => v | none => undef)
  | [], _, _, _ => rfl
  | z :: r, t, h, i => by
    unfold fillZ
    rw [fillZ_get r _ (fun y hy => h y (List.mem_cons_of_mem _ hy)) i, Trie.get?_put depth t z i _ (h z List.mem_cons_self)]
    by_cases e : i = z
    · subst e
      rw [if_pos rfl]
    · rw [if_neg e]
theorem fillZ_tm {Z : List Nat} {t : Trie Value} (h : ∀ z ∈ Z, z + 1 < 2 ^ depth) (sz i : Nat) : Tm.get ⟨sz, fillZ Z t⟩ i = Tm.get ⟨sz, t⟩ i := by
  have := fillZ_get Z t h i
  unfold Tm.get
  cases h1 : (fillZ Z t).get? i <;> cases h2 : t.get? i <;> rw [h1, h2] at this <;> simpa [h1, h2] using this
def chunkR (P : Program) (X : XNames) (mg : List FuncId) (kn : FuncId → List Value) (fuel n : Nat) (ids Z : List Nat) (L : List (Nat × Nat)) (fl N : Nat) (s : ASt) : Option (ASt × List KC) :=
  match chunk P X mg kn fuel n ids s with
  | some r => bif r.1.fr.dr then none else (match renS L (fl + 1) N ⟨{ r.1.fr with tm := ⟨r.1.fr.tm.sz, fillZ Z r.1.fr.tm.t⟩ }, r.1.cs, r.1.w⟩ with
    | some s2 => some (s2, r.2)
    | none => none)
  | none => none
section
variable {P : Program} {X : XNames} {W0 : World} {m0 : Inj P} {Q : Value → Prop}
theorem wpw_fill {Z : List Nat} (hZ : ∀ z ∈ Z, z + 1 < 2 ^ depth) {s : ASt} (hd : s.fr.dr = false) (h : WPw P X W0 m0 ⟨{ s.fr with tm := ⟨s.fr.tm.sz, fillZ Z s.fr.tm.t⟩ }, s.cs, s.w⟩ Q) : WPw P X W0 m0 s Q := by
  intro f0 base lo cs0 m f csW w hr ho
  obtain ⟨htm, htodo⟩ := hr.plain hd
  refine h f0 base lo cs0 m f csW w ⟨hr.rel, hr.glob, hr.below, ⟨⟨hr.top.core.fn, hr.top.core.kind, hr.top.core.kindOk, hr.top.core.mode, hr.top.core.round, hr.top.core.defers⟩, .plain hd ⟨htm.size, htm.small, fun i => ?_⟩ htodo⟩, hr.stk, hr.bot.top rfl rfl rfl⟩ ho
  have := htm.val i
  show VRel m (Tm.get ⟨s.fr.tm.sz, fillZ Z s.fr.tm.t⟩ i) _
  rw [fillZ_tm hZ]
  exact this
theorem chunkR_wpw (hX : XOk P X) (hP : POk P) {mg : List FuncId} {kn : FuncId → List Value} {fuel n : Nat} {ids Z : List Nat} {L : List (Nat × Nat)} {fl N : Nat} {s s2 : ASt} {ks : List KC} (hm0 : ∀ i x, m0 i = some x → i < P.globals.size)
    (hok : (okN L P.globals.size N && Z.all fun z => Nat.blt z 1000) = true) (h : chunkR P X mg kn fuel n ids Z L fl N s = some (s2, ks)) (hK : ∀ k ∈ ks, KC.Holds P W0 m0 k) (hq : WPw P X W0 m0 s2 Q) : WPw P X W0 m0 s Q := by
  unfold chunkR at h
  rw [Bool.and_eq_true] at hok
  split at h
  · rename_i r hr
    cases hd : r.1.fr.dr with
    | true => rw [hd] at h; cases h
    | false =>
      rw [hd, cond_false] at h
      split at h
      · rename_i s3 hs3
        simp only [Option.some.injEq, Prod.mk.injEq] at h
        obtain ⟨rfl, rfl⟩ := h
        refine (chunk_sound (s' := r.1) (ks := r.2) hX hP hr hK).wpw (wpw_fill (Z := Z) (fun z hz => ?_) hd (wpw_ren hm0 hok.1 hs3 hq))
        have := blt_true.1 (List.all_eq_true.1 hok.2 z hz)
        unfold depth
        omega
      · cases h
  · cases h
theorem calls_wpw (hP : POk P) {m : Inj P} {A : AW} {w : World} {g : FuncId} {args args' : List Value} (he : (enterA P g args .normal).isSome = true) (h : WPw P X w m ⟨frOf P g args, [], A⟩ Q) (r : Rel m A w) (hG : GOk m)
    (hno : ∀ c, ¬ Own m A c) (ha : VRels m args args') : Calls P g ⟨args'⟩ w fun e w' => ∃ (v v' : Value) (m' : Inj P), Q v ∧ e = .returned v' ∧ VRel m' v v' ∧ Low w w' := by
  intro cs0
  obtain ⟨fr, he⟩ := Option.isSome_iff_exists.1 he
  unfold frOf at h
  rw [he] at h
  obtain ⟨g1, g2, g3, g4⟩ := enter_rel (X := X) (A := A) hP he ha (.inl rfl) A.next A.next
  have hs : SRel P X g A.next A.next m ⟨fr, [], A⟩ (Frame.enter P g ⟨args'⟩ .normal) [] w := ⟨r, hG, Nat.le_refl _, g1, .nil _ (Nat.le_refl _), ⟨g2, g3, g4⟩⟩
  obtain ⟨v, m', A', v', w', f', hq, k1, k2, k3, k4, k5⟩ := h g A.next A.next cs0 m _ [] w hs ⟨.refl m, .refl _ _, fun c _ => hno c⟩
  exact ⟨.returned v', w', f', ⟨v, v', m', hq, rfl, k2, ⟨⟨k3.os, k3.tape, k3.output, k3.size, fun k hk => k3.keep k hk (hno k)⟩, k3.draws⟩⟩, k1, k5, k4⟩
/-- a call with closed arguments that answers true -/
theorem kc_closed {g : FuncId} {args : List Value} (hg : g ≠ sameFn) (hc : args.all (closedV 4) = true) (h : ∀ W, Calls P g ⟨args⟩ W fun e W' => e = .returned (.bool true) ∧ Low W W') : KC.Holds P W0 m0 ⟨g, args, [.bool true]⟩ := by
  refine ⟨fun e => absurd e hg, fun _ => ?_⟩
  intro m args' W _ _ ha
  have : args' = args := by
    have : ∀ {l l' : List Value}, l.all (closedV 4) = true → VRels m l l' → l' = l := by
      intro l
      induction l with
      | nil => intro l' _ ha; cases ha; rfl
      | cons v r ih =>
        intro l' hc ha
        cases ha with
        | cons h1 h2 =>
          simp only [List.all_cons, Bool.and_eq_true] at hc
          rw [closedV_eq 4 _ _ hc.1 h1, ih hc.2 h2]
    exact this hc ha
  subst this
  refine (h W).mono ?_
  rintro e W' ⟨rfl, hb⟩
  exact ⟨_, by simp, rfl, hb⟩
end
end Go.Abs
