/-
  Rows that a call owns, and what an operation leaves as it was, by families. Conditions: those of each theorem.
-/
import Derived.Test.YtebidlpekphaoaaGreatDoorAbsH
import Derived.Test.YtebidlpekphaoaaGreatDoorAbsG
import Derived.Lib.TrimUEq

namespace Go.Abs

section
variable {P : Program}

/-- an object's family: a row's, else its own number -/
def famOf (i : Nat) : AO → Nat
  | .row _ _ f _ _ => f
  | _ => i

/-- all that was there, beside these families, is there as it was -/
structure Keeps (A A' : AW) (S : List Nat) : Prop where
  next : A.next ≤ A'.next
  get : ∀ i o, A.get i = some o → famOf i o < A.next → famOf i o ∉ S → A'.get i = some o
  mem : ∀ f, f < A.next → f ∉ S → A'.members f = A.members f
theorem Keeps.refl (A : AW) (S : List Nat) : Keeps A A S := ⟨Nat.le_refl _, fun _ _ h _ _ => h, fun _ _ _ => rfl⟩
theorem Keeps.trans {A B C : AW} {S T : List Nat} (h : Keeps A B S) (k : Keeps B C T) (hT : ∀ x ∈ T, x ∈ S ∨ A.next ≤ x) : Keeps A C S :=
  ⟨Nat.le_trans h.next k.next, fun i o hi hlt hn => k.get i o (h.get i o hi hlt hn) (Nat.lt_of_lt_of_le hlt h.next) (fun hm => by
    rcases hT _ hm with h1 | h1
    · exact hn h1
    · omega), fun f hf hn => by
    rw [k.mem f (Nat.lt_of_lt_of_le hf h.next) (fun hm => by
      rcases hT _ hm with h1 | h1
      · exact hn h1
      · omega), h.mem f hf hn]⟩
theorem Keeps.more {A B : AW} {S T : List Nat} (h : Keeps A B S) (hs : ∀ x ∈ S, x ∈ T ∨ A.next ≤ x) : Keeps A B T :=
  ⟨h.next, fun i o hi hlt hn => h.get i o hi hlt (fun hm => by
    rcases hs _ hm with h1 | h1
    · exact hn h1
    · omega), fun f hf hn => h.mem f hf (fun hm => by
    rcases hs _ hm with h1 | h1
    · exact hn h1
    · omega)⟩
theorem Ext.keeps {A A' : AW} (h : Ext A A') (hf : Fine A) : Keeps A A' [] :=
  ⟨h.next, fun i o hi _ _ => by rw [h.get i (hf.lt hi)]; exact hi, fun f hf _ => h.mem f hf⟩
theorem Made.keeps {A A' : AW} {cs : List Value} {e : TypeId} (m : Made A A' cs e) (hf : Fine A) : Keeps A A' [] := m.ext.keeps hf

/-- a row that stands alone -/
structure Row1 (A : AW) (b : Nat) (cs : List Value) (e : TypeId) : Prop where
  row : A.get b = some (.row cs e b 0 false)
  mem : A.members b = [b]
  lt : b < A.next
theorem Made.row1 {A A' : AW} {cs : List Value} {e : TypeId} (m : Made A A' cs e) : Row1 A' A.next cs e := ⟨m.row, m.mem, by rw [m.next]; omega⟩
theorem Row1.keeps {A A' : AW} {b : Nat} {cs : List Value} {e : TypeId} {S : List Nat} (h : Row1 A b cs e) (k : Keeps A A' S) (hn : b ∉ S) : Row1 A' b cs e :=
  ⟨k.get b _ h.row h.lt hn, by rw [k.mem b h.lt hn]; exact h.mem, Nat.lt_of_lt_of_le h.lt k.next⟩

theorem Wrote.keeps {A A' : AW} {b f : Nat} {o : AO} {cs : List Value} {e b0 : Nat} {ro : Bool} (w : Wrote A A' b o) (h : A.get b = some (.row cs e f b0 ro)) : Keeps A A' [f] :=
  ⟨by rw [w.next]; exact Nat.le_refl _, fun i o hi _ hn => by
    by_cases hib : i = b
    · subst hib
      rw [h] at hi
      cases hi
      exact absurd (List.mem_singleton.2 rfl) hn
    · rw [w.get i hib]; exact hi, fun f _ _ => w.mem f⟩

theorem Row1.store {A : AW} {b off n : Nat} {v : Value} {cs : List Value} {e : TypeId} {r : Option AW} {K : AW → Prop} (h : Row1 A b cs e) (hf : Fine A) (hb : A.next ≤ maxId)
    (hr : r = (bif Nat.beq v.cells.toList.length n then A.setCells ⟨b, off, none⟩ v.cells.toList else none)) (hv : v.cells.toList.length = n) (hl : off + n ≤ cs.length) (ho : v.cells.toList.all oneCell = true)
    (hk : ∀ A', Row1 A' b (setL cs off v.cells.toList) e → Keeps A A' [b] → A'.next = A.next → Fine A' → K A') : effW r K := by
  have hlt := h.lt
  refine effW_store hr hv h.row h.mem hl ho (by omega) fun A' w => ?_
  exact hk A' ⟨w.row, by rw [w.mem]; exact h.mem, by rw [w.next]; exact h.lt⟩ (w.keeps h.row) w.next (w.fine hf h.row)

/-! slices of the call's own, with the families that they lie in -/
def OwnG (A : AW) (e : TypeId) (size : Nat) (v : Value) (n : Nat) (cs : List Value) (F : List Nat) : Prop :=
  (v = .slice none 0 0 ∧ n = 0 ∧ cs = [] ∧ F = []) ∨ ∃ b f, v = .slice (some ⟨b, 0, none⟩) n (capU + n) ∧ OwnAt 0 A e size n cs b f ∧ F = [f]
theorem OwnG.nil (A : AW) (e : TypeId) (size : Nat) : OwnG A e size (.slice none 0 0) 0 [] [] := .inl ⟨rfl, rfl, rfl, rfl⟩
theorem OwnG.ownS {A : AW} {e : TypeId} {size : Nat} {v : Value} {n : Nat} {cs : List Value} {F : List Nat} (h : OwnG A e size v n cs F) : OwnS 0 A e size v n cs := by
  rcases h with ⟨h1, h2, h3, _⟩ | ⟨b, f, h1, h2, _⟩
  · exact .inl ⟨h1, h2, h3⟩
  · exact .inr ⟨b, f, h1, h2⟩
theorem OwnG.one {A : AW} {e : TypeId} {size : Nat} {v : Value} {n : Nat} {cs : List Value} {F : List Nat} (h : OwnG A e size v n cs F) : oneCell v = true ∧ isTuple v = false := h.ownS.one
theorem OwnG.lt {A : AW} {e : TypeId} {size : Nat} {v : Value} {n : Nat} {cs : List Value} {F : List Nat} (h : OwnG A e size v n cs F) : ∀ x ∈ F, x < A.next := by
  rcases h with ⟨_, _, _, rfl⟩ | ⟨b, f, _, h2, rfl⟩
  · intro x hx; simp at hx
  · intro x hx
    obtain rfl : x = f := by simpa using hx
    exact h2.ltf
theorem OwnG.nodup {A : AW} {e : TypeId} {size : Nat} {v : Value} {n : Nat} {cs : List Value} {F : List Nat} (h : OwnG A e size v n cs F) : F.Nodup := by
  rcases h with ⟨_, _, _, rfl⟩ | ⟨b, f, _, h2, rfl⟩ <;> simp
theorem OwnG.keeps {A A' : AW} {e : TypeId} {size : Nat} {v : Value} {n : Nat} {cs : List Value} {F S : List Nat} (h : OwnG A e size v n cs F) (k : Keeps A A' S) (hd : ∀ x ∈ F, x ∉ S) : OwnG A' e size v n cs F := by
  rcases h with h | ⟨b, f, rfl, h, rfl⟩
  · exact .inl h
  · have hfs : f ∉ S := hd f (by simp)
    refine .inr ⟨b, f, rfl, ⟨h.pos, k.get b _ h.row h.ltf hfs, h.len, Nat.zero_le _, Nat.zero_le _, Nat.lt_of_lt_of_le h.ltf k.next, fun i hi => ?_⟩, rfl⟩
    rw [k.mem f h.ltf hfs] at hi
    obtain ⟨_, h2, cs', e', b', ro', h3⟩ := h.mem i hi
    exact ⟨Nat.zero_le _, Nat.lt_of_lt_of_le h2 k.next, cs', e', b', ro', k.get i _ h3 h.ltf hfs⟩

theorem appendG {A : AW} {t t2 e : TypeId} {size bytes : Nat} {v x : Value} {n m : Nat} {cs new : List Value} {F : List Nat} (ht : sliceElemT P t = some e) (hs : szT P e = some (size + 1)) (hb : bytesT P e = some bytes)
    (hz : hasZero P e (size + 1) = true) (hx : sourceZ P A e t2 (size + 1) x = some (m + 1, new)) (hnew : new.length = (m + 1) * (size + 1)) (hone : new.all oneCell = true) (h : OwnG A e (size + 1) v n cs F) (hf : Fine A)
    (hmax : A.next < maxId) (hr1 : n + (m + 1) < room) (hr2 : (n + (m + 1)) * bytes < room) {K : Value → AW → Prop}
    (hk : ∀ v' A' F', OwnG A' e (size + 1) v' (n + (m + 1)) (cs ++ new) F' → Keeps A A' F → (∀ x ∈ F', x ∈ F ∨ x = A.next) → A'.next = A.next + 1 → Fine A' → K v' A') : bothW (appendA P A t t2 v x) K := by
  obtain ⟨v', A', h1, a⟩ := append_own (P := P) ht hs hb hz hx hnew hone h.ownS hf (Nat.zero_le _) hmax hr1 hr2
  rw [h1]
  refine bothW_ok.2 ?_
  have hfam : ∀ b f, v = .slice (some ⟨b, 0, none⟩) n (capU + n) → OwnAt 0 A e (size + 1) n cs b f → f ∈ F := by
    intro b f hv ho
    rcases h with ⟨h1, _⟩ | ⟨b', f', h1, h2, rfl⟩
    · rw [h1] at hv; cases hv
    · rw [h1] at hv
      simp only [Value.slice.injEq, Option.some.injEq, Addr.mk.injEq] at hv
      obtain ⟨⟨rfl, _⟩, _⟩ := hv
      have := ho.row
      rw [h2.row] at this
      simp only [Option.some.injEq, AO.row.injEq] at this
      simp [this.2.2.1]
  have hkeep : Keeps A A' F := ⟨by rw [a.next]; omega, fun i o hi hlt hn => by
      rw [a.get i (hf.lt hi) (fun b f hv ho him => ?_)]
      · exact hi
      · obtain ⟨_, _, cs', e', b', ro', h3⟩ := ho.mem i him
        rw [hi] at h3
        cases h3
        exact hn (hfam b f hv ho), fun g hg hn => a.mem g hg fun b f hv ho hgf => hn (hgf ▸ hfam b f hv ho)⟩
  rcases a.own with ⟨_, h2, _⟩ | ⟨b, f, h2, h3⟩
  · omega
  · refine hk v' A' [f] (.inr ⟨b, f, h2, h3, rfl⟩) hkeep (fun x hx => ?_) a.next a.fine
    obtain rfl : x = f := by simpa using hx
    rcases a.fam b x h2 h3 with h4 | ⟨b', h4, h5⟩
    · exact .inr h4
    · exact .inl (hfam b' x h4 h5)

theorem mem_of_fams {A A' : AW} (h : A'.fams = A.fams) (g : Nat) : A'.members g = A.members g := by unfold AW.members; rw [h]

theorem poisonAt_get (self coord : Nat) : ∀ (l : List Nat) (A : AW), (∀ i ∈ l, i < maxId) → (∀ i, i ∉ l ∨ i = self → (poisonAt self coord l A).get i = A.get i) ∧
    (∀ i cs e f b ro, A.get i = some (.row cs e f b ro) → ∃ cs', (poisonAt self coord l A).get i = some (.row cs' e f b ro)) ∧ (poisonAt self coord l A).next = A.next ∧ (poisonAt self coord l A).fams = A.fams
  | [], A, _ => ⟨fun _ _ => rfl, fun i cs e f b ro h => ⟨cs, h⟩, rfl, rfl⟩
  | x :: r, A, hl => by
    unfold poisonAt
    cases hxs : Nat.beq x self with
    | true =>
      have hx : x = self := Nat.eq_of_beq_eq_true hxs
      obtain ⟨h1, h2, h3, h4⟩ := poisonAt_get self coord r A (fun i hi => hl i (by simp [hi]))
      refine ⟨fun i hi => h1 i ?_, h2, h3, h4⟩
      rcases hi with hi | hi
      · exact .inl (fun hm => hi (by simp [hm]))
      · exact .inr hi
    | false =>
      have hx : x ≠ self := fun e => by rw [e, Nat.beq_refl] at hxs; cases hxs
      simp only [cond_false]
      have same : ∀ B : AW, (∀ i, i ≠ x → B.get i = A.get i) → (∀ i cs e f b ro, A.get i = some (.row cs e f b ro) → ∃ cs', B.get i = some (.row cs' e f b ro)) → B.next = A.next → B.fams = A.fams →
          (∀ i, i ∉ x :: r ∨ i = self → (poisonAt self coord r B).get i = A.get i) ∧ (∀ i cs e f b ro, A.get i = some (.row cs e f b ro) → ∃ cs', (poisonAt self coord r B).get i = some (.row cs' e f b ro)) ∧ (poisonAt self coord r B).next = A.next ∧ (poisonAt self coord r B).fams = A.fams := by
        intro B g1 g2 g3 g4
        obtain ⟨h1, h2, h3, h4⟩ := poisonAt_get self coord r B (fun i hi => hl i (by simp [hi]))
        refine ⟨fun i hi => ?_, fun i cs e f b ro hi => ?_, by rw [h3, g3], by rw [h4, g4]⟩
        · rw [h1 i (by
            rcases hi with hi | hi
            · exact .inl (fun hm => hi (by simp [hm]))
            · exact .inr hi), g1 i (by
            rcases hi with hi | hi
            · exact fun e => hi (by simp [e])
            · subst hi; exact fun e => hx e.symm)]
        · obtain ⟨cs', hb⟩ := g2 i cs e f b ro hi
          exact h2 i cs' e f b ro hb
      split
      · rename_i cs2 e2 f2 b2 ro2 hx2
        cases hble : Nat.ble b2 coord with
        | false => exact same A (fun _ _ => rfl) (fun i cs e f b ro h => ⟨cs, h⟩) rfl rfl
        | true =>
          simp only [cond_true]
          refine same _ (fun i hi => by rw [AW.get_put A x i _ (hl x (by simp)), if_neg hi]) (fun i cs e f b ro hi => ?_) rfl rfl
          rw [AW.get_put A x i _ (hl x (by simp))]
          by_cases hix : i = x
          · subst hix
            rw [hx2] at hi
            cases hi
            exact ⟨_, by rw [if_pos rfl]⟩
          · exact ⟨cs, by rw [if_neg hix]; exact hi⟩
      · exact same A (fun _ _ => rfl) (fun i cs e f b ro h => ⟨cs, h⟩) rfl rfl

theorem setCells_fam : ∀ {new : List Value} {A : AW} {b off : Nat} {cs : List Value} {e f : Nat}, A.get b = some (.row cs e f 0 false) → (∀ i ∈ A.members f, i < maxId) → off + new.length ≤ cs.length → new.all oneCell = true → b < maxId →
    ∃ A', A.setCells ⟨b, off, none⟩ new = some A' ∧ A'.get b = some (.row (setL cs off new) e f 0 false) ∧ (∀ i, i ≠ b → i ∉ A.members f → A'.get i = A.get i) ∧
      (∀ i cs e f b ro, A.get i = some (.row cs e f b ro) → ∃ cs', A'.get i = some (.row cs' e f b ro)) ∧ A'.next = A.next ∧ A'.fams = A.fams
  | [], A, b, off, cs, e, f, hg, hm, hl, ho, hb => ⟨A, rfl, hg, fun _ _ _ => rfl, fun i cs e f b ro h => ⟨cs, h⟩, rfl, rfl⟩
  | v :: r, A, b, off, cs, e, f, hg, hm, hl, ho, hb => by
    simp only [List.all_cons, Bool.and_eq_true] at ho
    simp only [List.length_cons] at hl
    have hble : Nat.ble cs.length off = false := ble_false.2 (by omega)
    obtain ⟨p1, p2, p3, p4⟩ := poisonAt_get b (0 + off) (A.members f) (A.put b (.row (cs.set off v) e f 0 false)) hm
    have h1 : A.setCell ⟨b, off, none⟩ v = some (poisonAt b (0 + off) (A.members f) (A.put b (.row (cs.set off v) e f 0 false))) := by
      unfold AW.setCell
      simp only [hg, ho.1, Bool.not_true, Bool.false_or, hble, cond_false]
    have hmem : ∀ g, (poisonAt b (0 + off) (A.members f) (A.put b (.row (cs.set off v) e f 0 false))).members g = A.members g := mem_of_fams p4
    have hg' : (poisonAt b (0 + off) (A.members f) (A.put b (.row (cs.set off v) e f 0 false))).get b = some (.row (cs.set off v) e f 0 false) := by
      rw [p1 b (.inr rfl), AW.get_put A b b _ hb, if_pos rfl]
    obtain ⟨A', h2, h3, h4, h5, h6, h7⟩ := setCells_fam (new := r) (off := off + 1) hg' (by rw [hmem]; exact hm) (by simp; omega) ho.2 hb
    refine ⟨A', ?_, h3, fun i hi hn => ?_, fun i cs2 e2 f2 b2 ro2 hi => ?_, by rw [h6, p3]; rfl, by rw [h7, p4]; rfl⟩
    · simp only [AW.setCells, h1]
      exact h2
    · rw [h4 i hi (by rw [hmem]; exact hn), p1 i (.inl hn), AW.get_put A b i _ hb, if_neg hi]
    · have : ∃ cs', (A.put b (.row (cs.set off v) e f 0 false)).get i = some (.row cs' e2 f2 b2 ro2) := by
        rw [AW.get_put A b i _ hb]
        by_cases hib : i = b
        · subst hib
          rw [hg] at hi
          cases hi
          exact ⟨_, by rw [if_pos rfl]⟩
        · exact ⟨cs2, by rw [if_neg hib]; exact hi⟩
      obtain ⟨cs3, h8⟩ := this
      obtain ⟨cs4, h9⟩ := p2 i cs3 e2 f2 b2 ro2 h8
      exact h5 i cs4 e2 f2 b2 ro2 h9

/-- a store into a slice of the call's own -/
theorem storeG {A : AW} {e : TypeId} {size : Nat} {n : Nat} {cs : List Value} {F : List Nat} {b off k : Nat} {w : Value} {r : Option AW} {K : AW → Prop} (h : OwnG A e size (.slice (some ⟨b, 0, none⟩) n (capU + n)) n cs F) (hf : Fine A) (hmax : A.next ≤ maxId)
    (hr : r = (bif Nat.beq w.cells.toList.length k then A.setCells ⟨b, off, none⟩ w.cells.toList else none)) (hv : w.cells.toList.length = k) (hl : off + k ≤ cs.length) (ho : w.cells.toList.all oneCell = true)
    (hk : ∀ A', OwnG A' e size (.slice (some ⟨b, 0, none⟩) n (capU + n)) n (setL cs off w.cells.toList) F → Keeps A A' F → A'.next = A.next → Fine A' → K A') : effW r K := by
  rcases h with ⟨h1, _⟩ | ⟨b', f, h1, h, rfl⟩
  · cases h1
  simp only [Value.slice.injEq, Option.some.injEq, Addr.mk.injEq, and_true] at h1
  subst h1
  have hbl := hf.lt h.row
  have hml : ∀ i ∈ A.members f, i < maxId := fun i hi => by have := (h.mem i hi).2.1; omega
  obtain ⟨A', g1, g2, g3, g4, g5, g6⟩ := setCells_fam (new := w.cells.toList) (off := off) h.row hml (by omega) ho (by omega)
  have hmem : ∀ g, A'.members g = A.members g := mem_of_fams g6
  rw [hr, hv, Nat.beq_refl, cond_true, g1]
  refine effW_some.2 (hk A' (.inr ⟨b, f, rfl, ⟨h.pos, g2, by rw [setL_length]; exact h.len, Nat.zero_le _, Nat.zero_le _, by rw [g5]; exact h.ltf, fun i hi => ?_⟩, rfl⟩) ⟨by rw [g5]; exact Nat.le_refl _, fun i o hi _ hn => ?_, fun g _ _ => hmem g⟩ g5 ⟨fun i hi => ?_, fun i hi => ?_⟩)
  · rw [hmem] at hi
    obtain ⟨_, h2, cs', e', b', ro', h3⟩ := h.mem i hi
    obtain ⟨cs2, h4⟩ := g4 i _ _ _ _ _ h3
    exact ⟨Nat.zero_le _, by rw [g5]; exact h2, cs2, e', b', ro', h4⟩
  · rw [g3 i (fun e => ?_) (fun hm => ?_)]
    · exact hi
    · subst e
      rw [h.row] at hi
      cases hi
      exact hn (List.mem_singleton.2 rfl)
    · obtain ⟨_, _, cs', e', b', ro', h3⟩ := h.mem i hm
      rw [hi] at h3
      cases h3
      exact hn (List.mem_singleton.2 rfl)
  · rw [g6]; exact hf.fams i (by rw [g5] at hi; exact hi)
  · rw [g5] at hi
    rw [g3 i (fun e => by omega) (fun hm => by have := (h.mem i hm).2.1; omega)]
    exact hf.get i hi

/-! maps -/
structure Map1 (A : AW) (r : Nat) (es : List MapEntry) (c : Nat) : Prop where
  row : A.get r = some (.map es c false)
  lt : r < A.next
theorem Map1.keeps {A A' : AW} {r : Nat} {es : List MapEntry} {c : Nat} {S : List Nat} (h : Map1 A r es c) (k : Keeps A A' S) (hn : r ∉ S) : Map1 A' r es c :=
  ⟨k.get r _ h.row h.lt hn, Nat.lt_of_lt_of_le h.lt k.next⟩
theorem Map1.put {A : AW} {r : Nat} {es es' : List MapEntry} {c c' : Nat} (h : Map1 A r es c) (hf : Fine A) (hb : A.next ≤ maxId) : Map1 (A.put r (.map es' c' false)) r es' c' ∧ Keeps A (A.put r (.map es' c' false)) [r] ∧ (A.put r (.map es' c' false)).next = A.next ∧ Fine (A.put r (.map es' c' false)) := by
  have hlt := h.lt
  have hg : ∀ i, (A.put r (.map es' c' false)).get i = if i = r then some (.map es' c' false) else A.get i := fun i => AW.get_put A r i _ (by omega)
  refine ⟨⟨by rw [hg, if_pos rfl], hlt⟩, ⟨Nat.le_refl _, fun i o hi _ hn => ?_, fun f _ _ => rfl⟩, rfl, ⟨hf.fams, fun i hi => ?_⟩⟩
  · rw [hg, if_neg (fun e => ?_)]
    · exact hi
    · subst e
      rw [h.row] at hi
      cases hi
      exact hn (List.mem_singleton.2 rfl)
  · have hi : A.next ≤ i := hi
    rw [hg, if_neg (by omega)]
    exact hf.get i hi
theorem newMap {A : AW} {K : Value → AW → Prop} (hf : Fine A) (h : A.next < maxId) (hk : ∀ A', Map1 A' A.next [] 0 → Keeps A A' [] → A'.next = A.next + 1 → Fine A' → K (.map (some A.next)) A') : bothW (newMapP A) K := by
  have e : newMapP A = .ok (.map (some A.next)) (A.push (.map [] 0 false)) := by
    unfold newMapP AW.new
    simp only [blt_true.2 h, cond_true]
    rfl
  rw [e]
  exact bothW_ok.2 (hk _ ⟨by rw [AW.push_get _ h, if_pos rfl], by rw [AW.push_next]; omega⟩ ((AW.push_ext _ h).keeps hf) rfl (hf.push _ h))

end
end Go.Abs


namespace Go.Abs
open Go.ChangeShapes Go.WideShapes Go.ChangeAt Go.RowKit

/-- a place of an argument: its block and offset, and what stands there, if that is looked at -/
abbrev Arg := (Nat × Nat) × Option (List Value × TypeId)
def argT (F : Nat) : Nat → List Arg → Trie AO → Trie AO
  | _, [], t => t
  | j, (_, none) :: r, t => argT F (j + 1) r t
  | j, (_, some (cs, e)) :: r, t => (argT F (j + 1) r t).put depth j (some (.row cs e F 0 true))
/-- the variables' rows, and behind them the arguments' -/
def wR (n : Nat) (gl : List (Nat × List Value × TypeId)) (L : List Arg) : AW :=
  ⟨argT (n + L.length) n L (rowsT gl), n + L.length + 1, (Trie.nil : Trie (List Nat)).put depth (n + L.length) (some ((List.range L.length).map (n + ·)))⟩
def mR (P : Program) (L : List Arg) : Inj P := mA P (L.map (·.1))

theorem argT_get (F : Nat) : ∀ (L : List Arg) (j : Nat) (t : Trie AO) (i : Nat), j + L.length ≤ maxId → (argT F j L t).get? i = if i < j then t.get? i else match L[i - j]? with
    | some (_, some (cs, e)) => some (.row cs e F 0 true)
    | _ => t.get? i
  | [], j, t, i, _ => by simp [argT]
  | (p, none) :: r, j, t, i, h => by
    simp only [List.length_cons] at h
    simp only [argT]
    rw [argT_get F r (j + 1) t i (by omega)]
    by_cases h1 : i < j
    · rw [if_pos (by omega), if_pos h1]
    · by_cases h2 : i = j
      · subst h2
        rw [if_pos (by omega), if_neg h1, Nat.sub_self]
        rfl
      · rw [if_neg (by omega), if_neg h1, show i - j = (i - (j + 1)) + 1 by omega, List.getElem?_cons_succ]
  | (p, some (cs, e)) :: r, j, t, i, h => by
    simp only [List.length_cons] at h
    simp only [argT]
    rw [Trie.get?_put depth _ j i _ (by unfold depth maxId at *; omega), argT_get F r (j + 1) t i (by omega)]
    by_cases h1 : i < j
    · rw [if_neg (by omega), if_pos (by omega), if_pos h1]
    · by_cases h2 : i = j
      · subst h2
        rw [if_pos rfl, if_neg h1, Nat.sub_self]
        rfl
      · rw [if_neg h2, if_neg (by omega), if_neg h1, show i - j = (i - (j + 1)) + 1 by omega, List.getElem?_cons_succ]

section
variable {P : Program} {W : World} {gl : List (Nat × List Value × TypeId)} {L : List Arg}

theorem wR_arg {n : Nat} (hk : n + L.length ≤ maxId) {j : Nat} {p : Nat × Nat} {cs : List Value} {e : TypeId} (h : L[j]? = some (p, some (cs, e))) : (wR n gl L).get (n + j) = some (.row cs e (n + L.length) 0 true) := by
  show (argT _ n L _).get? _ = _
  rw [argT_get _ L n _ _ hk, if_neg (by omega), Nat.add_sub_cancel_left, h]
theorem wR_get {n : Nat} (hok : okG n gl = true) (hk : n + L.length ≤ maxId) {i : Nat} {o : AO} (h : (wR n gl L).get i = some o) :
    (∃ x ∈ gl, x.1 = i ∧ i < n ∧ o = .row x.2.1 x.2.2 i 0 true) ∨ ∃ j p cs e, i = n + j ∧ L[j]? = some (p, some (cs, e)) ∧ o = .row cs e (n + L.length) 0 true := by
  have h : (argT (n + L.length) n L (rowsT gl)).get? i = some o := h
  rw [argT_get _ L n _ _ hk] at h
  unfold okG at hok
  simp only [Bool.and_eq_true, List.all_eq_true] at hok
  obtain ⟨hn, hl⟩ := hok
  have hn := ble_true.1 hn
  have glob : (rowsT gl).get? i = some o → ∃ x ∈ gl, x.1 = i ∧ i < n ∧ o = .row x.2.1 x.2.2 i 0 true := by
    intro h
    obtain ⟨x, hx, rfl, rfl⟩ := rowsT_get gl (fun x hx => Nat.lt_of_lt_of_le (blt_true.1 (hl x hx).1) hn) i o h
    exact ⟨x, hx, rfl, blt_true.1 (hl x hx).1, rfl⟩
  split at h
  · exact .inl (glob h)
  · split at h
    · rename_i hi p cs e hq
      cases h
      exact .inr ⟨i - n, p, cs, e, by omega, hq, rfl⟩
    · exact .inl (glob h)

theorem wR_fine {n : Nat} (hok : okG n gl = true) (hk : n + L.length + 1 ≤ maxId) : Fine (wR n gl L) := by
  refine ⟨fun i hi => ?_, fun i hi => ?_⟩
  · have hi : n + L.length + 1 ≤ i := hi
    show ((Trie.nil : Trie (List Nat)).put depth (n + L.length) _).get? i = none
    rw [Trie.get?_put depth _ _ i _ (by unfold depth maxId at *; omega), if_neg (by omega)]
    rfl
  · have hi : n + L.length + 1 ≤ i := hi
    cases hq : (wR n gl L).get i with
    | none => rfl
    | some o =>
      rcases wR_get hok (by omega) hq with ⟨x, _, _, h, _⟩ | ⟨j, p, cs, e, rfl, h, _⟩
      · omega
      · have := (List.getElem?_eq_some_iff.1 h).1
        omega

/-- what stands at the arguments' places -/
def Args (P : Program) (W : World) (L : List Arg) : Prop := ∀ (j : Nat) (p : Nat × Nat) (cs : List Value) (e : TypeId), L[j]? = some (p, some (cs, e)) → ∃ cs' fr, W.heap[p.1]? = some (.cells cs' e fr) ∧ p.2 ≤ cs'.size ∧
  ∀ i v, cs[i]? = some v → ∃ v', cs'[p.2 + i]? = some v' ∧ VRel (mR P L) v v'

theorem relR (hok : okG P.globals.size gl = true) (hk : P.globals.size + L.length + 1 ≤ maxId) (hW : Holds W gl) (hA : Args P W L) : Rel (mR P L) (wR P.globals.size gl L) W := by
  have hget := fun {i : Nat} {o : AO} (h : (wR P.globals.size gl L).get i = some o) => wR_get hok (by omega) h
  have hl : ∀ x ∈ gl, x.2.1.all (closedV 4) = true := by
    unfold okG at hok
    simp only [Bool.and_eq_true, List.all_eq_true] at hok
    intro x hx
    exact List.all_eq_true.2 (hok.2 x hx).2
  have hlen : (L.map (·.1)).length = L.length := List.length_map _
  have harg : ∀ {j : Nat} {p : Nat × Nat} {q : Option (List Value × TypeId)}, L[j]? = some (p, q) → mR P L (P.globals.size + j) = some p := by
    intro j p q h
    show mA P _ _ = _
    rw [mA_arg, List.getElem?_map, h]
    rfl
  refine ⟨?_, ?_, ?_, ?_, ?_, hk, ?_⟩
  · intro i o c d hi hm
    rcases hget hi with ⟨x, hx, rfl, hlt, rfl⟩ | ⟨j, p, cs, e, rfl, hj, rfl⟩
    · have hm : mA P (L.map (·.1)) x.1 = some (c, d) := hm
      rw [mA_var hlt] at hm
      cases hm
      obtain ⟨fr, hc⟩ := hW x hx
      exact ⟨_, hc, _, fr, rfl, fun i v hv => ⟨v, by simpa using hv, fun _ => closedV_rel 4 v (List.all_eq_true.1 (hl x hx) v (List.mem_of_getElem? hv)), fun h => by cases h⟩⟩
    · rw [harg hj] at hm
      cases hm
      obtain ⟨cs', fr, h1, h2, h3⟩ := hA j _ cs e hj
      refine ⟨_, h1, cs', fr, rfl, fun i v hv => ?_⟩
      obtain ⟨v', g1, g2⟩ := h3 i v hv
      exact ⟨v', g1, fun _ => g2, fun h => by cases h⟩
  · intro i cs e b ro hi c d hm
    rcases hget hi with ⟨x, hx, rfl, hlt, _⟩ | ⟨j, p, cs2, e2, rfl, hj, he⟩
    · have hm : mA P (L.map (·.1)) x.1 = some (c, d) := hm
      rw [mA_var hlt] at hm
      cases hm
      rfl
    · have := (List.getElem?_eq_some_iff.1 hj).1
      simp only [AO.row.injEq] at he
      omega
  · intro i j oi oj c di dj hij hi hj hmi hmj
    refine .inl ?_
    rcases hget hi with ⟨x, hx, rfl, hlt, rfl⟩ | ⟨j, p, cs2, e2, rfl, _, rfl⟩ <;> rcases hget hj with ⟨y, hy, rfl, hlt2, rfl⟩ | ⟨j2, p2, cs3, e3, rfl, _, rfl⟩ <;> exact ⟨rfl, rfl⟩
  · intro i o f b hi hf
    have hmem : ∀ f, (wR P.globals.size gl L).members f = if f = P.globals.size + L.length then (List.range L.length).map (P.globals.size + ·) else [f] := by
      intro f
      show (match ((Trie.nil : Trie (List Nat)).put depth (P.globals.size + L.length) _).get? f with | some l => l | none => [f]) = _
      rw [Trie.get?_put depth _ _ f _ (by unfold depth maxId at *; omega)]
      by_cases h : f = P.globals.size + L.length
      · rw [if_pos h, if_pos h]
      · rw [if_neg h, if_neg h]; rfl
    rcases hget hi with ⟨x, hx, rfl, hlt, rfl⟩ | ⟨j, p, cs2, e2, rfl, hj, rfl⟩
    · simp only [AO.fam, Option.some.injEq, Prod.mk.injEq] at hf
      obtain ⟨rfl, rfl⟩ := hf
      rw [hmem, if_neg (by omega)]
      exact ⟨by simp, by show x.1 < P.globals.size + L.length + 1; omega⟩
    · simp only [AO.fam, Option.some.injEq, Prod.mk.injEq] at hf
      obtain ⟨rfl, rfl⟩ := hf
      have := (List.getElem?_eq_some_iff.1 hj).1
      rw [hmem, if_pos rfl]
      exact ⟨List.mem_map.2 ⟨j, List.mem_range.2 this, rfl⟩, by show _ < P.globals.size + L.length + 1; omega⟩
  · intro i hi
    have hi : P.globals.size + L.length + 1 ≤ i := hi
    have hf := wR_fine (n := P.globals.size) hok hk
    refine ⟨hf.get i hi, ?_, hf.fams i hi⟩
    show (if i < P.globals.size then some (i, 0) else (L.map (·.1))[i - P.globals.size]?) = none
    rw [if_neg (by omega)]
    exact List.getElem?_eq_none (by omega)
  · intro i cs e f b ro c d hi hm
    rcases hget hi with ⟨x, hx, rfl, hlt, he⟩ | ⟨j, p, cs2, e2, rfl, hj, he⟩
    · cases he
      have hm : mA P (L.map (·.1)) x.1 = some (c, d) := hm
      rw [mA_var hlt] at hm
      cases hm
      obtain ⟨fr, hc⟩ := hW x hx
      exact ⟨fun h => absurd rfl h, _, _, fr, hc, by show 0 + 0 ≤ _; omega, fun h => by cases h⟩
    · cases he
      rw [harg hj] at hm
      cases hm
      obtain ⟨cs', fr, h1, h2, h3⟩ := hA j _ _ _ hj
      exact ⟨fun h => absurd rfl h, cs', _, fr, h1, by show _ + 0 ≤ _; omega, fun h => by cases h⟩

theorem ownR (hok : okG P.globals.size gl = true) (hk : P.globals.size + L.length ≤ maxId) (c : Nat) : ¬ Own (mR P L) (wR P.globals.size gl L) c := by
  rintro ⟨i, o, d, hi, hro, _⟩
  rcases wR_get hok hk hi with ⟨x, hx, rfl, hlt, rfl⟩ | ⟨j, p, cs2, e2, rfl, _, rfl⟩ <;> cases hro

theorem calls_trueR {X : XNames} (hP : POk P) (hok : okG P.globals.size gl = true) (hk : P.globals.size + L.length + 1 ≤ maxId) {g : FuncId} {args args' : List Value}
    (hW : Holds W gl) (hA : Args P W L) (ha : VRels (mR P L) args args') (h : Wc P X W (mR P L) g args (wR P.globals.size gl L) fun v _ => v = .bool true) : Calls P g ⟨args'⟩ W fun e W' => e = .returned (.bool true) ∧ Below W.heap.size W W' := by
  refine (calls_of_wc hP h (relR hok hk hW hA) (fun i hi => mA_var hi) (ownR hok (by omega)) ha).mono ?_
  rintro e w' ⟨v, v', m', A', rfl, rfl, h2, h3⟩
  cases h2
  exact ⟨rfl, below_of h3 (ownR hok (by omega))⟩
end

/-! slices of flat elements: f tells an element's cells -/
section
variable {H : Type} {enc : TypeId × Value → H} {P : Program}

def flat {β : Type} (f : β → List Value) (l : List β) : List Value := l.flatMap f
theorem flat_length {β : Type} {f : β → List Value} {n : Nat} (hn : ∀ b, (f b).length = n) : ∀ l : List β, (flat f l).length = l.length * n
  | [] => by simp [flat]
  | b :: r => by
    have := flat_length hn r
    simp only [flat, List.flatMap_cons, List.length_append, hn, List.length_cons] at *
    rw [this, Nat.succ_mul]; omega
theorem flat_drop {β : Type} {f : β → List Value} {n : Nat} (hn : ∀ b, (f b).length = n) : ∀ (l : List β) (i : Nat) (b : β), l[i]? = some b → ∃ rest, (flat f l).drop (i * n) = f b ++ rest
  | [], i, b, h => by simp at h
  | x :: r, 0, b, h => by
    simp only [List.getElem?_cons_zero, Option.some.injEq] at h
    subst h
    exact ⟨flat f r, by simp [flat]⟩
  | x :: r, i + 1, b, h => by
    simp only [List.getElem?_cons_succ] at h
    obtain ⟨rest, h2⟩ := flat_drop hn r i b h
    refine ⟨rest, ?_⟩
    rw [← h2]
    simp only [flat, List.flatMap_cons]
    rw [Nat.succ_mul, Nat.add_comm, ← List.drop_drop, List.drop_append, hn, Nat.sub_self]
    rw [show List.drop n (f x) = [] from List.drop_eq_nil_of_le (by rw [hn]; exact Nat.le_refl _)]
    simp
theorem flat_get {β : Type} {f : β → List Value} {n : Nat} (hn : ∀ b, (f b).length = n) {l : List β} {i : Nat} {b : β} (h : l[i]? = some b) {k : Nat} (hk : k < n) : (flat f l)[i * n + k]? = (f b)[k]? := by
  obtain ⟨rest, h2⟩ := flat_drop hn l i b h
  rw [← List.getElem?_drop, h2, List.getElem?_append_left (by rw [hn]; exact hk)]

/-- a slice that came in: its elements, and its place -/
inductive InSlice (W : World) {β : Type} (f : β → List Value) (s : Value) (l : List β) : Arg → Prop
  | nil (hl : l = []) (hs : IsSlice s) (h0 : ∃ o c, s = .slice o 0 c) : InSlice W f s l (placeOf s, none)
  | blk (a : Addr) (c : Nat) (cs : Array Value) (e' : TypeId) (fr : Nat × Nat) (hs : s = .slice (some a) l.length c) (hc : l.length ≤ c) (hc2 : c < capU) (hsp : a.spot = none) (hb : W.heap[a.block]? = some (.cells cs e' fr)) (ho : a.off ≤ cs.size)
      (hg : ∀ i v, (flat f l)[i]? = some v → cs[a.off + i]? = some v) : InSlice W f s l ((a.block, a.off), some (flat f l, e'))

theorem addr_add0 (a : Addr) (n : Nat) (h : a.spot = none) : a.add n = ⟨a.block, a.off + n, none⟩ := by
  unfold Addr.add
  split
  · rename_i h0; subst h0; obtain ⟨b, o, s⟩ := a; simp only at h; subst h; rfl
  · rfl

theorem read_flat {W : World} {t e : TypeId} {fuel : Nat} {cs : List Value} {x : DataW H × List MemPlace} {β : Type} {f : β → List Value} {ok : β → Prop} (b0 : β) (hu : P.underlying t = some (.slice e)) (hz : 0 < P.cellsOf e) (hn : ∀ b, (f b).length = P.cellsOf e)
    (hel : ∀ q cs y, DataW.trod enc P W 0 (fun _ => true) true q e cs = some y → ∃ b, cs = f b ∧ ok b) (h : DataW.trod enc P W 0 (fun _ => true) true fuel t cs = some x) :
    ∃ s l L, cs = [s] ∧ InSlice W f s l L ∧ (∀ b ∈ l, ok b) := by
  have hsl := read_slice hu hz h
  rcases Go.Deep.open_slice hu h with ⟨rfl, _⟩ | ⟨a, n, c, m, k, D, Pl, rfl, _, hnm, hc, hm, _, hx⟩
  · exact ⟨_, [], _, rfl, .nil rfl (.inl rfl) ⟨none, 0, rfl⟩, by simp⟩
  · obtain ⟨s', hs1, hs2⟩ := hsl
    simp only [List.cons.injEq, and_true] at hs1
    subst hs1
    have hm : m = c := hm
    subst hm
    have hcap : m < capU := by
      have h1 : maxLen < capU := by decide
      omega
    rcases Nat.eq_zero_or_pos n with rfl | hpos
    · exact ⟨_, [], _, rfl, .nil rfl hs2 ⟨some a, m, rfl⟩, by simp⟩
    · have key : ∀ i, i < n → ∃ b : β, ok b ∧ ∀ j, j < P.cellsOf e → ∃ v, (f b)[j]? = some v ∧ W.cell? ((a.add (i * P.cellsOf e)).add j) = some v := by
        intro i hi
        obtain ⟨cs', g1, g2⟩ := hx i (by omega)
        obtain ⟨_, hl, g3⟩ := World.cells?_some g1
        obtain ⟨b, rfl, hok⟩ := hel _ _ _ g2
        refine ⟨b, hok, fun j hj => ?_⟩
        have h4 := g3 j (by omega)
        exact ⟨(f b)[j]'(by rw [hn]; exact hj), List.getElem?_eq_getElem _, by rw [h4]; exact List.getElem?_eq_getElem _⟩
      obtain ⟨bb, _, q⟩ := key 0 hpos
      obtain ⟨v0, _, q2⟩ := q 0 hz
      have hblk : a.spot = none ∧ ∃ cs e' fr, W.heap[a.block]? = some (.cells cs e' fr) ∧ a.off ≤ cs.size := by
        have : W.cell? a = some v0 := by simpa [Addr.add] using q2
        unfold World.cell? at this
        split at this
        · rename_i cs e' fr hh
          split at this
          · cases this
          · rename_i hsp
            refine ⟨?_, cs, e', fr, hh, ?_⟩
            · cases hq : a.spot with
              | none => rfl
              | some z => exact absurd (by simp [hq]) hsp
            · have := (Array.getElem?_eq_some_iff.1 this).1
              omega
        · cases this
      obtain ⟨hsp, cs, e', fr, hh, hoff⟩ := hblk
      let g : Nat → β := fun i => if h : i < n then Classical.choose (key i h) else b0
      have hg : ∀ i (h : i < n), g i = Classical.choose (key i h) := fun i h => dif_pos h
      have hfl : ((List.range n).map g).length = n := by simp
      refine ⟨_, (List.range n).map g, _, rfl, .blk a m cs e' fr (by rw [hfl]) (by rw [hfl]; exact hnm) hcap hsp hh hoff fun i v hi => ?_, fun b hb => ?_⟩
      · have hlt : i < n * P.cellsOf e := by
          have := (List.getElem?_eq_some_iff.1 hi).1
          rw [flat_length hn, hfl] at this
          exact this
        have hdiv : i / P.cellsOf e < n := (Nat.div_lt_iff_lt_mul hz).2 hlt
        have hmod : i % P.cellsOf e < P.cellsOf e := Nat.mod_lt _ hz
        have hie : i / P.cellsOf e * P.cellsOf e + i % P.cellsOf e = i := by rw [Nat.mul_comm]; exact Nat.div_add_mod i _
        have hget : ((List.range n).map g)[i / P.cellsOf e]? = some (g (i / P.cellsOf e)) := by
          rw [List.getElem?_map, List.getElem?_range hdiv]; rfl
        have := flat_get hn hget hmod
        rw [hie, hi, hg _ hdiv] at this
        obtain ⟨_, p2⟩ := Classical.choose_spec (key _ hdiv)
        obtain ⟨v', p3, p4⟩ := p2 _ hmod
        rw [← this] at p3
        cases p3
        rw [addr_add0 a _ hsp, addr_add0 _ _ rfl] at p4
        unfold World.cell? at p4
        rw [hh] at p4
        simp only [Option.isSome_none, Bool.false_eq_true, if_false] at p4
        rw [show a.off + i / P.cellsOf e * P.cellsOf e + i % P.cellsOf e = a.off + i by omega] at p4
        simpa using p4
      · simp only [List.mem_map, List.mem_range] at hb
        obtain ⟨i, hi, rfl⟩ := hb
        rw [hg i hi]
        exact (Classical.choose_spec (key i hi)).1

/-- how it stands in the abstract heap -/
theorem InSlice.rel {W : World} {β : Type} {f : β → List Value} {s : Value} {l : List β} {La : Arg} (h : InSlice W f s l La) {L : List Arg} {j : Nat} (hL : L[j]? = some La) :
    ∃ s', VRel (mR P L) s' s ∧ ((l = [] ∧ ∃ o c, s' = .slice o 0 c) ∨ ∃ c p e, s' = .slice (some ⟨P.globals.size + j, 0, none⟩) l.length c ∧ L[j]? = some (p, some (flat f l, e))) := by
  cases h with
  | nil hl hs h0 =>
    have : (L.map (·.1))[j]? = some (placeOf s) := by rw [List.getElem?_map, hL]; rfl
    obtain ⟨o, n2, c2, hv⟩ := hs.rel (P := P) (l := L.map (·.1)) j this
    obtain ⟨o', c', rfl⟩ := h0
    have hn2 : n2 = 0 := by cases hv <;> rfl
    subst hn2
    exact ⟨_, hv, .inl ⟨hl, _, _, rfl⟩⟩
  | blk a c cs e' fr hs hc hc2 hsp hb ho hg =>
    subst hs
    refine ⟨_, ?_, .inr ⟨c, _, _, rfl, hL⟩⟩
    refine .slice (.inl ⟨hc2, rfl⟩) hc fun _ => ⟨rfl, hsp, a.off, ?_, rfl⟩
    show mA P _ _ = _
    rw [mA_arg, List.getElem?_map, hL]
    rfl
/-- what the arguments ask of a place -/
theorem InSlice.args {W : World} {β : Type} {f : β → List Value} {s : Value} {l : List β} {La : Arg} (h : InSlice W f s l La) (hf : ∀ b, (f b).all (closedV 4) = true) {p : Nat × Nat} {cs : List Value} {e : TypeId} (hq : La = (p, some (cs, e))) {L : List Arg} :
    ∃ cs' fr, W.heap[p.1]? = some (.cells cs' e fr) ∧ p.2 ≤ cs'.size ∧ ∀ i v, cs[i]? = some v → ∃ v', cs'[p.2 + i]? = some v' ∧ VRel (mR P L) v v' := by
  cases h with
  | nil hl hs h0 => simp at hq
  | blk a c cs2 e' fr hs hc hc2 hsp hb ho hg =>
    simp only [Prod.mk.injEq, Option.some.injEq] at hq
    obtain ⟨rfl, rfl, rfl⟩ := hq
    refine ⟨cs2, fr, hb, ho, fun i v hv => ⟨v, hg i v hv, closedV_rel 4 v ?_⟩⟩
    have hm := List.mem_of_getElem? hv
    unfold flat at hm
    obtain ⟨b, _, hb2⟩ := List.mem_flatMap.1 hm
    exact List.all_eq_true.1 (hf b) v hb2
end
end Go.Abs


namespace Go.Abs
def entryP (w : AW) (it : Value) : R AN := match entryA w it with | some v => .ok (.value v) w | none => .fail "entry"
def rangeP (P : Program) (w : AW) (t : TypeId) (x : Value) : R AN := match P.underlying t, x with
    | some .string, .string s => (match w.new (.sit s 0) with | some (b, w) => .ok (.value (.pointer (some ⟨b, 0, none⟩))) w | none => .fail "range")
    | some (.map _ _), .map none => (match w.new (.mit none 0 [] 0) with | some (b, w) => .ok (.value (.pointer (some ⟨b, 0, none⟩))) w | none => .fail "range")
    | some (.map _ _), .map (some m) => (match w.get m with
      | some (.map _ clock _) => (match w.new (.mit (some m) clock [] clock) with | some (b, w) => .ok (.value (.pointer (some ⟨b, 0, none⟩))) w | none => .fail "range")
      | _ => .fail "range")
    | _, _ => .fail "range"
def panicP (w : AW) (x : Value) : R AN := match x with | .iface t v => .panic (.iface t v) w | _ => .fail "panic"
end Go.Abs


namespace Go.Abs

def bytesV (l : List UInt8) : List Value := l.map fun b => .int .u8 b.toNat
theorem bytesV_append (a b : List UInt8) : bytesV (a ++ b) = bytesV a ++ bytesV b := List.map_append
theorem bytesV_length (a : List UInt8) : (bytesV a).length = a.length := List.length_map _
theorem bytesV_one (a : List UInt8) : (bytesV a).all oneCell = true := by
  rw [List.all_eq_true]
  intro x hx
  obtain ⟨b, _, rfl⟩ := List.mem_map.1 hx
  rfl
theorem bytesV_noT (a : List UInt8) : (bytesV a).all (fun v => !isTuple v) = true := by
  rw [List.all_eq_true]
  intro x hx
  obtain ⟨b, _, rfl⟩ := List.mem_map.1 hx
  rfl
theorem bytesV_get {a : List UInt8} {i : Nat} {b : UInt8} (h : a[i]? = some b) : (bytesV a)[i]? = some (.int .u8 b.toNat) := by
  unfold bytesV
  rw [List.getElem?_map, h]; rfl
theorem bytesOf_bytesV : ∀ l : List UInt8, bytesOfCells (bytesV l) = some l
  | [] => rfl
  | b :: r => by
    show (match bytesOfCells (bytesV r) with | some l => some (UInt8.ofNat ((b.toNat : Int)).toNat :: l) | none => none) = _
    rw [bytesOf_bytesV r]
    simp
theorem takeCells_pre : ∀ (l rest : List Value), l.all (fun v => !isTuple v) = true → takeCells (l ++ rest) l.length = some l
  | [], _, _ => by simp [takeCells]
  | v :: r, rest, h => by
    simp only [List.all_cons, Bool.and_eq_true, Bool.not_eq_true'] at h
    simp [takeCells, h.1, takeCells_pre r rest h.2]
theorem takeAny_pre : ∀ (l rest : List Value), takeAny (l ++ rest) l.length = some l
  | [], _ => by simp [takeAny]
  | v :: r, rest => by simp [takeAny, takeAny_pre r rest]

/-- v is a slice of these bytes, in these families -/
def RdB (A : AW) (v : Value) (l : List UInt8) (F : List Nat) : Prop :=
  (l = [] ∧ F = [] ∧ ∃ o c, v = .slice o 0 c) ∨ ∃ r o c cs e f b ro rest, v = .slice (some ⟨r, o, none⟩) l.length c ∧ A.get r = some (.row cs e f b ro) ∧ f < A.next ∧ F = [f] ∧ cs.drop o = bytesV l ++ rest
theorem RdB.keeps {A A' : AW} {v : Value} {l : List UInt8} {F S : List Nat} (h : RdB A v l F) (k : Keeps A A' S) (hd : ∀ x ∈ F, x ∉ S) : RdB A' v l F := by
  rcases h with h | ⟨r, o, c, cs, e, f, b, ro, rest, h1, h2, h3, rfl, h4⟩
  · exact .inl h
  · exact .inr ⟨r, o, c, cs, e, f, b, ro, rest, h1, k.get r _ h2 h3 (hd f (by simp)), Nat.lt_of_lt_of_le h3 k.next, rfl, h4⟩
theorem RdB.one {A : AW} {v : Value} {l : List UInt8} {F : List Nat} (h : RdB A v l F) : oneCell v = true ∧ isTuple v = false := by
  rcases h with ⟨_, _, o, c, rfl⟩ | ⟨r, o, c, cs, e, f, b, ro, rest, rfl, _⟩ <;> exact ⟨rfl, rfl⟩
theorem RdB.lt {A : AW} {v : Value} {l : List UInt8} {F : List Nat} (h : RdB A v l F) : ∀ x ∈ F, x < A.next := by
  rcases h with ⟨_, rfl, _⟩ | ⟨r, o, c, cs, e, f, b, ro, rest, _, _, h3, rfl, _⟩
  · simp
  · simpa using h3
theorem RdB.slice {A : AW} {v : Value} {l : List UInt8} {F : List Nat} (h : RdB A v l F) : ∃ a c, v = .slice a l.length c := by
  rcases h with ⟨rfl, _, o, c, rfl⟩ | ⟨r, o, c, cs, e, f, b, ro, rest, rfl, _⟩ <;> exact ⟨_, _, rfl⟩
theorem RdB.src {A : AW} {v : Value} {l : List UInt8} {F : List Nat} (h : RdB A v l F) : sourceA A 1 v = some (l.length, bytesV l) := by
  rcases h with ⟨rfl, _, o, c, rfl⟩ | ⟨r, o, c, cs, e, f, b, ro, rest, rfl, h2, _, _, h4⟩
  · cases o <;> rfl
  · unfold sourceA
    simp only [Nat.mul_one, cells_row h2, h4]
    have := takeCells_pre (bytesV l) rest (bytesV_noT l)
    rw [bytesV_length] at this
    rw [this]
theorem RdB.cell {A : AW} {l : List UInt8} {F : List Nat} {r o c i : Nat} {b : UInt8} (h : RdB A (.slice (some ⟨r, o, none⟩) l.length c) l F) (hi : l[i]? = some b) : A.cell? ⟨r, o + i, none⟩ = some (.int .u8 b.toNat) := by
  rcases h with ⟨rfl, _⟩ | ⟨r', o', c', cs, e, f, b', ro, rest, hv, h2, _, _, h4⟩
  · simp at hi
  · simp only [Value.slice.injEq, Option.some.injEq, Addr.mk.injEq, and_true] at hv
    obtain ⟨⟨rfl, rfl⟩, _⟩ := hv
    rw [cell_row h2]
    refine cellOf_get ?_ rfl
    rw [← List.getElem?_drop, h4, List.getElem?_append_left (by rw [bytesV_length]; exact (List.getElem?_eq_some_iff.1 hi).1)]
    exact bytesV_get hi

/-- the types of bytes, of slices of them, and of texts -/
structure BT (P : Program) (tb ts tst : TypeId) : Prop where
  sl : sliceElemT P ts = some tb
  sz : szT P tb = some 1
  by_ : bytesT P tb = some 1
  hz : hasZero P tb 1 = true
  us : P.underlying ts = some (.slice tb)
  ub : P.underlying tb = some (.int .u8)
  ust : P.underlying tst = some .string
  zt : zeroT P tb = some (.int .u8 0)
  ln : ∀ A a n c, lenA P A ts (.slice a n c) = some (.int .i64 (n : Nat))
  ia : ∀ b o n c i k, indexAddrA P ts (.slice (some ⟨b, o, none⟩) n c) (.int k (.ofNat i)) = (bif Nat.blt i n then some (.pointer (some (addA ⟨b, o, none⟩ (i * 1)))) else none)
  ld : ∀ A a, loadP P A tb (.pointer (some a)) = A.cell? a
  st : ∀ A a v, storeP P A tb (.pointer (some a)) v = (bif Nat.beq v.cells.toList.length 1 then A.setCells a v.cells.toList else none)

section
variable {P : Program} {tb ts tst : TypeId}
theorem RdB.len {A : AW} {v : Value} {l : List UInt8} {F : List Nat} (T : BT P tb ts tst) (h : RdB A v l F) : lenA P A ts v = some (.int .i64 (l.length : Nat)) := by
  obtain ⟨a, c, rfl⟩ := h.slice
  exact T.ln _ _ _ _
theorem RdB.str {A : AW} {v : Value} {l : List UInt8} {F : List Nat} (T : BT P tb ts tst) (h : RdB A v l F) : convertA P A ts tst v = .ok (.string ⟨⟨l⟩⟩) A := by
  rcases h with ⟨rfl, _, o, c, rfl⟩ | ⟨r, o, c, cs, e, f, b, ro, rest, rfl, h2, _, _, h4⟩
  · unfold convertA
    cases o with
    | none => simp only [T.us, T.ust, T.ub]; rfl
    | some a => simp only [T.us, T.ust, T.ub, AW.cells?, bytesOfCells]
  · unfold convertA
    simp only [T.us, T.ust, T.ub, cells_row h2, h4]
    have := takeCells_pre (bytesV l) rest (bytesV_noT l)
    rw [bytesV_length] at this
    simp only [this, bytesOf_bytesV]
theorem RdB.at {A : AW} {v : Value} {l : List UInt8} {F : List Nat} (T : BT P tb ts tst) (h : RdB A v l F) {i : Nat} {b : UInt8} (hi : l[i]? = some b) :
    ∃ a, indexAddrA P ts v (.int .i64 (i : Int)) = some (.pointer (some a)) ∧ loadP P A tb (.pointer (some a)) = some (.int .u8 b.toNat) := by
  have h0 := h
  rcases h with ⟨rfl, _⟩ | ⟨r, o, c, cs, e, f, b', ro, rest, rfl, h2, h3, h5, h4⟩
  · simp at hi
  · have hlt : i < l.length := (List.getElem?_eq_some_iff.1 hi).1
    refine ⟨addA ⟨r, o, none⟩ (i * 1), ?_, ?_⟩
    · show indexAddrA P ts _ (.int .i64 (.ofNat i)) = _
      rw [T.ia, blt_true.2 hlt, cond_true]
    · have e : addA ⟨r, o, none⟩ (i * 1) = ⟨r, o + i, none⟩ := by
        unfold addA
        cases hb : Nat.beq (i * 1) 0 with
        | true => rw [cond_true]; have := Nat.eq_of_beq_eq_true hb; rw [Nat.mul_one] at this; rw [this]; rfl
        | false => rw [cond_false, Nat.mul_one]
      rw [T.ld, e]
      exact h0.cell hi
theorem src_slice {A : AW} {v : Value} {l : List UInt8} {F : List Nat} (T : BT P tb ts tst) (h : RdB A v l F) : sourceZ P A tb ts 1 v = some (l.length, bytesV l) := by
  unfold sourceZ
  rw [T.us]
  exact h.src
theorem src_text {A : AW} {s : ByteArray} (T : BT P tb ts tst) : sourceZ P A tb tst 1 (.string s) = some (s.data.toList.length, bytesV s.data.toList) := by
  unfold sourceZ
  rw [T.ust]
  rfl

/-- a row of bytes of a call's own, that may be appended to -/
def Buf (tb : TypeId) (A : AW) (v : Value) (l : List UInt8) (F : List Nat) : Prop :=
  (v = .slice none 0 0 ∧ l = [] ∧ F = []) ∨ (∃ b f, v = .slice (some ⟨b, 0, none⟩) l.length (capU + l.length) ∧ OwnAt 0 A tb 1 l.length (bytesV l) b f ∧ F = [f]) ∨
  ∃ b c pad, v = .slice (some ⟨b, 0, none⟩) l.length c ∧ c < room ∧ Row1 A b (bytesV l ++ pad) tb ∧ l.length + pad.length = c ∧ pad.all oneCell = true ∧ F = [b]
theorem Buf.nil (tb : TypeId) (A : AW) : Buf tb A (.slice none 0 0) [] [] := .inl ⟨rfl, rfl, rfl⟩
theorem Buf.keeps {A A' : AW} {v : Value} {l : List UInt8} {F S : List Nat} (h : Buf tb A v l F) (k : Keeps A A' S) (hd : ∀ x ∈ F, x ∉ S) : Buf tb A' v l F := by
  rcases h with h | ⟨b, f, rfl, h, rfl⟩ | ⟨b, c, pad, h1, h2, h3, h4, h5, rfl⟩
  · exact .inl h
  · have := OwnG.keeps (v := .slice (some ⟨b, 0, none⟩) l.length (capU + l.length)) (.inr ⟨b, f, rfl, h, rfl⟩) k hd
    rcases this with ⟨h1, _⟩ | ⟨b', f', h1, h2, h3⟩
    · cases h1
    · exact .inr (.inl ⟨b', f', h1, h2, h3⟩)
  · exact .inr (.inr ⟨b, c, pad, h1, h2, h3.keeps k (hd b (by simp)), h4, h5, rfl⟩)
theorem Buf.rd {A : AW} {v : Value} {l : List UInt8} {F : List Nat} (h : Buf tb A v l F) : RdB A v l F := by
  rcases h with ⟨rfl, rfl, rfl⟩ | ⟨b, f, rfl, h, rfl⟩ | ⟨b, c, pad, rfl, h2, h3, h4, h5, rfl⟩
  · exact .inl ⟨rfl, rfl, none, 0, rfl⟩
  · exact .inr ⟨b, 0, _, _, _, f, 0, false, [], rfl, h.row, h.ltf, rfl, by simp⟩
  · exact .inr ⟨b, 0, _, _, _, b, 0, false, pad, rfl, h3.row, h3.lt, rfl, by simp⟩
theorem Buf.lt {A : AW} {v : Value} {l : List UInt8} {F : List Nat} (h : Buf tb A v l F) : ∀ x ∈ F, x < A.next := h.rd.lt
theorem Buf.nodup {A : AW} {v : Value} {l : List UInt8} {F : List Nat} (h : Buf tb A v l F) : F.Nodup := by
  rcases h with ⟨_, _, rfl⟩ | ⟨b, f, _, _, rfl⟩ | ⟨b, c, pad, _, _, _, _, _, rfl⟩ <;> simp

theorem setL_mid : ∀ (a mid new rest : List Value), mid.length = new.length → setL (a ++ (mid ++ rest)) a.length new = a ++ (new ++ rest)
  | a, [], [], rest, _ => by simp [setL]
  | a, m :: ms, n :: ns, rest, h => by
    simp only [List.length_cons, Nat.add_right_cancel_iff] at h
    have := setL_mid (a ++ [n]) ms ns rest h
    simp only [setL]
    have e : (a ++ (m :: ms ++ rest)).set a.length n = (a ++ [n]) ++ (ms ++ rest) := by simp
    rw [e]
    have e2 : a.length + 1 = (a ++ [n]).length := by simp
    rw [e2, this]
    simp
  | a, [], _ :: _, rest, h => by simp at h
  | a, _ :: _, [], rest, h => by simp at h

/-- bytes behind bytes -/
theorem appendBuf {A : AW} {t2 : TypeId} {v x : Value} {l new : List UInt8} {F : List Nat} {K : Value → AW → Prop} (T : BT P tb ts tst) (h : Buf tb A v l F) (hx : sourceZ P A tb t2 1 x = some (new.length, bytesV new)) (hf : Fine A) (hmax : A.next < maxId) (hr : l.length + new.length < room)
    (hk : ∀ v' A' F', Buf tb A' v' (l ++ new) F' → Keeps A A' F → (∀ x ∈ F', x ∈ F ∨ A.next ≤ x) → A'.next ≤ A.next + 1 → Fine A' → K v' A') : bothW (appendA P A ts t2 v x) K := by
  have hroom : (Nat.blt (l.length + new.length) room && Nat.blt ((l.length + new.length) * 1) room && hasZero P tb 1) = true := by rw [Nat.mul_one, blt_true.2 hr, T.hz]; rfl
  rcases Nat.eq_zero_or_pos new.length with h0 | hpos
  · have hnew : new = [] := List.eq_nil_of_length_eq_zero h0
    subst hnew
    obtain ⟨a, c, rfl⟩ := h.rd.slice
    have e : appendA P A ts t2 (.slice a l.length c) x = .ok (.slice a l.length c) A := by
      unfold appendA
      simp only [T.sl, T.sz, T.by_, hx]
      simp only [List.length_nil] at hroom ⊢
      rw [hroom]
      rfl
    rw [e]
    refine bothW_ok.2 (hk _ A F (by rw [List.append_nil]; exact h) (.refl _ _) (fun x hx => .inl hx) (by omega) hf)
  · obtain ⟨m, hm⟩ : ∃ m, new.length = m + 1 := ⟨new.length - 1, by omega⟩
    rcases h with ⟨rfl, rfl, rfl⟩ | ⟨b, f, rfl, ho, rfl⟩ | ⟨b, c, pad, rfl, hc, h3, h4, h5, rfl⟩
    · have hx' : sourceZ P A tb t2 (0 + 1) x = some (m + 1, bytesV new) := by rw [← hm]; exact hx
      rw [hm] at hroom
      rw [appendA_nil T.sl T.sz T.by_ hx' hroom hmax]
      have hfp := hf.push (.row (bytesV new) tb A.next 0 false) hmax
      have hrow : (A.push (.row (bytesV new) tb A.next 0 false)).get A.next = some (.row (bytesV new) tb A.next 0 false) := by rw [AW.push_get _ hmax, if_pos rfl]
      refine bothW_ok.2 (hk _ _ [A.next] (.inr (.inl ⟨A.next, A.next, by simp [hm], ?_, rfl⟩)) ((AW.push_ext _ hmax).keeps hf) (fun x hx => .inr (by simp at hx; omega)) (by rw [AW.push_next]; omega) hfp)
      refine ⟨by simp [hm], by rw [hrow]; rfl, by simp [bytesV_length], Nat.zero_le _, Nat.zero_le _, by rw [AW.push_next]; omega, fun i hi => ?_⟩
      have : (A.push (.row (bytesV new) tb A.next 0 false)).members A.next = [A.next] := hf.alone (Nat.le_refl _)
      rw [this] at hi
      obtain rfl : i = A.next := by simpa using hi
      exact ⟨Nat.zero_le _, by rw [AW.push_next]; omega, _, _, _, _, hrow⟩
    · have hx' : sourceZ P A tb t2 (0 + 1) x = some (m + 1, bytesV new) := by rw [← hm]; exact hx
      refine appendG (P := P) (size := 0) T.sl T.sz T.by_ T.hz hx' (by rw [bytesV_length, hm]; omega) (bytesV_one new) (.inr ⟨b, f, rfl, ho, rfl⟩) hf hmax (by omega) (by omega) fun v' A' F' hv hk' hF' hn hf' => ?_
      refine hk v' A' F' ?_ hk' (fun x hx => ?_) (by omega) hf'
      · rcases hv with ⟨_, hz, _⟩ | ⟨b', f', h1, h2, h3⟩
        · omega
        · refine .inr (.inl ⟨b', f', ?_, ?_, h3⟩)
          · rw [h1, List.length_append, hm]
          · rw [List.length_append, hm, bytesV_append]; exact h2
      · rcases hF' x hx with h | h
        · exact .inl h
        · exact .inr (by omega)
    · have hlen : (bytesV l ++ pad).length = c := by rw [List.length_append, bytesV_length]; exact h4
      have hcu : Nat.ble capU c = false := ble_false.2 (by unfold room at hc; unfold capU; omega)
      by_cases hfit : l.length + new.length ≤ c
      · -- in place
        have hb := h3.lt
        obtain ⟨A', h1, w⟩ := setCells_own (new := bytesV new) (off := l.length) h3.row h3.mem (by rw [hlen, bytesV_length]; exact hfit) (bytesV_one new) (by omega)
        have e : appendA P A ts t2 (.slice (some ⟨b, 0, none⟩) l.length c) x = .ok (.slice (some ⟨b, 0, none⟩) (l.length + new.length) c) A' := by
          unfold appendA
          simp only [T.sl, T.sz, T.by_, hx]
          rw [hroom]
          rw [hm]
          have ha : addA ⟨b, 0, none⟩ (l.length * 1) = ⟨b, l.length, none⟩ := by
            unfold addA
            cases hb : Nat.beq (l.length * 1) 0 with
            | true => rw [cond_true]; have := Nat.eq_of_beq_eq_true hb; rw [Nat.mul_one] at this; rw [this]
            | false => rw [cond_false, Nat.mul_one, Nat.zero_add]
          have hfit' : Nat.ble (l.length + (m + 1)) c = true := ble_true.2 (by omega)
          simp only [hcu, cond_false, hfit', cond_true, ha, h1, Bool.not_true]
        rw [e]
        have hcs : setL (bytesV l ++ pad) l.length (bytesV new) = bytesV (l ++ new) ++ pad.drop new.length := by
          have hp : pad = pad.take new.length ++ pad.drop new.length := (List.take_append_drop _ _).symm
          conv => lhs; rw [hp]
          have hl2 : l.length = (bytesV l).length := (bytesV_length l).symm
          conv => lhs; arg 2; rw [hl2]
          rw [setL_mid (bytesV l) (pad.take new.length) (bytesV new) (pad.drop new.length) (by rw [List.length_take, bytesV_length]; omega), bytesV_append, List.append_assoc]
        refine bothW_ok.2 (hk _ A' [b] (.inr (.inr ⟨b, c, pad.drop new.length, by rw [List.length_append], hc, ?_, by rw [List.length_append, List.length_drop]; omega, ?_, rfl⟩)) (w.keeps h3.row) (fun x hx => .inl hx) (by rw [w.next]; omega) (w.fine hf h3.row))
        · rw [← hcs]
          exact ⟨w.row, by rw [w.mem]; exact h3.mem, by rw [w.next]; exact h3.lt⟩
        · rw [List.all_eq_true] at h5 ⊢
          exact fun x hx => h5 x (List.mem_of_mem_drop hx)
      · -- a new row
        have hold : (match (some ⟨b, 0, none⟩ : Option Addr) with | some a => A.cellsAny a (l.length * 1) | none => some []) = some (bytesV l) := by
          show A.cellsAny ⟨b, 0, none⟩ (l.length * 1) = _
          rw [Nat.mul_one]
          unfold AW.cellsAny
          cases hl : l.length with
          | zero =>
            have : l = [] := List.eq_nil_of_length_eq_zero hl
            subst this; rfl
          | succ k =>
            simp only [h3.row, List.drop_zero]
            have := takeAny_pre (bytesV l) pad
            rw [bytesV_length, hl] at this
            exact this
        have hnew : A.new (.row (bytesV l ++ bytesV new) tb A.next 0 false) = some (A.next, A.push (.row (bytesV l ++ bytesV new) tb A.next 0 false)) := by
          unfold AW.new
          simp only [blt_true.2 hmax, cond_true]
          rfl
        have e : appendA P A ts t2 (.slice (some ⟨b, 0, none⟩) l.length c) x = .ok (.slice (some ⟨A.next, 0, none⟩) (l.length + new.length) (capU + (l.length + new.length))) (A.push (.row (bytesV l ++ bytesV new) tb A.next 0 false)) := by
          unfold appendA
          simp only [T.sl, T.sz, T.by_, hx]
          rw [hroom]
          rw [hm]
          have hfit' : Nat.ble (l.length + (m + 1)) c = false := ble_false.2 (by omega)
          simp only [hcu, cond_false, hfit', Bool.not_true]
          simp only at hold
          rw [hold]
          simp only [hnew]
        rw [e]
        have hfp := hf.push (.row (bytesV l ++ bytesV new) tb A.next 0 false) hmax
        have hrow : (A.push (.row (bytesV l ++ bytesV new) tb A.next 0 false)).get A.next = some (.row (bytesV l ++ bytesV new) tb A.next 0 false) := by rw [AW.push_get _ hmax, if_pos rfl]
        refine bothW_ok.2 (hk _ _ [A.next] (.inr (.inl ⟨A.next, A.next, by rw [List.length_append], ?_, rfl⟩)) (((AW.push_ext _ hmax).keeps hf).more (by simp)) (fun x hx => .inr (by simp at hx; omega)) (by rw [AW.push_next]; omega) hfp)
        refine ⟨by rw [List.length_append]; omega, by rw [hrow, bytesV_append], by rw [bytesV_length, Nat.mul_one], Nat.zero_le _, Nat.zero_le _, by rw [AW.push_next]; omega, fun i hi => ?_⟩
        have : (A.push (.row (bytesV l ++ bytesV new) tb A.next 0 false)).members A.next = [A.next] := hf.alone (Nat.le_refl _)
        rw [this] at hi
        obtain rfl : i = A.next := by simpa using hi
        exact ⟨Nat.zero_le _, by rw [AW.push_next]; omega, _, _, _, _, hrow⟩

theorem zerosA_one (v : Value) : ∀ n, zerosA [v] n = List.replicate n v
  | 0 => rfl
  | n + 1 => by rw [zerosA, zerosA_one v n]; rfl
/-- a new row of zeros -/
theorem makeBytes {A : AW} {k k2 : IntKind} {n c : Nat} {K : Value → AW → Prop} (T : BT P tb ts tst) (hf : Fine A) (hmax : A.next < maxId) (hn : n ≤ c) (hc : c < room)
    (hk : ∀ A', Made A A' (List.replicate c (.int .u8 0)) tb → K (.slice (some ⟨A.next, 0, none⟩) n c) A') : bothW (makeSliceA P A ts (.int k (n : Int)) (.int k2 (c : Int))) K := by
  have hz : zerosT P tb 1 c = some (List.replicate c (.int .u8 0)) := by
    unfold zerosT
    rw [T.zt]
    cases c with
    | zero => rfl
    | succ c =>
      have : Nat.beq ((c + 1) * 1) 0 = false := beq_false.2 (by omega)
      simp only [this, cond_false]
      show (bif Nat.beq 1 1 then some (zerosA [.int .u8 0] (c + 1)) else none) = _
      rw [zerosA_one]; rfl
  have hnr : A.newRow (List.replicate c (.int .u8 0)) tb = some (⟨A.next, 0, none⟩, A.push (.row (List.replicate c (.int .u8 0)) tb A.next 0 false)) := by
    unfold AW.newRow AW.new
    have : (List.replicate c (Value.int .u8 0)).all oneCell = true := by
      rw [List.all_eq_true]; intro x hx; rw [List.eq_of_mem_replicate hx]; rfl
    simp only [this, cond_true, blt_true.2 hmax]
    rfl
  have e : makeSliceA P A ts (.int k (n : Int)) (.int k2 (c : Int)) = .ok (.slice (some ⟨A.next, 0, none⟩) n c) (A.push (.row (List.replicate c (.int .u8 0)) tb A.next 0 false)) := by
    show makeSliceA P A ts (.int k (.ofNat n)) (.int k2 (.ofNat c)) = _
    unfold makeSliceA
    simp only [T.sl, T.sz, T.by_, Nat.mul_one, ble_true.2 hn, blt_true.2 hc, Bool.and_self, cond_true, hz, hnr]
  rw [e]
  exact bothW_ok.2 (hk _ ⟨AW.push_ext _ hmax, rfl, by rw [AW.push_get _ hmax, if_pos rfl], hf.alone (Nat.le_refl _), hf.push _ hmax⟩)
theorem Made.buf0 {A A' : AW} {c : Nat} (m : Made A A' (List.replicate c (.int .u8 0)) tb) (hc : c < room) : Buf tb A' (.slice (some ⟨A.next, 0, none⟩) 0 c) [] [A.next] :=
  .inr (.inr ⟨A.next, c, List.replicate c (.int .u8 0), rfl, hc, m.row1, by simp, by rw [List.all_eq_true]; intro x hx; rw [List.eq_of_mem_replicate hx]; rfl, rfl⟩)
end
end Go.Abs


namespace Go.Abs
section
variable {P : Program}
theorem quiet_fieldR {d : Nat} {xs ys : Array Value} {f : Field} {fs : List Field} {a b : Value} {r : Bool} (hn : decide (f.name ≠ "_") = true) (h1 : quiet P (part f.type xs f.offset) = some a) (h2 : quiet P (part f.type ys f.offset) = some b) (h3 : quiet P (Op.equalIn d f.type a b) = some r) :
    quiet P (Op.eqFields d xs ys (f :: fs)) = if r = true then quiet P (Op.eqFields d xs ys fs) else some false := by
  simp only [Op.eqFields]
  rw [if_pos (of_decide_eq_true hn)]
  show quiet P (Sem.bind _ _) = _
  rw [quiet_bind, h1]
  simp only [Option.bind_some]
  show quiet P (Sem.bind _ _) = _
  rw [quiet_bind, h2]
  simp only [Option.bind_some]
  show quiet P (Sem.bind _ _) = _
  rw [quiet_bind, h3]
  cases r <;> rfl
theorem bytes_beq (a b : ByteArray) : (a == b) = (a.data.toList == b.data.toList) := by
  obtain ⟨⟨x⟩⟩ := a
  obtain ⟨⟨y⟩⟩ := b
  show ((⟨x⟩ : Array UInt8) == ⟨y⟩) = (x == y)
  simp
theorem quiet_eqs {d : Nat} {t : TypeId} {a b : ByteArray} (h : quiet P (underlying t) = some .string) : quiet P (Op.equalIn (d + 1) t (.string a) (.string b)) = some (a.data.toList == b.data.toList) := by
  rw [quiet_eq_string d t a b h, bytes_beq]
end
end Go.Abs


namespace Go.Abs
/-- v is a slice of these bytes, in these families, of which more is known: it may be sliced -/
def RdS (tb : TypeId) (A : AW) (v : Value) (l : List UInt8) (F : List Nat) : Prop :=
  (l = [] ∧ F = [] ∧ ∃ o c, v = .slice o 0 c ∧ c < capU ∧ (o = none → c = 0)) ∨ ∃ r o c C cs f b ro rest, v = .slice (some ⟨r, o, none⟩) l.length C ∧ (C = capU + c ∨ (C = c ∧ c < capU)) ∧ l.length ≤ c ∧ A.get r = some (.row cs tb f b ro) ∧ f < A.next ∧ F = [f] ∧ cs.drop o = bytesV l ++ rest
theorem RdS.rd {tb : TypeId} {A : AW} {v : Value} {l : List UInt8} {F : List Nat} (h : RdS tb A v l F) : RdB A v l F := by
  rcases h with ⟨h1, h2, o, c, h3, _⟩ | ⟨r, o, c, C, cs, f, b, ro, rest, h1, _, _, h2, h3, h4, h5⟩
  · exact .inl ⟨h1, h2, o, c, h3⟩
  · exact .inr ⟨r, o, C, cs, tb, f, b, ro, rest, h1, h2, h3, h4, h5⟩
theorem RdS.keeps {tb : TypeId} {A A' : AW} {v : Value} {l : List UInt8} {F S : List Nat} (h : RdS tb A v l F) (k : Keeps A A' S) (hd : ∀ x ∈ F, x ∉ S) : RdS tb A' v l F := by
  rcases h with h | ⟨r, o, c, C, cs, f, b, ro, rest, h1, h0, h6, h2, h3, rfl, h5⟩
  · exact .inl h
  · exact .inr ⟨r, o, c, C, cs, f, b, ro, rest, h1, h0, h6, k.get r _ h2 h3 (hd f (by simp)), Nat.lt_of_lt_of_le h3 k.next, rfl, h5⟩
theorem RdS.nil (tb : TypeId) (A : AW) : RdS tb A (.slice none 0 0) [] [] := .inl ⟨rfl, rfl, none, 0, rfl, by decide, fun _ => rfl⟩
theorem Buf.rdS {tb : TypeId} {A : AW} {v : Value} {l : List UInt8} {F : List Nat} (h : Buf tb A v l F) : RdS tb A v l F := by
  rcases h with ⟨rfl, rfl, rfl⟩ | ⟨b, f, rfl, ho, rfl⟩ | ⟨b, c, pad, rfl, hc, hr, hl, ho, rfl⟩
  · exact .nil _ _
  · exact .inr ⟨b, 0, l.length, _, _, f, 0, false, [], rfl, .inl rfl, Nat.le_refl _, ho.row, ho.ltf, rfl, by simp⟩
  · have : c < capU := by have h1 : room = 68719476736 := rfl; have h2 : capU = 18446744073709551616 := rfl; omega
    exact .inr ⟨b, 0, c, c, _, b, 0, false, pad, rfl, .inr ⟨rfl, this⟩, by omega, hr.row, hr.lt, rfl, by simp⟩

section
variable {P : Program} {tb ts tst : TypeId}
theorem moved_eq (r o n : Nat) : moved (some ⟨r, o, none⟩) (n * 1) = some ⟨r, o + n, none⟩ := by
  show some (bif Nat.beq (n * 1) 0 then (⟨r, o, none⟩ : Addr) else ⟨r, o + n * 1, none⟩) = _
  rw [Nat.mul_one]
  cases n <;> rfl
theorem cond_none {o : Option Addr} (c : Nat) (hz : o = none → c = 0) : (bif Nat.beq c 0 then o else moved o (0 * 1)) = none → c = 0 := by
  cases o with
  | none => exact fun _ => hz rfl
  | some a => cases Nat.beq c 0 <;> (intro h; cases h)
theorem bytesV_take (l : List UInt8) (n : Nat) : bytesV (l.take n) = (bytesV l).take n := List.map_take
theorem bytesV_drop (l : List UInt8) (n : Nat) : bytesV (l.drop n) = (bytesV l).drop n := List.map_drop
theorem slice_known {A : AW} (T : BT P tb ts tst) {a : Option Addr} {len C n : Nat} (hc : C < capU) (hn : n ≤ C) : sliceA P A ts (.slice a len C) none (some (.int .i64 (.ofNat n))) none = some (.slice (bif Nat.beq C 0 then a else moved a (0 * 1)) n C) := by
  unfold sliceA
  simp only [T.us, T.sz, ble_false.2 hc, cond_false, bounds, okMax, boundA, ble_true.2 hn, Nat.sub_zero, Option.isSome_some, Option.isSome_none, Bool.not_false, Bool.or_true, cond_true]
theorem slice_open {A : AW} (T : BT P tb ts tst) {a : Option Addr} {len c n : Nat} (hr : rowIs A a tb = true) (hn : n ≤ c) : sliceA P A ts (.slice a len (capU + c)) none (some (.int .i64 (.ofNat n))) none = some (.slice (moved a (0 * 1)) n (capU + c)) := by
  unfold sliceA
  simp only [T.us, T.sz, ble_true.2 (show capU ≤ capU + c from Nat.le_add_right _ _), cond_true, bounds, okMax, boundA, Nat.add_sub_cancel_left, ble_true.2 hn, Nat.sub_zero, Option.isSome_some, Option.isSome_none, Bool.not_false, Bool.or_true, hr, Bool.and_self]
/-- the first n of it -/
theorem RdS.to {A : AW} {v : Value} {l : List UInt8} {F : List Nat} (T : BT P tb ts tst) (h : RdS tb A v l F) {n : Nat} (hn : n ≤ l.length) : ∃ v', sliceA P A ts v none (some (.int .i64 (n : Int))) none = some v' ∧ RdS tb A v' (l.take n) F := by
  show ∃ v', sliceA P A ts v none (some (.int .i64 (.ofNat n))) none = some v' ∧ _
  rcases h with ⟨rfl, rfl, o, c, rfl, hc, hz⟩ | ⟨r, o, c, C, cs, f, b, ro, rest, rfl, hC, hl, h2, h3, rfl, h5⟩
  · have hn0 : n = 0 := Nat.le_zero.1 hn
    refine ⟨_, slice_known T hc (by omega), .inl ⟨List.take_nil, rfl, _, c, by rw [hn0], hc, cond_none c hz⟩⟩
  · have hd : cs.drop o = bytesV (l.take n) ++ (bytesV (l.drop n) ++ rest) := by
      rw [h5, bytesV_take, bytesV_drop, ← List.append_assoc, List.take_append_drop]
    have hlen : (l.take n).length = n := by rw [List.length_take]; omega
    rcases hC with rfl | ⟨rfl, hc⟩
    · refine ⟨_, slice_open T (by unfold rowIs; simp only [h2]; exact beq_true.2 rfl) (by omega), ?_⟩
      rw [moved_eq, Nat.add_zero]
      exact .inr ⟨r, o, c, capU + c, cs, f, b, ro, _, by rw [hlen], .inl rfl, by omega, h2, h3, rfl, hd⟩
    · refine ⟨_, slice_known T hc (by omega), ?_⟩
      rw [moved_eq, Nat.add_zero]
      refine .inr ⟨r, o, C, C, cs, f, b, ro, _, ?_, .inr ⟨rfl, hc⟩, by omega, h2, h3, rfl, hd⟩
      rw [hlen]
      cases Nat.beq C 0
      · rw [cond_false]
      · rw [cond_true]
/-- what stands behind the first n -/
theorem RdS.from {A : AW} {v : Value} {l : List UInt8} {F : List Nat} (T : BT P tb ts tst) (h : RdS tb A v l F) {n : Nat} (hn : n ≤ l.length) : ∃ v', sliceA P A ts v (some (.int .i64 (n : Int))) none none = some v' ∧ RdS tb A v' (l.drop n) F := by
  have hc0 : capU = 18446744073709551616 := rfl
  show ∃ v', sliceA P A ts v (some (.int .i64 (.ofNat n))) none none = some v' ∧ _
  rcases h with ⟨rfl, rfl, o, c, rfl, hc, hz⟩ | ⟨r, o, c, C, cs, f, b, ro, rest, rfl, hC, hl, h2, h3, rfl, h5⟩
  · obtain rfl : n = 0 := by simpa using hn
    refine ⟨.slice (bif Nat.beq c 0 then o else moved o (0 * 1)) 0 c, ?_, .inl ⟨rfl, rfl, _, c, rfl, hc, cond_none c hz⟩⟩
    unfold sliceA
    simp only [T.us, T.sz, ble_false.2 hc, cond_false, bounds, okMax, boundA, ble_true.2 (Nat.le_refl 0), Nat.sub_zero, Option.isSome_none, Bool.not_false, Bool.or_true, cond_true]
  · have hd : cs.drop (o + n) = bytesV (l.drop n) ++ rest := by
      rw [← List.drop_drop, h5, bytesV_drop, List.drop_append_of_le_length (by rw [bytesV_length]; exact hn)]
    have hlen : (l.drop n).length = l.length - n := List.length_drop
    rcases hC with rfl | ⟨rfl, hc⟩
    · refine ⟨.slice (moved (some ⟨r, o, none⟩) (n * 1)) (l.length - n) (capU + (c - n)), ?_, ?_⟩
      · unfold sliceA
        have hr : rowIs A (some ⟨r, o, none⟩) tb = true := by unfold rowIs; simp only [h2]; exact beq_true.2 rfl
        simp only [T.us, T.sz, ble_true.2 (show capU ≤ capU + c by omega), cond_true, bounds, okMax, boundA, Nat.add_sub_cancel_left, ble_true.2 hn, ble_true.2 hl, Option.isSome_none, Bool.not_false, Bool.or_true, hr, Bool.and_self]
      · rw [moved_eq]
        exact .inr ⟨r, o + n, c - n, _, cs, f, b, ro, rest, by rw [hlen], .inl rfl, by omega, h2, h3, rfl, hd⟩
    · refine ⟨.slice (bif Nat.beq C n then some ⟨r, o, none⟩ else moved (some ⟨r, o, none⟩) (n * 1)) (l.length - n) (C - n), ?_, ?_⟩
      · unfold sliceA
        simp only [T.us, T.sz, ble_false.2 hc, cond_false, bounds, okMax, boundA, ble_true.2 hn, Option.isSome_none, Bool.not_false, Bool.or_true, cond_true]
      · rw [moved_eq]
        cases hb : Nat.beq C n with
        | false => exact .inr ⟨r, o + n, C - n, C - n, cs, f, b, ro, rest, by rw [hlen, cond_false], .inr ⟨rfl, by omega⟩, by omega, h2, h3, rfl, hd⟩
        | true =>
          have e := Nat.eq_of_beq_eq_true hb
          have hnil : l.drop n = [] := List.drop_eq_nil_of_le (by omega)
          refine .inr ⟨r, o, C - n, C - n, cs, f, b, ro, cs.drop o, by rw [hlen, cond_true], .inr ⟨rfl, by omega⟩, by omega, h2, h3, rfl, ?_⟩
          rw [hnil]; rfl
end
end Go.Abs


set_option maxRecDepth 100000
namespace Go.Abs
section
variable {P : Program} {tb ts tst : TypeId}
theorem least_min (a b : Nat) : least a b = min a b := least_eq a b
theorem cells0 (A : AW) (a : Addr) : A.cells? a 0 = some [] := by unfold AW.cells?; rfl
theorem RdB.copy {A : AW} {v : Value} {l : List UInt8} {F : List Nat} (h : RdB A v l F) {n : Nat} (hn : n ≤ l.length) : copyCells A 1 n v = some (bytesV (l.take n)) := by
  rcases h with ⟨rfl, _, o, c, rfl⟩ | ⟨r, o, c, cs, e, f, b, ro, rest, rfl, h2, _, _, h4⟩
  · obtain rfl : n = 0 := by simpa using hn
    cases o with
    | none => rfl
    | some a => exact cells0 A a
  · unfold copyCells
    simp only [Nat.mul_one, cells_row h2, h4]
    have e : bytesV l ++ rest = bytesV (l.take n) ++ (bytesV (l.drop n) ++ rest) := by rw [bytesV_take, bytesV_drop, ← List.append_assoc, List.take_append_drop]
    have := takeCells_pre (bytesV (l.take n)) (bytesV (l.drop n) ++ rest) (bytesV_noT _)
    rw [bytesV_length, List.length_take, Nat.min_eq_left hn] at this
    rw [e, this]
theorem RdB.lenV {A : AW} {v : Value} {l : List UInt8} {F : List Nat} (h : RdB A v l F) : lenV v = some l.length := by
  obtain ⟨a, c, rfl⟩ := h.slice
  rfl
/-- copy, into a row of the call's own -/
theorem copyOwn {A : AW} {b dl dc : Nat} {cs : List Value} {x : Value} {l : List UInt8} {F : List Nat} {K : Value → AW → Prop} (T : BT P tb ts tst) (hd : Row1 A b cs tb) (h : RdB A x l F) (hf : Fine A) (hA : A.next ≤ maxId) (hcs : min l.length dl ≤ cs.length)
    (hk : ∀ A' v, Row1 A' b (setL cs 0 (bytesV (l.take (min l.length dl)))) tb → Keeps A A' [b] → A'.next = A.next → Fine A' → K v A') : bothW (copyA P A ts (.slice (some ⟨b, 0, none⟩) dl dc) x) K := by
  have hlt := hd.lt
  obtain ⟨A', h1, w⟩ := setCells_own (new := bytesV (l.take (min l.length dl))) (off := 0) hd.row hd.mem (by rw [bytesV_length, List.length_take]; omega) (bytesV_one _) (by omega)
  have e : copyA P A ts (.slice (some ⟨b, 0, none⟩) dl dc) x = .ok (.int .i64 (min l.length dl : Nat)) A' := by
    unfold copyA
    simp only [T.sl, T.sz, h.lenV, least_min, h.copy (show min l.length dl ≤ l.length by omega), h1]
  rw [e]
  exact bothW_ok.2 (hk A' _ ⟨w.row, by rw [w.mem]; exact hd.mem, by rw [w.next]; exact hd.lt⟩ (w.keeps hd.row) w.next (w.fine hf hd.row))

/-- a row with room for c bytes -/
structure BufC (tb : TypeId) (A : AW) (v : Value) (l : List UInt8) (c b : Nat) : Prop where
  val : v = .slice (some ⟨b, 0, none⟩) l.length (capU + c)
  room : c < room
  row : ∃ pad, Row1 A b (bytesV l ++ pad) tb ∧ l.length + pad.length = c ∧ pad.all oneCell = true
theorem BufC.keeps {A A' : AW} {v : Value} {l : List UInt8} {c b : Nat} {S : List Nat} (h : BufC tb A v l c b) (k : Keeps A A' S) (hd : b ∉ S) : BufC tb A' v l c b := by
  obtain ⟨h1, h2, pad, h3, h4, h5⟩ := h
  exact ⟨h1, h2, pad, h3.keeps k hd, h4, h5⟩
theorem BufC.lt {A : AW} {v : Value} {l : List UInt8} {c b : Nat} (h : BufC tb A v l c b) : b < A.next := by
  obtain ⟨_, _, pad, h3, _⟩ := h
  exact h3.lt
/-- what is full may be appended to as any other -/
theorem BufC.buf {A : AW} {v : Value} {l : List UInt8} {c b : Nat} (h : BufC tb A v l c b) (hl : l.length = c) (h0 : 0 < c) : Buf tb A v l [b] := by
  obtain ⟨rfl, h2, pad, h3, h4, _⟩ := h
  have hp : pad = [] := List.eq_nil_of_length_eq_zero (by omega)
  subst hp
  subst hl
  rw [List.append_nil] at h3
  refine .inr (.inl ⟨b, b, rfl, ⟨h0, h3.row, by rw [bytesV_length, Nat.mul_one], Nat.zero_le _, Nat.zero_le _, h3.lt, fun i hi => ?_⟩, rfl⟩)
  rw [h3.mem] at hi
  obtain rfl : i = b := by simpa using hi
  exact ⟨Nat.zero_le _, h3.lt, _, _, _, _, h3.row⟩
def appU (P : Program) (U : Nat) (w : AW) (t t2 : TypeId) (s x : Value) : R Value :=
  match sliceElemT P t, s with
  | some e, .slice base n cap =>
    (match szT P e, bytesT P e with
    | some 0, _ => .fail "append size 0"
    | some size, some bytes =>
      match sourceZ P w e t2 size x with
      | none => .fail "append source"
      | some (m, new) =>
        let need := n + m
        bif !(Nat.blt need room && Nat.blt (need * bytes) room && hasZero P e size) then .fail "append room" else
        match m with
        | 0 => .ok s w
        | _ + 1 =>
          let lb := bif Nat.ble U cap then cap - U else cap
          bif Nat.ble need lb then
            match base with
            | none => .fail "append nil with room"
            | some a => (match w.setCells (addA a (n * size)) new with
              | some w' => .ok (.slice base need cap) w'
              | none => .fail "append set")
          else bif Nat.ble U cap then
            -- not known whether there is room
            match base with
            | none => .fail "append nil with unknown capacity"
            | some a => match a.spot, w.get a.block with
              | none, some (.row _ e' fam b0 false) =>
                bif !(Nat.beq e' e && new.all oneCell) then .fail "append elements" else
                (match w.cellsAny a (n * size) with
                | none => .fail "append old cells"
                | some old =>
                  match (poisonFrom (b0 + a.off + n * size) (w.members fam) w).newIn (old ++ new) e fam (b0 + a.off) with
                  | some (a', w') => .ok (.slice (some a') need (U + need)) w'
                  | none => .fail "append new")
              | _, _ => .fail "append base row"
          else
            match (match base with | some a => w.cellsAny a (n * size) | none => some []) with
            | none => .fail "append old cells"
            | some old => (match w.new (.row (old ++ new) e w.next 0 false) with
              | some (b, w') => .ok (.slice (some ⟨b, 0, none⟩) need (U + need)) w'
              | none => .fail "append new")
    | _, _ => .fail "append type")
  | _, _ => .fail "append"
theorem appU_eq (A : AW) (t t2 : TypeId) (s x : Value) : appendA P A t t2 s x = appU P capU A t t2 s x := rfl
theorem appU_in {A A' : AW} {t2 : TypeId} {x : Value} {U n cap b m : Nat} {new : List Value} (T : BT P tb ts tst) (hx : sourceZ P A tb t2 1 x = some (m + 1, new)) (hroom : (Nat.blt (n + (m + 1)) Go.Abs.room && Nat.blt ((n + (m + 1)) * 1) Go.Abs.room && hasZero P tb 1) = true)
    (hcap : Nat.ble U cap = true) (hfit : Nat.ble (n + (m + 1)) (cap - U) = true) (h1 : A.setCells ⟨b, n, none⟩ new = some A') :
    appU P U A ts t2 (.slice (some ⟨b, 0, none⟩) n cap) x = .ok (.slice (some ⟨b, 0, none⟩) (n + (m + 1)) cap) A' := by
  have ha : addA ⟨b, 0, none⟩ (n * 1) = ⟨b, n, none⟩ := by
    unfold addA
    cases hb : Nat.beq (n * 1) 0 with
    | true => rw [cond_true]; have := Nat.eq_of_beq_eq_true hb; rw [Nat.mul_one] at this; rw [this]
    | false => rw [cond_false, Nat.mul_one, Nat.zero_add]
  unfold appU
  simp only [T.sl, T.sz, T.by_, hx]
  rw [hroom]
  simp only [hcap, cond_true, hfit, ha, h1, Bool.not_true, cond_false]
theorem appendA_in {A A' : AW} {t2 : TypeId} {x : Value} {n cap b m : Nat} {new : List Value} (T : BT P tb ts tst) (hx : sourceZ P A tb t2 1 x = some (m + 1, new)) (hroom : (Nat.blt (n + (m + 1)) Go.Abs.room && Nat.blt ((n + (m + 1)) * 1) Go.Abs.room && hasZero P tb 1) = true)
    (hcap : Nat.ble capU cap = true) (hfit : Nat.ble (n + (m + 1)) (cap - capU) = true) (h1 : A.setCells ⟨b, n, none⟩ new = some A') :
    appendA P A ts t2 (.slice (some ⟨b, 0, none⟩) n cap) x = .ok (.slice (some ⟨b, 0, none⟩) (n + (m + 1)) cap) A' :=
  (appU_eq A ts t2 (.slice (some ⟨b, 0, none⟩) n cap) x).trans (appU_in T hx hroom hcap hfit h1)
theorem appendCap {A : AW} {t2 : TypeId} {v x : Value} {l new : List UInt8} {c b : Nat} {K : Value → AW → Prop} (T : BT P tb ts tst) (h : BufC tb A v l c b) (hx : sourceZ P A tb t2 1 x = some (new.length, bytesV new)) (hf : Fine A) (hA : A.next ≤ maxId) (hfit : l.length + new.length ≤ c)
    (hk : ∀ A' v', BufC tb A' v' (l ++ new) c b → Keeps A A' [b] → A'.next = A.next → Fine A' → K v' A') : bothW (appendA P A ts t2 v x) K := by
  have hc := h.room
  have hroom : (Nat.blt (l.length + new.length) Go.Abs.room && Nat.blt ((l.length + new.length) * 1) Go.Abs.room && hasZero P tb 1) = true := by rw [Nat.mul_one, blt_true.2 (by omega), T.hz]; rfl
  obtain ⟨rfl, h2, pad, h3, h4, h5⟩ := h
  have hlt := h3.lt
  rcases Nat.eq_zero_or_pos new.length with h0 | hpos
  · have hnew : new = [] := List.eq_nil_of_length_eq_zero h0
    subst hnew
    have e : appendA P A ts t2 (.slice (some ⟨b, 0, none⟩) l.length (capU + c)) x = .ok (.slice (some ⟨b, 0, none⟩) l.length (capU + c)) A := by
      unfold appendA
      simp only [T.sl, T.sz, T.by_, hx]
      rw [hroom]
      rfl
    rw [e]
    refine bothW_ok.2 (hk A _ ⟨by rw [List.append_nil], h2, pad, by rw [List.append_nil]; exact h3, by rw [List.append_nil]; exact h4, h5⟩ (.refl _ _) rfl hf)
  · obtain ⟨m, hm⟩ : ∃ m, new.length = m + 1 := ⟨new.length - 1, by omega⟩
    obtain ⟨A', h1, w⟩ := setCells_own (new := bytesV new) (off := l.length) h3.row h3.mem (by rw [List.length_append, bytesV_length, bytesV_length]; omega) (bytesV_one new) (by omega)
    have e : appendA P A ts t2 (.slice (some ⟨b, 0, none⟩) l.length (capU + c)) x = .ok (.slice (some ⟨b, 0, none⟩) (l.length + new.length) (capU + c)) A' := by
      rw [hm] at hx hroom
      rw [hm]
      exact appendA_in T hx hroom (ble_true.2 (Nat.le_add_right _ _)) (ble_true.2 (by rw [Nat.add_sub_cancel_left, ← hm]; exact hfit)) h1
    rw [e]
    have hcs : setL (bytesV l ++ pad) l.length (bytesV new) = bytesV (l ++ new) ++ pad.drop new.length := by
      have hp : pad = pad.take new.length ++ pad.drop new.length := (List.take_append_drop _ _).symm
      conv => lhs; rw [hp]
      have hl2 : l.length = (bytesV l).length := (bytesV_length l).symm
      conv => lhs; arg 2; rw [hl2]
      rw [setL_mid (bytesV l) (pad.take new.length) (bytesV new) (pad.drop new.length) (by rw [List.length_take, bytesV_length]; omega), bytesV_append, List.append_assoc]
    refine bothW_ok.2 (hk A' _ ⟨by rw [List.length_append], h2, pad.drop new.length, ?_, by rw [List.length_append, List.length_drop]; omega, ?_⟩ (w.keeps h3.row) w.next (w.fine hf h3.row))
    · rw [← hcs]
      exact ⟨w.row, by rw [w.mem]; exact h3.mem, by rw [w.next]; exact h3.lt⟩
    · rw [List.all_eq_true] at h5 ⊢
      exact fun x hx => h5 x (List.mem_of_mem_drop hx)

theorem bytesV_replicate (n : Nat) : bytesV (List.replicate n 0) = List.replicate n (.int .u8 0) := by
  unfold bytesV
  rw [List.map_replicate]
  rfl
theorem src_zeros {A : AW} {t : TypeId} {k : IntKind} (T : BT P tb ts tst) (ht : P.underlying t = some (.int k)) {k2 : IntKind} {n : Nat} (hn : n < room) : sourceZ P A tb t 1 (.int k2 (n : Int)) = some (n, bytesV (List.replicate n 0)) := by
  have hz : zerosT P tb 1 n = some (List.replicate n (.int .u8 0)) := by
    unfold zerosT
    rw [T.zt]
    cases n with
    | zero => rfl
    | succ c =>
      have : Nat.beq ((c + 1) * 1) 0 = false := beq_false.2 (by omega)
      simp only [this, cond_false]
      show (bif Nat.beq 1 1 then some (zerosA [.int .u8 0] (c + 1)) else none) = _
      rw [zerosA_one]; rfl
  show sourceZ P A tb t 1 (.int k2 (.ofNat n)) = _
  unfold sourceZ
  simp only [ht, blt_true.2 hn, cond_true, hz, bytesV_replicate]
/-- n bytes behind none: a new row, of room n at least, that is cut to nothing -/
theorem growNil {A : AW} {t : TypeId} {k : IntKind} {n : Nat} {K : Value → AW → Prop} (T : BT P tb ts tst) (ht : P.underlying t = some (.int k)) (hn : n < room) (h0 : 0 < n) (hf : Fine A) (hA : A.next < maxId)
    (hk : ∀ A', BufC tb A' (.slice (some ⟨A.next, 0, none⟩) 0 (capU + n)) [] n A.next → Keeps A A' [] → A'.next = A.next + 1 → Fine A' → rowIs A' (some ⟨A.next, 0, none⟩) tb = true → K (.slice (some ⟨A.next, 0, none⟩) n (capU + n)) A') :
    bothW (appendA P A ts t (.slice none 0 0) (.int .i64 (n : Int))) K := by
  obtain ⟨m, rfl⟩ : ∃ m, n = m + 1 := ⟨n - 1, by omega⟩
  have hroom : (Nat.blt (0 + (m + 1)) room && Nat.blt ((0 + (m + 1)) * 1) room && hasZero P tb 1) = true := by rw [Nat.mul_one, Nat.zero_add, blt_true.2 hn, T.hz]; rfl
  have e := appendA_nil (t := ts) (A := A) T.sl T.sz T.by_ (src_zeros (A := A) (k2 := .i64) T ht hn) hroom hA
  rw [Nat.zero_add] at e
  rw [e]
  have m1 : Made A (A.push (.row (bytesV (List.replicate (m + 1) 0)) tb A.next 0 false)) (bytesV (List.replicate (m + 1) 0)) tb := ⟨AW.push_ext _ hA, rfl, by rw [AW.push_get _ hA, if_pos rfl], hf.alone (Nat.le_refl _), hf.push _ hA⟩
  refine bothW_ok.2 (hk _ ⟨rfl, hn, bytesV (List.replicate (m + 1) 0), m1.row1, by rw [bytesV_length, List.length_replicate]; simp, bytesV_one _⟩ (m1.keeps hf) m1.next m1.fine ?_)
  unfold rowIs
  simp only [m1.row]
  exact beq_true.2 rfl
end
end Go.Abs


namespace Go.Abs

/-- a slice's type, its elements' type, and how an element's cells look -/
structure ET (P : Program) (ts te : TypeId) (n : Nat) {β : Type} (f : β → List Value) : Prop where
  us : P.underlying ts = some (.slice te)
  sz : szT P te = some (n + 1)
  ag : isAggT P te = some true
  by' : ∃ b, bytesT P te = some b ∧ b ≤ 256
  hz : hasZero P te (n + 1) = true
  len : ∀ x, (f x).length = n + 1
  one : ∀ x, (f x).all oneCell = true
  noT : ∀ x, (f x).all (fun v => !isTuple v) = true
section
variable {P : Program} {ts te : TypeId} {n : Nat} {β : Type} {f : β → List Value}

/-- v is a slice of these elements, in these families -/
def RdE (n : Nat) (f : β → List Value) (A : AW) (v : Value) (l : List β) (F : List Nat) : Prop :=
  (l = [] ∧ F = [] ∧ ∃ o c, v = .slice o 0 c) ∨ ∃ r o c cs e g b ro, v = .slice (some ⟨r, o, none⟩) l.length c ∧ A.get r = some (.row cs e g b ro) ∧ g < A.next ∧ F = [g] ∧ ∀ (i : Nat) p, l[i]? = some p → ∃ rest, cs.drop (o + i * (n + 1)) = f p ++ rest
theorem RdE.keeps {A A' : AW} {v : Value} {l : List β} {F S : List Nat} (h : RdE n f A v l F) (k : Keeps A A' S) (hd : ∀ x ∈ F, x ∉ S) : RdE n f A' v l F := by
  rcases h with h | ⟨r, o, c, cs, e, g, b, ro, h1, h2, h3, rfl, h4⟩
  · exact .inl h
  · exact .inr ⟨r, o, c, cs, e, g, b, ro, h1, k.get r _ h2 h3 (hd g (by simp)), Nat.lt_of_lt_of_le h3 k.next, rfl, h4⟩
theorem RdE.one {A : AW} {v : Value} {l : List β} {F : List Nat} (h : RdE n f A v l F) : oneCell v = true ∧ isTuple v = false := by
  rcases h with ⟨_, _, o, c, rfl⟩ | ⟨r, o, c, cs, e, g, b, ro, rfl, _⟩ <;> exact ⟨rfl, rfl⟩
theorem RdE.slice {A : AW} {v : Value} {l : List β} {F : List Nat} (h : RdE n f A v l F) : ∃ o c, v = .slice o l.length c := by
  rcases h with ⟨rfl, _, o, c, rfl⟩ | ⟨r, o, c, cs, e, g, b, ro, rfl, _⟩ <;> exact ⟨_, _, rfl⟩
theorem RdE.fam {A : AW} {v : Value} {l : List β} {F : List Nat} (h : RdE n f A v l F) : ∀ x ∈ F, x < A.next := by
  rcases h with ⟨_, rfl, _⟩ | ⟨r, o, c, cs, e, g, b, ro, _, _, h3, rfl, _⟩
  · simp
  · simpa using h3
theorem RdE.nil (A : AW) (o : Option Addr) (c : Nat) : RdE n f A (.slice o 0 c) [] [] := .inl ⟨rfl, rfl, o, c, rfl⟩
theorem RdE.len (T : ET P ts te n f) {A B : AW} {v : Value} {l : List β} {F : List Nat} (h : RdE n f A v l F) : lenA P B ts v = some (.int .i64 (l.length : Int)) := by
  obtain ⟨o, c, rfl⟩ := h.slice
  unfold lenA
  simp only [T.us]
theorem takeCells_app : ∀ (a rest : List Value), a.all (fun v => !isTuple v) = true → takeCells (a ++ rest) a.length = some a
  | [], rest, _ => by simp [takeCells]
  | v :: a, rest, h => by
    simp only [List.all_cons, Bool.and_eq_true, Bool.not_eq_true'] at h
    rw [List.cons_append, List.length_cons, takeCells_cons h.1, takeCells_app a rest h.2]
theorem ia_elem (T : ET P ts te n f) {b o len c i : Nat} (hi : i < len) : indexAddrA P ts (.slice (some ⟨b, o, none⟩) len c) (.int .i64 (i : Int)) = some (.pointer (some ⟨b, o + i * (n + 1), none⟩)) := by
  show indexAddrA P ts _ (.int .i64 (.ofNat i)) = _
  unfold indexAddrA
  simp only [T.us, blt_true.2 hi, cond_true, T.sz]
  unfold addA
  cases hb : Nat.beq (i * (n + 1)) 0 with
  | true => rw [cond_true, Nat.eq_of_beq_eq_true hb, Nat.add_zero]
  | false => rfl
theorem RdE.at (T : ET P ts te n f) {A : AW} {v : Value} {l : List β} {F : List Nat} (h : RdE n f A v l F) {i : Nat} {p : β} (hi : l[i]? = some p) :
    ∃ r o, indexAddrA P ts v (.int .i64 (i : Int)) = some (.pointer (some ⟨r, o, none⟩)) ∧ A.cells? ⟨r, o, none⟩ (n + 1) = some (f p) ∧ loadP P A te (.pointer (some ⟨r, o, none⟩)) = some (.agg ⟨f p⟩) := by
  rcases h with ⟨rfl, _⟩ | ⟨r, o, c, cs, e, g, b, ro, rfl, h2, h3, _, h4⟩
  · simp at hi
  · have hlt : i < l.length := (List.getElem?_eq_some_iff.1 hi).1
    obtain ⟨rest, hr⟩ := h4 i p hi
    have hc : A.cells? ⟨r, o + i * (n + 1), none⟩ (n + 1) = some (f p) := by
      rw [cells_row h2, hr]
      have := takeCells_app (f p) rest (T.noT p)
      rwa [T.len] at this
    refine ⟨r, o + i * (n + 1), ia_elem T hlt, hc, ?_⟩
    show loadVarA P A te _ = _
    unfold loadVarA
    simp only [T.ag, T.sz, hc]
/-- one cell of an element -/
theorem cell_of {A : AW} {r o m : Nat} {cs : List Value} (h : A.cells? ⟨r, o, none⟩ (m + 1) = some cs) {k : Nat} {v : Value} (hk : cs[k]? = some v) : A.cell? ⟨r, o + k, none⟩ = some v := by
  unfold AW.cells? at h
  simp only at h
  unfold AW.cell?
  simp only
  split at h
  · rename_i cs0 e g b ro hg
    have key : ∀ (m o k : Nat) (l cs : List Value), takeCells (l.drop o) m = some cs → cs[k]? = some v → cellOf l (o + k) = some v := by
      intro m
      induction m with
      | zero => intro o k l cs h hk; unfold takeCells at h; simp at h; subst h; simp at hk
      | succ m ih =>
        intro o k l cs h hk
        cases hl : l.drop o with
        | nil => rw [hl] at h; unfold takeCells at h; cases h
        | cons x r =>
          rw [hl] at h
          unfold takeCells at h
          cases hx : isTuple x with
          | true => rw [hx] at h; cases h
          | false =>
            rw [hx, cond_false] at h
            cases hr : takeCells r m with
            | none => rw [hr] at h; cases h
            | some q =>
              rw [hr] at h
              simp only [Option.some.injEq] at h
              subst h
              have hget : l[o]? = some x := by
                have : (l.drop o)[0]? = some x := by rw [hl]; rfl
                rw [List.getElem?_drop, Nat.add_zero] at this
                exact this
              have hr' : l.drop (o + 1) = r := by
                have := drop_of_get hget
                rw [hl] at this
                simpa using this.symm
              cases k with
              | zero =>
                obtain rfl : x = v := by simpa using hk
                exact cellOf_get hget hx
              | succ k =>
                have := ih (o + 1) k l q (by rw [hr']; exact hr) (by simpa using hk)
                rw [show o + (k + 1) = o + 1 + k by omega]
                exact this
    exact key (m + 1) o k cs0 cs h hk
  · cases h

/-- a list of elements of the call's own -/
def OwnE (te : TypeId) (n : Nat) (f : β → List Value) (A : AW) (v : Value) (l : List β) (F : List Nat) : Prop := OwnG A te (n + 1) v l.length (flat f l) F
theorem flat_apps (a b : List β) : flat f (a ++ b) = flat f a ++ flat f b := by simp [flat]
theorem OwnE.rd (hlen : ∀ x, (f x).length = n + 1) {A : AW} {v : Value} {l : List β} {F : List Nat} (h : OwnE te n f A v l F) : RdE n f A v l F := by
  rcases h with ⟨rfl, h2, _, rfl⟩ | ⟨b, g, rfl, h2, rfl⟩
  · have : l = [] := List.eq_nil_of_length_eq_zero h2
    subst this
    exact .nil _ _ _
  · exact .inr ⟨b, 0, _, _, _, g, 0, false, rfl, h2.row, h2.ltf, rfl, fun i p hi => by rw [Nat.zero_add]; exact flat_drop hlen l i p hi⟩
theorem OwnE.keeps {A A' : AW} {v : Value} {l : List β} {F S : List Nat} (h : OwnE te n f A v l F) (k : Keeps A A' S) (hd : ∀ x ∈ F, x ∉ S) : OwnE te n f A' v l F := OwnG.keeps h k hd
theorem OwnE.nil (A : AW) : OwnE te n f A (.slice none 0 0) [] [] := OwnG.nil _ _ _
theorem OwnE.lt {A : AW} {v : Value} {l : List β} {F : List Nat} (h : OwnE te n f A v l F) : ∀ x ∈ F, x < A.next := OwnG.lt h
theorem OwnE.one {A : AW} {v : Value} {l : List β} {F : List Nat} (h : OwnE te n f A v l F) : oneCell v = true ∧ isTuple v = false := OwnG.one h
theorem src_elem (T : ET P ts te n f) {A : AW} {q : Nat} {p : β} {e : TypeId} (hq : Row1 A q (f p) e) : sourceZ P A te ts (n + 1) (.slice (some ⟨q, 0, none⟩) 1 1) = some (0 + 1, f p) := by
  unfold sourceZ
  simp only [T.us]
  show sourceA A (n + 1) (.slice (some ⟨q, 0, none⟩) 1 1) = _
  unfold sourceA
  have := takeCells_app (f p) [] (T.noT p)
  rw [List.append_nil, T.len] at this
  simp only [Nat.one_mul, cells_row hq.row, List.drop_zero, this]
/-- an element behind others -/
theorem OwnE.append (T : ET P ts te n f) {A : AW} {v : Value} {l : List β} {F : List Nat} {p : β} {q : Nat} {e : TypeId} {K : Value → AW → Prop} (h : OwnE te n f A v l F) (hq : Row1 A q (f p) e) (hf : Fine A) (hA : A.next < maxId) (hl : l.length < 1000000)
    (hk : ∀ v' A' F', OwnE te n f A' v' (l ++ [p]) F' → Keeps A A' F → (∀ x ∈ F', x ∈ F ∨ x = A.next) → A'.next = A.next + 1 → Fine A' → K v' A') : bothW (appendA P A ts ts v (.slice (some ⟨q, 0, none⟩) 1 1)) K := by
  have hroom : room = 68719476736 := rfl
  obtain ⟨b, hb, hb2⟩ := T.by'
  have hse : sliceElemT P ts = some te := by unfold sliceElemT; rw [T.us]
  have hm : (l.length + (0 + 1)) * b ≤ (l.length + (0 + 1)) * 256 := Nat.mul_le_mul_left _ hb2
  refine appendG (m := 0) (size := n) hse T.sz hb T.hz (src_elem T hq) (by rw [T.len]; omega) (T.one p) h hf hA (by omega) (by omega) fun v' A' F' h1 h2 h3 h4 h5 => ?_
  refine hk v' A' F' ?_ h2 h3 h4 h5
  show OwnG A' te (n + 1) v' (l ++ [p]).length (flat f (l ++ [p])) F'
  rw [List.length_append, flat_apps]
  have e : flat f [p] = f p := by simp [flat]
  rw [e]
  exact h1
/-- a slice that came in, as it stands in the abstract heap -/
theorem rdE_arg (hlen : ∀ x, (f x).length = n + 1) {N : Nat} {gl : List (Nat × List Value × TypeId)} {L : List Arg} {j c : Nat} {l : List β} {p : Nat × Nat} {e : TypeId} (hk : N + L.length + 1 ≤ maxId) (h : L[j]? = some (p, some (flat f l, e))) :
    RdE n f (wR N gl L) (.slice (some ⟨N + j, 0, none⟩) l.length c) l [N + L.length] :=
  .inr ⟨N + j, 0, c, flat f l, e, N + L.length, 0, true, rfl, wR_arg (by omega) h, by show N + L.length < N + L.length + 1; omega, rfl, fun i q hi => by rw [Nat.zero_add]; exact flat_drop hlen l i q hi⟩
end
end Go.Abs


namespace Go.Abs

/-- an entry: its key, its value, when it was made -/
structure En (α β : Type) where
  k : α
  v : β
  b : Nat
section
variable {α β : Type} (ke : α → Value) (ve : β → Value)
def En.entry (e : En α β) : MapEntry := { key := ke e.k, val := ve e.v, born := e.b }
/-- a map's type: its keys are compared as these are, its values are these -/
structure MT (P : Program) (t kt et : TypeId) (ke : α → Value) (keq : α → α → Bool) : Prop where
  ty : P.underlying t = some (.map kt et)
  eq : ∀ a b, eqA P kt (ke a) (ke b) = some (keq a b)
  dec : ∀ {a b}, keq a b = true ↔ a = b
  q : ∀ e a, keyQ P e kt (ke a) = true
  same : ∀ a, (closedV 4 (ke a) && Instr.sameBits 10000 (ke a) (ke a)) = true
/-- r is a map of the call's own that has these entries -/
structure OwnM (A : AW) (r : Nat) (es : List (En α β)) (c : Nat) : Prop where
  row : Map1 A r (es.map (En.entry ke ve)) c
  lt : ∀ e ∈ es, e.b < c
  nb : (es.map En.b).Nodup
  nk : (es.map En.k).Nodup
end
section
variable {P : Program} {X : XNames} {W0 : World} {m0 : Inj P} {α β : Type} {ke : α → Value} {ve : β → Value} {keq : α → α → Bool} {t kt et : TypeId}
theorem OwnM.keeps {A A' : AW} {r : Nat} {es : List (En α β)} {c : Nat} {S : List Nat} (h : OwnM ke ve A r es c) (k : Keeps A A' S) (hn : r ∉ S) : OwnM ke ve A' r es c := ⟨h.row.keeps k hn, h.lt, h.nb, h.nk⟩
theorem OwnM.ltA {A : AW} {r : Nat} {es : List (En α β)} {c : Nat} (h : OwnM ke ve A r es c) : r < A.next := h.row.lt
/-- a new map -/
theorem newM {A : AW} {K : Value → AW → Prop} (hf : Fine A) (h : A.next < maxId) (hk : ∀ A', OwnM (α := α) (β := β) ke ve A' A.next [] 0 → Keeps A A' [] → A'.next = A.next + 1 → Fine A' → K (.map (some A.next)) A') : bothW (newMapP A) K :=
  newMap hf h fun A' h1 h2 h3 h4 => hk A' ⟨h1, by simp, by simp, by simp⟩ h2 h3 h4

/-- what a key has -/
def lookE (keq : α → α → Bool) : List (En α β) → α → Option β
  | [], _ => none
  | e :: es, k => if keq k e.k = true then some e.v else lookE keq es k
/-- where a key stands -/
def atE (keq : α → α → Bool) : List (En α β) → α → Nat → Option Nat
  | [], _, _ => none
  | e :: es, k, i => if keq k e.k = true then some i else atE keq es k (i + 1)
theorem find_eq (T : MT P t kt et ke keq) (k : α) : ∀ (es : List (En α β)) (i : Nat), findA P kt (ke k) (es.map (En.entry ke ve)) i = some (atE keq es k i)
  | [], i => rfl
  | e :: es, i => by
    show (match eqA P kt (ke k) (ke e.k) with | some true => some (some i) | some false => findA P kt (ke k) (es.map (En.entry ke ve)) (i + 1) | none => none) = _
    rw [T.eq]
    unfold atE
    cases h : keq k e.k with
    | true => simp
    | false =>
      simp only [Bool.false_eq_true, if_false]
      exact find_eq T k es (i + 1)
theorem at_some {es : List (En α β)} {k : α} {i j : Nat} (h : atE keq es k i = some j) : i ≤ j ∧ j - i < es.length ∧ ∃ e, es[j - i]? = some e ∧ keq k e.k = true ∧ lookE keq es k = some e.v := by
  induction es generalizing i with
  | nil => cases h
  | cons e es ih =>
    unfold atE at h
    unfold lookE
    split at h
    · rename_i hk
      cases h
      rw [if_pos hk, Nat.sub_self]
      exact ⟨Nat.le_refl _, by simp, e, rfl, hk, rfl⟩
    · rename_i hk
      obtain ⟨h1, h2, e', h3, h4, h5⟩ := ih h
      refine ⟨by omega, by simp; omega, e', ?_, h4, ?_⟩
      · rw [show j - i = (j - (i + 1)) + 1 by omega]
        exact h3
      · rw [if_neg hk]
        exact h5
theorem at_none {es : List (En α β)} {k : α} {i : Nat} (h : atE keq es k i = none) : (∀ e ∈ es, keq k e.k = false) ∧ lookE keq es k = none := by
  induction es generalizing i with
  | nil => exact ⟨by simp, rfl⟩
  | cons e es ih =>
    unfold atE at h
    unfold lookE
    split at h
    · cases h
    · rename_i hk
      obtain ⟨h1, h2⟩ := ih h
      refine ⟨fun x hx => ?_, by rw [if_neg hk]; exact h2⟩
      rcases List.mem_cons.1 hx with rfl | hx
      · simpa using hk
      · exact h1 x hx
theorem mapTypes_eq (T : MT P t kt et ke keq) : mapTypes P t = some (kt, et) := by unfold mapTypes; rw [T.ty]
/-- a key looked up, with its word -/
theorem OwnM.look (T : MT P t kt et ke keq) {A : AW} {r : Nat} {es : List (En α β)} {c : Nat} (h : OwnM ke ve A r es c) {z : Value} (hz : zeroT P et = some z) (k : α) (ok : Bool) :
    lookupA P A t (.map (some r)) (ke k) ok = some (match lookE keq es k with | some v => (bif ok then .tuple #[ve v, .bool true] else ve v) | none => (bif ok then .tuple #[z, .bool false] else z)) := by
  unfold lookupA mapRef
  simp only [mapTypes_eq T, h.row.row, T.q, cond_true, find_eq T]
  cases ha : atE keq es k 0 with
  | none =>
    rw [(at_none ha).2]
    simp only [hz]
  | some i =>
    obtain ⟨_, _, e, h3, _, h5⟩ := at_some ha
    rw [Nat.sub_zero] at h3
    rw [h5]
    simp only [List.getElem?_map, h3, Option.map_some]
    rfl
theorem lookE_iff (hd : ∀ {a b}, keq a b = true ↔ a = b) {es : List (En α β)} (hn : (es.map En.k).Nodup) {k : α} {v : β} : lookE keq es k = some v ↔ ∃ e ∈ es, e.k = k ∧ e.v = v := by
  induction es with
  | nil => simp [lookE]
  | cons e es ih =>
    simp only [List.map_cons, List.nodup_cons] at hn
    unfold lookE
    split
    · rename_i hk
      have hk := hd.1 hk
      constructor
      · intro h
        cases h
        exact ⟨e, List.mem_cons_self, hk.symm, rfl⟩
      · rintro ⟨x, hx, h1, h2⟩
        rcases List.mem_cons.1 hx with rfl | hx
        · rw [h2]
        · exact absurd (List.mem_map.2 ⟨x, hx, by rw [h1, hk]⟩) hn.1
    · rename_i hk
      rw [ih hn.2]
      constructor
      · rintro ⟨x, hx, h⟩
        exact ⟨x, List.mem_cons_of_mem _ hx, h⟩
      · rintro ⟨x, hx, h1, h2⟩
        rcases List.mem_cons.1 hx with rfl | hx
        · exact absurd (hd.2 h1.symm) hk
        · exact ⟨x, hx, h1, h2⟩
/-- a value put for a key -/
def putE (keq : α → α → Bool) : List (En α β) → α → β → Nat → List (En α β)
  | [], k, v, c => [⟨k, v, c⟩]
  | e :: es, k, v, c => if keq k e.k = true then ⟨k, v, e.b⟩ :: es else e :: putE keq es k v c
theorem lookE_put (hd : ∀ {a b}, keq a b = true ↔ a = b) (es : List (En α β)) (k k' : α) (v : β) (c : Nat) : lookE keq (putE keq es k v c) k' = if keq k' k = true then some v else lookE keq es k' := by
  induction es with
  | nil => rfl
  | cons e es ih =>
    unfold putE
    split
    · rename_i hk
      have hk := hd.1 hk
      unfold lookE
      rw [hk]
      split <;> rfl
    · rename_i hk
      unfold lookE
      rw [ih]
      split
      · rename_i h1
        split
        · rename_i h2
          exact absurd (hd.2 ((hd.1 h2).symm.trans (hd.1 h1))) hk
        · rfl
      · rfl
theorem set_put (k : α) (v : β) (c : Nat) : ∀ (es : List (En α β)) (i j : Nat), (∀ {a b}, keq a b = true ↔ a = b) → atE keq es k i = some j → setVal (es.map (En.entry ke ve)) (j - i) (ke k) (ve v) = (putE keq es k v c).map (En.entry ke ve)
  | [], i, j, _, h => by cases h
  | e :: es, i, j, hd, h => by
    unfold atE at h
    unfold putE
    split at h
    · rename_i hk
      cases h
      rw [if_pos hk, Nat.sub_self]
      rfl
    · rename_i hk
      have := (at_some h).1
      rw [if_neg hk, show j - i = (j - (i + 1)) + 1 by omega]
      show e.entry ke ve :: setVal (es.map (En.entry ke ve)) (j - (i + 1)) (ke k) (ve v) = _
      rw [set_put k v c es (i + 1) j hd h]
      rfl
theorem put_none {es : List (En α β)} {k : α} (hn : ∀ e ∈ es, keq k e.k = false) (v : β) (c : Nat) : putE keq es k v c = es ++ [(⟨k, v, c⟩ : En α β)] := by
  induction es with
  | nil => rfl
  | cons e es ih =>
    unfold putE
    rw [if_neg (by rw [hn e List.mem_cons_self]; simp), ih fun x hx => hn x (List.mem_cons_of_mem _ hx)]
    rfl
theorem put_keys (k : α) (v : β) (c : Nat) : ∀ (es : List (En α β)), (∀ {a b}, keq a b = true ↔ a = b) → (∃ e ∈ es, keq k e.k = true) → (putE keq es k v c).map En.k = es.map En.k ∧ (putE keq es k v c).map En.b = es.map En.b
  | [], _, h => by obtain ⟨e, he, _⟩ := h; cases he
  | e :: es, hd, h => by
    unfold putE
    split
    · rename_i hk
      rw [List.map_cons, List.map_cons, List.map_cons, List.map_cons, ← hd.1 hk]
      exact ⟨rfl, rfl⟩
    · rename_i hk
      obtain ⟨x, hx, h2⟩ := h
      rcases List.mem_cons.1 hx with rfl | hx
      · exact absurd h2 hk
      · obtain ⟨h3, h4⟩ := put_keys k v c es hd ⟨x, hx, h2⟩
        rw [List.map_cons, List.map_cons, List.map_cons, List.map_cons, h3, h4]
        exact ⟨rfl, rfl⟩
theorem OwnM.put (T : MT P t kt et ke keq) {A : AW} {r : Nat} {es : List (En α β)} {c : Nat} (h : OwnM ke ve A r es c) (hf : Fine A) (hb : A.next ≤ maxId) {k : α} {v : β} {K : AW → Prop}
    (hk : ∀ A' c', OwnM ke ve A' r (putE keq es k v c) c' → Keeps A A' [r] → A'.next = A.next → Fine A' → K A') : effW (mapUpdateA P A t (.map (some r)) (ke k) (ve v)) K := by
  unfold mapUpdateA
  simp only [mapTypes_eq T, h.row.row, T.q, cond_true, find_eq T]
  cases ha : atE keq es k 0 with
  | none =>
    obtain ⟨h1, h2⟩ := at_none ha
    obtain ⟨g1, g2, g3, g4⟩ := h.row.put (es' := es.map (En.entry ke ve) ++ [{ key := ke k, val := ve v, born := c }]) (c' := c + 1) hf hb
    simp only
    refine effW_some.2 (hk _ (c + 1) ⟨?_, ?_, ?_, ?_⟩ g2 g3 g4)
    · rw [put_none h1, List.map_append]
      exact g1
    · rw [put_none h1]
      intro e he
      rcases List.mem_append.1 he with he | he
      · have := h.lt e he; omega
      · rw [List.mem_singleton.1 he]
        exact Nat.lt_succ_self c
    · rw [put_none h1, List.map_append, List.nodup_append]
      refine ⟨h.nb, by simp, fun a ha b hb => ?_⟩
      obtain ⟨e, he, rfl⟩ := List.mem_map.1 ha
      have := h.lt e he
      simp at hb
      omega
    · rw [put_none h1, List.map_append, List.nodup_append]
      refine ⟨h.nk, by simp, fun a ha b hb => ?_⟩
      obtain ⟨e, he, rfl⟩ := List.mem_map.1 ha
      have := h1 e he
      simp at hb
      subst hb
      intro h0
      rw [T.dec.2 h0.symm] at this
      cases this
  | some i =>
    obtain ⟨_, _, e, h3, h4, _⟩ := at_some ha
    rw [Nat.sub_zero] at h3
    have hke : k = e.k := T.dec.1 h4
    simp only [List.getElem?_map, h3, Option.map_some]
    have hs : (closedV 4 (e.entry ke ve).key && Instr.sameBits 10000 (e.entry ke ve).key (ke k)) = true := by
      show (closedV 4 (ke e.k) && Instr.sameBits 10000 (ke e.k) (ke k)) = true
      rw [hke]
      exact T.same _
    rw [hs, cond_true]
    have hset := set_put (ke := ke) (ve := ve) k v c es 0 i T.dec ha
    rw [Nat.sub_zero] at hset
    rw [hset]
    obtain ⟨g1, g2, g3, g4⟩ := h.row.put (es' := (putE keq es k v c).map (En.entry ke ve)) (c' := c) hf hb
    obtain ⟨p1, p2⟩ := put_keys k v c es T.dec ⟨e, List.mem_of_getElem? h3, h4⟩
    refine effW_some.2 (hk _ c ⟨g1, fun x hx => ?_, by rw [p2]; exact h.nb, by rw [p1]; exact h.nk⟩ g2 g3 g4)
    have : x.b ∈ (putE keq es k v c).map En.b := List.mem_map.2 ⟨x, hx, rfl⟩
    rw [p2] at this
    obtain ⟨y, hy, hyb⟩ := List.mem_map.1 this
    have := h.lt y hy
    omega

/-! a map gone through -/
/-- it goes through the map m, and has told vs -/
structure Iter (A : AW) (it m c : Nat) (vs : List (En α β)) : Prop where
  get : A.get it = some (.mit (some m) c (vs.map En.b) c)
  lt : it < A.next
theorem Iter.keeps {A A' : AW} {it m c : Nat} {vs : List (En α β)} {S : List Nat} (h : Iter A it m c vs) (k : Keeps A A' S) (hn : it ∉ S) : Iter A' it m c vs := ⟨k.get it _ h.get h.lt hn, Nat.lt_of_lt_of_le h.lt k.next⟩
theorem OwnM.range (T : MT P t kt et ke keq) {A : AW} {r : Nat} {es : List (En α β)} {c : Nat} (h : OwnM ke ve A r es c) (hf : Fine A) (hA : A.next < maxId) {K : Value → AW → Prop}
    (hk : ∀ A', Iter (α := α) (β := β) A' A.next r c [] → Keeps A A' [] → A'.next = A.next + 1 → Fine A' → K (.pointer (some ⟨A.next, 0, none⟩)) A') : anW P X W0 m0 (rangeP P A t (.map (some r))) K := by
  unfold rangeP AW.new
  simp only [T.ty, h.row.row, blt_true.2 hA, cond_true]
  exact .inl ⟨_, _, rfl, hk (A.push (.mit (some r) c [] c)) ⟨by rw [AW.push_get _ hA, if_pos rfl]; rfl, by rw [AW.push_next]; omega⟩ ((AW.push_ext _ hA).keeps hf) rfl (hf.push _ hA)⟩
theorem put_iter {A : AW} {it m c : Nat} {vs : List (En α β)} (h : Iter A it m c vs) (hf : Fine A) (hA : A.next ≤ maxId) (e : En α β) : Iter (A.put it (.mit (some m) c (vs.map En.b ++ [e.b]) c)) it m c (vs ++ [e]) ∧ Keeps A (A.put it (.mit (some m) c (vs.map En.b ++ [e.b]) c)) [it] ∧
    (A.put it (.mit (some m) c (vs.map En.b ++ [e.b]) c)).next = A.next ∧ Fine (A.put it (.mit (some m) c (vs.map En.b ++ [e.b]) c)) := by
  have hlt := h.lt
  have hg : ∀ i, (A.put it (.mit (some m) c (vs.map En.b ++ [e.b]) c)).get i = if i = it then some (.mit (some m) c (vs.map En.b ++ [e.b]) c) else A.get i := fun i => AW.get_put A it i _ (by omega)
  refine ⟨⟨by rw [hg, if_pos rfl, List.map_append]; rfl, hlt⟩, ⟨Nat.le_refl _, fun i o hi _ hn => ?_, fun f _ _ => rfl⟩, rfl, ⟨hf.fams, fun i hi => ?_⟩⟩
  · rw [hg, if_neg (fun e => ?_)]
    · exact hi
    · subst e
      rw [h.get] at hi
      cases hi
      exact hn (List.mem_singleton.2 rfl)
  · have hi : A.next ≤ i := hi
    rw [hg, if_neg (by omega)]
    exact hf.get i hi
theorem inj_b {es : List (En α β)} (hn : (es.map En.b).Nodup) : ∀ {x y : En α β}, x ∈ es → y ∈ es → x.b = y.b → x = y := by
  induction es with
  | nil => intro x y hx; cases hx
  | cons e es ih =>
    simp only [List.map_cons, List.nodup_cons] at hn
    intro x y hx hy hxy
    rcases List.mem_cons.1 hx with hx | hx
    · rcases List.mem_cons.1 hy with hy | hy
      · rw [hx, hy]
      · exact absurd (List.mem_map.2 ⟨y, hy, by rw [← hxy, hx]⟩) hn.1
    · rcases List.mem_cons.1 hy with hy | hy
      · exact absurd (List.mem_map.2 ⟨x, hx, by rw [hxy, hy]⟩) hn.1
      · exact ih hn.2 hx hy hxy
theorem nodup_of {γ δ : Type} (f : γ → δ) : ∀ {l : List γ}, (l.map f).Nodup → l.Nodup
  | [], _ => List.nodup_nil
  | x :: l, h => by
    simp only [List.map_cons, List.nodup_cons] at h
    exact List.nodup_cons.2 ⟨fun hx => h.1 (List.mem_map.2 ⟨x, hx, rfl⟩), nodup_of f h.2⟩
/-- the next entry: any that was not told; or none, where all were -/
theorem OwnM.next {A : AW} {r it : Nat} {es vs : List (En α β)} {c : Nat} (h : OwnM ke ve A r es c) (hi : Iter A it r c vs) (hv : ∀ e ∈ vs, e ∈ es) (hf : Fine A) (hA : A.next ≤ maxId) {K : Value → AW → Prop}
    (hmore : ∀ e A', e ∈ es → e ∉ vs → Iter A' it r c (vs ++ [e]) → Keeps A A' [it] → A'.next = A.next → Fine A' → K (.tuple #[.bool true, ke e.k, ve e.v]) A') (hdone : (∀ e ∈ es, e ∈ vs) → K (.tuple #[.bool false]) A) :
    anW P X W0 m0 (nextA A (.pointer (some ⟨it, 0, none⟩)) false) K := by
  refine .inr (.inr (.inr ⟨it, A, by unfold nextA; simp only [hi.get], r, c, vs.map En.b, c, es.map (En.entry ke ve), c, false, hi.get, h.row.row, ?_, fun cd hcd => ?_⟩))
  · cases hes : es with
    | nil => simp
    | cons e es' =>
      have : e.b < c := h.lt e (by rw [hes]; simp)
      have hb : Nat.ble c e.b = false := ble_false.2 this
      simp [En.entry, hb]
  · have inj : ∀ {x y : En α β}, x ∈ es → y ∈ es → x.b = y.b → x = y := inj_b h.nb
    have seen : ∀ e ∈ es, (vs.map En.b).contains e.b = true ↔ e ∈ vs := by
      intro e he
      rw [List.contains_iff_mem, List.mem_map]
      constructor
      · rintro ⟨x, hx, hxe⟩
        rw [← inj (hv x hx) he hxe]
        exact hx
      · intro hv'
        exact ⟨e, hv', rfl⟩
    unfold candsOf at hcd
    rcases List.mem_append.1 hcd with hcd | hcd
    · split at hcd
      · rename_i hem
        obtain rfl : cd = none := by simpa using hcd
        refine hdone fun e he => ?_
        by_cases hin : e ∈ vs
        · exact hin
        · exfalso
          have hc : (vs.map En.b).contains e.b = false := by
            cases hcc : (vs.map En.b).contains e.b with
            | false => rfl
            | true => exact absurd ((seen e he).1 hcc) hin
          have : e.entry ke ve ∈ (((es.map (En.entry ke ve)).filter fun e => !(vs.map En.b).contains e.born).filter fun e => Nat.blt e.born c) := by
            rw [List.mem_filter, List.mem_filter]
            refine ⟨⟨List.mem_map.2 ⟨e, he, rfl⟩, ?_⟩, blt_true.2 (h.lt e he)⟩
            show (!(vs.map En.b).contains e.b) = true
            rw [hc]; rfl
          rw [List.isEmpty_iff.1 hem] at this
          cases this
      · cases hcd
    · obtain ⟨me, hme, rfl⟩ := List.mem_map.1 hcd
      have hme2 : me ∈ (es.map (En.entry ke ve)).filter fun e => !(vs.map En.b).contains e.born := by
        rcases List.mem_append.1 hme with hme | hme
        · exact (List.mem_filter.1 hme).1
        · exact (List.mem_filter.1 hme).1
      obtain ⟨hm1, hm2⟩ := List.mem_filter.1 hme2
      obtain ⟨e, he, rfl⟩ := List.mem_map.1 hm1
      have hm2 : (!(vs.map En.b).contains e.b) = true := hm2
      have hnv : e ∉ vs := fun hin => by rw [(seen e he).2 hin] at hm2; cases hm2
      obtain ⟨g1, g2, g3, g4⟩ := put_iter hi hf hA e
      exact hmore e _ he hnv g1 g2 g3 g4
theorem lastOf_snoc (l : List Nat) (x : Nat) : lastOf (l ++ [x]) = some x := by
  induction l with
  | nil => rfl
  | cons a l ih =>
    cases l with
    | nil => rfl
    | cons b l => exact ih
/-- the entry that was told last -/
theorem OwnM.entry {A : AW} {r it : Nat} {es vs : List (En α β)} {c : Nat} (h : OwnM ke ve A r es c) {e : En α β} (hi : Iter A it r c (vs ++ [e])) (he : e ∈ es) {K : Value → AW → Prop} (hk : K (.tuple #[ke e.k, ve e.v]) A) :
    anW P X W0 m0 (entryP A (.pointer (some ⟨it, 0, none⟩))) K := by
  have hfind : ∀ (l : List (En α β)) (i : Nat), e ∈ l → (l.map En.b).Nodup → ∃ j, findBorn e.b (l.map (En.entry ke ve)) i = some (i + j) ∧ l[j]? = some e := by
    intro l
    induction l with
    | nil => intro i h; cases h
    | cons x l ih =>
      intro i hx hn
      simp only [List.map_cons, List.nodup_cons] at hn
      by_cases hxb : x.b = e.b
      · rcases List.mem_cons.1 hx with rfl | hx
        · refine ⟨0, ?_, rfl⟩
          show (bif Nat.beq e.b e.b then some i else _) = _
          rw [Nat.beq_refl]
          rfl
        · exact absurd (List.mem_map.2 ⟨e, hx, hxb.symm⟩) hn.1
      · rcases List.mem_cons.1 hx with rfl | hx
        · exact absurd rfl hxb
        · obtain ⟨j, h1, h2⟩ := ih (i + 1) hx hn.2
          refine ⟨j + 1, ?_, h2⟩
          show (bif Nat.beq x.b e.b then some i else findBorn e.b (l.map (En.entry ke ve)) (i + 1)) = _
          have : Nat.beq x.b e.b = false := by
            cases hb : Nat.beq x.b e.b with
            | false => rfl
            | true => exact absurd (Nat.eq_of_beq_eq_true hb) hxb
          rw [this, cond_false, h1, show i + 1 + j = i + (j + 1) by omega]
  obtain ⟨j, h1, h2⟩ := hfind es 0 he h.nb
  rw [Nat.zero_add] at h1
  have hl : lastOf ((vs ++ [e]).map En.b) = some e.b := by rw [List.map_append]; exact lastOf_snoc _ _
  have e1 : entryA A (.pointer (some ⟨it, 0, none⟩)) = some (.tuple #[ke e.k, ve e.v]) := by
    unfold entryA
    simp only [hi.get, hl, h.row.row, Nat.beq_refl, cond_true, h1, List.getElem?_map, h2, Option.map_some]
    rfl
  unfold entryP
  rw [e1]
  exact .inl ⟨_, _, rfl, hk⟩
/-- told all: in some order -/
theorem told_all {es vs : List (En α β)} (hn : (es.map En.b).Nodup) (hvn : (vs.map En.b).Nodup) (h1 : ∀ e ∈ vs, e ∈ es) (h2 : ∀ e ∈ es, e ∈ vs) : vs.Perm es := by
  have n1 : es.Nodup := nodup_of _ hn
  have n2 : vs.Nodup := nodup_of _ hvn
  exact (List.perm_ext_iff_of_nodup n2 n1).2 fun e => ⟨h1 e, h2 e⟩
end
end Go.Abs


namespace Go.Abs
section
variable {P : Program} {X : XNames} {W0 : World} {m0 : Inj P} {α β : Type} {ke : α → Value} {ve : β → Value} {keq : α → α → Bool} {t kt et : TypeId}
theorem OwnM.range2 (hty : P.underlying t = some (.map kt et)) {A : AW} {r : Nat} {es : List (En α β)} {c : Nat} (h : OwnM ke ve A r es c) (hf : Fine A) (hA : A.next < maxId) {K : Value → AW → Prop}
    (hk : ∀ A', A' = A.push (.mit (some r) c [] c) → Iter (α := α) (β := β) A' A.next r c [] → Keeps A A' [] → A'.next = A.next + 1 → Fine A' → K (.pointer (some ⟨A.next, 0, none⟩)) A') : anW P X W0 m0 (rangeP P A t (.map (some r))) K := by
  unfold rangeP AW.new
  simp only [hty, h.row.row, blt_true.2 hA, cond_true]
  exact .inl ⟨_, _, rfl, hk (A.push (.mit (some r) c [] c)) rfl ⟨by rw [AW.push_get _ hA, if_pos rfl]; rfl, by rw [AW.push_next]; omega⟩ ((AW.push_ext _ hA).keeps hf) rfl (hf.push _ hA)⟩
/-- the next entry: any that was not told; or none, where all were -/
theorem OwnM.next2 {A : AW} {r it : Nat} {es vs : List (En α β)} {c : Nat} (h : OwnM ke ve A r es c) (hi : Iter A it r c vs) (hv : ∀ e ∈ vs, e ∈ es) (hf : Fine A) (hA : A.next ≤ maxId) {K : Value → AW → Prop}
    (hmore : ∀ e A', e ∈ es → e ∉ vs → A' = A.put it (.mit (some r) c (vs.map En.b ++ [e.b]) c) → Iter A' it r c (vs ++ [e]) → Keeps A A' [it] → A'.next = A.next → Fine A' → K (.tuple #[.bool true, ke e.k, ve e.v]) A') (hdone : (∀ e ∈ es, e ∈ vs) → K (.tuple #[.bool false]) A) :
    anW P X W0 m0 (nextA A (.pointer (some ⟨it, 0, none⟩)) false) K := by
  refine .inr (.inr (.inr ⟨it, A, by unfold nextA; simp only [hi.get], r, c, vs.map En.b, c, es.map (En.entry ke ve), c, false, hi.get, h.row.row, ?_, fun cd hcd => ?_⟩))
  · cases hes : es with
    | nil => simp
    | cons e es' =>
      have : e.b < c := h.lt e (by rw [hes]; simp)
      have hb : Nat.ble c e.b = false := ble_false.2 this
      simp [En.entry, hb]
  · have inj : ∀ {x y : En α β}, x ∈ es → y ∈ es → x.b = y.b → x = y := inj_b h.nb
    have seen : ∀ e ∈ es, (vs.map En.b).contains e.b = true ↔ e ∈ vs := by
      intro e he
      rw [List.contains_iff_mem, List.mem_map]
      constructor
      · rintro ⟨x, hx, hxe⟩
        rw [← inj (hv x hx) he hxe]
        exact hx
      · intro hv'
        exact ⟨e, hv', rfl⟩
    unfold candsOf at hcd
    rcases List.mem_append.1 hcd with hcd | hcd
    · split at hcd
      · rename_i hem
        obtain rfl : cd = none := by simpa using hcd
        refine hdone fun e he => ?_
        by_cases hin : e ∈ vs
        · exact hin
        · exfalso
          have hc : (vs.map En.b).contains e.b = false := by
            cases hcc : (vs.map En.b).contains e.b with
            | false => rfl
            | true => exact absurd ((seen e he).1 hcc) hin
          have : e.entry ke ve ∈ (((es.map (En.entry ke ve)).filter fun e => !(vs.map En.b).contains e.born).filter fun e => Nat.blt e.born c) := by
            rw [List.mem_filter, List.mem_filter]
            refine ⟨⟨List.mem_map.2 ⟨e, he, rfl⟩, ?_⟩, blt_true.2 (h.lt e he)⟩
            show (!(vs.map En.b).contains e.b) = true
            rw [hc]; rfl
          rw [List.isEmpty_iff.1 hem] at this
          cases this
      · cases hcd
    · obtain ⟨me, hme, rfl⟩ := List.mem_map.1 hcd
      have hme2 : me ∈ (es.map (En.entry ke ve)).filter fun e => !(vs.map En.b).contains e.born := by
        rcases List.mem_append.1 hme with hme | hme
        · exact (List.mem_filter.1 hme).1
        · exact (List.mem_filter.1 hme).1
      obtain ⟨hm1, hm2⟩ := List.mem_filter.1 hme2
      obtain ⟨e, he, rfl⟩ := List.mem_map.1 hm1
      have hm2 : (!(vs.map En.b).contains e.b) = true := hm2
      have hnv : e ∉ vs := fun hin => by rw [(seen e he).2 hin] at hm2; cases hm2
      obtain ⟨g1, g2, g3, g4⟩ := put_iter hi hf hA e
      exact hmore e _ he hnv rfl g1 g2 g3 g4
end
end Go.Abs


namespace Go.Abs
open Go.ChangeShapes Go.WideShapes Go.ChangeAt Go.RowKit
def okB (n : Nat) (l : List (Nat × List Value × TypeId)) : Bool := Nat.ble n maxId && l.all fun x => Nat.blt x.1 n
/-- the variables hold what is related to these values -/
def HoldsR (P : Program) (W : World) (L : List Arg) (l : List (Nat × List Value × TypeId)) : Prop := ∀ x ∈ l, ∃ (cs' : Array Value) (fr : Nat × Nat), W.heap[x.1]? = some (.cells cs' x.2.2 fr) ∧ ∀ (i : Nat) v, x.2.1[i]? = some v → ∃ v', cs'[i]? = some v' ∧ VRel (mR P L) v v'
section
variable {P : Program} {W : World} {gl : List (Nat × List Value × TypeId)} {L : List Arg}
theorem wR_get2 {n : Nat} (hok : okB n gl = true) (hk : n + L.length ≤ maxId) {i : Nat} {o : AO} (h : (wR n gl L).get i = some o) :
    (∃ x ∈ gl, x.1 = i ∧ i < n ∧ o = .row x.2.1 x.2.2 i 0 true) ∨ ∃ j p cs e, i = n + j ∧ L[j]? = some (p, some (cs, e)) ∧ o = .row cs e (n + L.length) 0 true := by
  have h : (argT (n + L.length) n L (rowsT gl)).get? i = some o := h
  rw [argT_get _ L n _ _ hk] at h
  unfold okB at hok
  simp only [Bool.and_eq_true, List.all_eq_true] at hok
  obtain ⟨hn, hl⟩ := hok
  have hn := ble_true.1 hn
  have glob : (rowsT gl).get? i = some o → ∃ x ∈ gl, x.1 = i ∧ i < n ∧ o = .row x.2.1 x.2.2 i 0 true := by
    intro h
    obtain ⟨x, hx, rfl, rfl⟩ := rowsT_get gl (fun x hx => Nat.lt_of_lt_of_le (blt_true.1 (hl x hx)) hn) i o h
    exact ⟨x, hx, rfl, blt_true.1 (hl x hx), rfl⟩
  split at h
  · exact .inl (glob h)
  · split at h
    · rename_i hi p cs e hq
      cases h
      exact .inr ⟨i - n, p, cs, e, by omega, hq, rfl⟩
    · exact .inl (glob h)

theorem wR_fine2 {n : Nat} (hok : okB n gl = true) (hk : n + L.length + 1 ≤ maxId) : Fine (wR n gl L) := by
  refine ⟨fun i hi => ?_, fun i hi => ?_⟩
  · have hi : n + L.length + 1 ≤ i := hi
    show ((Trie.nil : Trie (List Nat)).put depth (n + L.length) _).get? i = none
    rw [Trie.get?_put depth _ _ i _ (by unfold depth maxId at *; omega), if_neg (by omega)]
    rfl
  · have hi : n + L.length + 1 ≤ i := hi
    cases hq : (wR n gl L).get i with
    | none => rfl
    | some o =>
      rcases wR_get2 hok (by omega) hq with ⟨x, _, _, h, _⟩ | ⟨j, p, cs, e, rfl, h, _⟩
      · omega
      · have := (List.getElem?_eq_some_iff.1 h).1
        omega

theorem relR2 (hok : okB P.globals.size gl = true) (hk : P.globals.size + L.length + 1 ≤ maxId) (hW : HoldsR P W L gl) (hA : Args P W L) : Rel (mR P L) (wR P.globals.size gl L) W := by
  have hget := fun {i : Nat} {o : AO} (h : (wR P.globals.size gl L).get i = some o) => wR_get2 hok (by omega) h
  have hlen : (L.map (·.1)).length = L.length := List.length_map _
  have harg : ∀ {j : Nat} {p : Nat × Nat} {q : Option (List Value × TypeId)}, L[j]? = some (p, q) → mR P L (P.globals.size + j) = some p := by
    intro j p q h
    show mA P _ _ = _
    rw [mA_arg, List.getElem?_map, h]
    rfl
  refine ⟨?_, ?_, ?_, ?_, ?_, hk, ?_⟩
  · intro i o c d hi hm
    rcases hget hi with ⟨x, hx, rfl, hlt, rfl⟩ | ⟨j, p, cs, e, rfl, hj, rfl⟩
    · have hm : mA P (L.map (·.1)) x.1 = some (c, d) := hm
      rw [mA_var hlt] at hm
      cases hm
      obtain ⟨cs', fr, hc, hv'⟩ := hW x hx
      refine ⟨_, hc, cs', fr, rfl, fun i v hv => ?_⟩
      obtain ⟨v', g1, g2⟩ := hv' i v hv
      exact ⟨v', by simpa using g1, fun _ => g2, fun h => by cases h⟩
    · rw [harg hj] at hm
      cases hm
      obtain ⟨cs', fr, h1, h2, h3⟩ := hA j _ cs e hj
      refine ⟨_, h1, cs', fr, rfl, fun i v hv => ?_⟩
      obtain ⟨v', g1, g2⟩ := h3 i v hv
      exact ⟨v', g1, fun _ => g2, fun h => by cases h⟩
  · intro i cs e b ro hi c d hm
    rcases hget hi with ⟨x, hx, rfl, hlt, _⟩ | ⟨j, p, cs2, e2, rfl, hj, he⟩
    · have hm : mA P (L.map (·.1)) x.1 = some (c, d) := hm
      rw [mA_var hlt] at hm
      cases hm
      rfl
    · have := (List.getElem?_eq_some_iff.1 hj).1
      simp only [AO.row.injEq] at he
      omega
  · intro i j oi oj c di dj hij hi hj hmi hmj
    refine .inl ?_
    rcases hget hi with ⟨x, hx, rfl, hlt, rfl⟩ | ⟨j, p, cs2, e2, rfl, _, rfl⟩ <;> rcases hget hj with ⟨y, hy, rfl, hlt2, rfl⟩ | ⟨j2, p2, cs3, e3, rfl, _, rfl⟩ <;> exact ⟨rfl, rfl⟩
  · intro i o f b hi hf
    have hmem : ∀ f, (wR P.globals.size gl L).members f = if f = P.globals.size + L.length then (List.range L.length).map (P.globals.size + ·) else [f] := by
      intro f
      show (match ((Trie.nil : Trie (List Nat)).put depth (P.globals.size + L.length) _).get? f with | some l => l | none => [f]) = _
      rw [Trie.get?_put depth _ _ f _ (by unfold depth maxId at *; omega)]
      by_cases h : f = P.globals.size + L.length
      · rw [if_pos h, if_pos h]
      · rw [if_neg h, if_neg h]; rfl
    rcases hget hi with ⟨x, hx, rfl, hlt, rfl⟩ | ⟨j, p, cs2, e2, rfl, hj, rfl⟩
    · simp only [AO.fam, Option.some.injEq, Prod.mk.injEq] at hf
      obtain ⟨rfl, rfl⟩ := hf
      rw [hmem, if_neg (by omega)]
      exact ⟨by simp, by show x.1 < P.globals.size + L.length + 1; omega⟩
    · simp only [AO.fam, Option.some.injEq, Prod.mk.injEq] at hf
      obtain ⟨rfl, rfl⟩ := hf
      have := (List.getElem?_eq_some_iff.1 hj).1
      rw [hmem, if_pos rfl]
      exact ⟨List.mem_map.2 ⟨j, List.mem_range.2 this, rfl⟩, by show _ < P.globals.size + L.length + 1; omega⟩
  · intro i hi
    have hi : P.globals.size + L.length + 1 ≤ i := hi
    have hf := wR_fine2 (n := P.globals.size) hok hk
    refine ⟨hf.get i hi, ?_, hf.fams i hi⟩
    show (if i < P.globals.size then some (i, 0) else (L.map (·.1))[i - P.globals.size]?) = none
    rw [if_neg (by omega)]
    exact List.getElem?_eq_none (by omega)
  · intro i cs e f b ro c d hi hm
    rcases hget hi with ⟨x, hx, rfl, hlt, he⟩ | ⟨j, p, cs2, e2, rfl, hj, he⟩
    · cases he
      have hm : mA P (L.map (·.1)) x.1 = some (c, d) := hm
      rw [mA_var hlt] at hm
      cases hm
      obtain ⟨cs', fr, hc, _⟩ := hW x hx
      exact ⟨fun h => absurd rfl h, _, _, fr, hc, by show 0 + 0 ≤ _; omega, fun h => by cases h⟩
    · cases he
      rw [harg hj] at hm
      cases hm
      obtain ⟨cs', fr, h1, h2, h3⟩ := hA j _ _ _ hj
      exact ⟨fun h => absurd rfl h, cs', _, fr, h1, by show _ + 0 ≤ _; omega, fun h => by cases h⟩

theorem ownR2 (hok : okB P.globals.size gl = true) (hk : P.globals.size + L.length ≤ maxId) (c : Nat) : ¬ Own (mR P L) (wR P.globals.size gl L) c := by
  rintro ⟨i, o, d, hi, hro, _⟩
  rcases wR_get2 hok hk hi with ⟨x, hx, rfl, hlt, rfl⟩ | ⟨j, p, cs2, e2, rfl, _, rfl⟩ <;> cases hro

theorem calls_low2 {X : XNames} (hP : POk P) (hok : okB P.globals.size gl = true) (hk : P.globals.size + L.length + 1 ≤ maxId) {g : FuncId} {args args' : List Value}
    (hW : HoldsR P W L gl) (hA : Args P W L) (ha : VRels (mR P L) args args') (h : Wc P X W (mR P L) g args (wR P.globals.size gl L) fun v _ => v = .bool true) : Calls P g ⟨args'⟩ W fun e W' => e = .returned (.bool true) ∧ Low W W' := by
  refine (calls_of_wc hP h (relR2 hok hk hW hA) (fun i hi => mA_var hi) (ownR2 hok (by omega)) ha).mono ?_
  rintro e w' ⟨v, v', m', A', rfl, rfl, h2, h3⟩
  cases h2
  exact ⟨rfl, low_of h3 (ownR2 hok (by omega))⟩
theorem kc_true2 {R : World → Prop} (hR : ∀ W W' : World, R W → Go.RowKit.Below W.heap.size W W' → R W') {g : FuncId} (hg : g ≠ sameFn) (h : ∀ W, R W → Calls P g #[] W fun e W' => e = .returned (.bool true) ∧ Low W W') {W0 : World} (hW : R W0) (m0 : Inj P) :
    KC.Holds P W0 m0 ⟨g, [], [.bool true]⟩ := by
  refine ⟨fun e => absurd e hg, fun _ => ?_⟩
  intro m args' W _ hb ha
  cases ha
  refine (h W (hR W0 W hW hb)).mono ?_
  rintro e W' ⟨rfl, hb'⟩
  exact ⟨_, by simp, rfl, hb'⟩
variable {X : XNames} {W0 : World} {m0 : Inj P}
theorem wp_fine {s : ASt} {Q : Value → AW → Prop} (h : Fine s.w → WP P X W0 m0 s Q) : WP P X W0 m0 s Q := by
  intro f0 base lo cs0 m f csW w hr ho
  exact h ⟨fun i hi => (hr.rel.fresh i hi).2.2, fun i hi => (hr.rel.fresh i hi).1⟩ f0 base lo cs0 m f csW w hr ho
/-- a call that is known by its precondition, in a run: the run goes on with less -/
theorem wp_call {fr c : AFr} {rest : List AFr} {A : AW} {v : Value} {K Q : Value → AW → Prop} (hk : fr.kind = .normal) (hro : fr.roundOf = none) (hd : (c.finish v).dr = false) (h : WP P X W0 m0 ⟨fr, [], A⟩ K)
    (hK : ∀ x A', K x A' → x = v ∧ A'.next = A.next + 1 ∧ A'.fams = A.fams ∧ ∀ i o, A.get i = some o → A'.get i = some o)
    (h' : WP P X W0 m0 ⟨c.finish v, rest, { A with next := A.next + 1 }⟩ Q) : WP P X W0 m0 ⟨fr, c :: rest, A⟩ Q := by
  refine wp_sub hk hro h fun x A' hx => ?_
  obtain ⟨rfl, h1, h2, h3⟩ := hK x A' hx
  exact (reach_less (s := ⟨c.finish x, rest, A'⟩) hd (A' := { A with next := A.next + 1 }) fun m w r => ⟨h1.symm, h2.symm, fun i o hi => h3 i o hi⟩).wp1 h'
end
end Go.Abs


namespace Go.Abs
/-- an iterator over a text, at a place -/
structure SIt (A : AW) (it : Nat) (s : ByteArray) (pos : Nat) : Prop where
  get : A.get it = some (.sit s pos)
  lt : it < A.next
theorem SIt.keeps {A A' : AW} {it : Nat} {s : ByteArray} {pos : Nat} {S : List Nat} (h : SIt A it s pos) (k : Keeps A A' S) (hn : it ∉ S) : SIt A' it s pos := ⟨k.get it _ h.get h.lt hn, Nat.lt_of_lt_of_le h.lt k.next⟩
section
variable {P : Program} {X : XNames} {W0 : World} {m0 : Inj P}
theorem strRange {t : TypeId} (hu : P.underlying t = some .string) {s : ByteArray} {A : AW} (hf : Fine A) (hA : A.next < maxId) {K : Value → AW → Prop}
    (hk : ∀ A', SIt A' A.next s 0 → Keeps A A' [] → A'.next = A.next + 1 → Fine A' → K (.pointer (some ⟨A.next, 0, none⟩)) A') : anW P X W0 m0 (rangeP P A t (.string s)) K := by
  unfold rangeP AW.new
  simp only [hu, blt_true.2 hA, cond_true]
  exact .inl ⟨_, _, rfl, hk (A.push (.sit s 0)) ⟨by rw [AW.push_get _ hA, if_pos rfl], by rw [AW.push_next]; omega⟩ ((AW.push_ext _ hA).keeps hf) rfl (hf.push _ hA)⟩
theorem put_sit {A : AW} {it : Nat} {s : ByteArray} {pos p2 : Nat} (h : SIt A it s pos) (hf : Fine A) (hA : A.next ≤ maxId) : SIt (A.put it (.sit s p2)) it s p2 ∧ Keeps A (A.put it (.sit s p2)) [it] ∧ (A.put it (.sit s p2)).next = A.next ∧ Fine (A.put it (.sit s p2)) := by
  have hlt := h.lt
  have hg : ∀ i, (A.put it (.sit s p2)).get i = if i = it then some (.sit s p2) else A.get i := fun i => AW.get_put A it i _ (by omega)
  refine ⟨⟨by rw [hg, if_pos rfl], h.lt⟩, ⟨Nat.le_refl _, fun i o hi _ hn => ?_, fun f _ _ => rfl⟩, rfl, ⟨fun i hi => hf.fams i hi, fun i hi => ?_⟩⟩
  · rw [hg, if_neg (fun e => ?_)]
    · exact hi
    · subst e
      rw [h.get] at hi
      cases hi
      exact hn (by simp [famOf])
  · have hi : A.next ≤ i := hi
    rw [hg, if_neg (by omega)]
    exact hf.get i hi
theorem SIt.next {A : AW} {it : Nat} {s : ByteArray} {pos : Nat} (h : SIt A it s pos) (hf : Fine A) (hA : A.next ≤ maxId) {K : Value → AW → Prop}
    (hmore : pos < s.data.toList.length → ∀ A', SIt A' it s (pos + (Utf8.decode s pos).2) → Keeps A A' [it] → A'.next = A.next → Fine A' → K (.tuple #[.bool true, .int .i64 (pos : Int), .int .i32 ((Utf8.decode s pos).1 : Int)]) A')
    (hdone : s.data.toList.length ≤ pos → K (.tuple #[.bool false]) A) : anW P X W0 m0 (nextA A (.pointer (some ⟨it, 0, none⟩)) true) K := by
  rcases Nat.lt_or_ge pos s.data.toList.length with hp | hp
  · refine .inl ⟨.tuple #[.bool true, .int .i64 (pos : Int), .int .i32 ((Utf8.decode s pos).1 : Int)], A.put it (.sit s (pos + (Utf8.decode s pos).2)), ?_, ?_⟩
    · unfold nextA
      simp only [h.get, blt_true.2 hp, cond_true]
    · obtain ⟨a1, a2, a3, a4⟩ := put_sit (p2 := pos + (Utf8.decode s pos).2) h hf hA
      exact hmore hp _ a1 a2 a3 a4
  · refine .inl ⟨.tuple #[.bool false], A, ?_, hdone hp⟩
    unfold nextA
    simp only [h.get, blt_false.2 hp, cond_false]
end
end Go.Abs


namespace Go.Abs

/-- a hexadecimal digit -/
def hexd (n : Nat) : UInt8 := if n < 10 then UInt8.ofNat (48 + n) else UInt8.ofNat (87 + n)
/-- a byte that stands as it is -/
def plainB (b : UInt8) : Bool := decide (33 ≤ b.toNat ∧ b.toNat ≤ 126) && (b.toNat != 37 && b.toNat != 58)
def escB (b : UInt8) : List UInt8 := if plainB b then [b] else [37, hexd (b.toNat / 16), hexd (b.toNat % 16)]
/-- a text's bytes, each as it is written -/
def escL (l : List UInt8) : List UInt8 := l.flatMap escB
/-- a text's word -/
def quoteB (l : List UInt8) : List UInt8 := if l = [] then [37] else escL l
theorem escL_app (a b : List UInt8) : escL (a ++ b) = escL a ++ escL b := List.flatMap_append
theorem escL_one (b : UInt8) : escL [b] = escB b := by simp [escL]
/-- which digit a byte is; -1: none -/
def digI (b : Nat) : Int := if 48 ≤ b ∧ b ≤ 57 then (b : Int) - 48 else if 97 ≤ b ∧ b ≤ 102 then (b : Int) - 87 else -1
theorem digI_hexd : ∀ n, n < 16 → digI (hexd n).toNat = (n : Int) := by decide
theorem hexd_ne : ∀ n, n < 16 → (hexd n).toNat ≠ 37 := by decide
/-- the byte that two digits make, whatever they are -/
def byte2 (x y : UInt8) : UInt8 := UInt8.ofNat ((digI x.toNat * 16 + digI y.toNat) % 256).toNat
theorem byte2_hexd (b : UInt8) : byte2 (hexd (b.toNat / 16)) (hexd (b.toNat % 16)) = b := by
  have hb := b.toNat_lt
  unfold byte2
  rw [digI_hexd _ (by omega), digI_hexd _ (by omega)]
  have : (((b.toNat / 16 : Nat) : Int) * 16 + ((b.toNat % 16 : Nat) : Int)) % 256 = (b.toNat : Int) := by omega
  rw [this]
  simp
/-- a word read with digits that are not looked at -/
def decP : List UInt8 → Option (List UInt8)
  | [] => some []
  | c :: r => if c.toNat = 37 then (match r with
    | x :: y :: r' => (decP r').map (byte2 x y :: ·)
    | _ => none) else (decP r).map (c :: ·)
/-- a word read with digits that are -/
def decR : List UInt8 → Option (List UInt8)
  | [] => some []
  | c :: r => if c.toNat = 37 then (match r with
    | x :: y :: r' => if digI x.toNat < 0 ∨ digI y.toNat < 0 then none else (decR r').map (byte2 x y :: ·)
    | _ => none) else (decR r).map (c :: ·)
theorem decP_pct (x y : UInt8) (r : List UInt8) : decP (37 :: x :: y :: r) = (decP r).map (byte2 x y :: ·) := by
  rw [decP]; exact if_pos rfl
theorem decR_pct (x y : UInt8) (r : List UInt8) : decR (37 :: x :: y :: r) = if digI x.toNat < 0 ∨ digI y.toNat < 0 then none else (decR r).map (byte2 x y :: ·) := by
  rw [decR]; exact if_pos rfl
theorem decP_other {c : UInt8} (r : List UInt8) (h : c.toNat ≠ 37) : decP (c :: r) = (decP r).map (c :: ·) := by
  match r with
  | [] => simp only [decP, if_neg h]
  | [_] => simp only [decP, if_neg h]
  | _ :: _ :: _ => simp only [decP, if_neg h]
theorem decR_other {c : UInt8} (r : List UInt8) (h : c.toNat ≠ 37) : decR (c :: r) = (decR r).map (c :: ·) := by
  match r with
  | [] => simp only [decR, if_neg h]
  | [_] => simp only [decR, if_neg h]
  | _ :: _ :: _ => simp only [decR, if_neg h]
theorem decP_esc : ∀ l : List UInt8, decP (escL l) = some l
  | [] => by rw [show escL [] = [] from rfl, decP]
  | b :: l => by
    rw [show escL (b :: l) = escB b ++ escL l from by simp [escL]]
    unfold escB
    cases hb : plainB b with
    | true =>
      have h : b.toNat ≠ 37 := by
        intro h; unfold plainB at hb; rw [h] at hb; revert hb; decide
      rw [if_pos rfl, List.singleton_append, decP_other _ h, decP_esc l]; rfl
    | false =>
      rw [if_neg (by decide)]
      simp only [List.cons_append, List.nil_append]
      rw [decP_pct, byte2_hexd, decP_esc l]; rfl
theorem decR_esc : ∀ l : List UInt8, decR (escL l) = some l
  | [] => by rw [show escL [] = [] from rfl, decR]
  | b :: l => by
    rw [show escL (b :: l) = escB b ++ escL l from by simp [escL]]
    unfold escB
    cases hb : plainB b with
    | true =>
      have h : b.toNat ≠ 37 := by
        intro h; unfold plainB at hb; rw [h] at hb; revert hb; decide
      rw [if_pos rfl, List.singleton_append, decR_other _ h, decR_esc l]; rfl
    | false =>
      have hb := b.toNat_lt
      rw [if_neg (by decide)]
      simp only [List.cons_append, List.nil_append]
      rw [decR_pct, byte2_hexd, decR_esc l, digI_hexd _ (by omega), digI_hexd _ (by omega), if_neg (by omega)]; rfl
theorem quoteB_nil : quoteB [] = [37] := rfl
theorem quoteB_cons {l : List UInt8} (h : l ≠ []) : quoteB l = escL l := if_neg h
/-- each word is one text's -/
theorem quoteB_inj {a b : List UInt8} (h : quoteB a = quoteB b) : a = b := by
  have hp : ∀ l : List UInt8, l ≠ [] → escL l ≠ [37] := fun l _ he => by
    have := decP_esc l
    rw [he] at this
    have h37 : decP [37] = none := by simp only [decP]; exact if_pos rfl
    rw [h37] at this; cases this
  by_cases ha : a = []
  · by_cases hb : b = []
    · rw [ha, hb]
    · rw [ha, quoteB_nil, quoteB_cons hb] at h
      exact absurd h.symm (hp b hb)
  · by_cases hb : b = []
    · rw [hb, quoteB_nil, quoteB_cons ha] at h
      exact absurd h (hp a ha)
    · rw [quoteB_cons ha, quoteB_cons hb] at h
      have h1 := decP_esc a
      rw [h, decP_esc b] at h1
      exact (Option.some.inj h1).symm
/-- a word other than the empty text's is a text's, or none's -/
theorem word_P {w out : List UInt8} (hw : w ≠ [37]) (h : decP w = some out) (h2 : quoteB out ≠ w) (l : List UInt8) : quoteB l ≠ w := by
  intro he
  by_cases hl : l = []
  · rw [hl, quoteB_nil] at he; exact hw he.symm
  · rw [quoteB_cons hl] at he
    rw [← he, decP_esc l] at h
    cases h
    exact h2 (by rw [quoteB_cons hl, he])
theorem word_Pn {w : List UInt8} (hw : w ≠ [37]) (h : decP w = none) (l : List UInt8) : quoteB l ≠ w := by
  intro he
  by_cases hl : l = []
  · rw [hl, quoteB_nil] at he; exact hw he.symm
  · rw [quoteB_cons hl] at he
    rw [← he, decP_esc l] at h
    cases h
theorem word_R {w out : List UInt8} (hw : w ≠ [37]) (h : decR w = some out) (h2 : quoteB out ≠ w) (l : List UInt8) : quoteB l ≠ w := by
  intro he
  by_cases hl : l = []
  · rw [hl, quoteB_nil] at he; exact hw he.symm
  · rw [quoteB_cons hl] at he
    rw [← he, decR_esc l] at h
    cases h
    exact h2 (by rw [quoteB_cons hl, he])
theorem word_Rn {w : List UInt8} (hw : w ≠ [37]) (h : decR w = none) (l : List UInt8) : quoteB l ≠ w := by
  intro he
  by_cases hl : l = []
  · rw [hl, quoteB_nil] at he; exact hw he.symm
  · rw [quoteB_cons hl] at he
    rw [← he, decR_esc l] at h
    cases h
/-- a character that begins with a great byte: all its bytes are great -/
theorem dec_hi {n b0 b1 b2 b3 : Nat} (h : 128 ≤ b0) (hn : 1 ≤ n) : 128 ≤ (Lib.decodeN n b0 b1 b2 b3).1 ∧ 1 ≤ (Lib.decodeN n b0 b1 b2 b3).2 ∧ (Lib.decodeN n b0 b1 b2 b3).2 ≤ n ∧ (Lib.decodeN n b0 b1 b2 b3).2 ≤ 4 ∧
    (2 ≤ (Lib.decodeN n b0 b1 b2 b3).2 → 128 ≤ b1) ∧ (3 ≤ (Lib.decodeN n b0 b1 b2 b3).2 → 128 ≤ b2) ∧ (4 ≤ (Lib.decodeN n b0 b1 b2 b3).2 → 128 ≤ b3) := by
  unfold Lib.decodeN
  repeat' split
  all_goals simp only
  all_goals omega
theorem dec_lo {n b0 b1 b2 b3 : Nat} (h : b0 < 128) : Lib.decodeN n b0 b1 b2 b3 = (b0, 1) := if_pos h
theorem plain_lt {b : UInt8} (h : plainB b = true) : b.toNat < 128 := by
  unfold plainB at h
  simp only [Bool.and_eq_true, decide_eq_true_eq] at h
  omega
/-- the bytes of one character: the byte itself, or such as are not plain -/
theorem char_at (s : ByteArray) (i : Nat) (h : i < s.data.toList.length) :
    (s.data.toList[i].toNat < 128 ∧ Utf8.decode s i = (s.data.toList[i].toNat, 1)) ∨
    (128 ≤ (Utf8.decode s i).1 ∧ 1 ≤ (Utf8.decode s i).2 ∧ i + (Utf8.decode s i).2 ≤ s.data.toList.length ∧ ∀ j (hj : i + j < s.data.toList.length), j < (Utf8.decode s i).2 → plainB (s.data.toList[i + j]'hj) = false) := by
  have hd : ∀ k (hk : k < s.data.toList.length), s.data.toList.getD k 0 = s.data.toList[k] := fun k hk => by simp [List.getD, List.getElem?_eq_getElem hk]
  rw [Lib.decode_N]
  by_cases h0 : s.data.toList[i].toNat < 128
  · left
    refine ⟨h0, ?_⟩
    rw [hd i h, dec_lo h0]
  · right
    obtain ⟨a1, a2, a3, a4, a5, a6, a7⟩ := dec_hi (n := s.data.toList.length - i) (b0 := (s.data.toList.getD i 0).toNat) (b1 := (s.data.toList.getD (i + 1) 0).toNat) (b2 := (s.data.toList.getD (i + 2) 0).toNat) (b3 := (s.data.toList.getD (i + 3) 0).toNat) (by rw [hd i h]; omega) (by omega)
    refine ⟨a1, a2, by omega, fun j hj hlt => ?_⟩
    have key : 128 ≤ (s.data.toList[i + j]'hj).toNat := by
      rw [← hd _ hj]
      have : j = 0 ∨ j = 1 ∨ j = 2 ∨ j = 3 := by omega
      rcases this with rfl | rfl | rfl | rfl
      · rw [Nat.add_zero, hd i h]; omega
      · exact a5 (by omega)
      · exact a6 (by omega)
      · exact a7 (by omega)
    cases hp : plainB (s.data.toList[i + j]'hj) with
    | false => rfl
    | true => have := plain_lt hp; omega
end Go.Abs
