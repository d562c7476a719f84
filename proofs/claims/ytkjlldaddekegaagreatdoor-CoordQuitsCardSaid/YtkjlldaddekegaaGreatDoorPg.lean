/-
  This text prints what the functions reached ask of their memory, and shows what they answer. Conditions: none for the last theorem, those that each theorem states for the others.
-/
import Derived.Test.YtkjlldaddekegaaGreatDoorPf
set_option maxRecDepth 100000
set_option maxHeartbeats 1000000
namespace Go.Proofs.YtkjlldaddekegaaGreatDoor
open Go.Abs
theorem pn27 (a : Addr) (xo yo : Operand) : binA Tryz.prog .neq 27 xo yo (.pointer (some a)) (.pointer none) = some (.bool true) := by kernel_rfl
theorem pn25 (a : Addr) (xo yo : Operand) : binA Tryz.prog .neq 25 xo yo (.pointer (some a)) (.pointer none) = some (.bool true) := by kernel_rfl
theorem pn72 (a : Addr) (xo yo : Operand) : binA Tryz.prog .neq 72 xo yo (.pointer (some a)) (.pointer none) = some (.bool true) := by kernel_rfl
theorem pn75 (a : Nat) (xo yo : Operand) : binA Tryz.prog .neq 75 xo yo (.map (some a)) (.map none) = some (.bool true) := by kernel_rfl
theorem pn68 (a : Nat) (xo yo : Operand) : binA Tryz.prog .neq 68 xo yo (.map (some a)) (.map none) = some (.bool true) := by kernel_rfl
theorem pn119 (a : Nat) (xo yo : Operand) : binA Tryz.prog .neq 119 xo yo (.map (some a)) (.map none) = some (.bool true) := by kernel_rfl
structure Env (A : AW) (lg dk : Nat) : Prop where
  dk : ∃ r, Go.Abs.Row1 A dk [.map (some r), .int .i64 200000, .int .i64 0, .bool false] 70
  lg : ∃ j r, Go.Abs.Row1 A lg [.pointer (some j), .int .u32 1, .map (some r)] 121
theorem Env.keeps {A A' : AW} {lg dk : Nat} {S : List Nat} (h : Env A lg dk) (k : Keeps A A' S) (h1 : lg ∉ S) (h2 : dk ∉ S) : Env A' lg dk := by
  obtain ⟨⟨r, a⟩, ⟨j, r', b⟩⟩ := h
  exact ⟨⟨r, a.keeps k h2⟩, ⟨j, r', b.keeps k h1⟩⟩
section
variable {W0 : World} {m0 : Inj Tryz.prog} {c lg dk rm am sr : Nat} {out : Value} {A : AW} {K : Value → AW → Prop}
theorem wc26 (hc : CR A c lg dk rm am sr out) (hk : K (.bool true) A) : Wc Tryz.prog theX W0 m0 26 [.pointer (some ⟨c, 0, none⟩)] A K := by
  refine w26 _ _ cutn ?_
  rw [e26]
  simp only [pn27, pureW_some, nilP_some]
  refine forkW_bool.2 ⟨fun _ => ?_, fun h => by cases h⟩
  simp only [fa_79_3, ld_75, cell_row hc.row, cellOf, isT_ptr, isT_int, isT_map, cond_false, pureW_some, Nat.zero_add, pn75]
  exact hk
theorem wc106 (he : Env A lg dk) (hk : K (.bool false) A) : Wc Tryz.prog theX W0 m0 106 [.pointer (some ⟨dk, 0, none⟩)] A K := by
  obtain ⟨⟨r, hd⟩, _⟩ := he
  refine w106 _ _ cutn ?_
  rw [e106]
  refine w51 _ _ cutn ?_
  rw [e51]
  simp only [pn25, pureW_some, nilP_some]
  refine forkW_bool.2 ⟨fun _ => ?_, fun h => by cases h⟩
  simp only [fa_70_0, ld_68, cell_row hd.row, cellOf, isT_ptr, isT_int, isT_map, cond_false, pureW_some, Nat.zero_add, pn68, un_not, fa_70_3, ld_4, isT_bool]
  exact forkW_bool.2 ⟨fun h => (by cases h), fun _ => hk⟩
theorem wc71 (hc : CR A c lg dk rm am sr out) (ho : OneC out) (he : Env A lg dk) (hk : K (.bool false) A) : Wc Tryz.prog theX W0 m0 71 [.pointer (some ⟨c, 0, none⟩)] A K := by
  refine w71 _ _ cutn ?_
  rw [e71]
  refine wc26 hc ?_
  simp only [un_not, pureW_some]
  refine forkW_bool.2 ⟨fun h => (by cases h), fun _ => ?_⟩
  simp only [nilP_some, pureW_some, fa_79_7, fa_79_1, ld_4, ld_25, cell_row hc.row, cellOf, isT_ptr, isT_int, isT_map, isT_bool, ho.noT, cond_false, Nat.zero_add]
  exact forkW_bool.2 ⟨fun h => (by cases h), fun _ => wc106 he hk⟩
theorem wc27 (he : Env A lg dk) (hk : K (.int .u32 1) A) : Wc Tryz.prog theX W0 m0 27 [.pointer (some ⟨lg, 0, none⟩)] A K := by
  obtain ⟨_, ⟨j, r, hd⟩⟩ := he
  refine w27 _ _ cutn ?_
  rw [e27]
  refine w63 _ _ cutn ?_
  rw [e63]
  simp only [pn72, pureW_some, nilP_some]
  refine forkW_bool.2 ⟨fun _ => ?_, fun h => by cases h⟩
  simp only [fa_121_2, ld_119, cell_row hd.row, cellOf, isT_ptr, isT_int, isT_map, cond_false, pureW_some, Nat.zero_add, pn119, un_not, fa_121_1, ld_22]
  exact forkW_bool.2 ⟨fun h => (by cases h), fun _ => hk⟩
theorem wc8 (hc : CR A c lg dk rm am sr out) (he : Env A lg dk) (hk : K (.int .u32 1) A) : Wc Tryz.prog theX W0 m0 8 [.pointer (some ⟨c, 0, none⟩)] A K := by
  refine w8 _ _ cutn ?_
  rw [e8]
  refine wc26 hc ?_
  simp only [un_not, pureW_some]
  refine forkW_bool.2 ⟨fun h => (by cases h), fun _ => ?_⟩
  simp only [nilP_some, pureW_some, fa_79_0, ld_72, cell_row hc.row, cellOf, isT_ptr, cond_false, Nat.zero_add]
  exact wc27 he hk
theorem wc32 {fv : Value} (hc : CR A c lg dk rm am sr out) (ho : OneC out) (he : Env A lg dk) (hk : anW Tryz.prog theX W0 m0 (dynA Tryz.prog theX A fv []) K) : Wc Tryz.prog theX W0 m0 32 [.pointer (some ⟨c, 0, none⟩), fv] A K := by
  refine w32 _ _ _ cutn ?_
  rw [e32]
  refine wc26 hc ?_
  simp only [un_not, pureW_some]
  refine forkW_bool.2 ⟨fun h => (by cases h), fun _ => wc71 hc ho he (forkW_bool.2 ⟨fun h => (by cases h), fun _ => hk⟩)⟩
theorem wc12 (hc : CR A c lg dk rm am sr out) (ho : OneC out) (hf : Fine A) (hA : A.next < maxId) (hk : ∀ A', CR A' c lg dk rm am sr (.slice none 0 0) → Keeps A A' [c] → A'.next = A.next → Fine A' → K out A') : Wc Tryz.prog theX W0 m0 12 [.pointer (some ⟨c, 0, none⟩)] A K := by
  refine w12 _ _ cutn ?_
  rw [e12]
  refine wc26 hc ?_
  simp only [un_not, pureW_some]
  refine forkW_bool.2 ⟨fun h => (by cases h), fun _ => ?_⟩
  simp only [nilP_some, pureW_some, fa_79_6, ld_41, cell_row hc.row, cellOf, isT_ptr, isT_int, isT_map, isT_bool, ho.noT, cond_false, Nat.zero_add]
  exact hc.store hf (by omega) (st_41 _ _ _) rfl (by simp) rfl fun A4 r4 k4 n4 f4 => hk A4 r4 k4 n4 f4
theorem wc41 (hk : K (.string ⟨⟨[49]⟩⟩) A) : Wc Tryz.prog theX W0 m0 41 [.int .u64 1, .int .i64 10] A K :=
  ⟨by kernel_rfl, wp_run (mg := []) (kn := fun _ => []) (n := 300) gX gP (by kernel_rfl) hk⟩
def digit (n : Nat) : ByteArray := ⟨⟨[UInt8.ofNat (48 + n % 10)]⟩⟩
def ptOf (x : Nm) (n : Nat) : Pt := ⟨n, ⟨x.f, x.g, digit n⟩⟩
theorem conv5 (A : AW) (n : Int) : convertA Tryz.prog A 5 21 (.int .u8 n) = .ok (.int .i32 (IntKind.i32.wrap n)) A := by kernel_rfl
theorem conv21 : ∀ (A : AW) (k : Nat), k < 10 → convertA Tryz.prog A 21 9 (.int .i32 ((48 + k : Nat) : Int)) = .ok (.string ⟨⟨[UInt8.ofNat (48 + k)]⟩⟩) A
  | A, 0, _ => by kernel_rfl
  | A, 1, _ => by kernel_rfl
  | A, 2, _ => by kernel_rfl
  | A, 3, _ => by kernel_rfl
  | A, 4, _ => by kernel_rfl
  | A, 5, _ => by kernel_rfl
  | A, 6, _ => by kernel_rfl
  | A, 7, _ => by kernel_rfl
  | A, 8, _ => by kernel_rfl
  | A, 9, _ => by kernel_rfl
  | A, n + 10, h => by omega
theorem ba50 (x : Nm) : buildA Tryz.prog 50 [(0, .agg ⟨x.cells⟩), (1, .int .u8 1)] = some (vG ⟨x, 1, .slice none 0 0, 0, 0⟩) := by kernel_rfl
theorem ba50_0 : buildA Tryz.prog 50 [] = some (vG ⟨⟨0, ⟨⟨[]⟩⟩, ⟨⟨[]⟩⟩⟩, 0, .slice none 0 0, 0, 0⟩) := by kernel_rfl
theorem ba135 (n : Nat) (x : Nm) : buildA Tryz.prog 135 [(0, .int .u8 (n : Int)), (1, .agg ⟨x.cells⟩)] = some (.agg ⟨(Pt.mk n x).cells⟩) := by kernel_rfl
theorem newPt {p : Pt} (hf : Fine A) (h : A.next < maxId) (hk : ∀ A', Made A A' p.cells 135 → K (.slice (some ⟨A.next, 0, none⟩) 1 1) A') : bothW (buildSliceA Tryz.prog A 48 1 [(0, .agg ⟨p.cells⟩)]) K :=
  bs_made (cs := p.cells) (e := 135) (n := 1) (by kernel_rfl) rfl hf h hk
theorem wrap_u8n {n : Int} (h1 : 0 ≤ n) (h2 : n < 256) : IntKind.u8.wrap n = n := by
  have : IntKind.u8.wrap n = n % 256 := by simp [IntKind.wrap, IntKind.bits, IntKind.signed]
  rw [this]; omega
theorem wrap_i32n {n : Int} (h1 : 0 ≤ n) (h2 : n < 256) : IntKind.i32.wrap n = n := by
  have : IntKind.i32.wrap n = if 2147483648 ≤ n % 4294967296 then n % 4294967296 - 4294967296 else n % 4294967296 := by simp [IntKind.wrap, IntKind.bits, IntKind.signed]
  rw [this]; split <;> omega
theorem wc42 {x : Nm} {nv : Value} {ns : List Nat} {F0 : List Nat} (hx : okX x = true) (hxb : x.b = ⟨⟨[]⟩⟩) (hn : RdE 0 bC A nv ns F0) (hl : ns.length < 1000) (hb : ∀ n ∈ ns, n < 256) (hf : Fine A) (hA : A.next + 100 + 50 * ns.length < maxId)
    (hk : ∀ A' v e, (okD x (ns.map (ptOf x)) = true ∧ e = 0 ∧ (∃ pv F, v = vG ⟨x, 1, pv, 0, 0⟩ ∧ OwnF 135 4 Pt.cells A' pv (ns.map (ptOf x)) F ∧ (∀ y ∈ F, A.next ≤ y)) ∨ okD x (ns.map (ptOf x)) = false ∧ e = 2 ∧ ∃ g : GV, v = vG g ∧ OneC g.pv) → Grow A A' (40 + 40 * ns.length) → K (.tuple ⟨[v, .int .i64 e]⟩) A') :
    Wc Tryz.prog theX W0 m0 42 [.agg ⟨x.cells⟩, nv] A K := by
  let I : Nat → Nat → List Value → AW → Prop := fun g id vals A' => id = 0 ∧ ∃ (i r3 : Nat) (pv : Value) (F : List Nat) (cs : List Value), vals = [.pointer (some ⟨A.next, 0, none⟩), .pointer (some ⟨A.next + 1, 0, none⟩), .pointer (some ⟨r3, 0, none⟩), nv, .int .i64 (ns.length : Int), .int .i64 (i : Int)] ∧ i ≤ ns.length ∧ A.next + 1 < r3 ∧
    Go.Abs.Row1 A' A.next x.cells 24 ∧ Go.Abs.Row1 A' (A.next + 1) cs 50 ∧ cs.length = 8 ∧ Go.Abs.Row1 A' r3 (GV.mk x 1 pv 0 0).cells 50 ∧ OwnF 135 4 Pt.cells A' pv ((ns.take i).map (ptOf x)) F ∧ (∀ y ∈ F, r3 < y) ∧ Fine A' ∧ Keeps A A' [] ∧ A'.next ≤ A.next + 4 + 4 * i ∧ g = ns.length - i
  refine w42 _ _ _ (c42 (I := I) ?_) ?_
  · rintro g id vals A' d ⟨rfl, i, r3, pv, F, cs, rfl, hi, hr3, rx, ro, hcs, rg, hp, hF, fA, KA, nx, rfl⟩ hd
    rw [l42_0]
    simp only [L42, List.map_cons, List.map_nil, List.cons.injEq, and_true] at hd
    obtain ⟨d2, d4, d6, d21, d22, d23⟩ := hd
    have hle := KA.next
    have hone := ownF_one hp
    have rolt := ro.lt
    have rglt := rg.lt
    simp only [d2, d4, d6, d21, d22, d23, bin_lss, pureW_some, forkW_dec]
    refine ⟨fun hlt => ?_, fun hge => ?_⟩
    · have hlt : i < ns.length := by omega
      have hni := List.getElem?_eq_getElem hlt
      have hmem := List.getElem_mem hlt
      generalize ns[i] = n at hni hmem
      have hn256 := hb n hmem
      obtain ⟨a, a1, a2⟩ := etB.at (hn.keeps KA (by simp)) hni rfl
      have hxl : loadP Tryz.prog A' 24 (.pointer (some ⟨A.next, 0, none⟩)) = some (.agg ⟨x.cells⟩) := ld_name (pre := []) (post := []) (by simpa using rx)
      simp only [a1, a2, pureW_some, hxl]
      refine allocP_made zero24 fA (by omega) rfl fun A2 m2 => ?_
      have n2 := m2.next
      have k2 := m2.keeps fA
      refine m2.row1.store m2.fine (by omega) (st_24 _ _ _) rfl (by simp [Value.cells, Nm.cells]) rfl fun A3 r3' k3 n3 f3 => ?_
      have r3' : Go.Abs.Row1 A3 A'.next x.cells 24 := r3'
      simp only [bin_rem (show (10 : Int) ≠ 0 by decide), pureW_some, bin_add, conv5]
      rw [show (n : Int).tmod 10 = ((n % 10 : Nat) : Int) from rfl, show (48 : Int) + ((n % 10 : Nat) : Int) = ((48 + n % 10 : Nat) : Int) by omega, wrap_u8n (n := ((48 + n % 10 : Nat) : Int)) (by omega) (by omega), wrap_i32n (by omega) (by omega)]
      simp only [bothW_ok, conv21 _ (n % 10) (by omega), fa_24_2, pureW_some, Nat.zero_add]
      refine r3'.store f3 (by omega) (st_9 _ _ _) rfl (by simp [Nm.cells]) rfl fun A4 r4 k4 n4 f4 => ?_
      have r4 : Go.Abs.Row1 A4 A'.next (ptOf x n).x.cells 24 := r4
      have K4 : Keeps A' A4 [] := (k2.trans k3 (by simp)).trans k4 (by simp)
      have rg4 := rg.keeps K4 (by simp)
      have rg4e : Go.Abs.Row1 A4 r3 [.int .u32 (x.f : Int), .string x.g, .string x.b, .int .u8 1, .bool false, pv, .int .u32 0, .int .u32 0] 50 := rg4
      have hx4 : loadP Tryz.prog A4 24 (.pointer (some ⟨A'.next, 0, none⟩)) = some (.agg ⟨(ptOf x n).x.cells⟩) := ld_name (pre := []) (post := []) (by simpa using r4)
      have hb4 : buildA Tryz.prog 135 [(0, .int .u8 (n : Int)), (1, .agg ⟨(ptOf x n).x.cells⟩)] = some (.agg ⟨(ptOf x n).cells⟩) := ba135 n _
      simp only [fa_50_3, ld_48, cell_row rg4e.row, cellOf, isT_string, isT_int, isT_bool, hone.noT, cond_false, Nat.zero_add, pureW_some, hx4, hb4]
      refine newPt f4 (by omega) fun A5 m5 => ?_
      have n5 := m5.next
      have k5 := m5.keeps f4
      have K5 : Keeps A' A5 [] := K4.trans k5 (by simp)
      refine OwnF.append etP (hp.keeps K5 (by simp)) m5.row1 m5.fine (by omega) (by rw [List.length_map, List.length_take]; omega) fun pv6 A6 F6 o6 k6 hF6 n6 f6 => ?_
      have h6 := ownF_one o6
      have hFr : ∀ {y : Nat}, y ≤ r3 → y ∉ F := fun hy h => by have := hF _ h; omega
      refine ((rg4.keeps k5 (by simp)).keeps k6 (hFr (Nat.le_refl _))).store f6 (by omega) (st_48 _ _ _) (by obtain ⟨_, _, _, rfl⟩ := h6; rfl) (by simp [GV.cells]) (by obtain ⟨_, _, _, rfl⟩ := h6; rfl) fun A7 r7 k7 n7 f7 => ?_
      have r7 : Go.Abs.Row1 A7 r3 (GV.mk x 1 pv6 0 0).cells 50 := by obtain ⟨_, _, _, rfl⟩ := h6; exact r7
      rw [wrap_i64 (n := (i : Int) + 1) (by omega) (by omega)]
      have hF6' : ∀ y ∈ F6, r3 < y := fun y hy => by
        rcases hF6 y hy with h | h
        · exact hF y h
        · omega
      refine cutW_self.2 ⟨ns.length - (i + 1), by omega, rfl, i + 1, r3, pv6, F6, cs, rfl, by omega, hr3, ((rx.keeps K5 (by simp)).keeps k6 (hFr (by omega))).keeps k7 (by simp; omega), ((ro.keeps K5 (by simp)).keeps k6 (hFr (by omega))).keeps k7 (by simp; omega), hcs, r7, ?_, hF6', f7, ((KA.trans K5 (by simp)).trans k6 (fun y hy => .inr (by have := hF y hy; omega))).trans k7 (by simp; omega), by omega, rfl⟩
      rw [List.take_add_one, hni, List.map_append]
      exact o6.keeps k7 (fun y hy => by have := hF6' y hy; simp; omega)
    · have hia : i = ns.length := by omega
      subst hia
      rw [List.take_length] at hp
      simp only [ld_g rg hone, pureW_some]
      have hpn : ∀ p ∈ ns.map (ptOf x), p.n < 256 := fun p hp => by
        obtain ⟨n, hn, rfl⟩ := List.mem_map.1 hp
        exact hb n hn
      have hlen : (ns.map (ptOf x)).length = ns.length := by rw [List.length_map]
      refine wc81 (g := ⟨x, 1, pv, 0, 0⟩) hp (by omega) hpn (.inl rfl) (by simp) (by simp) fA (by omega) fun A2 g2 => ?_
      have n2 := g2.next
      have l2 := g2.le
      have ro2 := ro.keeps g2.keeps (by simp)
      have rg2 := rg.keeps g2.keeps (by simp)
      cases hok : okD x (ns.map (ptOf x)) with
      | false =>
        simp only [hok, Bool.false_eq_true, if_false, bin_neq, pureW_some, ba50_0]
        refine forkW_bne.2 ⟨fun _ => ?_, fun h => by cases h⟩
        refine st_g (g := ⟨⟨0, ⟨⟨[]⟩⟩, ⟨⟨[]⟩⟩⟩, 0, .slice none 0 0, 0, 0⟩) ro2 hcs ⟨_, _, _, rfl⟩ g2.fine (by omega) fun A3 r3 k3 n3 f3 => ?_
        simp only [ld_g r3 ⟨_, _, _, rfl⟩, pureW_some]
        exact hk A3 _ 2 (.inr ⟨hok, rfl, _, rfl, ⟨_, _, _, rfl⟩⟩) ⟨(KA.trans g2.keeps (by simp)).trans k3 (by simp), f3, by omega⟩
      | true =>
        simp only [hok, if_true, bin_neq, pureW_some]
        refine forkW_bne.2 ⟨fun h => absurd rfl h, fun _ => ?_⟩
        simp only [ld_g rg2 hone, pureW_some]
        refine st_g (g := ⟨x, 1, pv, 0, 0⟩) ro2 hcs hone g2.fine (by omega) fun A3 r3 k3 n3 f3 => ?_
        simp only [ld_g r3 hone, pureW_some]
        exact hk A3 _ 0 (.inl ⟨hok, rfl, pv, F, rfl, (hp.keeps g2.keeps (by simp)).keeps k3 (fun y hy => by have := hF y hy; simp; omega), fun y hy => by have := hF y hy; omega⟩) ⟨(KA.trans g2.keeps (by simp)).trans k3 (by simp), f3, by omega⟩
  · rw [e42]
    refine newP_made (cs := x.cells) hf (by omega) rfl fun A1 m1 => ?_
    have n1 := m1.next
    refine allocP_made zero50 m1.fine (by omega) rfl fun A2 m2 => ?_
    have n2 := m2.next
    have g2 := (Grow.made m1 hf).trans (.made m2 m1.fine)
    have r1 : Go.Abs.Row1 A2 A.next x.cells 24 := (m1.row1).keeps (m2.keeps m1.fine) (by simp)
    have r2 := m2.row1
    rw [n1] at r2
    have hx2 : loadP Tryz.prog A2 24 (.pointer (some ⟨A.next, 0, none⟩)) = some (.agg ⟨x.cells⟩) := ld_name (pre := []) (post := []) (by simpa using r1)
    simp only [hx2, pureW_some]
    refine wc97 m2.fine (by omega) fun A3 g3 => ?_
    have n3 := g3.next
    have l3 := g3.le
    have r13 := r1.keeps g3.keeps (by simp)
    have r13e : Go.Abs.Row1 A3 A.next [.int .u32 (x.f : Int), .string x.g, .string ⟨⟨[]⟩⟩] 24 := by rw [← hxb]; exact r13
    have hx3 : loadP Tryz.prog A3 24 (.pointer (some ⟨A.next, 0, none⟩)) = some (.agg ⟨x.cells⟩) := ld_name (pre := []) (post := []) (by simpa using r13)
    rw [if_pos hx]
    simp only [bin_neq, pureW_some]
    refine forkW_bne.2 ⟨fun h => absurd rfl h, fun _ => ?_⟩
    simp only [fa_24_2, ld_9, cell_row r13e.row, cellOf, isT_string, cond_false, Nat.zero_add, pureW_some, bin_strneq, hx3, ba50]
    refine forkW_bool.2 ⟨fun h => by simp at h, fun _ => ?_⟩
    refine allocP_made zero50 g3.fine (by omega) rfl fun A4 m4 => ?_
    have n4 := m4.next
    have k4 := m4.keeps g3.fine
    refine st_g (g := ⟨x, 1, .slice none 0 0, 0, 0⟩) m4.row1 rfl ⟨_, _, _, rfl⟩ m4.fine (by omega) fun A5 r5 k5 n5 f5 => ?_
    have K5 : Keeps A3 A5 [] := k4.trans k5 (by simp)
    have hlen := etB.lenR (B := A5) hn
    simp only [hlen, pureW_some, n1]
    exact cutW_self.2 ⟨ns.length, rfl, 0, A3.next, .slice none 0 0, [], _, rfl, by omega, by omega, r13.keeps K5 (by simp), (r2.keeps g3.keeps (by simp)).keeps K5 (by simp), rfl, r5, OwnF.nil _, by simp, f5, (g2.keeps.trans g3.keeps (by simp)).trans K5 (by simp), by omega, rfl⟩
end
theorem dyn167 (A : AW) (l : Nat) (a : Addr) : dynA Tryz.prog theX A (.func (.func 167) ⟨[]⟩ ⟨[.pointer (some a)]⟩) [.func (.yield l) #[] #[]] = .ok (.enter 167 [.func (.yield l) #[] #[], .pointer (some a)]) A := by kernel_rfl
theorem ex_pair0 (a b : Value) : extractP (.tuple #[a, b]) 0 = some a := rfl
theorem ex_tri0 (a b c : Value) : extractP (.tuple #[a, b, c]) 0 = some a := rfl
theorem ex_one0 (a : Value) : extractP (.tuple #[a]) 0 = some a := rfl
theorem nodup_len {γ : Type} : ∀ {a b : List γ}, a.Nodup → (∀ x ∈ a, x ∈ b) → a.length ≤ b.length
  | [], _, _, _ => Nat.zero_le _
  | x :: a, b, hn, hs => by
    obtain ⟨s, t, rfl⟩ := List.append_of_mem (hs x List.mem_cons_self)
    rw [List.nodup_cons] at hn
    have := nodup_len (a := a) (b := s ++ t) hn.2 fun y hy => by
      have hne : y ≠ x := fun e => hn.1 (e ▸ hy)
      rcases List.mem_append.1 (hs y (List.mem_cons_of_mem _ hy)) with h | h
      · exact List.mem_append_left _ h
      · rcases List.mem_cons.1 h with h | h
        · exact absurd h hne
        · exact List.mem_append_right _ h
    simp only [List.length_append, List.length_cons] at *
    omega
theorem newNm1 {A : AW} {p : Nm} {K : Value → AW → Prop} (hf : Fine A) (h : A.next < maxId) (hk : ∀ A', Made A A' p.cells 24 → K (.slice (some ⟨A.next, 0, none⟩) 1 1) A') : bothW (buildSliceA Tryz.prog A 34 1 [(0, .agg ⟨p.cells⟩)]) K :=
  bs_made (cs := p.cells) (e := 24) (n := 1) (by kernel_rfl) rfl hf h hk
theorem load24 {A : AW} {q : Nat} {p : Nm} {e : TypeId} (h : Go.Abs.Row1 A q p.cells e) : loadP Tryz.prog A 24 (.pointer (some ⟨q, 0, none⟩)) = some (.agg ⟨p.cells⟩) := ld_name (pre := []) (post := []) (by simpa using h)
theorem putNm {A : AW} {p : Nm} {q : Nat} {cs : List Value} {e : TypeId} {K : AW → Prop} (h : Go.Abs.Row1 A q cs e) (hl : cs.length = 3) (hf : Fine A) (hb : A.next ≤ maxId) (hk : ∀ A', Go.Abs.Row1 A' q p.cells e → Keeps A A' [q] → A'.next = A.next → Fine A' → K A') :
    effW (storeP Tryz.prog A 24 (.pointer (some ⟨q, 0, none⟩)) (.agg ⟨p.cells⟩)) K := by
  refine h.store hf hb (st_24 _ _ _) rfl (by omega) rfl fun A' h1 k1 n1 f1 => hk A' ?_ k1 n1 f1
  match cs, hl with
  | [_, _, _], _ => exact h1
theorem tm223 (q b : Nat) (v : Value) : (setAll (setsT ⟨13, .nil⟩ [(0, .slice none 0 0), (1, .func (.func 167) ⟨[]⟩ ⟨[.pointer (some ⟨q, 0, none⟩)]⟩), (2, .pointer (some ⟨b, 0, none⟩)), (4, .slice none 0 0), (6, .func (.func 167) ⟨[]⟩ ⟨[.pointer (some ⟨q, 0, none⟩)]⟩)]) [(7, v)]).sz = 13 ∧
    (setAll (setsT ⟨13, .nil⟩ [(0, .slice none 0 0), (1, .func (.func 167) ⟨[]⟩ ⟨[.pointer (some ⟨q, 0, none⟩)]⟩), (2, .pointer (some ⟨b, 0, none⟩)), (4, .slice none 0 0), (6, .func (.func 167) ⟨[]⟩ ⟨[.pointer (some ⟨q, 0, none⟩)]⟩)]) [(7, v)]).get 2 = .pointer (some ⟨b, 0, none⟩) ∧
    (setAll (setsT ⟨13, .nil⟩ [(0, .slice none 0 0), (1, .func (.func 167) ⟨[]⟩ ⟨[.pointer (some ⟨q, 0, none⟩)]⟩), (2, .pointer (some ⟨b, 0, none⟩)), (4, .slice none 0 0), (6, .func (.func 167) ⟨[]⟩ ⟨[.pointer (some ⟨q, 0, none⟩)]⟩)]) [(7, v)]).get 7 = v := ⟨by kernel_rfl, by kernel_rfl, by kernel_rfl⟩
section
variable {W0 : World} {m0 : Inj Tryz.prog} {β : Type} {ve : β → Value}
abbrev loopC (tm : Tm) (D : Nat) (ac bd : Code) : ALoop := { state := .ready, pending := none, fn := 223, tm := tm, params := [7], assign := ac, body := bd, defers := D }
theorem wc167 {A : AW} {q r b l c D : Nat} {es : List (En Nm β)} {tm : Tm} {ac bd : Code} {K : Value → AW → Prop} (has : ac = cd 223 [1, 0, 1, 0, 0]) (hbd : bd = cd 223 [1, 0, 1, 0, 1]) (hq : Go.Abs.Row1 A q [.map (some r)] 75) (hm : OwnM kN ve A r es c) (hb : Go.Abs.Row1 A b [.slice none 0 0] 34) (hl : LoopR A l (loopC tm D ac bd)) (hbl : b ≠ l) (hqb : q ≠ b) (hql : q ≠ l) (hrb : r ≠ b) (hrl : r ≠ l)
    (ht : ∀ v, (setAll tm [(7, v)]).sz = 13 ∧ (setAll tm [(7, v)]).get 2 = .pointer (some ⟨b, 0, none⟩) ∧ (setAll tm [(7, v)]).get 7 = v) (hf : Fine A) (hes : es.length < 100000) (hA : A.next + 20 + 6 * es.length < maxId)
    (hk : ∀ A' sv F (vs : List (En Nm β)), Go.Abs.Row1 A' b [sv] 34 → LoopR A' l (loopC tm D ac bd) → OwnE 24 2 Nm.cells A' sv (vs.map En.k) F → vs.Perm es → (∀ x ∈ F, A.next < x) → Keeps A A' [b, l] → A'.next ≤ A.next + 1 + 6 * es.length → Fine A' → K (.tuple ⟨[]⟩) A') :
    Wc Tryz.prog theX W0 m0 167 [.func (.yield l) #[] #[], .pointer (some ⟨q, 0, none⟩)] A K := by
  have hblt := hb.lt
  have hllt := hl.lt
  have hqlt := hq.lt
  have hrlt := hm.ltA
  let I : Nat → Nat → List Value → AW → Prop := fun g id vals A' => id = 0 ∧ ∃ (sv : Value) (F : List Nat) (vs : List (En Nm β)), vals = [.func (.yield l) #[] #[], .pointer (some ⟨A.next, 0, none⟩)] ∧ Iter A' A.next r c vs ∧ OwnM kN ve A' r es c ∧ Go.Abs.Row1 A' b [sv] 34 ∧ LoopR A' l (loopC tm D ac bd) ∧
    OwnE 24 2 Nm.cells A' sv (vs.map En.k) F ∧ (∀ e ∈ vs, e ∈ es) ∧ (vs.map En.b).Nodup ∧ (∀ x ∈ F, A.next < x) ∧ Keeps A A' [b, l] ∧ Fine A' ∧ A'.next ≤ A.next + 1 + 6 * vs.length ∧ g = es.length - vs.length
  refine w167 _ _ _ (c167 (I := I) ?_) ?_
  · rintro g id vals A' d ⟨rfl, sv, F, vs, rfl, hit, hm', hb', hl', ho, hvs, hnd, hF, k, f, nx, rfl⟩ hd
    rw [l167_0]
    simp only [L167, List.map_cons, List.map_nil, List.cons.injEq, and_true] at hd
    obtain ⟨d0, d5⟩ := hd
    rw [d0, d5]
    have hlen := nodup_len (nodup_of _ hnd) hvs
    refine hm'.next hit hvs f (by omega) (fun e A2 he hnv it2 k2 n2 f2 => ?_) fun hall => ?_
    · have hm2 := hm'.keeps k2 (by simp; omega)
      have hb2 := hb'.keeps k2 (by simp; omega)
      have hl2 := hl'.keeps k2 (by simp; omega)
      have ho2 := ho.keeps k2 (fun x hx => by have := hF x hx; simp; omega)
      have K2 : Keeps A A2 [b, l] := k.trans k2 (by simp)
      have hvs2 : ∀ x ∈ vs ++ [e], x ∈ es := fun x hx => by
        rcases List.mem_append.1 hx with h | h
        · exact hvs x h
        · rw [List.mem_singleton.1 h]; exact he
      have hnd2 : ((vs ++ [e]).map En.b).Nodup := by
        rw [List.map_append, List.nodup_append]
        refine ⟨hnd, by simp, fun x hx y hy hxy => hnv ?_⟩
        obtain ⟨z, hz, rfl⟩ := List.mem_map.1 hx
        obtain rfl : y = e.b := by simpa using hy
        rw [← inj_b hm.nb (hvs z hz) he hxy]
        exact hz
      have hlen2 := nodup_len (nodup_of _ hnd2) hvs2
      have hl1 : (vs ++ [e]).length = vs.length + 1 := by simp
      have hle := K2.next
      simp only [ex_tri0, pureW_some]
      refine forkW_bool.2 ⟨fun _ => ?_, fun h => by cases h⟩
      refine hm2.entry it2 he ?_
      simp only [ex_pair0, pureW_some]
      refine allocP_made zero24 f2 (by omega) rfl fun A3 m3 => ?_
      have n3 := m3.next
      have k3 := m3.keeps f2
      refine putNm (p := e.k) m3.row1 rfl m3.fine (by omega) fun A4 h4 k4 n4 f4 => ?_
      have K24 : Keeps A2 A4 [] := k3.trans k4 (by simp)
      simp only [load24 h4, pureW_some]
      have hb4 := hb2.keeps K24 (by simp)
      have hl4 := hl2.keeps K24 (by simp)
      have hm4 := hm2.keeps K24 (by simp)
      have it4 := it2.keeps K24 (by simp)
      have ho4 := ho2.keeps K24 (by simp)
      obtain ⟨t1, t2, t3⟩ := ht (kN e.k)
      refine yield_round hl4 rfl (round_of (T := T223) (L := L223) (N := 4000) gX gP gPlain (by decide) t1 ?_)
      rw [has, hbd, r223_0]
      have t2 : (setAll tm (List.zip [7] [kN e.k])).get 2 = .pointer (some ⟨b, 0, none⟩) := t2
      have t3 : (setAll tm (List.zip [7] [kN e.k])).get 7 = .agg ⟨e.k.cells⟩ := t3
      refine allocP_made zero24 f4 (by omega) rfl fun A5 m5 => ?_
      have n5 := m5.next
      have k5 := m5.keeps f4
      have t3' : (setAll tm (List.zip [7] [Value.agg ⟨e.k.cells⟩])).get 7 = .agg ⟨e.k.cells⟩ := t3
      have t2' : (setAll tm (List.zip [7] [Value.agg ⟨e.k.cells⟩])).get 2 = .pointer (some ⟨b, 0, none⟩) := t2
      simp only [t3']
      refine putNm (p := e.k) m5.row1 rfl m5.fine (by omega) fun A6 h6 k6 n6 f6 => ?_
      have K46 : Keeps A4 A6 [] := k5.trans k6 (by simp)
      refine beginW_made (hl4.keeps K46 (by simp)) rfl f6 (by omega) fun A7 hl7 k7 n7 f7 => ?_
      have hb7 := (hb4.keeps K46 (by simp)).keeps k7 (by simp; omega)
      have ho7 := (ho4.keeps K46 (by simp)).keeps k7 (fun x hx => by have := hF x hx; simp; omega)
      have h7 := h6.keeps k7 (by simp; omega)
      have one7 := ho7.one
      simp only [t2', ld_34, cell_row hb7.row, cellOf, one7.2, cond_false, load24 h7, pureW_some]
      refine newNm1 f7 (by omega) fun A8 m8 => ?_
      have n8 := m8.next
      have k8 := m8.keeps f7
      refine OwnE.append etN (ho7.keeps k8 (by simp)) m8.row1 m8.fine (by omega) (by rw [List.length_map]; omega) fun sv5 A9 F5 ho9 k9 hF9 n9 f9 => ?_
      have hb9 := (hb7.keeps k8 (by simp)).keeps k9 (fun hm => by have := hF _ hm; omega)
      have hl9 := (hl7.keeps k8 (by simp)).keeps k9 (fun hm => by have := hF _ hm; omega)
      have hm9 := (((hm4.keeps K46 (by simp)).keeps k7 (by simp; omega)).keeps k8 (by simp)).keeps k9 (fun hm => by have := hF _ hm; omega)
      have hit9 := (((it4.keeps K46 (by simp)).keeps k7 (by simp; omega)).keeps k8 (by simp)).keeps k9 (fun hm => by have := hF _ hm; omega)
      have hF9' : ∀ x ∈ F5, A.next < x := fun x hx => by
        rcases hF9 x hx with h | h
        · exact hF x h
        · omega
      obtain ⟨o5, hx5⟩ : ∃ o n c, sv5 = .slice o n c := by
        rcases ho9 with ⟨rfl, _⟩ | ⟨_, _, rfl, _⟩
        · exact ⟨_, _, _, rfl⟩
        · exact ⟨_, _, _, rfl⟩
      refine hb9.store f9 (by omega) (st_34 _ _ _) (by obtain ⟨n, c, rfl⟩ := hx5; rfl) (by simp) (by obtain ⟨n, c, rfl⟩ := hx5; rfl) fun A10 hb10 k10 n10 f10 => ?_
      have hb10 : Go.Abs.Row1 A10 b [sv5] 34 := by obtain ⟨n, c, rfl⟩ := hx5; exact hb10
      refine leaveW_made (hl9.keeps k10 (by simp; omega)) f10 (by omega) fun A11 hl11 k11 n11 f11 => ?_
      have hl11 : LoopR A11 l (loopC tm D ac bd) := hl11
      simp only [un_not, pureW_some]
      refine forkW_bool.2 ⟨fun h => (by cases h), fun _ => ?_⟩
      refine cutW_self.2 ⟨es.length - (vs.length + 1), by omega, rfl, sv5, F5, vs ++ [e], rfl, (hit9.keeps k10 (by simp; omega)).keeps k11 (by simp; omega), (hm9.keeps k10 (by simp; omega)).keeps k11 (by simp; omega), hb10.keeps k11 (by simp; omega), hl11, ?_, hvs2, hnd2, hF9', ?_, f11, by omega, by omega⟩
      · rw [List.map_append]
        exact (ho9.keeps k10 (fun x hx => by have := hF9' x hx; simp; omega)).keeps k11 (fun x hx => by have := hF9' x hx; simp; omega)
      · exact ((((((K2.trans K24 (by simp)).trans K46 (by simp)).trans k7 (by simp)).trans k8 (by simp)).trans k9 (fun x hx => .inr (by have := hF x hx; omega))).trans k10 (by simp)).trans k11 (by simp)
    · simp only [ex_one0, pureW_some]
      refine forkW_bool.2 ⟨fun h => (by cases h), fun _ => ?_⟩
      exact hk A' sv F vs hb' hl' ho (told_all hm.nb hnd hvs hall) hF k (by omega) f
  · rw [e167]
    simp only [ld_75, cell_row hq.row, cellOf, isT_map, cond_false, pureW_some]
    refine hm.range mtG hf (by omega) fun A1 hit k1 n1 f1 => ?_
    exact cutW_self.2 ⟨es.length, rfl, .slice none 0 0, [], [], rfl, hit, hm.keeps k1 (by simp), hb.keeps k1 (by simp), hl.keeps k1 (by simp), .nil _, by simp, by simp, by simp, k1.more (by simp), f1, by simp; omega, rfl⟩
theorem wc223 {A : AW} {q r c : Nat} {es : List (En Nm β)} {K : Value → AW → Prop} (hq : Go.Abs.Row1 A q [.map (some r)] 75) (hm : OwnM kN ve A r es c) (hf : Fine A) (hes : es.length < 100000) (hA : A.next + 40 + 6 * es.length < maxId)
    (hk : ∀ A' sv F (vs : List (En Nm β)), OwnE 24 2 Nm.cells A' sv (vs.map En.k) F → vs.Perm es → (∀ x ∈ F, A.next ≤ x) → Keeps A A' [] → A'.next ≤ A.next + 20 + 6 * es.length → Fine A' → K sv A') :
    Wc Tryz.prog theX W0 m0 223 [.slice none 0 0, .func (.func 167) ⟨[]⟩ ⟨[.pointer (some ⟨q, 0, none⟩)]⟩] A K := by
  have hqlt := hq.lt
  have hrlt := hm.ltA
  refine w223 _ _ _ (cuts_none (S := fun _ _ _ => False) fun _ _ _ h => h) ?_
  rw [e223]
  refine newP_made (cs := [.slice none 0 0]) hf (by omega) rfl fun A1 m1 => ?_
  have n1 := m1.next
  have k1 := m1.keeps hf
  refine loopW_made m1.fine (by omega) fun A2 hD hl k2 n2 f2 => ?_
  have K2 : Keeps A A2 [] := k1.trans k2 (by simp)
  refine ⟨167, _, A2, dyn167 A2 _ ⟨q, 0, none⟩, wc167 rfl rfl (hq.keeps K2 (by simp)) (hm.keeps K2 (by simp)) (m1.row1.keeps k2 (by simp)) hl (by omega) (by omega) (by omega) (by omega) (by omega) (fun v => tm223 q _ v) f2 hes (by omega) fun A3 sv F vs hb3 hl3 ho3 hp hF k3 n3 f3 => ?_⟩
  refine endLoopW_made hl3 (show LoopState.ready ≠ LoopState.busy from fun h => by cases h) rfl f3 (by omega) fun A4 k4 n4 f4 => ?_
  have hb4 := hb3.keeps k4 (by simp; omega)
  have ho4 := ho3.keeps k4 (fun x hx => by have := hF x hx; simp; omega)
  have one4 := ho4.one
  simp only [ld_34, cell_row hb4.row, cellOf, one4.2, cond_false, pureW_some]
  refine takeDs_one ((hD.keeps k3 (by simp; omega)).keeps k4 (by simp)) f4 (by omega) fun A5 k5 n5 f5 => ?_
  refine hk A5 sv F vs (ho4.keeps k5 (fun x hx => by have := hF x hx; simp; omega)) hp (fun x hx => by have := hF x hx; omega) ?_ (by omega) f5
  exact ((K2.trans k3 (by simp; omega)).trans k4 (by simp; omega)).trans k5 (by simp; omega)
end
theorem conv3 (A : AW) (n : Int) : convertA Tryz.prog A 3 140 (.int .i64 n) = .ok (.int .u64 (IntKind.u64.wrap n)) A := by kernel_rfl
theorem conv3l (A : AW) (n : Nat) (h : n < 100) : convertA Tryz.prog A 3 140 (.int .i64 (n : Int)) = .ok (.int .u64 (n : Int)) A := by
  rw [conv3]
  have : IntKind.u64.wrap (n : Int) = (n : Int) % 18446744073709551616 := by simp [IntKind.wrap, IntKind.bits, IntKind.signed]
  rw [this]
  congr 2
  omega
section
variable {W0 : World} {m0 : Inj Tryz.prog}
theorem wc177_1 {A : AW} {K : Value → AW → Prop} (hk : K (.int .i64 1) A) : Wc Tryz.prog theX W0 m0 177 [.int .u64 1] A K :=
  ⟨by kernel_rfl, wp_run (mg := []) (kn := fun _ => []) (n := 300) gX gP (by kernel_rfl) hk⟩
theorem wc177_8 {A : AW} {K : Value → AW → Prop} (hk : K (.int .i64 4) A) : Wc Tryz.prog theX W0 m0 177 [.int .u64 8] A K :=
  ⟨by kernel_rfl, wp_run (mg := []) (kn := fun _ => []) (n := 300) gX gP (by kernel_rfl) hk⟩
theorem wc166 {A : AW} {v : Value} {x : Nm} {F : List Nat} {K : Value → AW → Prop} (hv : RdE 2 Nm.cells A v [x] F) (hk : K (.tuple ⟨[]⟩) A) : Wc Tryz.prog theX W0 m0 166 [v, .func (.func 95) #[] #[]] A K := by
  refine w166 _ _ _ cutn ?_
  rw [e166]
  have hlen := hv.len (B := A) etN
  simp only [hlen, pureW_some, List.length_cons, List.length_nil, Nat.zero_add, conv3l A 1 (by decide), bothW_ok]
  refine wc177_1 ?_
  let I : Nat → Nat → List Value → AW → Prop := fun g id vals A' => id = 0 ∧ vals = [v, .int .i64 0, .int .i64 ((1 : Nat) : Int), .int .i64 1, .func (.func 95) #[] #[], .bool true, .bool true] ∧ A' = A ∧ g = 0
  refine w224 _ _ _ _ _ _ (c224 (I := I) ?_) ?_
  · rintro g id vals A' d ⟨rfl, rfl, rfl, rfl⟩ hd
    rw [l224_0]
    have hd : [d 0, d 1, d 2, d 3, d 4, d 10, d 11] = _ := hd
    simp only [List.cons.injEq, and_true] at hd
    obtain ⟨d0, d1, d2, d3, d4, d10, d11⟩ := hd
    rw [d0, d1, d2, d4, bin_sub]
    refine pureW_some.2 ?_
    rw [bin_leq]
    refine pureW_some.2 (forkW_bool.2 ⟨fun _ => ?_, fun h => absurd h (by decide)⟩)
    let J : Nat → Nat → List Value → AW → Prop := fun g id vals A2 => id = 0 ∧ vals = [v, .int .i64 0, .int .i64 ((1 : Nat) : Int), .func (.func 95) #[] #[], .int .i64 1] ∧ A2 = A' ∧ g = 0
    refine w264 _ _ _ _ _ (c264 (I := J) ?_) ?_
    · rintro g id vals A2 d ⟨rfl, rfl, rfl, rfl⟩ hd
      rw [l264_0]
      simp only [L264, List.map_cons, List.map_nil, List.cons.injEq, and_true] at hd
      obtain ⟨d0, d1, d2, d3, d8⟩ := hd
      simp only [d0, d1, d2, d3, d8, bin_lss, pureW_some]
      exact forkW_bool.2 ⟨fun h => absurd h (by decide), fun _ => hk⟩
    · rw [e264]
      simp only [bin_add, pureW_some]
      exact cutW_self.2 ⟨0, rfl, rfl, rfl, rfl⟩
  · rw [e224]
    exact cutW_self.2 ⟨0, rfl, rfl, rfl, rfl⟩
theorem wc38 {A : AW} {c lg dk rm am sr cl : Nat} {out : Value} {e : En Nm GV} {K : Value → AW → Prop} (hc : CR A c lg dk rm am sr out) (hm : OwnM kN vG A rm [e] cl) (hf : Fine A) (hA : A.next + 60 < maxId)
    (hk : ∀ A' sv F, RdE 2 Nm.cells A' sv [e.k] F → (∀ x ∈ F, A.next ≤ x) → Keeps A A' [] → A'.next ≤ A.next + 40 → Fine A' → K sv A') : Wc Tryz.prog theX W0 m0 38 [.pointer (some ⟨c, 0, none⟩)] A K := by
  refine w38 _ _ cutn ?_
  rw [e38]
  simp only [nilP_some, pureW_some, fa_79_3, ld_75, cell_row hc.row, cellOf, isT_ptr, isT_int, isT_map, cond_false, Nat.zero_add]
  refine w94 _ _ cutn ?_
  rw [e94]
  refine newP_made (cs := [_]) hf (by omega) rfl fun A1 m1 => ?_
  have n1 := m1.next
  have k1 := m1.keeps hf
  refine w93 _ _ _ cutn ?_
  rw [e93]
  refine w165 _ _ cutn ?_
  rw [e165]
  refine wc223 m1.row1 (hm.keeps k1 (by simp)) m1.fine (by simp) (by simp; omega) fun A2 sv F vs ho hp hF k2 n2 f2 => ?_
  have hvs := List.perm_singleton.1 hp
  subst hvs
  have hrd : RdE 2 Nm.cells A2 sv [e.k] F := OwnE.rd (fun _ => rfl) ho
  refine wc166 hrd ?_
  exact hk A2 sv F hrd (fun x hx => by have := hF x hx; omega) (k1.trans k2 (by simp)) (by simp at n2; omega) f2
end
theorem dyn101 (A : AW) (l : Nat) (a : Addr) : dynA Tryz.prog theX A (.func (.func 101) ⟨[]⟩ ⟨[.pointer (some a)]⟩) [.func (.yield l) #[] #[]] = .ok (.enter 101 [.func (.yield l) #[] #[], .pointer (some a)]) A := by kernel_rfl
theorem newU1 {A : AW} {n : Nat} {K : Value → AW → Prop} (hf : Fine A) (h : A.next < maxId) (hk : ∀ A', Made A A' (bC n) 5 → K (.slice (some ⟨A.next, 0, none⟩) 1 1) A') : bothW (buildSliceA Tryz.prog A 52 1 [(0, kU n)]) K :=
  bs_made (cs := bC n) (e := 5) (n := 1) (by kernel_rfl) rfl hf h hk
theorem tm175 (q b : Nat) (v : Value) : (setAll (setsT ⟨13, .nil⟩ [(0, .slice none 0 0), (1, .func (.func 101) ⟨[]⟩ ⟨[.pointer (some ⟨q, 0, none⟩)]⟩), (2, .pointer (some ⟨b, 0, none⟩)), (4, .slice none 0 0), (6, .func (.func 101) ⟨[]⟩ ⟨[.pointer (some ⟨q, 0, none⟩)]⟩)]) [(7, v)]).sz = 13 ∧
    (setAll (setsT ⟨13, .nil⟩ [(0, .slice none 0 0), (1, .func (.func 101) ⟨[]⟩ ⟨[.pointer (some ⟨q, 0, none⟩)]⟩), (2, .pointer (some ⟨b, 0, none⟩)), (4, .slice none 0 0), (6, .func (.func 101) ⟨[]⟩ ⟨[.pointer (some ⟨q, 0, none⟩)]⟩)]) [(7, v)]).get 2 = .pointer (some ⟨b, 0, none⟩) ∧
    (setAll (setsT ⟨13, .nil⟩ [(0, .slice none 0 0), (1, .func (.func 101) ⟨[]⟩ ⟨[.pointer (some ⟨q, 0, none⟩)]⟩), (2, .pointer (some ⟨b, 0, none⟩)), (4, .slice none 0 0), (6, .func (.func 101) ⟨[]⟩ ⟨[.pointer (some ⟨q, 0, none⟩)]⟩)]) [(7, v)]).get 7 = v := ⟨by kernel_rfl, by kernel_rfl, by kernel_rfl⟩
section
variable {W0 : World} {m0 : Inj Tryz.prog}
abbrev loopU (tm : Tm) (D : Nat) (ac bd : Code) : ALoop := { state := .ready, pending := none, fn := 175, tm := tm, params := [7], assign := ac, body := bd, defers := D }
theorem wc101 {A : AW} {q r b l c D : Nat} {es : List (En Nat Int)} {tm : Tm} {ac bd : Code} {K : Value → AW → Prop} (has : ac = cd 175 [1, 0, 1, 0, 0]) (hbd : bd = cd 175 [1, 0, 1, 0, 1]) (hq : Go.Abs.Row1 A q [.map (some r)] 77) (hm : OwnM kU vI A r es c) (hb : Go.Abs.Row1 A b [.slice none 0 0] 52) (hl : LoopR A l (loopU tm D ac bd)) (hbl : b ≠ l) (hqb : q ≠ b) (hql : q ≠ l) (hrb : r ≠ b) (hrl : r ≠ l)
    (ht : ∀ v, (setAll tm [(7, v)]).sz = 13 ∧ (setAll tm [(7, v)]).get 2 = .pointer (some ⟨b, 0, none⟩) ∧ (setAll tm [(7, v)]).get 7 = v) (hf : Fine A) (hes : es.length < 100000) (hA : A.next + 20 + 6 * es.length < maxId)
    (hk : ∀ A' sv F (vs : List (En Nat Int)), Go.Abs.Row1 A' b [sv] 52 → LoopR A' l (loopU tm D ac bd) → OwnE 5 0 bC A' sv (vs.map En.k) F → vs.Perm es → (∀ x ∈ F, A.next < x) → Keeps A A' [b, l] → A'.next ≤ A.next + 1 + 6 * es.length → Fine A' → K (.tuple ⟨[]⟩) A') :
    Wc Tryz.prog theX W0 m0 101 [.func (.yield l) #[] #[], .pointer (some ⟨q, 0, none⟩)] A K := by
  have hblt := hb.lt
  have hllt := hl.lt
  have hqlt := hq.lt
  have hrlt := hm.ltA
  let I : Nat → Nat → List Value → AW → Prop := fun g id vals A' => id = 0 ∧ ∃ (sv : Value) (F : List Nat) (vs : List (En Nat Int)), vals = [.func (.yield l) #[] #[], .pointer (some ⟨A.next, 0, none⟩)] ∧ Iter A' A.next r c vs ∧ OwnM kU vI A' r es c ∧ Go.Abs.Row1 A' b [sv] 52 ∧ LoopR A' l (loopU tm D ac bd) ∧
    OwnE 5 0 bC A' sv (vs.map En.k) F ∧ (∀ e ∈ vs, e ∈ es) ∧ (vs.map En.b).Nodup ∧ (∀ x ∈ F, A.next < x) ∧ Keeps A A' [b, l] ∧ Fine A' ∧ A'.next ≤ A.next + 1 + 6 * vs.length ∧ g = es.length - vs.length
  refine w101 _ _ _ (c101 (I := I) ?_) ?_
  · rintro g id vals A' d ⟨rfl, sv, F, vs, rfl, hit, hm', hb', hl', ho, hvs, hnd, hF, k, f, nx, rfl⟩ hd
    rw [l101_0]
    simp only [L101, List.map_cons, List.map_nil, List.cons.injEq, and_true] at hd
    obtain ⟨d0, d5⟩ := hd
    rw [d0, d5]
    have hlen := nodup_len (nodup_of _ hnd) hvs
    refine hm'.next hit hvs f (by omega) (fun e A2 he hnv it2 k2 n2 f2 => ?_) fun hall => ?_
    · have hm2 := hm'.keeps k2 (by simp; omega)
      have hb2 := hb'.keeps k2 (by simp; omega)
      have hl2 := hl'.keeps k2 (by simp; omega)
      have ho2 := ho.keeps k2 (fun x hx => by have := hF x hx; simp; omega)
      have K2 : Keeps A A2 [b, l] := k.trans k2 (by simp)
      have hvs2 : ∀ x ∈ vs ++ [e], x ∈ es := fun x hx => by
        rcases List.mem_append.1 hx with h | h
        · exact hvs x h
        · rw [List.mem_singleton.1 h]; exact he
      have hnd2 : ((vs ++ [e]).map En.b).Nodup := by
        rw [List.map_append, List.nodup_append]
        refine ⟨hnd, by simp, fun x hx y hy hxy => hnv ?_⟩
        obtain ⟨z, hz, rfl⟩ := List.mem_map.1 hx
        obtain rfl : y = e.b := by simpa using hy
        rw [← inj_b hm.nb (hvs z hz) he hxy]
        exact hz
      have hlen2 := nodup_len (nodup_of _ hnd2) hvs2
      have hl1 : (vs ++ [e]).length = vs.length + 1 := by simp
      have hle := K2.next
      simp only [ex_tri0, pureW_some]
      refine forkW_bool.2 ⟨fun _ => ?_, fun h => by cases h⟩
      refine hm2.entry it2 he ?_
      simp only [ex_pair0, pureW_some]
      obtain ⟨t1, t2, t3⟩ := ht (kU e.k)
      refine yield_round hl2 rfl (round_of (T := T175) (L := L175) (N := 4000) gX gP gPlain (by decide) t1 ?_)
      rw [has, hbd, r175_0]
      have t2 : (setAll tm (List.zip [7] [kU e.k])).get 2 = .pointer (some ⟨b, 0, none⟩) := t2
      have t3 : (setAll tm (List.zip [7] [kU e.k])).get 7 = kU e.k := t3
      simp only [t3]
      refine beginW_made hl2 rfl f2 (by omega) fun A7 hl7 k7 n7 f7 => ?_
      have hb7 := hb2.keeps k7 (by simp; omega)
      have ho7 := ho2.keeps k7 (fun x hx => by have := hF x hx; simp; omega)
      have one7 := ho7.one
      simp only [t2, ld_52, cell_row hb7.row, cellOf, one7.2, cond_false, pureW_some]
      refine newU1 f7 (by omega) fun A8 m8 => ?_
      have n8 := m8.next
      have k8 := m8.keeps f7
      refine ES.append etB (ho7.keeps k8 (by simp)) m8.row1 m8.fine (by omega) (by rw [List.length_map]; omega) fun sv5 A9 F5 ho9 k9 hF9 n9 f9 => ?_
      have hb9 := (hb7.keeps k8 (by simp)).keeps k9 (fun hm => by have := hF _ hm; omega)
      have hl9 := (hl7.keeps k8 (by simp)).keeps k9 (fun hm => by have := hF _ hm; omega)
      have hm9 := ((hm2.keeps k7 (by simp; omega)).keeps k8 (by simp)).keeps k9 (fun hm => by have := hF _ hm; omega)
      have hit9 := ((it2.keeps k7 (by simp; omega)).keeps k8 (by simp)).keeps k9 (fun hm => by have := hF _ hm; omega)
      have hF9' : ∀ x ∈ F5, A.next < x := fun x hx => by
        rcases hF9 x hx with h | h
        · exact hF x h
        · omega
      obtain ⟨o5, n5, c5, rfl⟩ := ownE_one ho9
      refine hb9.store f9 (by omega) (st_52 _ _ _) rfl (by simp) rfl fun A10 hb10 k10 n10 f10 => ?_
      have hb10 : Go.Abs.Row1 A10 b [.slice o5 n5 c5] 52 := hb10
      refine leaveW_made (hl9.keeps k10 (by simp; omega)) f10 (by omega) fun A11 hl11 k11 n11 f11 => ?_
      have hl11 : LoopR A11 l (loopU tm D ac bd) := hl11
      simp only [un_not, pureW_some]
      refine forkW_bool.2 ⟨fun h => (by cases h), fun _ => ?_⟩
      refine cutW_self.2 ⟨es.length - (vs.length + 1), by omega, rfl, _, F5, vs ++ [e], rfl, (hit9.keeps k10 (by simp; omega)).keeps k11 (by simp; omega), (hm9.keeps k10 (by simp; omega)).keeps k11 (by simp; omega), hb10.keeps k11 (by simp; omega), hl11, ?_, hvs2, hnd2, hF9', ?_, f11, by omega, by omega⟩
      · rw [List.map_append]
        exact (ho9.keeps k10 (fun x hx => by have := hF9' x hx; simp; omega)).keeps k11 (fun x hx => by have := hF9' x hx; simp; omega)
      · exact ((((K2.trans k7 (by simp)).trans k8 (by simp)).trans k9 (fun x hx => .inr (by have := hF x hx; omega))).trans k10 (by simp)).trans k11 (by simp)
    · simp only [ex_one0, pureW_some]
      refine forkW_bool.2 ⟨fun h => (by cases h), fun _ => ?_⟩
      exact hk A' sv F vs hb' hl' ho (told_all hm.nb hnd hvs hall) hF k (by omega) f
  · rw [e101]
    simp only [ld_77, cell_row hq.row, cellOf, isT_map, cond_false, pureW_some]
    refine hm.range mtA hf (by omega) fun A1 hit k1 n1 f1 => ?_
    exact cutW_self.2 ⟨es.length, rfl, .slice none 0 0, [], [], rfl, hit, hm.keeps k1 (by simp), hb.keeps k1 (by simp), hl.keeps k1 (by simp), .nil _, by simp, by simp, by simp, k1.more (by simp), f1, by simp; omega, rfl⟩
theorem wc175 {A : AW} {q r c : Nat} {es : List (En Nat Int)} {K : Value → AW → Prop} (hq : Go.Abs.Row1 A q [.map (some r)] 77) (hm : OwnM kU vI A r es c) (hf : Fine A) (hes : es.length < 100000) (hA : A.next + 40 + 6 * es.length < maxId)
    (hk : ∀ A' sv F (vs : List (En Nat Int)), OwnE 5 0 bC A' sv (vs.map En.k) F → vs.Perm es → (∀ x ∈ F, A.next ≤ x) → Keeps A A' [] → A'.next ≤ A.next + 20 + 6 * es.length → Fine A' → K sv A') :
    Wc Tryz.prog theX W0 m0 175 [.slice none 0 0, .func (.func 101) ⟨[]⟩ ⟨[.pointer (some ⟨q, 0, none⟩)]⟩] A K := by
  have hqlt := hq.lt
  have hrlt := hm.ltA
  refine w175 _ _ _ cutn ?_
  rw [e175]
  refine newP_made (cs := [.slice none 0 0]) hf (by omega) rfl fun A1 m1 => ?_
  have n1 := m1.next
  have k1 := m1.keeps hf
  refine loopW_made m1.fine (by omega) fun A2 hD hl k2 n2 f2 => ?_
  have K2 : Keeps A A2 [] := k1.trans k2 (by simp)
  refine ⟨101, _, A2, dyn101 A2 _ ⟨q, 0, none⟩, wc101 rfl rfl (hq.keeps K2 (by simp)) (hm.keeps K2 (by simp)) (m1.row1.keeps k2 (by simp)) hl (by omega) (by omega) (by omega) (by omega) (by omega) (fun v => tm175 q _ v) f2 hes (by omega) fun A3 sv F vs hb3 hl3 ho3 hp hF k3 n3 f3 => ?_⟩
  refine endLoopW_made hl3 (show LoopState.ready ≠ LoopState.busy from fun h => by cases h) rfl f3 (by omega) fun A4 k4 n4 f4 => ?_
  have hb4 := hb3.keeps k4 (by simp; omega)
  have ho4 := ho3.keeps k4 (fun x hx => by have := hF x hx; simp; omega)
  have one4 := ho4.one
  simp only [ld_52, cell_row hb4.row, cellOf, one4.2, cond_false, pureW_some]
  refine takeDs_one ((hD.keeps k3 (by simp; omega)).keeps k4 (by simp)) f4 (by omega) fun A5 k5 n5 f5 => ?_
  refine hk A5 sv F vs (ho4.keeps k5 (fun x hx => by have := hF x hx; simp; omega)) hp (fun x hx => by have := hF x hx; omega) ?_ (by omega) f5
  exact ((K2.trans k3 (by simp; omega)).trans k4 (by simp; omega)).trans k5 (by simp; omega)
theorem wc238 {A : AW} {a b : Nat} {K : Value → AW → Prop} (hk : K (.bool (decide ((a : Int) < (b : Int)))) A) : Wc Tryz.prog theX W0 m0 238 [.int .u8 (a : Int), .int .u8 (b : Int)] A K := by
  refine w238 _ _ _ cutn ?_
  rw [e238]
  refine w280 _ _ cutn ?_
  rw [e280]
  simp only [bin_neq, pureW_some]
  refine forkW_bne.2 ⟨fun h => absurd rfl h, fun _ => ?_⟩
  simp only [bin_lss, pureW_some]
  exact hk
theorem flat_set : ∀ (l : List Nat) (i n : Nat), setL (flat bC l) i [.int .u8 (n : Int)] = flat bC (l.set i n)
  | [], i, n => by cases i <;> rfl
  | a :: l, 0, n => rfl
  | a :: l, i + 1, n => by
    have := flat_set l i n
    show Value.int .u8 (a : Int) :: setL (flat bC l) i [.int .u8 (n : Int)] = Value.int .u8 (a : Int) :: flat bC (l.set i n)
    rw [this]
theorem flat_len (l : List Nat) : (flat bC l).length = l.length := by
  have := flat_length (f := bC) (n := 1) (fun _ => rfl) l
  omega
theorem store_u {A : AW} {v a : Value} {l : List Nat} {F : List Nat} {i n : Nat} {K : AW → Prop} (h : OwnE 5 0 bC A v l F) (hi : i < l.length) (hx : indexAddrA Tryz.prog 52 v (.int .i64 (i : Int)) = some a) (hf : Fine A) (hA : A.next ≤ maxId)
    (hk : ∀ A', OwnE 5 0 bC A' v (l.set i n) F → Keeps A A' F → A'.next = A.next → Fine A' → K A') : effW (storeP Tryz.prog A 5 a (.int .u8 (n : Int))) K := by
  rcases h with ⟨rfl, h2, _⟩ | ⟨b, g, rfl, h3, rfl⟩
  · omega
  · rw [etB.ia hi] at hx
    cases hx
    have hfl := flat_len l
    refine storeG (F := [g]) (n := l.length) (cs := flat bC l) (size := 1) (e := 5) (.inr ⟨b, g, rfl, h3, rfl⟩) hf hA (st_5 _ _ _) rfl (by omega) rfl fun A' h4 k4 n4 f4 => hk A' ?_ k4 n4 f4
    have h4 : OwnG A' 5 1 (.slice (some ⟨b, 0, none⟩) l.length (capU + l.length)) l.length (setL (flat bC l) (0 + i) [.int .u8 (n : Int)]) [g] := h4
    rw [Nat.zero_add, flat_set] at h4
    show OwnG A' 5 (0 + 1) _ (l.set i n).length (flat bC (l.set i n)) [g]
    rw [List.length_set]
    exact h4
theorem wc232 {A : AW} {v : Value} {l : List Nat} {F : List Nat} {P : Nat → Prop} {K : Value → AW → Prop} (hv : OwnE 5 0 bC A v l F) (hP : ∀ x ∈ l, P x) (hl : l.length ≤ 12) (hf : Fine A) (hA : A.next + 10 < maxId)
    (hk : ∀ A' l', OwnE 5 0 bC A' v l' F → l'.length = l.length → (∀ x ∈ l', P x) → Keeps A A' F → A'.next = A.next → Fine A' → K (.tuple ⟨[]⟩) A') : Wc Tryz.prog theX W0 m0 232 [v, .int .i64 0, .int .i64 (l.length : Int)] A K := by
  let I : Nat → Nat → List Value → AW → Prop := fun g id vals A' => ∃ (i : Nat) (l' : List Nat), OwnE 5 0 bC A' v l' F ∧ l'.length = l.length ∧ (∀ x ∈ l', P x) ∧ Keeps A A' F ∧ A'.next = A.next ∧ Fine A' ∧
    ((id = 0 ∧ vals = [v, .int .i64 0, .int .i64 (l.length : Int), .int .i64 (i : Int)] ∧ g = (l.length - i) * 20) ∨ (∃ j : Nat, id = 2 ∧ vals = [v, .int .i64 0, .int .i64 (l.length : Int), .int .i64 (i : Int), .int .i64 (j : Int)] ∧ i < l.length ∧ j ≤ i ∧ g = (l.length - i) * 20 - 1 - (i - j)))
  refine w232 _ _ _ _ (c232 (I := I) ?_) ?_
  · rintro g id vals A' d ⟨i, l', ho, hl', hP', k, nx, f, ⟨rfl, rfl, rfl⟩ | ⟨j, rfl, rfl, hi, hj, rfl⟩⟩ hd
    · rw [l232_0]
      simp only [L232, List.map_cons, List.map_nil, List.cons.injEq, and_true] at hd
      obtain ⟨d0, d1, d2, d6⟩ := hd
      simp only [d0, d1, d2, d6, bin_lss, pureW_some, forkW_dec]
      refine ⟨fun hlt => ?_, fun hge => hk A' l' ho hl' hP' k nx f⟩
      exact cutW_self.2 ⟨(l.length - i) * 20 - 1 - (i - i), by omega, i, l', ho, hl', hP', k, nx, f, .inr ⟨i, rfl, rfl, by omega, by omega, rfl⟩⟩
    · rw [l232_2]
      simp only [L232, List.map_cons, List.map_nil, List.cons.injEq, and_true] at hd
      obtain ⟨d0, d1, d2, d6, d7⟩ := hd
      simp only [d0, d1, d2, d6, d7, bin_gtr, pureW_some, forkW_dec]
      have hnext : ∀ {B : AW} {l2 : List Nat}, OwnE 5 0 bC B v l2 F → l2.length = l.length → (∀ x ∈ l2, P x) → Keeps A B F → B.next = A.next → Fine B → cutW (T232 0) (T232 0) (∃ g2, g2 < (l.length - i) * 20 - 1 - (i - j) ∧ I g2 0 [v, .int .i64 0, .int .i64 (l.length : Int), .int .i64 ((i : Int) + 1)] B) := fun oB hlB hPB kB nB fB =>
        cutW_self.2 ⟨(l.length - (i + 1)) * 20, by omega, i + 1, _, oB, hlB, hPB, kB, nB, fB, .inl ⟨rfl, rfl, rfl⟩⟩
      refine ⟨fun hgt => ?_, fun _ => ?_⟩
      · obtain ⟨j', rfl⟩ : ∃ j', j = j' + 1 := ⟨j - 1, by omega⟩
        have h1 := List.getElem?_eq_getElem (l := l') (i := j' + 1) (by omega)
        have h2 := List.getElem?_eq_getElem (l := l') (i := j') (by omega)
        have hm1 := List.getElem_mem (l := l') (n := j' + 1) (by omega)
        have hm2 := List.getElem_mem (l := l') (n := j') (by omega)
        generalize l'[j' + 1] = x at h1 hm1
        generalize l'[j'] = y at h2 hm2
        have hrd : RdE 0 bC A' v l' F := OwnE.rd (fun _ => rfl) ho
        obtain ⟨a, a1, a2⟩ := etB.at hrd h1 rfl
        obtain ⟨b, b1, b2⟩ := etB.at hrd h2 rfl
        have hs : ((j' + 1 : Nat) : Int) - 1 = (j' : Int) := by omega
        simp only [bin_sub, hs]
        rw [wrap_i64 (n := (j' : Int)) (by omega) (by omega)]
        simp only [a1, a2, b1, b2, pureW_some]
        refine wc238 ?_
        refine forkW_dec.2 ⟨fun _ => ?_, fun _ => ?_⟩
        · simp only [a2, b2, pureW_some]
          refine store_u (i := j' + 1) ho (by omega) a1 f (by omega) fun A2 o2 k2 n2 f2 => ?_
          simp only [eqW_self]
          refine store_u (i := j') o2 (by rw [List.length_set]; omega) b1 f2 (by omega) fun A3 o3 k3 n3 f3 => ?_
          refine cutW_self.2 ⟨(l.length - i) * 20 - 1 - (i - j'), by omega, i, _, o3, by rw [List.length_set, List.length_set]; exact hl', fun z hz => ?_, (k.trans k2 fun x hx => .inl hx).trans k3 fun x hx => .inl hx, by omega, f3, .inr ⟨j', rfl, rfl, hi, by omega, rfl⟩⟩
          rcases List.mem_or_eq_of_mem_set hz with h | h
          · rcases List.mem_or_eq_of_mem_set h with h | h
            · exact hP' z h
            · rw [h]; exact hP' y hm2
          · rw [h]; exact hP' x hm1
        · simp only [bin_add, pureW_some]
          rw [wrap_i64 (n := (i : Int) + 1) (by omega) (by omega)]
          exact hnext ho hl' hP' k nx f
      · simp only [bin_add, pureW_some]
        rw [wrap_i64 (n := (i : Int) + 1) (by omega) (by omega)]
        exact hnext ho hl' hP' k nx f
  · rw [e232]
    simp only [bin_add, pureW_some]
    exact cutW_self.2 ⟨(l.length - 1) * 20, 1, l, hv, rfl, hP, .refl _ _, rfl, hf, .inl ⟨rfl, rfl, rfl⟩⟩
theorem wc48 {A : AW} {q r c : Nat} {es : List (En Nat Int)} {P : Nat → Prop} {K : Value → AW → Prop} (hq : Go.Abs.Row1 A q [.map (some r)] 77) (hm : OwnM kU vI A r es c) (hes : es.length = 8) (hP : ∀ e ∈ es, P e.k) (hf : Fine A) (hA : A.next + 100 < maxId)
    (hk : ∀ A' sv F l, OwnE 5 0 bC A' sv l F → l.length = 8 → (∀ x ∈ l, P x) → (∀ x ∈ F, A.next ≤ x) → Keeps A A' [] → A'.next ≤ A.next + 70 → Fine A' → K sv A') :
    Wc Tryz.prog theX W0 m0 48 [.func (.func 101) ⟨[]⟩ ⟨[.pointer (some ⟨q, 0, none⟩)]⟩] A K := by
  refine w48 _ _ cutn ?_
  rw [e48]
  refine w99 _ _ cutn ?_
  rw [e99]
  refine wc175 hq hm hf (by omega) (by omega) fun A1 sv F vs ho hp hF k1 n1 f1 => ?_
  have hlen : (vs.map En.k).length = 8 := by rw [List.length_map, hp.length_eq]; exact hes
  have hl8 := etB.lenR (B := A1) (OwnE.rd (fun _ => rfl) ho)
  rw [hlen] at hl8
  have hPl : ∀ x ∈ vs.map En.k, P x := fun x hx => by
    obtain ⟨e, he, rfl⟩ := List.mem_map.1 hx
    exact hP e (hp.subset he)
  refine w100 _ _ cutn ?_
  rw [e100]
  simp only [hl8, pureW_some, conv3l A1 8 (by decide), bothW_ok]
  refine wc177_8 ?_
  let I : Nat → Nat → List Value → AW → Prop := fun g id vals A' => id = 0 ∧ vals = [sv, .int .i64 0, .int .i64 ((8 : Nat) : Int), .int .i64 4, .bool true, .bool true] ∧ A' = A1 ∧ g = 0
  refine w176 _ _ _ _ _ (c176 (I := I) ?_) ?_
  · rintro g id vals A' d ⟨rfl, rfl, rfl, rfl⟩ hd
    rw [l176_0]
    have hd : [d 0, d 1, d 2, d 3, d 8, d 9] = _ := hd
    simp only [List.cons.injEq, and_true] at hd
    obtain ⟨d0, d1, d2, d3, d8, d9⟩ := hd
    rw [d0, d1, d2, bin_sub]
    refine pureW_some.2 ?_
    rw [bin_leq]
    refine pureW_some.2 (forkW_bool.2 ⟨fun _ => ?_, fun h => absurd h (by decide)⟩)
    rw [← hlen]
    refine wc232 ho hPl (by omega) f1 (by omega) fun A2 l' o2 hl2 hP2 k2 n2 f2 => ?_
    exact hk A2 sv F l' o2 (by omega) hP2 hF (k1.trans k2 fun x hx => .inr (hF x hx)) (by omega) f2
  · rw [e176]
    exact cutW_self.2 ⟨0, rfl, rfl, rfl, rfl⟩
end
def x0 : Nm := ⟨2147483649, ⟨⟨[49]⟩⟩, ⟨⟨[]⟩⟩⟩
theorem ex2_0 (a b : Value) : extractP (.tuple ⟨[a, b]⟩) 0 = some a := rfl
theorem ex2_1 (a b : Value) : extractP (.tuple ⟨[a, b]⟩) 1 = some b := rfl
theorem ex3_0 (a b c : Value) : extractP (.tuple ⟨[a, b, c]⟩) 0 = some a := rfl
theorem ex3_1 (a b c : Value) : extractP (.tuple ⟨[a, b, c]⟩) 1 = some b := rfl
theorem ex3_2 (a b c : Value) : extractP (.tuple ⟨[a, b, c]⟩) 2 = some c := rfl
theorem fresh24 : freshOf Tryz.prog (fun _ => undef) (.alloc 24) = some (.row [.int .u32 0, .string .empty, .string .empty] 24) := by kernel_rfl
theorem fresh50 : freshOf Tryz.prog (fun _ => undef) (.alloc 50) = some (.row [.int .u32 0, .string .empty, .string .empty, .int .u8 0, .bool false, .slice none 0 0, .int .u32 0, .int .u32 0] 50) := by kernel_rfl
theorem freshW_24 {A : AW} {b : Nat} {p : Prop} (h : A.get b = some (.row [.int .u32 0, .string .empty, .string .empty] 24 b 0 false)) (hp : p) : freshW (freshOf Tryz.prog (fun _ => undef) (.alloc 24)) A (.pointer (some ⟨b, 0, none⟩)) p := by
  refine ⟨⟨_, fresh24, ?_⟩, hp⟩
  simp only [stillFresh, rowHas, h, sameL, Bool.true_and, Nat.beq_refl]
  rfl
theorem freshW_50 {A : AW} {b : Nat} {p : Prop} (h : A.get b = some (.row [.int .u32 0, .string .empty, .string .empty, .int .u8 0, .bool false, .slice none 0 0, .int .u32 0, .int .u32 0] 50 b 0 false)) (hp : p) : freshW (freshOf Tryz.prog (fun _ => undef) (.alloc 50)) A (.pointer (some ⟨b, 0, none⟩)) p := by
  refine ⟨⟨_, fresh50, ?_⟩, hp⟩
  simp only [stillFresh, rowHas, h, sameL, Bool.true_and, Nat.beq_refl]
  rfl
theorem ba24 (f : Int) (g : ByteArray) : buildA Tryz.prog 24 [(0, .int .u32 f), (1, .string g)] = some (.agg ⟨[.int .u32 f, .string g, .string ⟨⟨[]⟩⟩]⟩) := by kernel_rfl
theorem conv53 (A : AW) (n : Int) : convertA Tryz.prog A 5 3 (.int .u8 n) = .ok (.int .i64 (IntKind.i64.wrap n)) A := by kernel_rfl
theorem map_len75 (A : AW) (r : Nat) : lenA Tryz.prog A 75 (.map (some r)) = (match A.get r with | some (.map es _ _) => some (.int .i64 es.length) | _ => none) := by kernel_rfl
theorem okPs_le {x : Nm} : ∀ {ps : List Pt} {last : Nat}, okPs x last ps = true → ∀ p ∈ ps, p.n ≤ 8
  | [], _, _, _, hp => by simp at hp
  | q :: r, last, h, p, hp => by
    unfold okPs at h
    simp only [Bool.and_eq_true, decide_eq_true_eq] at h
    rcases List.mem_cons.1 hp with rfl | hp
    · exact h.2.1
    · exact okPs_le h.2.2.2.2 p hp
theorem okD_le {x : Nm} {ps : List Pt} (h : okD x ps = true) : (∀ p ∈ ps, p.n ≤ 8) ∧ 1 ≤ ps.length ∧ ps.length ≤ 8 := by
  unfold okD at h
  simp only [Bool.and_eq_true, decide_eq_true_eq] at h
  exact ⟨okPs_le h.2.2.2.2, h.2.2.1, h.2.2.2.1⟩
structure CO (A : AW) (sr : Nat) (out : Value) (L : List Ml) (Fo : List Nat) (es : List (En Nm GV)) (aks : List (En Nat Int)) : Prop where
  cr : CR A 120 67 11 118 119 sr out
  env : Env A 67 11
  ow : OwnE 46 7 Ml.cells A out L Fo
  rows : ∃ cl, OwnM kN vG A 118 es cl
  asks : ∃ cl, OwnM kU vI A 119 aks cl
  a8 : aks.map En.k = [1, 2, 3, 4, 5, 6, 7, 8]
  av : ∀ e ∈ aks, 0 ≤ e.v ∧ e.v < 1000
  lo : 126 ≤ A.next
  fo : ∀ y ∈ Fo, 126 ≤ y
theorem CO.keeps {A A' : AW} {sr : Nat} {out : Value} {L : List Ml} {Fo S : List Nat} {es : List (En Nm GV)} {aks : List (En Nat Int)} (h : CO A sr out L Fo es aks) (k : Keeps A A' S) (hS : ∀ y ∈ S, 126 ≤ y) (hF : ∀ y ∈ Fo, y ∉ S) : CO A' sr out L Fo es aks := by
  have n : ∀ i, i < 126 → i ∉ S := fun i hi hm => by have := hS i hm; omega
  obtain ⟨cl, hr⟩ := h.rows
  obtain ⟨ca, ha⟩ := h.asks
  exact ⟨h.cr.keeps k (n _ (by decide)), h.env.keeps k (n _ (by decide)) (n _ (by decide)), h.ow.keeps k hF, ⟨cl, hr.keeps k (n _ (by decide))⟩, ⟨ca, ha.keeps k (n _ (by decide))⟩, h.a8, h.av, Nat.le_trans h.lo k.next, h.fo⟩
theorem CO.one {A : AW} {sr : Nat} {out : Value} {L : List Ml} {Fo : List Nat} {es : List (En Nm GV)} {aks : List (En Nat Int)} (h : CO A sr out L Fo es aks) : OneC out := ownE_one h.ow
theorem CO.row {A A' : AW} {sr sr' : Nat} {out out' : Value} {L L' : List Ml} {Fo Fo' : List Nat} {es : List (En Nm GV)} {aks : List (En Nat Int)} (h : CO A sr out L Fo es aks) (k : Keeps A A' (120 :: Fo)) (hc : CR A' 120 67 11 118 119 sr' out') (ho : OwnE 46 7 Ml.cells A' out' L' Fo') (hf : ∀ y ∈ Fo', 126 ≤ y) : CO A' sr' out' L' Fo' es aks := by
  have n : ∀ i, i < 120 → i ∉ 120 :: Fo := fun i hi hm => by
    rcases List.mem_cons.1 hm with h1 | h1
    · omega
    · have := h.fo i h1; omega
  obtain ⟨cl, hr⟩ := h.rows
  obtain ⟨ca, ha⟩ := h.asks
  exact ⟨hc, h.env.keeps k (n _ (by decide)) (n _ (by decide)), ho, ⟨cl, hr.keeps k (n _ (by decide))⟩, ⟨ca, ha.keeps k (n _ (by decide))⟩, h.a8, h.av, Nat.le_trans h.lo k.next, hf⟩
theorem CO.put {A A' : AW} {sr : Nat} {out : Value} {L : List Ml} {Fo : List Nat} {es es' : List (En Nm GV)} {aks : List (En Nat Int)} {cl : Nat} (h : CO A sr out L Fo es aks) (k : Keeps A A' [118]) (hr : OwnM kN vG A' 118 es' cl) : CO A' sr out L Fo es' aks := by
  obtain ⟨ca, ha⟩ := h.asks
  exact ⟨h.cr.keeps k (by decide), h.env.keeps k (by decide) (by decide), h.ow.keeps k (fun y hy => by have := h.fo y hy; simp; omega), ⟨cl, hr⟩, ⟨ca, ha.keeps k (by decide)⟩, h.a8, h.av, Nat.le_trans h.lo k.next, h.fo⟩
theorem CO.ask {A A' : AW} {sr : Nat} {out : Value} {L : List Ml} {Fo : List Nat} {es : List (En Nm GV)} {aks aks' : List (En Nat Int)} {cl : Nat} (h : CO A sr out L Fo es aks) (k : Keeps A A' [119]) (ha : OwnM kU vI A' 119 aks' cl) (h8 : aks'.map En.k = [1, 2, 3, 4, 5, 6, 7, 8]) (hv : ∀ e ∈ aks', 0 ≤ e.v ∧ e.v < 1000) : CO A' sr out L Fo es aks' := by
  obtain ⟨ca, hr⟩ := h.rows
  exact ⟨h.cr.keeps k (by decide), h.env.keeps k (by decide) (by decide), h.ow.keeps k (fun y hy => by have := h.fo y hy; simp; omega), ⟨ca, hr.keeps k (by decide)⟩, ⟨cl, ha⟩, h8, hv, Nat.le_trans h.lo k.next, h.fo⟩
section
variable {W0 : World} {m0 : Inj Tryz.prog}
theorem dyn40 (A : AW) (a b c : Value) : dynA Tryz.prog theX A (.func (.func 40) ⟨[]⟩ ⟨[a, b, c]⟩) [] = .ok (.enter 40 [a, b, c]) A := by kernel_rfl
theorem dyn43 (A : AW) (a b c : Value) : dynA Tryz.prog theX A (.func (.func 43) ⟨[]⟩ ⟨[a, b, c]⟩) [] = .ok (.enter 43 [a, b, c]) A := by kernel_rfl
theorem dyn45 (A : AW) (a : Value) : dynA Tryz.prog theX A (.func (.func 45) ⟨[]⟩ ⟨[a]⟩) [] = .ok (.enter 45 [a]) A := by kernel_rfl
def Begun (A' : AW) (ns : List Nat) (aks : List (En Nat Int)) (v : Value) (e : Int) : Prop :=
  (okD x0 (ns.map (ptOf x0)) = true ∧ e = 0 ∧ v = .agg ⟨x0.cells⟩ ∧ ∃ pv F b, CO A' 2 (.slice none 0 0) [] [] [⟨x0, ⟨x0, 1, pv, 0, 0⟩, b⟩] aks ∧ OwnF 135 4 Pt.cells A' pv (ns.map (ptOf x0)) F ∧ ∀ y ∈ F, 126 ≤ y) ∨ (e = 2 ∧ ∃ y : Nm, v = .agg ⟨y.cells⟩)
theorem wc40 {A : AW} {r0 r1 r2 : Nat} {nv : Value} {ns F0 : List Nat} {cs : List Value} {aks : List (En Nat Int)} {K : Value → AW → Prop} (hco : CO A 1 (.slice none 0 0) [] [] [] aks) (h0 : Go.Abs.Row1 A r0 [.pointer (some ⟨120, 0, none⟩)] 27) (h1 : Go.Abs.Row1 A r1 [nv] 52) (h2 : Go.Abs.Row1 A r2 cs 24) (hcs : cs.length = 3)
    (hr : 126 ≤ r0 ∧ 126 ≤ r1 ∧ 126 ≤ r2 ∧ r0 ≠ r2 ∧ r1 ≠ r2) (hn : RdE 0 bC A nv ns F0) (hl : ns.length < 1000) (hb : ∀ n ∈ ns, n < 256) (hF0 : ∀ y ∈ F0, y < 10) (hf : Fine A) (hA : A.next + 150 + 50 * ns.length < maxId)
    (hk : ∀ A' e, ((okD x0 (ns.map (ptOf x0)) = true ∧ e = 0 ∧ Go.Abs.Row1 A' r2 x0.cells 24 ∧ ∃ pv F b, CO A' 2 (.slice none 0 0) [] [] [⟨x0, ⟨x0, 1, pv, 0, 0⟩, b⟩] aks ∧ OwnF 135 4 Pt.cells A' pv (ns.map (ptOf x0)) F ∧ ∀ y ∈ F, A.next ≤ y) ∨ (e = 2 ∧ Go.Abs.Row1 A' r2 cs 24)) → Keeps A A' [118, 120, r2] → A'.next ≤ A.next + 60 + 40 * ns.length → Fine A' → K (.int .i64 e) A') :
    Wc Tryz.prog theX W0 m0 40 [.pointer (some ⟨r0, 0, none⟩), .pointer (some ⟨r1, 0, none⟩), .pointer (some ⟨r2, 0, none⟩)] A K := by
  have hlo := hco.lo
  obtain ⟨o0, c0, hnv⟩ := hn.slice
  have hnT : isTuple nv = false := by rw [hnv]; rfl
  have r2lt := h2.lt
  refine w40 _ _ _ _ cutn ?_
  rw [e40]
  refine allocP_made zero24 hf (by omega) rfl fun A1 m1 => ?_
  have n1 := m1.next
  have k1 := m1.keeps hf
  have hco1 := hco.keeps k1 (by simp) (by simp)
  have h01 := h0.keeps k1 (by simp)
  have h11 := h1.keeps k1 (by simp)
  refine freshW_24 m1.row ?_
  simp only [ld_27, cell_row h01.row, cellOf, isT_ptr, isT_int, isT_map, isT_slice, cond_false, pureW_some, nilP_some, fa_79_4, ld_76, cell_row hco1.cr.row, Nat.zero_add]
  refine wc8 hco1.cr hco1.env ?_
  refine freshW_24 m1.row ?_
  simp only [ld_27, cell_row h01.row, cellOf, isT_ptr, isT_int, isT_map, isT_slice, cond_false, pureW_some, nilP_some, fa_79_4, ld_76, cell_row hco1.cr.row, Nat.zero_add, eqW_self, bin_add]
  refine wc41 ?_
  refine freshW_24 m1.row ?_
  rw [show IntKind.u32.wrap (2147483648 + 1) = 2147483649 from wrap_u32 (by decide) (by decide)]
  simp only [eqW_self, pureW_some, ba24]
  refine m1.row1.store m1.fine (by omega) (st_24 _ _ _) rfl (by simp [Value.cells]) rfl fun A2 rx k2 n2 f2 => ?_
  have rx : Go.Abs.Row1 A2 A.next x0.cells 24 := rx
  have K2 : Keeps A A2 [] := k1.trans k2 (by simp)
  have h12 := h1.keeps K2 (by simp)
  simp only [load24 rx, pureW_some, ld_52, cell_row h12.row, cellOf, hnT, cond_false]
  refine wc42 (x := x0) (by decide) rfl (hn.keeps K2 (by simp)) hl hb f2 (by omega) fun A3 v e hve g3 => ?_
  have n3 := g3.next
  have l3 := g3.le
  have K3 : Keeps A A3 [] := K2.trans g3.keeps (by simp)
  have hco3 := hco.keeps K3 (by simp) (by simp)
  simp only [ex2_0, ex2_1, pureW_some]
  refine allocP_made zero50 g3.fine (by omega) rfl fun A4 m4 => ?_
  have n4 := m4.next
  have k4 := m4.keeps g3.fine
  obtain ⟨g, hvg, hg1⟩ : ∃ g : GV, v = vG g ∧ OneC g.pv := by
    rcases hve with ⟨_, _, pv, F, rfl, hp, _⟩ | ⟨_, _, g, rfl, h1⟩
    · exact ⟨_, rfl, ownF_one hp⟩
    · exact ⟨g, rfl, h1⟩
  subst hvg
  refine st_g (g := g) m4.row1 rfl hg1 m4.fine (by omega) fun A5 r5 k5 n5 f5 => ?_
  have K5 : Keeps A3 A5 [] := k4.trans k5 (by simp)
  have K05 : Keeps A A5 [] := K3.trans K5 (by simp)
  have h15 := h1.keeps K05 (by simp)
  have h05 := h0.keeps K05 (by simp)
  have h25 := h2.keeps K05 (by simp)
  have hco5 := hco.keeps K05 (by simp) (by simp)
  have hn5 := hn.keeps K05 (by simp)
  simp only [bin_neq, pureW_some]
  rcases hve with ⟨hok, rfl, pv, F, hv, hp, hF⟩ | ⟨hok, rfl, _⟩
  · refine forkW_bne.2 ⟨fun h => absurd rfl h, fun _ => ?_⟩
    obtain ⟨hle, hne, hle8⟩ := okD_le hok
    rw [List.length_map] at hne hle8
    have hlen := etB.lenR (B := A5) hn5
    have hlast := List.getElem?_eq_getElem (l := ns) (i := ns.length - 1) (by omega)
    have hlmem := List.getElem_mem (l := ns) (n := ns.length - 1) (by omega)
    generalize ns[ns.length - 1] = nl at hlast hlmem
    have hnl : nl ≤ 8 := hle _ (List.mem_map.2 ⟨nl, hlmem, rfl⟩)
    obtain ⟨ai, a1, a2⟩ := etB.at hn5 hlast rfl
    simp only [ld_52, cell_row h15.row, cellOf, hnT, cond_false, pureW_some, hlen, bin_sub]
    rw [show (ns.length : Int) - 1 = ((ns.length - 1 : Nat) : Int) by omega, wrap_i64 (n := ((ns.length - 1 : Nat) : Int)) (by omega) (by omega)]
    simp only [a1, a2, pureW_some, conv53, bothW_ok]
    rw [wrap_i64 (n := (nl : Int)) (by omega) (by omega)]
    have hcr5 : Go.Abs.Row1 A5 120 [.pointer (some ⟨67, 0, none⟩), .pointer (some ⟨11, 0, none⟩), .int .i64 8, .map (some 118), .int .u64 1, .map (some 119), .slice none 0 0, .bool false] 79 := hco5.cr
    obtain ⟨cl, hrows⟩ := hco5.rows
    have hml : lenA Tryz.prog A5 75 (.map (some 118)) = some (.int .i64 0) := by rw [map_len75, hrows.row.row]; rfl
    simp only [ld_27, cell_row h05.row, ld_3, ld_75, ld_24, cell_row hcr5.row, cellOf, isT_ptr, isT_int, isT_map, isT_slice, cond_false, pureW_some, nilP_some, fa_79_2, fa_79_3, Nat.zero_add, bin_gtr, bin_geq, hml]
    refine forkW_dec.2 ⟨fun h => absurd h (by omega), fun _ => forkW_bool.2 ⟨fun h => absurd h (by decide), fun _ => ?_⟩⟩
    have rx5 := (rx.keeps g3.keeps (by simp)).keeps K5 (by simp)
    have hx5 := load24 rx5
    rw [ld_24] at hx5
    simp only [hx5, ld_g r5 hg1, pureW_some]
    have hg : g = ⟨x0, 1, pv, 0, 0⟩ := by
      have h := congrArg (fun v : Value => v.cells.toList) hv
      have h : g.cells = (GV.mk x0 1 pv 0 0).cells := h
      obtain ⟨⟨f, gg, bb⟩, st, pv', w, t⟩ := g
      simp only [GV.cells, List.cons.injEq, and_true, Value.int.injEq, Value.string.injEq, true_and, Int.ofNat_inj] at h
      obtain ⟨h1, h2, h3, h4, h5, h6, h7⟩ := h
      have e1 : f = x0.f := by omega
      have e4 : st = 1 := by omega
      have e6 : w = 0 := by omega
      have e7 : t = 0 := by omega
      subst e1 e4 e6 e7
      rw [h2, h3, h5]
    subst hg
    refine hrows.put mtG f5 (by omega) (k := x0) (v := ⟨x0, 1, pv, 0, 0⟩) fun A6 c6 h6 k6 n6 f6 => ?_
    have hco6 := hco5.put k6 h6
    have hcr6 : Go.Abs.Row1 A6 120 [.pointer (some ⟨67, 0, none⟩), .pointer (some ⟨11, 0, none⟩), .int .i64 8, .map (some 118), .int .u64 1, .map (some 119), .slice none 0 0, .bool false] 79 := hco6.cr
    have h06 := h05.keeps k6 (by simp; omega)
    simp only [ld_27, cell_row h06.row, ld_76, cell_row hcr6.row, cellOf, isT_ptr, isT_int, isT_map, isT_slice, cond_false, pureW_some, nilP_some, fa_79_4, Nat.zero_add, bin_add]
    rw [show IntKind.u64.wrap (1 + 1) = 2 by decide]
    refine hcr6.store f6 (by omega) (st_76 _ _ _) rfl (by simp) rfl fun A7 r7 k7 n7 f7 => ?_
    have hcr7 : CR A7 120 67 11 118 119 2 (.slice none 0 0) := r7
    have hco7 := hco6.row (k7.more (by simp)) hcr7 (.nil A7) (by simp)
    have rx7 := (rx5.keeps k6 (by simp; omega)).keeps k7 (by simp; omega)
    have hx7 := load24 rx7
    rw [ld_24] at hx7
    simp only [hx7, pureW_some]
    refine ((h25.keeps k6 (by simp; omega)).keeps k7 (by simp; omega)).store f7 (by omega) (st_24 _ _ _) rfl (by rw [hcs]; simp [Value.cells, Nm.cells]) rfl fun A8 r8 k8 n8 f8 => ?_
    have r8 : Go.Abs.Row1 A8 r2 x0.cells 24 := by
      match cs, hcs with
      | [_, _, _], _ => exact r8
    refine hk A8 0 (.inl ⟨hok, rfl, r8, pv, F, cl, ?_, ?_, fun y hy => by have := hF y hy; omega⟩) ?_ (by omega) f8
    · exact hco7.keeps k8 (by simp; omega) (by simp)
    · have hF' : ∀ (S : List Nat), (∀ z ∈ S, z < A.next) → ∀ y ∈ F, y ∉ S := fun S hS y hy h => by have := hF y hy; have := hS y h; omega
      exact (((hp.keeps K5 (by simp)).keeps k6 (hF' _ (by simp; omega))).keeps k7 (hF' _ (by simp; omega))).keeps k8 (hF' _ (by simp; omega))
    · exact (((K05.more (by simp)).trans k6 (by simp)).trans k7 (by simp)).trans k8 (by simp)
  · refine forkW_bne.2 ⟨fun _ => ?_, fun h => by cases h⟩
    exact hk A5 2 (.inr ⟨rfl, h25⟩) (K05.more (by simp)) (by omega) f5
end
theorem keq_self (x : Nm) : keqN x x = true := keqN_iff.2 rfl
theorem put_one {x : Nm} {g v : GV} {b c : Nat} : putE keqN [(⟨x, g, b⟩ : En Nm GV)] x v c = [⟨x, v, b⟩] := by
  unfold putE
  rw [keq_self]
  rfl
theorem look_one {x : Nm} {g : GV} {b : Nat} : lookE keqN [(⟨x, g, b⟩ : En Nm GV)] x = some g := by
  unfold lookE
  rw [keq_self]
  rfl
theorem tickG_ok {st w t : Nat} (hs : st = 2 ∨ st = 4) (hw : w ≤ 3) (ht : t ≤ 5) : ((tickG st w t).1.1 = 2 ∨ (tickG st w t).1.1 = 4) ∧ (tickG st w t).1.2.1 ≤ 3 ∧ (tickG st w t).1.2.2 ≤ 5 := by
  unfold tickG
  split
  · exact ⟨hs, by simp; omega, ht⟩
  · split
    · exact ⟨.inr rfl, by decide, by decide⟩
    · exact ⟨hs, by simp, by simp; omega⟩
section
variable {W0 : World} {m0 : Inj Tryz.prog}
theorem wc14 {A : AW} {nv : Value} {ns F0 : List Nat} {aks : List (En Nat Int)} {K : Value → AW → Prop} (hco : CO A 1 (.slice none 0 0) [] [] [] aks) (hn : RdE 0 bC A nv ns F0) (hl : ns.length < 1000) (hb : ∀ n ∈ ns, n < 256) (hF0 : ∀ y ∈ F0, y < 10) (hf : Fine A) (hA : A.next + 200 + 50 * ns.length < maxId)
    (hk : ∀ A' v e, Begun A' ns aks v e → Keeps A A' [118, 120] → A'.next ≤ A.next + 70 + 40 * ns.length → Fine A' → K (.tuple ⟨[v, .int .i64 e]⟩) A') : Wc Tryz.prog theX W0 m0 14 [.pointer (some ⟨120, 0, none⟩), nv] A K := by
  have hlo := hco.lo
  obtain ⟨o0, c0, hnv⟩ := hn.slice
  refine w14 _ _ _ cutn ?_
  rw [e14]
  refine newP_made (cs := [.pointer (some ⟨120, 0, none⟩)]) hf (by omega) rfl fun A1 m1 => ?_
  have n1 := m1.next
  have k1 := m1.keeps hf
  subst hnv
  refine newP_made (cs := [_]) m1.fine (by omega) rfl fun A2 m2 => ?_
  have n2 := m2.next
  have k2 := m2.keeps m1.fine
  refine allocP_made zero24 m2.fine (by omega) rfl fun A3 m3 => ?_
  have n3 := m3.next
  have k3 := m3.keeps m2.fine
  have K3 : Keeps A A3 [] := (k1.trans k2 (by simp)).trans k3 (by simp)
  have r0 := ((m1.row1).keeps k2 (by simp)).keeps k3 (by simp)
  have r1 := (m2.row1).keeps k3 (by simp)
  have r2 : Go.Abs.Row1 A3 A2.next (Nm.mk 0 .empty .empty).cells 24 := m3.row1
  have hco3 := hco.keeps K3 (by simp) (by simp)
  simp only [ld_27, cell_row r0.row, cellOf, isT_ptr, cond_false, pureW_some]
  refine wc32 hco3.cr hco3.one hco3.env (an_fun (dyn40 A3 _ _ _) rfl (wc40 hco3 r0 r1 r2 rfl (by omega) (hn.keeps K3 (by simp)) hl hb hF0 m3.fine (by omega) fun A4 e he k4 n4 f4 => ?_))
  have K4 : Keeps A A4 [118, 120] := (K3.more (by simp)).trans k4 (by simp; omega)
  obtain ⟨y, hy, hy0⟩ : ∃ y : Nm, Go.Abs.Row1 A4 A2.next y.cells 24 ∧ (e = 0 → y = x0) := by
    rcases he with ⟨_, _, h, _⟩ | ⟨rfl, h⟩
    · exact ⟨x0, h, fun _ => rfl⟩
    · exact ⟨_, h, fun h => by cases h⟩
  simp only [load24 hy, pureW_some]
  refine hy.store f4 (by omega) (st_24 _ _ _) rfl (by simp [Value.cells, Nm.cells]) rfl fun A5 r5 k5 n5 f5 => ?_
  have r5 : Go.Abs.Row1 A5 A2.next y.cells 24 := r5
  simp only [load24 r5, pureW_some]
  refine hk A5 _ e ?_ (K4.trans k5 (by simp; omega)) (by omega) f5
  rcases he with ⟨hok, rfl, _, pv, F, b, hco4, hp, hF⟩ | ⟨rfl, _⟩
  · exact .inl ⟨hok, rfl, by rw [hy0 rfl], pv, F, b, hco4.keeps k5 (by simp; omega) (by simp), hp.keeps k5 (fun z hz => by have := hF z hz; simp; omega), fun z hz => by have := hF z hz; omega⟩
  · exact .inr ⟨rfl, y, rfl⟩
theorem wc37 {A : AW} {g g1 : GV} {was sr b : Nat} {out : Value} {L : List Ml} {Fo F : List Nat} {p : Pt} {ps : List Pt} {aks : List (En Nat Int)} {K : Value → AW → Prop} (hco : CO A sr out L Fo [⟨g.x, g1, b⟩] aks) (hp : OwnF 135 4 Pt.cells A g.pv (p :: ps) F) (hF : ∀ y ∈ F, 126 ≤ y ∧ y ∉ Fo) (hL : L.length < 1000)
    (hl : (p :: ps).length < 1000) (hn : ∀ q ∈ p :: ps, q.n < 256) (hs : g.st = 2 ∨ g.st = 4) (hw : g.w ≤ 3) (ht : g.t ≤ 5) (hok : okD g.x (p :: ps) = true) (hwas : was ≠ g.st) (hf : Fine A) (hA : A.next + 400 + 200 * (p :: ps).length < maxId)
    (hk : ∀ A' out' Fo' pv' F', CO A' sr out' (L ++ lettersOf (tickG g.st g.w g.t).1.1 (p :: ps)) Fo' [⟨g.x, ⟨g.x, (tickG g.st g.w g.t).1.1, pv', (tickG g.st g.w g.t).1.2.1, (tickG g.st g.w g.t).1.2.2⟩, b⟩] aks → OwnF 135 4 Pt.cells A' pv' (p :: ps) F' → (∀ y ∈ F', A.next ≤ y ∧ y ∉ Fo') → (∀ y ∈ Fo', y ∈ Fo ∨ A.next ≤ y) → Keeps A A' (118 :: 120 :: Fo) → A'.next ≤ A.next + (120 + 70 * (p :: ps).length) → Fine A' → K (.int .i64 0) A') :
    Wc Tryz.prog theX W0 m0 37 [.pointer (some ⟨120, 0, none⟩), vG g, .int .u8 (was : Int)] A K := by
  have hone := ownF_one hp
  have hlo := hco.lo
  refine w37 _ _ _ _ cutn ?_
  rw [e37]
  refine newP_made (cs := g.cells) hf (by omega) (g_one hone) fun A1 m1 => ?_
  have n1 := m1.next
  have k1 := m1.keeps hf
  have r1 : Go.Abs.Row1 A1 A.next g.cells 50 := m1.row1
  simp only [ld_g r1 hone, pureW_some]
  refine wc88 (hp.keeps k1 (by simp)) (by omega) hn (.inr hs) hw ht m1.fine (by omega) fun A2 g2 => ?_
  have n2 := g2.next
  have l2 := g2.le
  have K2 : Keeps A A2 [] := k1.trans g2.keeps (by simp)
  have r2 := r1.keeps g2.keeps (by simp)
  have hco2 := hco.keeps K2 (by simp) (by simp)
  obtain ⟨cl, hrows⟩ := hco2.rows
  refine forkW_bool.2 ⟨fun h => (by cases h), fun _ => ?_⟩
  simp only [pureW_some, nilP_some, fa_79_3, ld_75, cell_row hco2.cr.row, cellOf, isT_ptr, isT_int, isT_map, cond_false, Nat.zero_add, fa_50_0, ld_gx r2, ld_g r2 hone]
  refine hrows.put mtG g2.fine (by omega) (k := g.x) (v := g) fun A3 c3 h3 k3 n3 f3 => ?_
  rw [put_one] at h3
  have hco3 := hco2.put k3 h3
  have r3 := r2.keeps k3 (by simp; omega)
  have r3e : Go.Abs.Row1 A3 A.next [.int .u32 (g.x.f : Int), .string g.x.g, .string g.x.b, .int .u8 (g.st : Int), .bool false, g.pv, .int .u32 (g.w : Int), .int .u32 (g.t : Int)] 50 := r3
  have hn5 : ((g.st : Int) == 5) = false := by rcases hs with h | h <;> rw [h] <;> rfl
  have hnw : ((g.st : Int) != (was : Int)) = true := by rw [bne_iff_ne]; omega
  simp only [fa_50_1, ld_47, cell_row r3e.row, cellOf, isT_string, isT_int, isT_bool, hone.noT, cond_false, Nat.zero_add, pureW_some, bin_eql, bin_neq, hn5, hnw]
  refine forkW_bool.2 ⟨fun h => (by cases h), fun _ => forkW_bool.2 ⟨fun _ => ?_, fun h => by cases h⟩⟩
  simp only [ld_g r3 hone, pureW_some]
  have hp3 := (hp.keeps K2 (by simp)).keeps k3 (fun y hy => by have := (hF y hy).1; simp; omega)
  refine wc46 hp3 (by omega) hn hs hw ht hok f3 (by omega) fun A4 v4 F4 o4 hF4 g4 => ?_
  have n4 := g4.next
  have l4 := g4.le
  have hv4 := ownF_one o4
  obtain ⟨ts, tw, tt⟩ := tickG_ok hs hw ht
  simp only [ex3_0, ex3_1, ex3_2, pureW_some]
  have hco4 := hco3.keeps g4.keeps (by simp) (by simp)
  refine st_g (g := ⟨g.x, (tickG g.st g.w g.t).1.1, v4, (tickG g.st g.w g.t).1.2.1, (tickG g.st g.w g.t).1.2.2⟩) (r3.keeps g4.keeps (by simp)) rfl hv4 g4.fine (by omega) fun A5 r5 k5 n5 f5 => ?_
  have hfo : ∀ y ∈ Fo, y < A.next := hco.ow.lt
  have hco5 := hco4.keeps k5 (by simp; omega) (fun y hy => by have := hfo y hy; simp; omega)
  obtain ⟨c5, hrows5⟩ := hco5.rows
  have hx5 := ld_gx r5
  have hg5 := ld_g r5 hv4
  simp only [pureW_some, nilP_some, fa_79_3, ld_75, cell_row hco5.cr.row, cellOf, isT_ptr, isT_int, isT_map, cond_false, Nat.zero_add, fa_50_0, hx5, hg5]
  refine hrows5.put mtG f5 (by omega) (k := g.x) (v := ⟨g.x, (tickG g.st g.w g.t).1.1, v4, (tickG g.st g.w g.t).1.2.1, (tickG g.st g.w g.t).1.2.2⟩) fun A6 c6 h6 k6 n6 f6 => ?_
  rw [put_one] at h6
  have hco6 := hco5.put k6 h6
  have r6 := r5.keeps k6 (by simp; omega)
  have o6 := (o4.keeps k5 (fun y hy => by have := hF4 y hy; simp; omega)).keeps k6 (fun y hy => by have := hF4 y hy; simp; omega)
  simp only [ld_g r6 hv4, pureW_some]
  refine wc47 (g := ⟨g.x, (tickG g.st g.w g.t).1.1, v4, (tickG g.st g.w g.t).1.2.1, (tickG g.st g.w g.t).1.2.2⟩) hco6.cr hco6.ow (fun h => by have := hco6.fo _ h; omega) hL o6 (by omega) hn ts tw tt hok f6 (by omega) fun A7 out' Fo' c7 o7 hFo7 k7 n7 f7 => ?_
  have hF4' : ∀ y ∈ F4, y ∉ Fo' := fun y hy h => by
    have h1 := hF4 y hy
    rcases hFo7 y h with h2 | h2
    · have := hfo y h2; omega
    · have := o6.lt y hy; omega
  refine hk A7 out' Fo' v4 F4 (hco6.row k7 c7 o7 fun y hy => ?_) (o6.keeps k7 fun y hy h => ?_) (fun y hy => ⟨by have := hF4 y hy; omega, hF4' y hy⟩) (fun y hy => ?_) ?_ (by omega) f7
  · rcases hFo7 y hy with h | h
    · exact hco.fo y h
    · omega
  · have h1 := hF4 y hy
    rcases List.mem_cons.1 h with h2 | h2
    · omega
    · have := hfo y h2; omega
  · rcases hFo7 y hy with h | h
    · exact .inl h
    · exact .inr (by omega)
  · refine (((((K2.more (by simp)).trans k3 (by simp)).trans g4.keeps (by simp)).trans k5 (by simp)).trans k6 (by simp)).trans k7 fun x hx => ?_
    rcases List.mem_cons.1 hx with h | h
    · exact .inl (by simp [h])
    · exact .inl (by simp [h])
theorem wc15 {A : AW} {pv : Value} {sr b : Nat} {F : List Nat} {x : Nm} {p : Pt} {ps : List Pt} {aks : List (En Nat Int)} {K : Value → AW → Prop} (hco : CO A sr (.slice none 0 0) [] [] [⟨x, ⟨x, 1, pv, 0, 0⟩, b⟩] aks) (hp : OwnF 135 4 Pt.cells A pv (p :: ps) F) (hF : ∀ y ∈ F, 126 ≤ y)
    (hl : (p :: ps).length < 1000) (hn : ∀ q ∈ p :: ps, q.n < 256) (hok : okD x (p :: ps) = true) (hf : Fine A) (hA : A.next + 600 + 300 * (p :: ps).length < maxId)
    (hk : ∀ A' out' Fo' pv' F', CO A' sr out' (lettersOf 2 (p :: ps)) Fo' [⟨x, ⟨x, 2, pv', 2, 1⟩, b⟩] aks → OwnF 135 4 Pt.cells A' pv' (p :: ps) F' → (∀ y ∈ F', 126 ≤ y ∧ y ∉ Fo') → Keeps A A' [118, 120] → A'.next ≤ A.next + (200 + 100 * (p :: ps).length) → Fine A' → K (.int .i64 0) A') :
    Wc Tryz.prog theX W0 m0 15 [.pointer (some ⟨120, 0, none⟩), .agg ⟨x.cells⟩, .bool true] A K := by
  have hlo := hco.lo
  refine w15 _ _ _ _ cutn ?_
  rw [e15]
  refine newP_made (cs := [.pointer (some ⟨120, 0, none⟩)]) hf (by omega) rfl fun A1 m1 => ?_
  have n1 := m1.next
  have k1 := m1.keeps hf
  refine newP_made (cs := x.cells) m1.fine (by omega) rfl fun A2 m2 => ?_
  have n2 := m2.next
  have k2 := m2.keeps m1.fine
  refine newP_made (cs := [.bool true]) m2.fine (by omega) rfl fun A3 m3 => ?_
  have n3 := m3.next
  have k3 := m3.keeps m2.fine
  have K3 : Keeps A A3 [] := (k1.trans k2 (by simp)).trans k3 (by simp)
  have r0 := ((m1.row1).keeps k2 (by simp)).keeps k3 (by simp)
  have r1 : Go.Abs.Row1 A3 A1.next x.cells 24 := (m2.row1).keeps k3 (by simp)
  have r2 := m3.row1
  have hco3 := hco.keeps K3 (by simp) (by simp)
  simp only [ld_27, cell_row r0.row, cellOf, isT_ptr, cond_false, pureW_some]
  refine wc32 hco3.cr hco3.one hco3.env (an_fun (dyn43 A3 _ _ _) rfl ?_)
  refine w43 _ _ _ _ cutn ?_
  rw [e43]
  refine allocP_made zero50 m3.fine (by omega) rfl fun A4 m4 => ?_
  have n4 := m4.next
  have k4 := m4.keeps m3.fine
  have hco4 := hco3.keeps k4 (by simp) (by simp)
  obtain ⟨cl, hrows⟩ := hco4.rows
  have r04 := r0.keeps k4 (by simp)
  have r14 := r1.keeps k4 (by simp)
  have r24 := r2.keeps k4 (by simp)
  have hlook : lookupA Tryz.prog A4 75 (.map (some 118)) (.agg ⟨x.cells⟩) true = some (.tuple ⟨[vG ⟨x, 1, pv, 0, 0⟩, .bool true]⟩) := by
    have := hrows.look mtG zero50 x true
    rw [look_one] at this
    exact this
  refine freshW_50 m4.row ?_
  simp only [ld_27, cell_row r04.row, cellOf, isT_ptr, isT_int, isT_map, isT_bool, cond_false, pureW_some, nilP_some, fa_79_3, ld_75, cell_row hco4.cr.row, Nat.zero_add, load24 r14, hlook, ex2_0, ex2_1]
  have hone := ownF_one hp
  refine st_g (g := ⟨x, 1, pv, 0, 0⟩) m4.row1 rfl hone m4.fine (by omega) fun A5 r5 k5 n5 f5 => ?_
  have K5 : Keeps A3 A5 [] := k4.trans k5 (by simp)
  have r05 := r0.keeps K5 (by simp)
  have r25 := r2.keeps K5 (by simp)
  simp only [eqW_self, un_not, pureW_some]
  refine forkW_bool.2 ⟨fun h => (by cases h), fun _ => ?_⟩
  simp only [ld_g r5 hone, pureW_some, ld_4, cell_row r25.row, cellOf, isT_bool, cond_false]
  refine wc44 (g := ⟨x, 1, pv, 0, 0⟩) ((hp.keeps K3 (by simp)).keeps K5 (by simp)) (by omega) hn rfl (by simp) (by simp) hok f5 (by omega) fun A6 v6 F6 o6 hF6 g6 => ?_
  have n6 := g6.next
  have l6 := g6.le
  have hv6 := ownF_one o6
  simp only [ex2_0, ex2_1, pureW_some]
  refine allocP_made zero50 g6.fine (by omega) rfl fun A7 m7 => ?_
  have n7 := m7.next
  have k7 := m7.keeps g6.fine
  refine st_g (g := ⟨x, 2, v6, 0, 0⟩) m7.row1 rfl hv6 m7.fine (by omega) fun A8 r8 k8 n8 f8 => ?_
  have K8 : Keeps A6 A8 [] := k7.trans k8 (by simp)
  have K38 : Keeps A3 A8 [] := (K5.trans g6.keeps (by simp)).trans K8 (by simp)
  have r08 := r0.keeps K38 (by simp)
  have r58 := (r5.keeps g6.keeps (by simp)).keeps K8 (by simp)
  have r58e : Go.Abs.Row1 A8 A3.next [.int .u32 (x.f : Int), .string x.g, .string x.b, .int .u8 1, .bool false, pv, .int .u32 0, .int .u32 0] 50 := r58
  have hco8 := hco3.keeps K38 (by simp) (by simp)
  simp only [bin_neq, pureW_some]
  refine forkW_bne.2 ⟨fun h => absurd rfl h, fun _ => ?_⟩
  simp only [ld_27, cell_row r08.row, ld_g r8 hv6, fa_50_1, ld_47, cell_row r58e.row, cellOf, isT_ptr, isT_int, isT_string, cond_false, pureW_some, Nat.zero_add]
  have o8 := o6.keeps K8 (by simp)
  refine wc37 (g := ⟨x, 2, v6, 0, 0⟩) (was := 1) hco8 o8 (fun y hy => ⟨by have := hF6 y hy; omega, by simp⟩) (by simp) hl hn (.inl rfl) (by simp) (by simp) hok (by simp) f8 (by omega) fun A9 out9 Fo9 pv9 F9 c9 o9 hF9 hFo9 k9 n9 f9 => ?_
  refine hk A9 out9 Fo9 pv9 F9 c9 o9 (fun y hy => ⟨by have := (hF9 y hy).1; omega, (hF9 y hy).2⟩) ?_ (by omega) f9
  exact (((K3.trans K38 (by simp)).more (by simp)).trans k9 (by simp))
end
end Go.Proofs.YtkjlldaddekegaaGreatDoor
