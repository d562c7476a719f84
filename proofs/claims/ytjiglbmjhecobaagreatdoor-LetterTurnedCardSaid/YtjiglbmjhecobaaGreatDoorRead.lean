/-
  What the cards of the letters' statements share: how a letter is read, what the listed variables hold. Conditions: those of each theorem.
-/
import Derived.Test.YtjiglbmjhecobaaGreatDoorPutsE
import Derived.Test.YtjiglbmjhecobaaGreatDoorHead
import Derived.Test.YtjiglbmjhecobaaGreatDoorCards
import Derived.Test.YtjiglbmjhecobaaGreatDoorTie
import Derived.LaidMore
import Derived.Lib.LaidTab
import Derived.Lib.SmallJoins
import Derived.Stop.LaidErr
import Derived.SevenTiedAt
import Derived.ChangeMaps5
import Derived.Deep.Strs

namespace Go.Proofs.YtjiglbmjhecobaaGreatDoor
open Go Go.Abs Go.ChangeShapes Go.WideShapes Go.ChangeAt Go.RowKit Go.Joins Go.Deep
open Hd (rowsG crcNums head_calls)

theorem head_kc {W : World} (hW : Go.Abs.Holds W rowsG) (m : Inj Tryz.prog) : KC.Holds Tryz.prog W m ⟨7, [], [.bool true]⟩ := kc_true (by decide) head_calls hW m

theorem Tryz.cells4 : Tryz.prog.cellsOf 4 = 1 := by kernel_rfl
theorem Tryz.cells5 : Tryz.prog.cellsOf 5 = 1 := by kernel_rfl
theorem Tryz.cells9 : Tryz.prog.cellsOf 9 = 1 := by kernel_rfl
theorem Tryz.cells22 : Tryz.prog.cellsOf 22 = 1 := by kernel_rfl
theorem Tryz.cells24 : Tryz.prog.cellsOf 24 = 3 := by kernel_rfl
theorem Tryz.cells25 : Tryz.prog.cellsOf 25 = 1 := by kernel_rfl
theorem Tryz.cells26 : Tryz.prog.cellsOf 26 = 1 := by kernel_rfl
theorem Tryz.cells27 : Tryz.prog.cellsOf 27 = 1 := by kernel_rfl
theorem Tryz.cells29 : Tryz.prog.cellsOf 29 = 7 := by kernel_rfl

def Nm.wf (p : Nm) : Prop := p.f < 4294967296
theorem nm_closed4 (p : Nm) : p.cells.all (closedV 4) = true := rfl
theorem nm_length (p : Nm) : p.cells.length = 3 := rfl
section
variable {H : Type} {enc : TypeId × Value → H} {w : World} {q : Nat}
theorem read_num {t : TypeId} {c0 : Value} {k : IntKind} {y : DataW H × List MemPlace} (hu : Tryz.prog.underlying t = some (.int k)) (hmin : k.min = 0) (h : DataW.trod enc Tryz.prog w 0 (fun _ => true) true q t [c0] = some y) : ∃ n : Nat, c0 = .int k (n : Int) ∧ (n : Int) ≤ k.max := by
  obtain ⟨k, e0, _, wk⟩ := DataW.trod_int hu h
  cases e0
  simp only [Lit.wf, Bool.and_eq_true, decide_eq_true_eq] at wk
  have hk0 : 0 ≤ k := by have := wk.1; rw [hmin] at this; exact this
  refine ⟨k.toNat, ?_, ?_⟩
  · rw [Int.toNat_of_nonneg hk0]
  · rw [Int.toNat_of_nonneg hk0]; exact wk.2
theorem read_xid {c0 c1 c2 : Value} {y : DataW H × List MemPlace} (h : DataW.trod enc Tryz.prog w 0 (fun _ => true) true q 24 [c0, c1, c2] = some y) :
    ∃ (f : Nat) (g b : ByteArray), c0 = .int .u32 (f : Int) ∧ c1 = .string g ∧ c2 = .string b ∧ f < 4294967296 := by
  obtain ⟨z0, z1, z2, n', _, _, g0, g1, g2⟩ := trod_struct3 Tryz.underlying24 h
  have g0 : DataW.trod enc Tryz.prog w 0 (fun _ => true) true n' 22 [c0] = some z0 := by simpa [Tryz.cells22] using g0
  have g1 : DataW.trod enc Tryz.prog w 0 (fun _ => true) true n' 9 [c1] = some z1 := by simpa [Tryz.cells9] using g1
  have g2 : DataW.trod enc Tryz.prog w 0 (fun _ => true) true n' 9 [c2] = some z2 := by simpa [Tryz.cells9] using g2
  obtain ⟨f, e0, hf⟩ := read_num Tryz.underlying22 rfl g0
  obtain ⟨g, e1, _⟩ := DataW.trod_string Tryz.underlying9 g1
  obtain ⟨b, e2, _⟩ := DataW.trod_string Tryz.underlying9 g2
  cases e0; cases e1; cases e2
  have hf : (f : Int) ≤ 4294967295 := hf
  exact ⟨f, g, b, rfl, rfl, rfl, by omega⟩
set_option maxRecDepth 100000 in
theorem read_nm {cs : List Value} {y : DataW H × List MemPlace} (h : DataW.trod enc Tryz.prog w 0 (fun _ => true) true q 24 cs = some y) : ∃ p : Nm, cs = p.cells ∧ p.wf := by
  obtain ⟨_, _, _, _, hl, _, _⟩ := DataW.trod_struct Tryz.underlying24 h
  have hl : cs.length = 3 := hl.trans Tryz.cells24
  match cs, hl with
  | [c0, c1, c2], _ =>
    obtain ⟨f, g, b, rfl, rfl, rfl, hf⟩ := read_xid h
    exact ⟨⟨f, g, b⟩, rfl, hf⟩
structure Lt where
  kd : Nat
  xa : Nat
  no : Nat
  x : Nm
def Lt.val (t : Lt) (s : Value) : Value := letV t.kd t.xa t.no t.x s
structure Lt.wf (t : Lt) (l : List Nm) : Prop where
  kd : t.kd < 256
  xa : t.xa < 256
  no : t.no < 65536
  x : t.x.f < 4294967296
  l : ∀ p ∈ l, p.f < 4294967296
theorem read_let {c0 c1 c2 c3 c4 c5 c6 : Value} {y : DataW H × List MemPlace} (h : DataW.trod enc Tryz.prog w 0 (fun _ => true) true q 29 [c0, c1, c2, c3, c4, c5, c6] = some y) :
    ∃ (t : Lt) (l : List Nm) (s : Value) (La : Arg), [c0, c1, c2, c3, c4, c5, c6] = letC t.kd t.xa t.no t.x s ∧ InSlice w Nm.cells s l La ∧ t.wf l := by
  obtain ⟨xs, n, _, _, hl, hlen, hg⟩ := DataW.trod_struct Tryz.underlying29 h
  match xs, hlen with
  | [y0, y1, y2, y3, y4], _ =>
    have g0 : DataW.trod enc Tryz.prog w 0 (fun _ => true) true n 5 [c0] = some y0 := by simpa [Tryz.cells5] using hg 0 _ rfl
    have g1 : DataW.trod enc Tryz.prog w 0 (fun _ => true) true n 24 [c1, c2, c3] = some y1 := by simpa [Tryz.cells24] using hg 1 _ rfl
    have g2 : DataW.trod enc Tryz.prog w 0 (fun _ => true) true n 25 [c4] = some y2 := by simpa [Tryz.cells25] using hg 2 _ rfl
    have g3 : DataW.trod enc Tryz.prog w 0 (fun _ => true) true n 26 [c5] = some y3 := by simpa [Tryz.cells26] using hg 3 _ rfl
    have g4 : DataW.trod enc Tryz.prog w 0 (fun _ => true) true n 27 [c6] = some y4 := by simpa [Tryz.cells27] using hg 4 _ rfl
    obtain ⟨kd, rfl, h0⟩ := read_num Tryz.underlying5 rfl g0
    obtain ⟨f, g, b, rfl, rfl, rfl, hf⟩ := read_xid g1
    obtain ⟨xa, rfl, h2⟩ := read_num Tryz.underlying25 rfl g2
    obtain ⟨no, rfl, h3⟩ := read_num Tryz.underlying26 rfl g3
    obtain ⟨s, l, La, e3, hs, hw⟩ := read_flat (f := Nm.cells) (ok := Nm.wf) ⟨0, .empty, .empty⟩ Tryz.underlying27 (by rw [Tryz.cells24]; decide) (fun q => by rw [Tryz.cells24]; rfl) (fun q cs y h => read_nm h) g4
    cases e3
    have h0 : (kd : Int) ≤ 255 := h0
    have h2 : (xa : Int) ≤ 255 := h2
    have h3 : (no : Int) ≤ 65535 := h3
    exact ⟨⟨kd, xa, no, ⟨f, g, b⟩⟩, l, _, La, rfl, hs, ⟨by show kd < 256; omega, by show xa < 256; omega, by show no < 65536; omega, hf, hw⟩⟩
set_option maxRecDepth 100000 in
theorem read_arg {b0 : Nat} {v : Value} {d : DataW H} {p : List MemPlace} (hv : Value.okWide Tryz.prog w .any b0 29 v) (h : DataW.Trod enc Tryz.prog w 0 (fun _ => true) true 29 v d p) :
    ∃ (t : Lt) (l : List Nm) (s : Value) (La : Arg), v = t.val s ∧ InSlice w Nm.cells s l La ∧ t.wf l := by
  obtain ⟨cs, rfl, hsz⟩ := okWide_struct Tryz.underlying29 hv
  have hsz : cs.toList.length = 7 := by rw [Array.length_toList]; exact hsz.trans Tryz.cells29
  obtain ⟨cs⟩ := cs
  have hsz : cs.length = 7 := hsz
  obtain ⟨fuel, hf⟩ := h
  have hc : (Value.cells (.agg ⟨cs⟩)).toList = cs := rfl
  rw [hc] at hf
  match cs, hsz with
  | [c0, c1, c2, c3, c4, c5, c6], _ =>
    obtain ⟨t, l, s, La, e, hs, hw⟩ := read_let hf
    exact ⟨t, l, s, La, by rw [e]; rfl, hs, hw⟩
end
theorem rdN_of {l : List Nm} {s' : Value} {L : List Arg} {j : Nat} (hk : Tryz.prog.globals.size + L.length + 1 ≤ maxId) (h : (l = [] ∧ ∃ o c, s' = .slice o 0 c) ∨ ∃ c p e, s' = .slice (some ⟨Tryz.prog.globals.size + j, 0, none⟩) l.length c ∧ L[j]? = some (p, some (flat Nm.cells l, e))) :
    ∃ F, RdN (wR Tryz.prog.globals.size rowsG L) s' l F := by
  rcases h with ⟨hl, h⟩ | ⟨c, p, e, rfl, hj⟩
  · exact ⟨[], .inl ⟨hl, rfl, h⟩⟩
  · refine ⟨[Tryz.prog.globals.size + L.length], .inr ⟨_, 0, c, _, e, _, 0, true, rfl, wR_arg (by omega) hj, by show _ < _ + 1; omega, rfl, fun i p hi => ?_⟩⟩
    rw [Nat.zero_add]
    exact flat_drop nm_length l i p hi
theorem glb_of {L : List Arg} (hk : Tryz.prog.globals.size + L.length + 1 ≤ maxId) : Glb (wR Tryz.prog.globals.size rowsG L) := by
  refine ⟨?_, by show 0 < Tryz.prog.globals.size + L.length + 1; omega⟩
  show (argT _ _ L _).get? _ = _
  rw [argT_get _ L _ _ _ (by omega), if_pos (by rw [Hd.Tryz.nG]; decide)]
  rfl

theorem Tryz.own : ownKnob Tryz.prog.godebug = none := by kernel_rfl
theorem Tryz.laidOut : laidOutB Tryz.prog = true := by kernel_rfl
theorem holds_of_laid {W : World} (hsh : W.ShapedOpen Tryz.prog) (h : laidMetH Tryz.prog Rows.letterPutsRow.laid W) : Go.Abs.Holds W rowsG := by
  rw [MakeChecks.laidMetH_plain _ _ _ (by kernel_rfl)] at h
  have ht : Lib.TabIs Tryz.prog W "posthouse/crc.table" .u32 crcNums :=
    Lib.tabIs_of_head (g := 0) (t := 301) (n := 16) (zs := crcNums) (by kernel_rfl) (by kernel_rfl) Tryz.underlying301 (by kernel_rfl) (by kernel_rfl) (by kernel_rfl) h.tail.tail.tail
  intro x hx
  obtain rfl : x = _ := by simpa [rowsG] using hx
  exact holds_var hsh (name := "posthouse/crc.table") (by kernel_rfl) (by rw [Hd.Tryz.nG]; decide) (by kernel_rfl) ht
end Go.Proofs.YtjiglbmjhecobaaGreatDoor
