/-
  BrokerTimes: what the law answers, by the ticks. Conditions: those of each theorem.
-/
import Derived.Test.YtjbnbliakfeobaaGreatDoorRunC
import Derived.Test.YtjbnbliakfeobaaGreatDoorRunD
import Derived.Test.YtjbnbliakfeobaaGreatDoorRunE
import Derived.Test.YtjbnbliakfeobaaGreatDoorRunB
import Derived.Test.YtjbnbliakfeobaaGreatDoorRunG
import Derived.Test.YtjbnbliakfeobaaGreatDoorAbsF
import Derived.Test.YtjbnbliakfeobaaGreatDoorHead
set_option linter.all false

set_option maxRecDepth 100000
namespace Go.Proofs.YtjbnbliakfeobaaGreatDoor
open Go.Abs

theorem Tryz.xokA (k fo ask : List FuncId) (sa : List (FuncId × Tmp × Value)) : XOk Tryz.prog { theX with known := k, forks := fo, asks := ask, says := sa } := by
  refine ⟨fun f h => ?_, fun f h => ?_, fun f h => ?_⟩
  · obtain rfl : f = 347 := by simpa [theX] using memN_mem h
    exact ⟨Tryz.f347, by kernel_rfl, by kernel_rfl, by kernel_rfl, by kernel_rfl, by kernel_rfl⟩
  · obtain rfl : f = 450 := by simpa [theX] using memN_mem h
    exact ⟨Tryz.f450, by kernel_rfl, by kernel_rfl, by kernel_rfl, by kernel_rfl, by kernel_rfl⟩
  · obtain rfl : f = 451 := by simpa [theX] using memN_mem h
    exact ⟨Tryz.f451, by kernel_rfl, by kernel_rfl, by kernel_rfl, by kernel_rfl, by kernel_rfl, by kernel_rfl⟩
theorem Tryz.nG : Tryz.prog.globals.size = 9 := by kernel_rfl
theorem Tryz.okG : okG Tryz.prog.globals.size rowsG = true := by kernel_rfl
def rowV (st why n m : Int) : Value := .agg ⟨[.int .u32 0, .string ⟨⟨[120]⟩⟩, .string ⟨⟨[]⟩⟩, .int .u8 st, .int .u8 why, .int .u32 n, .int .u32 m]⟩
def xR (l : List (FuncId × Tmp × Value)) : XNames := { theX with says := l }
theorem row_a (n m : Int) : runsAsk Tryz.prog (xR [(298, 33, .bool true), (298, 37, .bool true)]) theMg ansK [] 400 ⟨frOf Tryz.prog 298 [rowV 1 0 n m], [], wG 9 []⟩ = (true, [[.bool (decide (n = 0))], [.bool (decide (m = 0))]], [[.bool true], [.bool true]]) := by kernel_rfl
theorem row_b (n m : Int) : runsAsk Tryz.prog (xR [(298, 33, .bool false), (298, 50, .bool true), (298, 56, .bool true)]) theMg ansK [] 400 ⟨frOf Tryz.prog 298 [rowV 1 0 n m], [], wG 9 []⟩ = (true, [[.bool (decide (n = 0))], [.bool (decide (m ≥ 1))], [.bool (decide (m ≤ n))]], [[.bool false], [.bool true], [.bool true]]) := by kernel_rfl
theorem row_c (n q : Int) : runsAsk Tryz.prog (xR [(298, 37, .bool true)]) theMg ansK [] 400 ⟨frOf Tryz.prog 298 [rowV 1 2 n q], [], wG 9 []⟩ = (true, [[.bool (decide (q = 0))]], [[.bool true]]) := by kernel_rfl
theorem row_d (n : Int) : runsAsk Tryz.prog (xR []) theMg ansK [] 400 ⟨frOf Tryz.prog 298 [rowV 2 0 n 0], [], wG 9 []⟩ = (true, [], []) := by kernel_rfl
theorem wrap_i {n : Int} (h1 : 0 ≤ n) (h2 : n < 1000) : IntKind.i64.wrap n = n := by rw [IntKind.wrap_i64]; omega
theorem wrap_u {n : Int} (h1 : 0 ≤ n) (h2 : n < 1000) : IntKind.u32.wrap n = n := by rw [IntKind.wrap_u32]; omega
theorem same_exec (l l' : List (FuncId × Tmp × Value)) : execA Tryz.prog (xS l) = execA Tryz.prog (xS l') := rfl
theorem xok (l : List (FuncId × Tmp × Value)) : XOk Tryz.prog (xS l) := Tryz.xokA [18, 298] [] [] l
theorem xokR (l : List (FuncId × Tmp × Value)) : XOk Tryz.prog (xR l) := Tryz.xokA [] [] [] l
section
variable {W0 : World} {m0 : Inj Tryz.prog}
theorem nokc : ∀ k ∈ ([] : List KC), KC.Holds Tryz.prog W0 m0 k := fun k hk => by cases hk
theorem kcons {x : KC} {l : List KC} (h : KC.Holds Tryz.prog W0 m0 x) (t : ∀ k ∈ l, KC.Holds Tryz.prog W0 m0 k) : ∀ k ∈ x :: l, KC.Holds Tryz.prog W0 m0 k := fun k hk => by
  rcases List.mem_cons.1 hk with rfl | hk
  · exact h
  · exact t k hk
theorem ask {v v' : Value} (h : v = v') : KC.Holds Tryz.prog W0 m0 ⟨sameFn, [v], [v']⟩ := ⟨fun _ => by rw [h], fun hn => absurd rfl hn⟩
theorem row_kc {l : List (FuncId × Tmp × Value)} {v : Value} {L R : List (List Value)} (hc : closedV 4 v = true) (he : (enterA Tryz.prog 298 [v] .normal).isSome = true) (h : runsAsk Tryz.prog (xR l) theMg ansK [] 400 ⟨frOf Tryz.prog 298 [v], [], wG 9 []⟩ = (true, L, R)) (hLR : L = R) : KC.Holds Tryz.prog W0 m0 ⟨298, [v], [.bool true]⟩ := by
  refine kc_closed (by decide) (by rw [List.all_cons, hc]; rfl) fun W => ?_
  refine calls_true (X := xR l) (l := []) (args := [v]) gP (by kernel_rfl) (by rw [List.all_cons, hc]; rfl) he W (fun x hx => by cases hx) ?_
  rw [Tryz.nG]
  exact answers_of_asks (xokR _) gP h hLR (fun f hf => by cases hf)
theorem row_kc1 {n m : Int} (h : (n = 0 ∧ m = 0) ∨ (n > 0 ∧ 1 ≤ m ∧ m ≤ n)) : KC.Holds Tryz.prog W0 m0 ⟨298, [rowV 1 0 n m], [.bool true]⟩ := by
  rcases h with ⟨h1, h2⟩ | ⟨h1, h2, h3⟩
  · exact row_kc rfl (by kernel_rfl) (row_a n m) (by rw [decide_eq_true h1, decide_eq_true h2])
  · exact row_kc rfl (by kernel_rfl) (row_b n m) (by rw [decide_eq_false (by omega), decide_eq_true h2, decide_eq_true h3])
theorem row_kc2 {n q : Int} (h : q = 0) : KC.Holds Tryz.prog W0 m0 ⟨298, [rowV 1 2 n q], [.bool true]⟩ := row_kc rfl (by kernel_rfl) (row_c n q) (by rw [decide_eq_true h])
theorem row_kc3 {n : Int} : KC.Holds Tryz.prog W0 m0 ⟨298, [rowV 2 0 n 0], [.bool true]⟩ := row_kc rfl (by kernel_rfl) (row_d n) rfl

abbrev Ok (W0 : World) (m0 : Inj Tryz.prog) (s : ASt) : Prop := WPw Tryz.prog (xS []) W0 m0 s fun v => isT v = true
variable (hm : ∀ i x, m0 i = some x → i < Tryz.prog.globals.size) (hh : KC.Holds Tryz.prog W0 m0 ⟨18, [], [.bool true]⟩)
include hm hh
theorem end_f (a b n m k i : Int) (y114 y115 y116 y117 y118 y119 y120 y121 y122 y123 y124 y125 y126 y127 y128 y129 y130 y131 y132 y133 : Value) (hnm : (n = 0 ∧ m = 0) ∨ (n > 0 ∧ 1 ≤ m ∧ m ≤ n)) : Ok W0 m0 (FU a b n m k i y114 y115 y116 y117 y118 y119 y120 y121 y122 y123 y124 y125 y126 y127 y128 y129 y130 y131 y132 y133) := by
  refine WPw.other (same_exec _ []) ((chunk_sound (xok []) gP (fu1_run a b n m k i y114 y115 y116 y117 y118 y119 y120 y121 y122 y123 y124 y125 y126 y127 y128 y129 y130 y131 y132 y133) (kcons (row_kc1 hnm) (kcons (row_kc1 hnm) nokc))).wpw (WPw.other (same_exec _ []) ?_))
  refine WPw.other (same_exec _ []) ((chunk_sound (xok []) gP (fu2_run a b n m k i y114 y115 y116 y117 y118 y119 y120 y121 y122 y123 y124 y125 y126 y127 y128 y129 y130 y131 y132 y133) nokc).wpw (WPw.other (same_exec _ []) ?_))
  refine WPw.other (same_exec _ []) ((chunk_sound (xok []) gP (fu3_run a b n m k i y114 y115 y116 y117 y118 y119 y120 y121 y122 y123 y124 y125 y126 y127 y128 y129 y130 y131 y132 y133) nokc).wpw (WPw.other (same_exec _ []) ?_))
  exact WPw.other (same_exec _ []) (Answers.wpw (answers_of_run (xok []) gP (fu_last a b n k i y114 y115 y116 y117 y118 y119 y120 y121 y122 y123 y124 y125 y126 y127 y128 y129 y130 y131 y132 y133) (kcons hh nokc)))
theorem end_u (a b n m k i : Int) (y114 y115 y116 y117 y118 y119 y120 y121 : Value) (hnm : (n = 0 ∧ m = 0) ∨ (n > 0 ∧ 1 ≤ m ∧ m ≤ n)) (hik : ¬ i < k) (hl : n = 0 ∨ k < n) (hwn : IntKind.i64.wrap n = n) : Ok W0 m0 (HU a b n m k i y114 y115 y116 y117 y118 y119 y120 y121) := by
  by_cases hn : n > 0
  · have hkn : ¬ k ≥ n := by omega
    refine WPw.other (same_exec _ [(3, 116, zf), (3, 126, zt), (3, 131, (zI n)), (3, 132, zf)]) ((chunk_sound (xok [(3, 116, zf), (3, 126, zt), (3, 131, (zI n)), (3, 132, zf)]) gP (eb_run a b n m k i y114 y115 y116 y117 y118 y119 y120 y121) (kcons (ask (by rw [decide_eq_false hik]; rfl)) (kcons (ask (by rw [decide_eq_true hn]; rfl)) (kcons (ask (by rw [hwn]; rfl)) (kcons (ask (by rw [decide_eq_false hkn]; rfl)) nokc))))).wpw (WPw.other (same_exec _ []) ?_))
    exact end_f hm hh _ _ _ _ _ _ _ _ _ _ _ _ _ _ _ _ _ _ _ _ _ _ _ _ _ _ hnm
  · refine WPw.other (same_exec _ [(3, 116, zf), (3, 126, zf)]) ((chunk_sound (xok [(3, 116, zf), (3, 126, zf)]) gP (ea_run a b n m k i y114 y115 y116 y117 y118 y119 y120 y121) (kcons (ask (by rw [decide_eq_false hik]; rfl)) (kcons (ask (by rw [decide_eq_false hn]; rfl)) nokc))).wpw (WPw.other (same_exec _ []) ?_))
    exact end_f hm hh _ _ _ _ _ _ _ _ _ _ _ _ _ _ _ _ _ _ _ _ _ _ _ _ _ _ hnm
theorem end_g (a b n k : Int) (y114 y115 y116 y117 y118 y119 y120 y121 y122 y123 y124 y125 y126 y127 y128 y129 y130 y131 y132 y133 : Value) (hnn : (n = 0 ∧ n = 0) ∨ (n > 0 ∧ 1 ≤ n ∧ n ≤ n)) : Ok W0 m0 (F0 a b n k y114 y115 y116 y117 y118 y119 y120 y121 y122 y123 y124 y125 y126 y127 y128 y129 y130 y131 y132 y133) := by
  refine WPw.other (same_exec _ []) ((chunk_sound (xok []) gP (fz1_run a b n k y114 y115 y116 y117 y118 y119 y120 y121 y122 y123 y124 y125 y126 y127 y128 y129 y130 y131 y132 y133) (kcons (row_kc1 hnn) (kcons (row_kc1 hnn) nokc))).wpw (WPw.other (same_exec _ []) ?_))
  refine WPw.other (same_exec _ []) ((chunk_sound (xok []) gP (fz2_run a b n k y114 y115 y116 y117 y118 y119 y120 y121 y122 y123 y124 y125 y126 y127 y128 y129 y130 y131 y132 y133) nokc).wpw (WPw.other (same_exec _ []) ?_))
  refine WPw.other (same_exec _ []) ((chunk_sound (xok []) gP (fz3_run a b n k y114 y115 y116 y117 y118 y119 y120 y121 y122 y123 y124 y125 y126 y127 y128 y129 y130 y131 y132 y133) nokc).wpw (WPw.other (same_exec _ []) ?_))
  exact WPw.other (same_exec _ []) (Answers.wpw (answers_of_run (xok []) gP (fz_last a b n k y114 y115 y116 y117 y118 y119 y120 y121 y122 y123 y124 y125 y126 y127 y128 y129 y130 y131 y132 y133) (kcons hh nokc)))
theorem end_z (a b n k : Int) (hnn : (n = 0 ∧ n = 0) ∨ (n > 0 ∧ 1 ≤ n ∧ n ≤ n)) (h0k : ¬ 0 < k) (hk : 0 ≤ k) (hwn : IntKind.i64.wrap n = n) : Ok W0 m0 (HU0 a b n k) := by
  by_cases hn : n > 0
  · have hkn : ¬ k ≥ n := by omega
    refine WPw.other (same_exec _ [(3, 116, zf), (3, 126, zt), (3, 131, (zI n)), (3, 132, zf)]) ((chunk_sound (xok [(3, 116, zf), (3, 126, zt), (3, 131, (zI n)), (3, 132, zf)]) gP (eb0_run a b n k) (kcons (ask (by rw [decide_eq_false h0k]; rfl)) (kcons (ask (by rw [decide_eq_true hn]; rfl)) (kcons (ask (by rw [hwn]; rfl)) (kcons (ask (by rw [decide_eq_false hkn]; rfl)) nokc))))).wpw (WPw.other (same_exec _ []) ?_))
    exact end_g hm hh _ _ _ _ _ _ _ _ _ _ _ _ _ _ _ _ _ _ _ _ _ _ _ _ hnn
  · refine WPw.other (same_exec _ [(3, 116, zf), (3, 126, zf)]) ((chunk_sound (xok [(3, 116, zf), (3, 126, zf)]) gP (ea0_run a b n k) (kcons (ask (by rw [decide_eq_false h0k]; rfl)) (kcons (ask (by rw [decide_eq_false hn]; rfl)) nokc))).wpw (WPw.other (same_exec _ []) ?_))
    exact end_g hm hh _ _ _ _ _ _ _ _ _ _ _ _ _ _ _ _ _ _ _ _ _ _ _ _ hnn
theorem end_h (a b n q k i : Int) (y114 y115 y116 y117 y118 y119 y120 y121 y122 y123 y124 y125 y126 y127 y128 y129 y130 y131 y132 y133 : Value) (hq0 : q = 0) : Ok W0 m0 (FL a b n q k i y114 y115 y116 y117 y118 y119 y120 y121 y122 y123 y124 y125 y126 y127 y128 y129 y130 y131 y132 y133) := by
  refine WPw.other (same_exec _ []) ((chunk_sound (xok []) gP (fl1_run a b n q k i y114 y115 y116 y117 y118 y119 y120 y121 y122 y123 y124 y125 y126 y127 y128 y129 y130 y131 y132 y133) nokc).wpw (WPw.other (same_exec _ []) ?_))
  refine WPw.other (same_exec _ []) ((chunk_sound (xok []) gP (fl2_run a b n q k i y114 y115 y116 y117 y118 y119 y120 y121 y122 y123 y124 y125 y126 y127 y128 y129 y130 y131 y132 y133) (kcons (row_kc2 hq0) (kcons (row_kc2 hq0) nokc))).wpw (WPw.other (same_exec _ []) ?_))
  refine WPw.other (same_exec _ []) ((chunk_sound (xok []) gP (fl3_run a b n k i y114 y115 y116 y117 y118 y119 y120 y121 y122 y123 y124 y125 y126 y127 y128 y129 y130 y131 y132 y133) nokc).wpw (WPw.other (same_exec _ []) ?_))
  refine WPw.other (same_exec _ []) ((chunk_sound (xok []) gP (fl4_run a b n k i y114 y115 y116 y117 y118 y119 y120 y121 y122 y123 y124 y125 y126 y127 y128 y129 y130 y131 y132 y133) nokc).wpw (WPw.other (same_exec _ []) ?_))
  refine WPw.other (same_exec _ []) ((chunk_sound (xok []) gP (fl5_run a b n k i y114 y115 y116 y117 y118 y119 y120 y121 y122 y123 y124 y125 y126 y127 y128 y129 y130 y131 y132 y133) nokc).wpw (WPw.other (same_exec _ []) ?_))
  exact WPw.other (same_exec _ []) (Answers.wpw (answers_of_run (xok []) gP (fl_last a b n k i y114 y115 y116 y117 y118 y119 y120 y121 y122 y123 y124 y125 y126 y127 y128 y129 y130 y131 y132 y133) (kcons hh nokc)))
theorem end_l (a b n q k i : Int) (y114 y115 y116 y117 y118 y119 y120 y121 : Value) (hq0 : q = 0) (hik : ¬ i < k) (hn : n > 0) (hkn : k ≥ n) (hwn : IntKind.i64.wrap n = n) : Ok W0 m0 (HL a b n q k i y114 y115 y116 y117 y118 y119 y120 y121) := by
  refine WPw.other (same_exec _ [(3, 116, zf), (3, 126, zt), (3, 131, (zI n)), (3, 132, zt)]) ((chunk_sound (xok [(3, 116, zf), (3, 126, zt), (3, 131, (zI n)), (3, 132, zt)]) gP (el_run a b n q k i y114 y115 y116 y117 y118 y119 y120 y121) (kcons (ask (by rw [decide_eq_false hik]; rfl)) (kcons (ask (by rw [decide_eq_true hn]; rfl)) (kcons (ask (by rw [hwn]; rfl)) (kcons (ask (by rw [decide_eq_true hkn]; rfl)) nokc))))).wpw (WPw.other (same_exec _ []) ?_))
  exact end_h hm hh _ _ _ _ _ _ _ _ _ _ _ _ _ _ _ _ _ _ _ _ _ _ _ _ _ _ hq0
theorem end_q (a b n k i : Int) (y114 y115 y116 y117 y118 y119 y120 y121 y122 y123 y124 y125 y126 y127 y128 y129 y130 y131 y132 y133 : Value) : Ok W0 m0 (FP a b n k i y114 y115 y116 y117 y118 y119 y120 y121 y122 y123 y124 y125 y126 y127 y128 y129 y130 y131 y132 y133) := by
  refine WPw.other (same_exec _ []) ((chunk_sound (xok []) gP (fq1_run a b n k i y114 y115 y116 y117 y118 y119 y120 y121 y122 y123 y124 y125 y126 y127 y128 y129 y130 y131 y132 y133) (kcons row_kc3 (kcons row_kc3 nokc))).wpw (WPw.other (same_exec _ []) ?_))
  refine WPw.other (same_exec _ []) ((chunk_sound (xok []) gP (fq2_run a b n k i y114 y115 y116 y117 y118 y119 y120 y121 y122 y123 y124 y125 y126 y127 y128 y129 y130 y131 y132 y133) nokc).wpw (WPw.other (same_exec _ []) ?_))
  exact WPw.other (same_exec _ []) (Answers.wpw (answers_of_run (xok []) gP (fq_last a b n k i y114 y115 y116 y117 y118 y119 y120 y121 y122 y123 y124 y125 y126 y127 y128 y129 y130 y131 y132 y133) (kcons hh nokc)))
theorem end_p (a b n k i : Int) (y114 y115 y116 y117 y118 y119 y120 y121 : Value) (hik : ¬ i < k) : Ok W0 m0 (HP a b n k i y114 y115 y116 y117 y118 y119 y120 y121) := by
  refine WPw.other (same_exec _ [(3, 116, zf)]) ((chunk_sound (xok [(3, 116, zf)]) gP (ep_run a b n k i y114 y115 y116 y117 y118 y119 y120 y121) (kcons (ask (by rw [decide_eq_false hik]; rfl)) nokc)).wpw (WPw.other (same_exec _ []) ?_))
  exact end_q hm hh _ _ _ _ _ _ _ _ _ _ _ _ _ _ _ _ _ _ _ _ _ _ _ _ _
theorem end_p0 (a b n k : Int) (h0k : ¬ 0 < k) : Ok W0 m0 (HP0 a b n k) := by
  refine WPw.other (same_exec _ [(3, 116, zf)]) ((chunk_sound (xok [(3, 116, zf)]) gP (ep0_run a b n k) (kcons (ask (by rw [decide_eq_false h0k]; rfl)) nokc)).wpw (WPw.other (same_exec _ []) ?_))
  exact end_q hm hh _ _ _ _ _ _ _ _ _ _ _ _ _ _ _ _ _ _ _ _ _ _ _ _ _
theorem loop_l (a b n q k : Int) (hq0 : q = 0) (hn : n > 0) (hkb : k < 40) (hwn : IntKind.i64.wrap n = n) : ∀ (d : Nat) (i : Int) (y114 y115 y116 y117 y118 y119 y120 y121 : Value), i + d = k → 0 ≤ i → i ≥ n → Ok W0 m0 (HL a b n q k i y114 y115 y116 y117 y118 y119 y120 y121)
  | 0, i, y114, y115, y116, y117, y118, y119, y120, y121, hd, h0, hin => end_l hm hh a b n q k i y114 y115 y116 y117 y118 y119 y120 y121 hq0 (by omega) hn (by omega) hwn
  | d + 1, i, y114, y115, y116, y117, y118, y119, y120, y121, hd, h0, hin => by
    have hik : i < k := by omega
    have hj : IntKind.i64.wrap (i + 1) = i + 1 := wrap_i (by omega) (by omega)
    refine WPw.other (same_exec _ [(3, 116, zt), (143, 26, zt), (3, 118, (zI (i + 1)))]) (chunkR_wpw (xok [(3, 116, zt), (143, 26, zt), (3, 118, (zI (i + 1)))]) gP hm t4_ok (t4_run a b n q k i y114 y115 y116 y117 y118 y119 y120 y121 (i + 1)) (kcons (ask (by rw [decide_eq_true hik]; rfl)) (kcons (row_kc2 hq0) (kcons (ask (by rw [decide_eq_true hq0]; rfl)) (kcons (ask (by rw [hj]; rfl)) nokc)))) (WPw.other (same_exec _ []) ?_))
    exact loop_l a b n q k hq0 hn hkb hwn d (i + 1) _ _ _ _ _ _ _ _ (by omega) (by omega) (by omega)
theorem loop_p (a b n k : Int) (hkb : k < 40) : ∀ (d : Nat) (i : Int) (y114 y115 y116 y117 y118 y119 y120 y121 : Value), i + d = k → 0 ≤ i → Ok W0 m0 (HP a b n k i y114 y115 y116 y117 y118 y119 y120 y121)
  | 0, i, y114, y115, y116, y117, y118, y119, y120, y121, hd, h0 => end_p hm hh a b n k i y114 y115 y116 y117 y118 y119 y120 y121 (by omega)
  | d + 1, i, y114, y115, y116, y117, y118, y119, y120, y121, hd, h0 => by
    have hik : i < k := by omega
    have hj : IntKind.i64.wrap (i + 1) = i + 1 := wrap_i (by omega) (by omega)
    refine WPw.other (same_exec _ [(3, 116, zt), (3, 118, (zI (i + 1)))]) (chunkR_wpw (xok [(3, 116, zt), (3, 118, (zI (i + 1)))]) gP hm tp_ok (tp_run a b n k i y114 y115 y116 y117 y118 y119 y120 y121 (i + 1)) (kcons (ask (by rw [decide_eq_true hik]; rfl)) (kcons row_kc3 (kcons (ask (by rw [hj]; rfl)) nokc))) (WPw.other (same_exec _ []) ?_))
    exact loop_p a b n k hkb d (i + 1) _ _ _ _ _ _ _ _ (by omega) (by omega)
theorem loop_u (a b n k : Int) (hn0 : 0 ≤ n) (hn30 : n < 30) (hkb : k < 40) (hwn : IntKind.i64.wrap n = n) : ∀ (d : Nat) (i m : Int) (y114 y115 y116 y117 y118 y119 y120 y121 : Value), i + d = k → 0 ≤ i → (n = 0 ∧ m = 0) ∨ (n > 0 ∧ 1 ≤ m ∧ m = n - i) → Ok W0 m0 (HU a b n m k i y114 y115 y116 y117 y118 y119 y120 y121)
  | 0, i, m, y114, y115, y116, y117, y118, y119, y120, y121, hd, h0, hi => end_u hm hh a b n m k i y114 y115 y116 y117 y118 y119 y120 y121 (by omega) (by omega) (by omega) hwn
  | d + 1, i, m, y114, y115, y116, y117, y118, y119, y120, y121, hd, h0, hi => by
    have hik : i < k := by omega
    have hj : IntKind.i64.wrap (i + 1) = i + 1 := wrap_i (by omega) (by omega)
    have hnm : (n = 0 ∧ m = 0) ∨ (n > 0 ∧ 1 ≤ m ∧ m ≤ n) := by omega
    by_cases hmz : m = 0
    · refine WPw.other (same_exec _ [(3, 116, zt), (143, 26, zt), (3, 118, (zI (i + 1)))]) (chunkR_wpw (xok [(3, 116, zt), (143, 26, zt), (3, 118, (zI (i + 1)))]) gP hm t3_ok (t3_run a b n m k i y114 y115 y116 y117 y118 y119 y120 y121 (i + 1)) (kcons (ask (by rw [decide_eq_true hik]; rfl)) (kcons (row_kc1 hnm) (kcons (ask (by rw [decide_eq_true hmz]; rfl)) (kcons (ask (by rw [hj]; rfl)) nokc)))) (WPw.other (same_exec _ []) ?_))
      exact loop_u a b n k hn0 hn30 hkb hwn d (i + 1) m _ _ _ _ _ _ _ _ (by omega) (by omega) (by omega)
    · have hw : IntKind.u32.wrap (m - 1) = m - 1 := wrap_u (by omega) (by omega)
      by_cases hq0 : m - 1 = 0
      · refine WPw.other (same_exec _ [(3, 116, zt), (143, 26, zf), (143, 31, (zW (m - 1))), (143, 38, zt), (3, 118, (zI (i + 1)))]) (chunkR_wpw (xok [(3, 116, zt), (143, 26, zf), (143, 31, (zW (m - 1))), (143, 38, zt), (3, 118, (zI (i + 1)))]) gP hm t2_ok (t2_run a b n m k i y114 y115 y116 y117 y118 y119 y120 y121 (m - 1) (i + 1)) (kcons (ask (by rw [decide_eq_true hik]; rfl)) (kcons (row_kc1 hnm) (kcons (ask (by rw [decide_eq_false hmz]; rfl)) (kcons (ask (by rw [hw]; rfl)) (kcons (ask (by rw [decide_eq_true hq0]; rfl)) (kcons (ask (by rw [hj]; rfl)) nokc)))))) (WPw.other (same_exec _ []) ?_))
        exact loop_l hm hh a b n (m - 1) k hq0 (by omega) hkb hwn d (i + 1) _ _ _ _ _ _ _ _ (by omega) (by omega) (by omega)
      · refine WPw.other (same_exec _ [(3, 116, zt), (143, 26, zf), (143, 31, (zW (m - 1))), (143, 38, zf), (3, 118, (zI (i + 1)))]) (chunkR_wpw (xok [(3, 116, zt), (143, 26, zf), (143, 31, (zW (m - 1))), (143, 38, zf), (3, 118, (zI (i + 1)))]) gP hm t1_ok (t1_run a b n m k i y114 y115 y116 y117 y118 y119 y120 y121 (m - 1) (i + 1)) (kcons (ask (by rw [decide_eq_true hik]; rfl)) (kcons (row_kc1 hnm) (kcons (ask (by rw [decide_eq_false hmz]; rfl)) (kcons (ask (by rw [hw]; rfl)) (kcons (ask (by rw [decide_eq_false hq0]; rfl)) (kcons (ask (by rw [hj]; rfl)) nokc)))))) (WPw.other (same_exec _ []) ?_))
        exact loop_u a b n k hn0 hn30 hkb hwn d (i + 1) (m - 1) _ _ _ _ _ _ _ _ (by omega) (by omega) (by omega)
theorem start_u (a b n k : Int) (hn0 : 0 ≤ n) (hn30 : n < 30) (hk0 : 0 ≤ k) (hkb : k < 40) (hwn : IntKind.i64.wrap n = n) : Ok W0 m0 (HU0 a b n k) := by
  have hnn : (n = 0 ∧ n = 0) ∨ (n > 0 ∧ 1 ≤ n ∧ n ≤ n) := by omega
  by_cases h0k : 0 < k
  · by_cases hnz : n = 0
    · refine WPw.other (same_exec _ [(3, 116, zt), (143, 26, zt)]) (chunkR_wpw (xok [(3, 116, zt), (143, 26, zt)]) gP hm f3_ok (f3_run a b n k) (kcons (ask (by rw [decide_eq_true h0k]; rfl)) (kcons (row_kc1 hnn) (kcons (ask (by rw [decide_eq_true hnz]; rfl)) nokc))) (WPw.other (same_exec _ []) ?_))
      exact loop_u hm hh a b n k hn0 hn30 hkb hwn (k - 1).toNat 1 n _ _ _ _ _ _ _ _ (by omega) (by omega) (by omega)
    · have hw : IntKind.u32.wrap (n - 1) = n - 1 := wrap_u (by omega) (by omega)
      by_cases hq0 : n - 1 = 0
      · refine WPw.other (same_exec _ [(3, 116, zt), (143, 26, zf), (143, 31, (zW (n - 1))), (143, 38, zt)]) (chunkR_wpw (xok [(3, 116, zt), (143, 26, zf), (143, 31, (zW (n - 1))), (143, 38, zt)]) gP hm f2_ok (f2_run a b n k (n - 1)) (kcons (ask (by rw [decide_eq_true h0k]; rfl)) (kcons (row_kc1 hnn) (kcons (ask (by rw [decide_eq_false hnz]; rfl)) (kcons (ask (by rw [hw]; rfl)) (kcons (ask (by rw [decide_eq_true hq0]; rfl)) nokc))))) (WPw.other (same_exec _ []) ?_))
        exact loop_l hm hh a b n (n - 1) k hq0 (by omega) hkb hwn (k - 1).toNat 1 _ _ _ _ _ _ _ _ (by omega) (by omega) (by omega)
      · refine WPw.other (same_exec _ [(3, 116, zt), (143, 26, zf), (143, 31, (zW (n - 1))), (143, 38, zf)]) (chunkR_wpw (xok [(3, 116, zt), (143, 26, zf), (143, 31, (zW (n - 1))), (143, 38, zf)]) gP hm f1_ok (f1_run a b n k (n - 1)) (kcons (ask (by rw [decide_eq_true h0k]; rfl)) (kcons (row_kc1 hnn) (kcons (ask (by rw [decide_eq_false hnz]; rfl)) (kcons (ask (by rw [hw]; rfl)) (kcons (ask (by rw [decide_eq_false hq0]; rfl)) nokc))))) (WPw.other (same_exec _ []) ?_))
        exact loop_u hm hh a b n k hn0 hn30 hkb hwn (k - 1).toNat 1 (n - 1) _ _ _ _ _ _ _ _ (by omega) (by omega) (by omega)
  · exact end_z hm hh a b n k hnn h0k hk0 hwn
theorem start_p (a b n k : Int) (hk0 : 0 ≤ k) (hkb : k < 40) : Ok W0 m0 (HP0 a b n k) := by
  by_cases h0k : 0 < k
  · refine WPw.other (same_exec _ [(3, 116, zt)]) (chunkR_wpw (xok [(3, 116, zt)]) gP hm fp_ok (fp_run a b n k) (kcons (ask (by rw [decide_eq_true h0k]; rfl)) (kcons row_kc3 nokc)) (WPw.other (same_exec _ []) ?_))
    exact loop_p hm hh a b n k hkb (k - 1).toNat 1 _ _ _ _ _ _ _ _ (by omega) (by omega)
  · exact end_p0 hm hh a b n k h0k
theorem law_ok (a b : Int) (p : Bool) (ha : 0 ≤ a) (ha2 : a < 256) (hb : 0 ≤ b) (hb2 : b < 256) : Ok W0 m0 (st0 a b p) := by
  obtain ⟨n, hna⟩ : ∃ n, a.tmod 30 = n := ⟨_, rfl⟩
  obtain ⟨k, hkb⟩ : ∃ k, b.tmod 40 = k := ⟨_, rfl⟩
  have hn1 : a.tmod 30 = a % 30 := Int.tmod_eq_emod_of_nonneg ha
  have hk1 : b.tmod 40 = b % 40 := Int.tmod_eq_emod_of_nonneg hb
  have hwa : IntKind.u32.wrap a = a := wrap_u ha (by omega)
  have hwb : IntKind.i64.wrap b = b := wrap_i hb (by omega)
  have hwn : IntKind.i64.wrap n = n := wrap_i (by omega) (by omega)
  have hnn : (n = 0 ∧ n = 0) ∨ (n > 0 ∧ 1 ≤ n ∧ n ≤ n) := by omega
  refine WPw.other (same_exec _ [(3, 22, (zW a)), (3, 23, (zW n)), (3, 25, (zI b)), (3, 26, (zI k))]) ((chunk_sound (xok [(3, 22, (zW a)), (3, 23, (zW n)), (3, 25, (zI b)), (3, 26, (zI k))]) gP (sa1_run a b p n k) (kcons (ask (by rw [hwa]; rfl)) (kcons (ask (by rw [hna]; rfl)) (kcons (ask (by rw [hwb]; rfl)) (kcons (ask (by rw [hkb]; rfl)) nokc))))).wpw (WPw.other (same_exec _ []) ?_))
  refine WPw.other (same_exec _ [(3, 22, (zW a)), (3, 23, (zW n)), (3, 25, (zI b)), (3, 26, (zI k))]) ((chunk_sound (xok [(3, 22, (zW a)), (3, 23, (zW n)), (3, 25, (zI b)), (3, 26, (zI k))]) gP (sa2_run a b n k p) nokc).wpw (WPw.other (same_exec _ []) ?_))
  refine WPw.other (same_exec _ [(3, 22, (zW a)), (3, 23, (zW n)), (3, 25, (zI b)), (3, 26, (zI k))]) ((chunk_sound (xok [(3, 22, (zW a)), (3, 23, (zW n)), (3, 25, (zI b)), (3, 26, (zI k))]) gP (sa3_run a b n k p) nokc).wpw (WPw.other (same_exec _ []) ?_))
  refine WPw.other (same_exec _ [(3, 22, (zW a)), (3, 23, (zW n)), (3, 25, (zI b)), (3, 26, (zI k))]) ((chunk_sound (xok [(3, 22, (zW a)), (3, 23, (zW n)), (3, 25, (zI b)), (3, 26, (zI k))]) gP (sa4_run a b n k p) nokc).wpw (WPw.other (same_exec _ []) ?_))
  refine WPw.other (same_exec _ [(3, 22, (zW a)), (3, 23, (zW n)), (3, 25, (zI b)), (3, 26, (zI k))]) ((chunk_sound (xok [(3, 22, (zW a)), (3, 23, (zW n)), (3, 25, (zI b)), (3, 26, (zI k))]) gP (sa5_run a b n k p) nokc).wpw (WPw.other (same_exec _ []) ?_))
  refine WPw.other (same_exec _ [(3, 22, (zW a)), (3, 23, (zW n)), (3, 25, (zI b)), (3, 26, (zI k))]) ((chunk_sound (xok [(3, 22, (zW a)), (3, 23, (zW n)), (3, 25, (zI b)), (3, 26, (zI k))]) gP (sa6_run a b n k p) (kcons (row_kc1 (.inl ⟨rfl, rfl⟩)) nokc)).wpw (WPw.other (same_exec _ []) ?_))
  refine WPw.other (same_exec _ [(3, 22, (zW a)), (3, 23, (zW n)), (3, 25, (zI b)), (3, 26, (zI k))]) ((chunk_sound (xok [(3, 22, (zW a)), (3, 23, (zW n)), (3, 25, (zI b)), (3, 26, (zI k))]) gP (sa7_run a b n k p) (kcons (row_kc1 hnn) nokc)).wpw (WPw.other (same_exec _ []) ?_))
  refine WPw.other (same_exec _ [(3, 22, (zW a)), (3, 23, (zW n)), (3, 25, (zI b)), (3, 26, (zI k))]) ((chunk_sound (xok [(3, 22, (zW a)), (3, 23, (zW n)), (3, 25, (zI b)), (3, 26, (zI k))]) gP (sa8_run a b n k p) (kcons (row_kc1 hnn) nokc)).wpw (WPw.other (same_exec _ []) ?_))
  cases p with
  | false =>
    refine WPw.other (same_exec _ []) (chunkR_wpw (xok []) gP hm rb_ok (rb_run a b n k) nokc (WPw.other (same_exec _ []) ?_))
    exact start_u hm hh a b n k (by omega) (by omega) (by omega) (by omega) hwn
  | true =>
    refine WPw.other (same_exec _ []) ((chunk_sound (xok []) gP (sp1_run a b n k) (kcons (row_kc1 hnn) (kcons (row_kc1 hnn) nokc))).wpw (WPw.other (same_exec _ []) ?_))
    refine WPw.other (same_exec _ []) ((chunk_sound (xok []) gP (sp2_run a b n k) nokc).wpw (WPw.other (same_exec _ []) ?_))
    refine WPw.other (same_exec _ []) ((chunk_sound (xok []) gP (sp3_run a b n k) (kcons row_kc3 (kcons row_kc3 nokc))).wpw (WPw.other (same_exec _ []) ?_))
    refine WPw.other (same_exec _ []) (chunkR_wpw (xok []) gP hm rp_ok (rp_run a b n k) nokc (WPw.other (same_exec _ []) ?_))
    exact start_p hm hh a b n k (by omega) (by omega)
end
end Go.Proofs.YtjbnbliakfeobaaGreatDoor


namespace Go.Proofs.YtjbnbliakfeobaaGreatDoor
open Go.Abs
theorem head_calls (W : World) (hW : Holds W rowsG) : Calls Tryz.prog 18 #[] W fun e W' => e = .returned (.bool true) ∧ Low W W' := by
  refine calls_true (X := xS []) (l := rowsG) (args := []) gP Tryz.okG rfl (by kernel_rfl) W hW ?_
  rw [Tryz.nG]
  have nk : ∀ k ∈ ([] : List KC), KC.Holds Tryz.prog W (mG Tryz.prog) k := fun k hk => by cases hk
  have h := answers_of_run (xok []) gP hd_last nk
  have h := h.back (chunk_sound (xok []) gP hd6_run nk)
  have h := h.back (chunk_sound (xok []) gP hd5_run nk)
  have h := h.back (chunk_sound (xok []) gP hd4_run nk)
  have h := h.back (chunk_sound (xok []) gP hd3_run nk)
  have h := h.back (chunk_sound (xok []) gP hd2_run nk)
  have h := h.back (chunk_sound (xok []) gP hd1_run nk)
  exact h
theorem law_calls (a b : Int) (p : Bool) (ha : 0 ≤ a) (ha2 : a < 256) (hb : 0 ≤ b) (hb2 : b < 256) (W : World) (hW : Holds W rowsG) : Calls Tryz.prog 3 #[.int .u8 a, .int .u8 b, .bool p] W fun e W' => e = .returned (.bool true) ∧ Low W W' := by
  have hk : Tryz.prog.globals.size + ([] : List (Nat × Nat)).length ≤ maxId := by rw [Tryz.nG]; decide
  have hm : ∀ i x, mA Tryz.prog [] i = some x → i < Tryz.prog.globals.size := fun i x h => by
    have h : (if i < Tryz.prog.globals.size then some (i, 0) else ([] : List (Nat × Nat))[i - Tryz.prog.globals.size]?) = some x := h
    split at h
    · assumption
    · simp at h
  have hw : WPw Tryz.prog (xS []) W (mA Tryz.prog []) ⟨frOf Tryz.prog 3 [.int .u8 a, .int .u8 b, .bool p], [], wA Tryz.prog.globals.size 0 rowsG⟩ (fun v => isT v = true) := by
    have := law_ok hm (kc_true (by decide) head_calls hW (mA Tryz.prog [])) a b p ha ha2 hb hb2
    rw [Tryz.nG]
    exact this
  refine (calls_wpw gP (by kernel_rfl) hw (relA Tryz.okG hk hW) gA (ownA Tryz.okG) (.cons (.int _ _) (.cons (.int _ _) (.cons (.bool _) .nil)))).mono ?_
  rintro e w' ⟨v, v', m', h1, rfl, h2, h3⟩
  refine ⟨?_, h3⟩
  cases v with
  | bool b =>
    have h1 : b = true := h1
    subst h1
    cases h2; rfl
  | _ => cases h1
end Go.Proofs.YtjbnbliakfeobaaGreatDoor
