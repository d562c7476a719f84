/-
  The law's run, one for each remainder of What: it answers true, whatever else the act holds; the law's own examples are known to answer true.
-/
import Derived.Test.YtcaecfhebongcaaGreatDoorHead

namespace Go.Proofs.YtcaecfhebongcaaGreatDoor
open Go.Abs

def lawX (r : Int) : XNames := { theX with known := [8], says := [(3, 31, .int .u8 r), (5, 10, .int .u8 r)] }
def ansK : FuncId → List Value := fun _ => [.bool true]
theorem run_0 (k c : Int) (s : ByteArray) : runsAsk Tryz.prog (lawX 0) [] ansK [8] 6000 ⟨frOf Tryz.prog 3 [.agg #[.int .u8 k, .int .i64 c, .string s]], [], wA 9 0 rowsG⟩ = (true, List.replicate 6 [.int .u8 (k.tmod 8)], List.replicate 6 [.int .u8 0]) := by kernel_rfl
theorem run_1 (k c : Int) (s : ByteArray) : runsAsk Tryz.prog (lawX 1) [] ansK [8] 6000 ⟨frOf Tryz.prog 3 [.agg #[.int .u8 k, .int .i64 c, .string s]], [], wA 9 0 rowsG⟩ = (true, List.replicate 6 [.int .u8 (k.tmod 8)], List.replicate 6 [.int .u8 1]) := by kernel_rfl
theorem run_2 (k c : Int) (s : ByteArray) : runsAsk Tryz.prog (lawX 2) [] ansK [8] 6000 ⟨frOf Tryz.prog 3 [.agg #[.int .u8 k, .int .i64 c, .string s]], [], wA 9 0 rowsG⟩ = (true, List.replicate 6 [.int .u8 (k.tmod 8)], List.replicate 6 [.int .u8 2]) := by kernel_rfl
theorem run_3 (k c : Int) (s : ByteArray) : runsAsk Tryz.prog (lawX 3) [] ansK [8] 6000 ⟨frOf Tryz.prog 3 [.agg #[.int .u8 k, .int .i64 c, .string s]], [], wA 9 0 rowsG⟩ = (true, List.replicate 6 [.int .u8 (k.tmod 8)], List.replicate 6 [.int .u8 3]) := by kernel_rfl
theorem run_4 (k c : Int) (s : ByteArray) : runsAsk Tryz.prog (lawX 4) [] ansK [8] 6000 ⟨frOf Tryz.prog 3 [.agg #[.int .u8 k, .int .i64 c, .string s]], [], wA 9 0 rowsG⟩ = (true, List.replicate 6 [.int .u8 (k.tmod 8)], List.replicate 6 [.int .u8 4]) := by kernel_rfl
theorem run_5 (k c : Int) (s : ByteArray) : runsAsk Tryz.prog (lawX 5) [] ansK [8] 6000 ⟨frOf Tryz.prog 3 [.agg #[.int .u8 k, .int .i64 c, .string s]], [], wA 9 0 rowsG⟩ = (true, List.replicate 6 [.int .u8 (k.tmod 8)], List.replicate 6 [.int .u8 5]) := by kernel_rfl
theorem run_6 (k c : Int) (s : ByteArray) : runsAsk Tryz.prog (lawX 6) [] ansK [8] 6000 ⟨frOf Tryz.prog 3 [.agg #[.int .u8 k, .int .i64 c, .string s]], [], wA 9 0 rowsG⟩ = (true, List.replicate 6 [.int .u8 (k.tmod 8)], List.replicate 6 [.int .u8 6]) := by kernel_rfl
theorem run_7 (k c : Int) (s : ByteArray) : runsAsk Tryz.prog (lawX 7) [] ansK [8] 6000 ⟨frOf Tryz.prog 3 [.agg #[.int .u8 k, .int .i64 c, .string s]], [], wA 9 0 rowsG⟩ = (true, List.replicate 6 [.int .u8 (k.tmod 8)], List.replicate 6 [.int .u8 7]) := by kernel_rfl
end Go.Proofs.YtcaecfhebongcaaGreatDoor
