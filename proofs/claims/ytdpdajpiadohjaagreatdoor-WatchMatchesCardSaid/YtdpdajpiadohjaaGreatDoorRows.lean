/-
  NARROWER THAN 'FOR EVERY INPUT', by the rows' own cells (each row's printed sentence says how): WatchTallies: laid · WatchMatches: loops, laid · WatchOrder: laid · WatchCounts: loops, laid.
  DERIVED. THE GIVEN ROWS OF THIS SEAT. 4 by the template 'for every input the law returns true; each argument reads behind the call as it read before'; 0 by the template 'total and deterministic' (their statements: YtdpdajpiadohjaaGreatDoorTotals.lean).
  GIVEN WITH THE SEED: the statements are not yours to turn. If you find one false, say at which input.
  Laid BY PROGRAM, IN A SANDBOX (cutbox-rows.mjs): the forced cells as the released guide's own fill.sh prints them over the translation caa9281aa57d461e… (all of the seat's roots in one cut). By AI agents, Wed Nov 11 2026. No macro, syntax, notation, axiom, sorry.
-/
import Derived.Test.YtdpdajpiadohjaaGreatDoorChecked
import GoSem.PinnedTables
import GoSem.Claim
import GoSem.ClaimJoined
import GoSem.ClaimMapViews
import Derived.JoinedTies
import Derived.KernelRfl
namespace Go.Proofs.YtdpdajpiadohjaaGreatDoor
/- THE CELL 'sum', in the pinned program and in every row, IS THE sha256 OF THE DUMP (.gsa) THAT YtdpdajpiadohjaaGreatDoorProg.lean LOADS. Nothing in Lean hashes anything: it is a label: what it is worth is what the hold of that sum in a sandbox is worth. -/
noncomputable def Tryz.pinned : Pinned := { name := "ytdpdajpiadohjaagreatdoor", sum := "caa9281aa57d461ec989fd768d76edded8caed9f174979dbde0334fedb434a47", checked := Tryz.checked }
namespace Rows
def none {H : Type} : Left H := { results := [], args := [] }

/- WHAT THE LISTED PACKAGE-LEVEL VARIABLES READ AS WHEN THE CALL BEGINS. Each datum BY PROGRAM (the guide's laid-datum.mjs) off the statement by which the dump's own 'gosem.cut.vars' lays the variable. In a bare row this is a premise. The card (YtdpdajpiadohjaaGreatDoorCards.lean) ties it to the program's text. -/
def laid_unicode_utf8_acceptRanges {H : Type} : DataW H := .agg [.agg [.lit (.int .u8 128), .lit (.int .u8 191)], .agg [.lit (.int .u8 160), .lit (.int .u8 191)], .agg [.lit (.int .u8 128), .lit (.int .u8 159)], .agg [.lit (.int .u8 144), .lit (.int .u8 191)], .agg [.lit (.int .u8 128), .lit (.int .u8 143)], .agg [.lit (.int .u8 0), .lit (.int .u8 0)], .agg [.lit (.int .u8 0), .lit (.int .u8 0)], .agg [.lit (.int .u8 0), .lit (.int .u8 0)], .agg [.lit (.int .u8 0), .lit (.int .u8 0)], .agg [.lit (.int .u8 0), .lit (.int .u8 0)], .agg [.lit (.int .u8 0), .lit (.int .u8 0)], .agg [.lit (.int .u8 0), .lit (.int .u8 0)], .agg [.lit (.int .u8 0), .lit (.int .u8 0)], .agg [.lit (.int .u8 0), .lit (.int .u8 0)], .agg [.lit (.int .u8 0), .lit (.int .u8 0)], .agg [.lit (.int .u8 0), .lit (.int .u8 0)]]
/-- One of Go's own tables, pinned by name: the form's constant. -/
def laid_unicode_utf8_first : DataW Unit := Go.Pinned.utf8First

/-- 'posthouselaw30.WatchTallies': WHATEVER THE INPUT: true; the input reads as it did. -/
def watchTalliesSpec : ChangeSpec := { name := "watchTallies", fn := fun _ => fun
  | [d] => { results := [.lit (.bool true)], args := [d] }
  | _ => none }
def watchTalliesRow : OpenClaim := { program := "ytdpdajpiadohjaagreatdoor", sum := "caa9281aa57d461ec989fd768d76edded8caed9f174979dbde0334fedb434a47", func := "posthouse/posthouselaw30.WatchTallies", spec := "watchTallies", inPlace := ["internal/bytealg.abigen_runtime_cmpstring"], unfollowed := true, recurses := true, named := ["unicode/utf8.first", "unicode/utf8.acceptRanges"], plainKeys := false, apart := false, laid := [("unicode/utf8.acceptRanges", laid_unicode_utf8_acceptRanges), ("unicode/utf8.first", laid_unicode_utf8_first)] }
def WatchTalliesSaid : Prop := watchTalliesRow.holds Tryz.pinned (OpenSpec.ofChange watchTalliesSpec)

/-- ITS FALSE NEIGHBOUR: 'it returns false'. Refute it at one input. -/
def watchTalliesWrong : ChangeSpec := { name := "watchTallies", fn := fun _ => fun
  | [d] => { results := [.lit (.bool false)], args := [d] }
  | _ => none }
def WatchTalliesWrongFalsely : Prop := watchTalliesRow.holds Tryz.pinned (OpenSpec.ofChange watchTalliesWrong)

/-- 'posthouselaw30.WatchMatches': WHATEVER THE INPUT: true; the input reads as it did. -/
def watchMatchesSpec : ChangeSpec := { name := "watchMatches", fn := fun _ => fun
  | [d1, d2] => { results := [.lit (.bool true)], args := [d1, d2] }
  | _ => none }
def watchMatchesRow : OpenClaim := { program := "ytdpdajpiadohjaagreatdoor", sum := "caa9281aa57d461ec989fd768d76edded8caed9f174979dbde0334fedb434a47", func := "posthouse/posthouselaw30.WatchMatches", spec := "watchMatches", inPlace := ["internal/bytealg.abigen_runtime_cmpstring"], unfollowed := true, recurses := true, named := ["unicode/utf8.first", "unicode/utf8.acceptRanges"], loops := true, plainKeys := false, apart := false, laid := [("unicode/utf8.acceptRanges", laid_unicode_utf8_acceptRanges), ("unicode/utf8.first", laid_unicode_utf8_first)] }
def WatchMatchesSaid : Prop := watchMatchesRow.holds Tryz.pinned (OpenSpec.ofChange watchMatchesSpec)

/-- ITS FALSE NEIGHBOUR: 'it returns false'. Refute it at one input. -/
def watchMatchesWrong : ChangeSpec := { name := "watchMatches", fn := fun _ => fun
  | [d1, d2] => { results := [.lit (.bool false)], args := [d1, d2] }
  | _ => none }
def WatchMatchesWrongFalsely : Prop := watchMatchesRow.holds Tryz.pinned (OpenSpec.ofChange watchMatchesWrong)

/-- 'posthouselaw30.WatchOrder': WHATEVER THE INPUT: true; the input reads as it did. -/
def watchOrderSpec : ChangeSpec := { name := "watchOrder", fn := fun _ => fun
  | [d1, d2] => { results := [.lit (.bool true)], args := [d1, d2] }
  | _ => none }
def watchOrderRow : OpenClaim := { program := "ytdpdajpiadohjaagreatdoor", sum := "caa9281aa57d461ec989fd768d76edded8caed9f174979dbde0334fedb434a47", func := "posthouse/posthouselaw30.WatchOrder", spec := "watchOrder", inPlace := ["internal/bytealg.abigen_runtime_cmpstring"], unfollowed := true, recurses := true, named := ["unicode/utf8.first", "unicode/utf8.acceptRanges"], plainKeys := false, apart := false, laid := [("unicode/utf8.acceptRanges", laid_unicode_utf8_acceptRanges), ("unicode/utf8.first", laid_unicode_utf8_first)] }
def WatchOrderSaid : Prop := watchOrderRow.holds Tryz.pinned (OpenSpec.ofChange watchOrderSpec)

/-- ITS FALSE NEIGHBOUR: 'it returns false'. Refute it at one input. -/
def watchOrderWrong : ChangeSpec := { name := "watchOrder", fn := fun _ => fun
  | [d1, d2] => { results := [.lit (.bool false)], args := [d1, d2] }
  | _ => none }
def WatchOrderWrongFalsely : Prop := watchOrderRow.holds Tryz.pinned (OpenSpec.ofChange watchOrderWrong)

/-- 'posthouselaw30.WatchCounts': WHATEVER THE INPUT: true; the input reads as it did. -/
def watchCountsSpec : ChangeSpec := { name := "watchCounts", fn := fun _ => fun
  | [d1, d2] => { results := [.lit (.bool true)], args := [d1, d2] }
  | _ => none }
def watchCountsRow : OpenClaim := { program := "ytdpdajpiadohjaagreatdoor", sum := "caa9281aa57d461ec989fd768d76edded8caed9f174979dbde0334fedb434a47", func := "posthouse/posthouselaw30.WatchCounts", spec := "watchCounts", inPlace := ["internal/bytealg.abigen_runtime_cmpstring"], unfollowed := true, recurses := true, named := ["unicode/utf8.first", "unicode/utf8.acceptRanges"], loops := true, plainKeys := false, apart := false, laid := [("unicode/utf8.acceptRanges", laid_unicode_utf8_acceptRanges), ("unicode/utf8.first", laid_unicode_utf8_first)] }
def WatchCountsSaid : Prop := watchCountsRow.holds Tryz.pinned (OpenSpec.ofChange watchCountsSpec)

/-- ITS FALSE NEIGHBOUR: 'it returns false'. Refute it at one input. -/
def watchCountsWrong : ChangeSpec := { name := "watchCounts", fn := fun _ => fun
  | [d1, d2] => { results := [.lit (.bool false)], args := [d1, d2] }
  | _ => none }
def WatchCountsWrongFalsely : Prop := watchCountsRow.holds Tryz.pinned (OpenSpec.ofChange watchCountsWrong)

/- THE SECOND FORM. 'bulk': how many values and letters a reading holds, each counted each time it is reached (what is shared counts as often as it is met; a slice's spare places count too). A statement '..UptoSaid' is the law's where the arguments, and the package variables that the reading takes, are together of bulk at most 1048576: NARROWER than '..Said'. Prove '..Said' where nothing that the law and all that it calls make is longer than what came in: it says more and counts as full. Else prove '..UptoSaid'. A law counts once. -/
mutual
def uptoBulk {H : Type} : DataW H → Nat
  | .lit (.string bytes) => bytes.length + 1
  | .lit _ => 1
  | .nil => 1
  | .ptr d => uptoBulk d + 1
  | .slice elems spare => uptoBulkAll elems + uptoBulkAll spare + 1
  | .agg parts => uptoBulkAll parts + 1
  | .iface _ d => uptoBulk d + 1
  | .map entries => uptoBulkEntries entries + 1
  | .held _ => 1
def uptoBulkAll {H : Type} : List (DataW H) → Nat
  | [] => 0
  | d :: r => uptoBulk d + uptoBulkAll r
def uptoBulkEntries {H : Type} : List (Lit × DataW H) → Nat
  | [] => 0
  | x :: r => uptoBulkEntry x + uptoBulkEntries r
def uptoBulkEntry {H : Type} : Lit × DataW H → Nat
  | (.string bytes, d) => bytes.length + uptoBulk d + 1
  | (_, d) => uptoBulk d + 1
 end
def uptoSmall : (H : Type) → List (DataW H) → Bool := fun _ ds => decide (uptoBulkAll ds ≤ 1048576)
def OpenSpec.upto (s : _root_.Go.ChangeSpec) : _root_.Go.OpenSpec := { _root_.Go.OpenSpec.ofChange s with cond := some uptoSmall }

/-- 'posthouselaw30.WatchTallies', WHERE WHAT IT READS IS OF BULK AT MOST 1048576: true; the input reads as it did. -/
def watchTalliesUptoRow : OpenClaim := { program := "ytdpdajpiadohjaagreatdoor", sum := "caa9281aa57d461ec989fd768d76edded8caed9f174979dbde0334fedb434a47", func := "posthouse/posthouselaw30.WatchTallies", spec := "watchTallies", inPlace := ["internal/bytealg.abigen_runtime_cmpstring"], unfollowed := true, recurses := true, named := ["unicode/utf8.first", "unicode/utf8.acceptRanges"], plainKeys := false, apart := false, laid := [("unicode/utf8.acceptRanges", laid_unicode_utf8_acceptRanges), ("unicode/utf8.first", laid_unicode_utf8_first)], narrowed := true }
def WatchTalliesUptoSaid : Prop := watchTalliesUptoRow.holds Tryz.pinned (OpenSpec.upto watchTalliesSpec)

/-- 'posthouselaw30.WatchMatches', WHERE WHAT IT READS IS OF BULK AT MOST 1048576: true; the input reads as it did. -/
def watchMatchesUptoRow : OpenClaim := { program := "ytdpdajpiadohjaagreatdoor", sum := "caa9281aa57d461ec989fd768d76edded8caed9f174979dbde0334fedb434a47", func := "posthouse/posthouselaw30.WatchMatches", spec := "watchMatches", inPlace := ["internal/bytealg.abigen_runtime_cmpstring"], unfollowed := true, recurses := true, named := ["unicode/utf8.first", "unicode/utf8.acceptRanges"], loops := true, plainKeys := false, apart := false, laid := [("unicode/utf8.acceptRanges", laid_unicode_utf8_acceptRanges), ("unicode/utf8.first", laid_unicode_utf8_first)], narrowed := true }
def WatchMatchesUptoSaid : Prop := watchMatchesUptoRow.holds Tryz.pinned (OpenSpec.upto watchMatchesSpec)

/-- 'posthouselaw30.WatchOrder', WHERE WHAT IT READS IS OF BULK AT MOST 1048576: true; the input reads as it did. -/
def watchOrderUptoRow : OpenClaim := { program := "ytdpdajpiadohjaagreatdoor", sum := "caa9281aa57d461ec989fd768d76edded8caed9f174979dbde0334fedb434a47", func := "posthouse/posthouselaw30.WatchOrder", spec := "watchOrder", inPlace := ["internal/bytealg.abigen_runtime_cmpstring"], unfollowed := true, recurses := true, named := ["unicode/utf8.first", "unicode/utf8.acceptRanges"], plainKeys := false, apart := false, laid := [("unicode/utf8.acceptRanges", laid_unicode_utf8_acceptRanges), ("unicode/utf8.first", laid_unicode_utf8_first)], narrowed := true }
def WatchOrderUptoSaid : Prop := watchOrderUptoRow.holds Tryz.pinned (OpenSpec.upto watchOrderSpec)

/-- 'posthouselaw30.WatchCounts', WHERE WHAT IT READS IS OF BULK AT MOST 1048576: true; the input reads as it did. -/
def watchCountsUptoRow : OpenClaim := { program := "ytdpdajpiadohjaagreatdoor", sum := "caa9281aa57d461ec989fd768d76edded8caed9f174979dbde0334fedb434a47", func := "posthouse/posthouselaw30.WatchCounts", spec := "watchCounts", inPlace := ["internal/bytealg.abigen_runtime_cmpstring"], unfollowed := true, recurses := true, named := ["unicode/utf8.first", "unicode/utf8.acceptRanges"], loops := true, plainKeys := false, apart := false, laid := [("unicode/utf8.acceptRanges", laid_unicode_utf8_acceptRanges), ("unicode/utf8.first", laid_unicode_utf8_first)], narrowed := true }
def WatchCountsUptoSaid : Prop := watchCountsUptoRow.holds Tryz.pinned (OpenSpec.upto watchCountsSpec)

end Rows
end Go.Proofs.YtdpdajpiadohjaaGreatDoor
