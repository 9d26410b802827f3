/-
  No cell of these rows narrows 'for every input' (looked for: loops, veiled, ifaces, maps, wideKeys, modest, calm, conditions, laid).
  DERIVED. THE GIVEN ROWS OF THIS SEAT. 7 by the template 'for every input the law returns true; each argument reads behind the call as it read before'; 0 by the template 'total and deterministic' (their statements: YtlmoeempblgdkaaTotals.lean).
  GIVEN WITH THE SEED: the statements are not yours to turn. If you find one false, say at which input.
  Laid BY PROGRAM, IN A SANDBOX (cutbox-rows.mjs): the forced cells as the released guide's own fill.sh prints them over the translation 2310573e3ff0765e… (all of the seat's roots in one cut). By AI agents, Wed Nov 11 2026. No macro, syntax, notation, axiom, sorry.
-/
import Derived.Test.YtlmoeempblgdkaaChecked
import GoSem.Claim
import GoSem.ClaimJoined
import GoSem.ClaimMapViews
import Derived.JoinedTies
import Derived.KernelRfl
namespace Go.Proofs.Ytlmoeempblgdkaa
/- THE CELL 'sum', in the pinned program and in every row, IS THE sha256 OF THE DUMP (.gsa) THAT YtlmoeempblgdkaaProg.lean LOADS. Nothing in Lean hashes anything: it is a label: what it is worth is what the hold of that sum in a sandbox is worth. -/
noncomputable def Try.pinned : Pinned := { name := "ytlmoeempblgdkaa", sum := "2310573e3ff0765e9e8d97f0e435c3587aaf360f931ae3c017c07aae0e1382e4", checked := Try.checked }
namespace Rows
def none {H : Type} : Left H := { results := [], args := [] }

/-- 'homehublaw11.RouteUpdates': WHATEVER THE INPUT: true; the input reads as it did. -/
def routeUpdatesSpec : ChangeSpec := { name := "routeUpdates", fn := fun _ => fun
  | [d1, d2, d3] => { results := [.lit (.bool true)], args := [d1, d2, d3] }
  | _ => none }
def routeUpdatesRow : OpenClaim := { program := "ytlmoeempblgdkaa", sum := "2310573e3ff0765e9e8d97f0e435c3587aaf360f931ae3c017c07aae0e1382e4", func := "homehub/homehublaw11.RouteUpdates", spec := "routeUpdates", inPlace := ["slices.overlaps[homehub/api.Route]"], unfollowed := true, recurses := true, apart := false }
def RouteUpdatesSaid : Prop := routeUpdatesRow.holds Try.pinned (OpenSpec.ofChange routeUpdatesSpec)

/-- ITS FALSE NEIGHBOUR: 'it returns false'. Refute it at one input. -/
def routeUpdatesWrong : ChangeSpec := { name := "routeUpdates", fn := fun _ => fun
  | [d1, d2, d3] => { results := [.lit (.bool false)], args := [d1, d2, d3] }
  | _ => none }
def RouteUpdatesWrongFalsely : Prop := routeUpdatesRow.holds Try.pinned (OpenSpec.ofChange routeUpdatesWrong)

/-- 'homehublaw11.RouteBreaks': WHATEVER THE INPUT: true; the input reads as it did. -/
def routeBreaksSpec : ChangeSpec := { name := "routeBreaks", fn := fun _ => fun
  | [d1, d2, d3] => { results := [.lit (.bool true)], args := [d1, d2, d3] }
  | _ => none }
def routeBreaksRow : OpenClaim := { program := "ytlmoeempblgdkaa", sum := "2310573e3ff0765e9e8d97f0e435c3587aaf360f931ae3c017c07aae0e1382e4", func := "homehub/homehublaw11.RouteBreaks", spec := "routeBreaks", inPlace := ["slices.overlaps[homehub/api.Route]"], unfollowed := true, recurses := true, apart := false }
def RouteBreaksSaid : Prop := routeBreaksRow.holds Try.pinned (OpenSpec.ofChange routeBreaksSpec)

/-- ITS FALSE NEIGHBOUR: 'it returns false'. Refute it at one input. -/
def routeBreaksWrong : ChangeSpec := { name := "routeBreaks", fn := fun _ => fun
  | [d1, d2, d3] => { results := [.lit (.bool false)], args := [d1, d2, d3] }
  | _ => none }
def RouteBreaksWrongFalsely : Prop := routeBreaksRow.holds Try.pinned (OpenSpec.ofChange routeBreaksWrong)

/-- 'homehublaw11.RouteCodes': WHATEVER THE INPUT: true; the input reads as it did. -/
def routeCodesSpec : ChangeSpec := { name := "routeCodes", fn := fun _ => fun
  | [d1, d2] => { results := [.lit (.bool true)], args := [d1, d2] }
  | _ => none }
def routeCodesRow : OpenClaim := { program := "ytlmoeempblgdkaa", sum := "2310573e3ff0765e9e8d97f0e435c3587aaf360f931ae3c017c07aae0e1382e4", func := "homehub/homehublaw11.RouteCodes", spec := "routeCodes", inPlace := ["slices.overlaps[homehub/api.Route]"], unfollowed := true, recurses := true, apart := false }
def RouteCodesSaid : Prop := routeCodesRow.holds Try.pinned (OpenSpec.ofChange routeCodesSpec)

/-- ITS FALSE NEIGHBOUR: 'it returns false'. Refute it at one input. -/
def routeCodesWrong : ChangeSpec := { name := "routeCodes", fn := fun _ => fun
  | [d1, d2] => { results := [.lit (.bool false)], args := [d1, d2] }
  | _ => none }
def RouteCodesWrongFalsely : Prop := routeCodesRow.holds Try.pinned (OpenSpec.ofChange routeCodesWrong)

/-- 'homehublaw11.RouteBack': WHATEVER THE INPUT: true; the input reads as it did. -/
def routeBackSpec : ChangeSpec := { name := "routeBack", fn := fun _ => fun
  | [d1, d2, d3] => { results := [.lit (.bool true)], args := [d1, d2, d3] }
  | _ => none }
def routeBackRow : OpenClaim := { program := "ytlmoeempblgdkaa", sum := "2310573e3ff0765e9e8d97f0e435c3587aaf360f931ae3c017c07aae0e1382e4", func := "homehub/homehublaw11.RouteBack", spec := "routeBack", inPlace := ["slices.overlaps[homehub/api.Route]"], unfollowed := true, recurses := true, apart := false }
def RouteBackSaid : Prop := routeBackRow.holds Try.pinned (OpenSpec.ofChange routeBackSpec)

/-- ITS FALSE NEIGHBOUR: 'it returns false'. Refute it at one input. -/
def routeBackWrong : ChangeSpec := { name := "routeBack", fn := fun _ => fun
  | [d1, d2, d3] => { results := [.lit (.bool false)], args := [d1, d2, d3] }
  | _ => none }
def RouteBackWrongFalsely : Prop := routeBackRow.holds Try.pinned (OpenSpec.ofChange routeBackWrong)

/-- 'homehublaw11.RouteChecks': WHATEVER THE INPUT: true; the input reads as it did. -/
def routeChecksSpec : ChangeSpec := { name := "routeChecks", fn := fun _ => fun
  | [d1, d2] => { results := [.lit (.bool true)], args := [d1, d2] }
  | _ => none }
def routeChecksRow : OpenClaim := { program := "ytlmoeempblgdkaa", sum := "2310573e3ff0765e9e8d97f0e435c3587aaf360f931ae3c017c07aae0e1382e4", func := "homehub/homehublaw11.RouteChecks", spec := "routeChecks", inPlace := ["slices.overlaps[homehub/api.Route]"], unfollowed := true, recurses := true, apart := false }
def RouteChecksSaid : Prop := routeChecksRow.holds Try.pinned (OpenSpec.ofChange routeChecksSpec)

/-- ITS FALSE NEIGHBOUR: 'it returns false'. Refute it at one input. -/
def routeChecksWrong : ChangeSpec := { name := "routeChecks", fn := fun _ => fun
  | [d1, d2] => { results := [.lit (.bool false)], args := [d1, d2] }
  | _ => none }
def RouteChecksWrongFalsely : Prop := routeChecksRow.holds Try.pinned (OpenSpec.ofChange routeChecksWrong)

/-- 'homehublaw11.RouteKeeps': WHATEVER THE INPUT: true; the input reads as it did. -/
def routeKeepsSpec : ChangeSpec := { name := "routeKeeps", fn := fun _ => fun
  | [d1, d2, d3] => { results := [.lit (.bool true)], args := [d1, d2, d3] }
  | _ => none }
def routeKeepsRow : OpenClaim := { program := "ytlmoeempblgdkaa", sum := "2310573e3ff0765e9e8d97f0e435c3587aaf360f931ae3c017c07aae0e1382e4", func := "homehub/homehublaw11.RouteKeeps", spec := "routeKeeps", inPlace := ["slices.overlaps[homehub/api.Route]"], unfollowed := true, recurses := true, apart := false }
def RouteKeepsSaid : Prop := routeKeepsRow.holds Try.pinned (OpenSpec.ofChange routeKeepsSpec)

/-- ITS FALSE NEIGHBOUR: 'it returns false'. Refute it at one input. -/
def routeKeepsWrong : ChangeSpec := { name := "routeKeeps", fn := fun _ => fun
  | [d1, d2, d3] => { results := [.lit (.bool false)], args := [d1, d2, d3] }
  | _ => none }
def RouteKeepsWrongFalsely : Prop := routeKeepsRow.holds Try.pinned (OpenSpec.ofChange routeKeepsWrong)

/-- 'homehublaw11.RouteLoops': WHATEVER THE INPUT: true; the input reads as it did. -/
def routeLoopsSpec : ChangeSpec := { name := "routeLoops", fn := fun _ => fun
  | [d] => { results := [.lit (.bool true)], args := [d] }
  | _ => none }
def routeLoopsRow : OpenClaim := { program := "ytlmoeempblgdkaa", sum := "2310573e3ff0765e9e8d97f0e435c3587aaf360f931ae3c017c07aae0e1382e4", func := "homehub/homehublaw11.RouteLoops", spec := "routeLoops", inPlace := ["slices.overlaps[homehub/api.Route]"], unfollowed := true, recurses := true, apart := false }
def RouteLoopsSaid : Prop := routeLoopsRow.holds Try.pinned (OpenSpec.ofChange routeLoopsSpec)

/-- ITS FALSE NEIGHBOUR: 'it returns false'. Refute it at one input. -/
def routeLoopsWrong : ChangeSpec := { name := "routeLoops", fn := fun _ => fun
  | [d] => { results := [.lit (.bool false)], args := [d] }
  | _ => none }
def RouteLoopsWrongFalsely : Prop := routeLoopsRow.holds Try.pinned (OpenSpec.ofChange routeLoopsWrong)

/- THE SECOND FORM. 'bulk': how many values and letters a reading holds, each counted each time it is reached (what is shared counts as often as it is met; a slice's spare places count too). A statement '..UptoSaid' is the law's where the arguments, and the package variables that the reading takes, are together of bulk at most 1048576: NARROWER than '..Said'. Prove '..Said' where nothing that the law and all that it calls make is longer than what came in: it says more and counts as full. Else prove '..UptoSaid'. A law counts once. -/
mutual
def uptoBulk {H : Type} : DataW H → Nat
  | .lit (.string bytes) => bytes.length + 1
  | .lit _ => 1
  | .nil => 1
  | .ptr d => uptoBulk d + 1
  | .slice elems spare => uptoBulkAll elems + uptoBulkAll spare + 1
  | .agg parts => uptoBulkAll parts + 1
  | .iface _ d => uptoBulk d + 1
  | .map entries => uptoBulkEntries entries + 1
  | .held _ => 1
def uptoBulkAll {H : Type} : List (DataW H) → Nat
  | [] => 0
  | d :: r => uptoBulk d + uptoBulkAll r
def uptoBulkEntries {H : Type} : List (Lit × DataW H) → Nat
  | [] => 0
  | x :: r => uptoBulkEntry x + uptoBulkEntries r
def uptoBulkEntry {H : Type} : Lit × DataW H → Nat
  | (.string bytes, d) => bytes.length + uptoBulk d + 1
  | (_, d) => uptoBulk d + 1
 end
def uptoSmall : (H : Type) → List (DataW H) → Bool := fun _ ds => decide (uptoBulkAll ds ≤ 1048576)
def OpenSpec.upto (s : _root_.Go.ChangeSpec) : _root_.Go.OpenSpec := { _root_.Go.OpenSpec.ofChange s with cond := some uptoSmall }

/-- 'homehublaw11.RouteUpdates', WHERE WHAT IT READS IS OF BULK AT MOST 1048576: true; the input reads as it did. -/
def routeUpdatesUptoRow : OpenClaim := { program := "ytlmoeempblgdkaa", sum := "2310573e3ff0765e9e8d97f0e435c3587aaf360f931ae3c017c07aae0e1382e4", func := "homehub/homehublaw11.RouteUpdates", spec := "routeUpdates", inPlace := ["slices.overlaps[homehub/api.Route]"], unfollowed := true, recurses := true, apart := false, narrowed := true }
def RouteUpdatesUptoSaid : Prop := routeUpdatesUptoRow.holds Try.pinned (OpenSpec.upto routeUpdatesSpec)

/-- 'homehublaw11.RouteBreaks', WHERE WHAT IT READS IS OF BULK AT MOST 1048576: true; the input reads as it did. -/
def routeBreaksUptoRow : OpenClaim := { program := "ytlmoeempblgdkaa", sum := "2310573e3ff0765e9e8d97f0e435c3587aaf360f931ae3c017c07aae0e1382e4", func := "homehub/homehublaw11.RouteBreaks", spec := "routeBreaks", inPlace := ["slices.overlaps[homehub/api.Route]"], unfollowed := true, recurses := true, apart := false, narrowed := true }
def RouteBreaksUptoSaid : Prop := routeBreaksUptoRow.holds Try.pinned (OpenSpec.upto routeBreaksSpec)

/-- 'homehublaw11.RouteCodes', WHERE WHAT IT READS IS OF BULK AT MOST 1048576: true; the input reads as it did. -/
def routeCodesUptoRow : OpenClaim := { program := "ytlmoeempblgdkaa", sum := "2310573e3ff0765e9e8d97f0e435c3587aaf360f931ae3c017c07aae0e1382e4", func := "homehub/homehublaw11.RouteCodes", spec := "routeCodes", inPlace := ["slices.overlaps[homehub/api.Route]"], unfollowed := true, recurses := true, apart := false, narrowed := true }
def RouteCodesUptoSaid : Prop := routeCodesUptoRow.holds Try.pinned (OpenSpec.upto routeCodesSpec)

/-- 'homehublaw11.RouteBack', WHERE WHAT IT READS IS OF BULK AT MOST 1048576: true; the input reads as it did. -/
def routeBackUptoRow : OpenClaim := { program := "ytlmoeempblgdkaa", sum := "2310573e3ff0765e9e8d97f0e435c3587aaf360f931ae3c017c07aae0e1382e4", func := "homehub/homehublaw11.RouteBack", spec := "routeBack", inPlace := ["slices.overlaps[homehub/api.Route]"], unfollowed := true, recurses := true, apart := false, narrowed := true }
def RouteBackUptoSaid : Prop := routeBackUptoRow.holds Try.pinned (OpenSpec.upto routeBackSpec)

/-- 'homehublaw11.RouteChecks', WHERE WHAT IT READS IS OF BULK AT MOST 1048576: true; the input reads as it did. -/
def routeChecksUptoRow : OpenClaim := { program := "ytlmoeempblgdkaa", sum := "2310573e3ff0765e9e8d97f0e435c3587aaf360f931ae3c017c07aae0e1382e4", func := "homehub/homehublaw11.RouteChecks", spec := "routeChecks", inPlace := ["slices.overlaps[homehub/api.Route]"], unfollowed := true, recurses := true, apart := false, narrowed := true }
def RouteChecksUptoSaid : Prop := routeChecksUptoRow.holds Try.pinned (OpenSpec.upto routeChecksSpec)

/-- 'homehublaw11.RouteKeeps', WHERE WHAT IT READS IS OF BULK AT MOST 1048576: true; the input reads as it did. -/
def routeKeepsUptoRow : OpenClaim := { program := "ytlmoeempblgdkaa", sum := "2310573e3ff0765e9e8d97f0e435c3587aaf360f931ae3c017c07aae0e1382e4", func := "homehub/homehublaw11.RouteKeeps", spec := "routeKeeps", inPlace := ["slices.overlaps[homehub/api.Route]"], unfollowed := true, recurses := true, apart := false, narrowed := true }
def RouteKeepsUptoSaid : Prop := routeKeepsUptoRow.holds Try.pinned (OpenSpec.upto routeKeepsSpec)

/-- 'homehublaw11.RouteLoops', WHERE WHAT IT READS IS OF BULK AT MOST 1048576: true; the input reads as it did. -/
def routeLoopsUptoRow : OpenClaim := { program := "ytlmoeempblgdkaa", sum := "2310573e3ff0765e9e8d97f0e435c3587aaf360f931ae3c017c07aae0e1382e4", func := "homehub/homehublaw11.RouteLoops", spec := "routeLoops", inPlace := ["slices.overlaps[homehub/api.Route]"], unfollowed := true, recurses := true, apart := false, narrowed := true }
def RouteLoopsUptoSaid : Prop := routeLoopsUptoRow.holds Try.pinned (OpenSpec.upto routeLoopsSpec)

end Rows
end Go.Proofs.Ytlmoeempblgdkaa
