/-
  No cell of these rows narrows 'for every input' (looked for: loops, veiled, ifaces, maps, wideKeys, modest, calm, conditions, laid).
  DERIVED. THE GIVEN ROWS OF THIS SEAT. 6 by the template 'for every input the law returns true; each argument reads behind the call as it read before'; 0 by the template 'total and deterministic' (their statements: YtjdhgokcbcidlaaTotals.lean).
  GIVEN WITH THE SEED: the statements are not yours to turn. If you find one false, say at which input.
  Laid BY PROGRAM, IN A SANDBOX (cutbox-rows.mjs): the forced cells as the released guide's own fill.sh prints them over the translation a8014c8cb237c284… (all of the seat's roots in one cut). By AI agents, Wed Nov 11 2026. No macro, syntax, notation, axiom, sorry.
-/
import Derived.Test.YtjdhgokcbcidlaaChecked
import GoSem.Claim
import GoSem.ClaimJoined
import GoSem.ClaimMapViews
import Derived.JoinedTies
import Derived.KernelRfl
namespace Go.Proofs.Ytjdhgokcbcidlaa
/- THE CELL 'sum', in the pinned program and in every row, IS THE sha256 OF THE DUMP (.gsa) THAT YtjdhgokcbcidlaaProg.lean LOADS. Nothing in Lean hashes anything: it is a label: what it is worth is what the hold of that sum in a sandbox is worth. -/
noncomputable def Try.pinned : Pinned := { name := "ytjdhgokcbcidlaa", sum := "a8014c8cb237c284e705e41c8f09c966ed709f0b0007e32b66bb73498f56c0ae", checked := Try.checked }
namespace Rows
def none {H : Type} : Left H := { results := [], args := [] }

/-- 'homehublaw16.MacPuts': WHATEVER THE INPUT: true; the input reads as it did. -/
def macPutsSpec : ChangeSpec := { name := "macPuts", fn := fun _ => fun
  | [d1, d2] => { results := [.lit (.bool true)], args := [d1, d2] }
  | _ => none }
def macPutsRow : OpenClaim := { program := "ytjdhgokcbcidlaa", sum := "a8014c8cb237c284e705e41c8f09c966ed709f0b0007e32b66bb73498f56c0ae", func := "homehub/homehublaw16.MacPuts", spec := "macPuts", inPlace := ["slices.overlaps[homehub/api.Sending]"], apart := false }
def MacPutsSaid : Prop := macPutsRow.holds Try.pinned (OpenSpec.ofChange macPutsSpec)

/-- ITS FALSE NEIGHBOUR: 'it returns false'. Refute it at one input. -/
def macPutsWrong : ChangeSpec := { name := "macPuts", fn := fun _ => fun
  | [d1, d2] => { results := [.lit (.bool false)], args := [d1, d2] }
  | _ => none }
def MacPutsWrongFalsely : Prop := macPutsRow.holds Try.pinned (OpenSpec.ofChange macPutsWrong)

/-- 'homehublaw16.MacResults': WHATEVER THE INPUT: true; the input reads as it did. -/
def macResultsSpec : ChangeSpec := { name := "macResults", fn := fun _ => fun
  | [d1, d2, d3] => { results := [.lit (.bool true)], args := [d1, d2, d3] }
  | _ => none }
def macResultsRow : OpenClaim := { program := "ytjdhgokcbcidlaa", sum := "a8014c8cb237c284e705e41c8f09c966ed709f0b0007e32b66bb73498f56c0ae", func := "homehub/homehublaw16.MacResults", spec := "macResults", inPlace := ["slices.overlaps[homehub/api.Sending]"], apart := false }
def MacResultsSaid : Prop := macResultsRow.holds Try.pinned (OpenSpec.ofChange macResultsSpec)

/-- ITS FALSE NEIGHBOUR: 'it returns false'. Refute it at one input. -/
def macResultsWrong : ChangeSpec := { name := "macResults", fn := fun _ => fun
  | [d1, d2, d3] => { results := [.lit (.bool false)], args := [d1, d2, d3] }
  | _ => none }
def MacResultsWrongFalsely : Prop := macResultsRow.holds Try.pinned (OpenSpec.ofChange macResultsWrong)

/-- 'homehublaw16.MacTries': WHATEVER THE INPUT: true; the input reads as it did. -/
def macTriesSpec : ChangeSpec := { name := "macTries", fn := fun _ => fun
  | [d] => { results := [.lit (.bool true)], args := [d] }
  | _ => none }
def macTriesRow : OpenClaim := { program := "ytjdhgokcbcidlaa", sum := "a8014c8cb237c284e705e41c8f09c966ed709f0b0007e32b66bb73498f56c0ae", func := "homehub/homehublaw16.MacTries", spec := "macTries", inPlace := ["slices.overlaps[homehub/api.Sending]"], apart := false }
def MacTriesSaid : Prop := macTriesRow.holds Try.pinned (OpenSpec.ofChange macTriesSpec)

/-- ITS FALSE NEIGHBOUR: 'it returns false'. Refute it at one input. -/
def macTriesWrong : ChangeSpec := { name := "macTries", fn := fun _ => fun
  | [d] => { results := [.lit (.bool false)], args := [d] }
  | _ => none }
def MacTriesWrongFalsely : Prop := macTriesRow.holds Try.pinned (OpenSpec.ofChange macTriesWrong)

/-- 'homehublaw16.MacOrder': WHATEVER THE INPUT: true; the input reads as it did. -/
def macOrderSpec : ChangeSpec := { name := "macOrder", fn := fun _ => fun
  | [d] => { results := [.lit (.bool true)], args := [d] }
  | _ => none }
def macOrderRow : OpenClaim := { program := "ytjdhgokcbcidlaa", sum := "a8014c8cb237c284e705e41c8f09c966ed709f0b0007e32b66bb73498f56c0ae", func := "homehub/homehublaw16.MacOrder", spec := "macOrder", inPlace := ["slices.overlaps[homehub/api.Sending]"], apart := false }
def MacOrderSaid : Prop := macOrderRow.holds Try.pinned (OpenSpec.ofChange macOrderSpec)

/-- ITS FALSE NEIGHBOUR: 'it returns false'. Refute it at one input. -/
def macOrderWrong : ChangeSpec := { name := "macOrder", fn := fun _ => fun
  | [d] => { results := [.lit (.bool false)], args := [d] }
  | _ => none }
def MacOrderWrongFalsely : Prop := macOrderRow.holds Try.pinned (OpenSpec.ofChange macOrderWrong)

/-- 'homehublaw16.MacFresh': WHATEVER THE INPUT: true; the input reads as it did. -/
def macFreshSpec : ChangeSpec := { name := "macFresh", fn := fun _ => fun
  | [d1, d2] => { results := [.lit (.bool true)], args := [d1, d2] }
  | _ => none }
def macFreshRow : OpenClaim := { program := "ytjdhgokcbcidlaa", sum := "a8014c8cb237c284e705e41c8f09c966ed709f0b0007e32b66bb73498f56c0ae", func := "homehub/homehublaw16.MacFresh", spec := "macFresh", inPlace := ["slices.overlaps[homehub/api.Sending]"], apart := false }
def MacFreshSaid : Prop := macFreshRow.holds Try.pinned (OpenSpec.ofChange macFreshSpec)

/-- ITS FALSE NEIGHBOUR: 'it returns false'. Refute it at one input. -/
def macFreshWrong : ChangeSpec := { name := "macFresh", fn := fun _ => fun
  | [d1, d2] => { results := [.lit (.bool false)], args := [d1, d2] }
  | _ => none }
def MacFreshWrongFalsely : Prop := macFreshRow.holds Try.pinned (OpenSpec.ofChange macFreshWrong)

/-- 'homehublaw16.MacOnce': WHATEVER THE INPUT: true; the input reads as it did. -/
def macOnceSpec : ChangeSpec := { name := "macOnce", fn := fun _ => fun
  | [d1, d2, d3] => { results := [.lit (.bool true)], args := [d1, d2, d3] }
  | _ => none }
def macOnceRow : OpenClaim := { program := "ytjdhgokcbcidlaa", sum := "a8014c8cb237c284e705e41c8f09c966ed709f0b0007e32b66bb73498f56c0ae", func := "homehub/homehublaw16.MacOnce", spec := "macOnce", inPlace := ["slices.overlaps[homehub/api.Sending]"], apart := false }
def MacOnceSaid : Prop := macOnceRow.holds Try.pinned (OpenSpec.ofChange macOnceSpec)

/-- ITS FALSE NEIGHBOUR: 'it returns false'. Refute it at one input. -/
def macOnceWrong : ChangeSpec := { name := "macOnce", fn := fun _ => fun
  | [d1, d2, d3] => { results := [.lit (.bool false)], args := [d1, d2, d3] }
  | _ => none }
def MacOnceWrongFalsely : Prop := macOnceRow.holds Try.pinned (OpenSpec.ofChange macOnceWrong)

/- THE SECOND FORM. 'bulk': how many values and letters a reading holds, each counted each time it is reached (what is shared counts as often as it is met; a slice's spare places count too). A statement '..UptoSaid' is the law's where the arguments, and the package variables that the reading takes, are together of bulk at most 1048576: NARROWER than '..Said'. Prove '..Said' where nothing that the law and all that it calls make is longer than what came in: it says more and counts as full. Else prove '..UptoSaid'. A law counts once. -/
mutual
def uptoBulk {H : Type} : DataW H → Nat
  | .lit (.string bytes) => bytes.length + 1
  | .lit _ => 1
  | .nil => 1
  | .ptr d => uptoBulk d + 1
  | .slice elems spare => uptoBulkAll elems + uptoBulkAll spare + 1
  | .agg parts => uptoBulkAll parts + 1
  | .iface _ d => uptoBulk d + 1
  | .map entries => uptoBulkEntries entries + 1
  | .held _ => 1
def uptoBulkAll {H : Type} : List (DataW H) → Nat
  | [] => 0
  | d :: r => uptoBulk d + uptoBulkAll r
def uptoBulkEntries {H : Type} : List (Lit × DataW H) → Nat
  | [] => 0
  | x :: r => uptoBulkEntry x + uptoBulkEntries r
def uptoBulkEntry {H : Type} : Lit × DataW H → Nat
  | (.string bytes, d) => bytes.length + uptoBulk d + 1
  | (_, d) => uptoBulk d + 1
 end
def uptoSmall : (H : Type) → List (DataW H) → Bool := fun _ ds => decide (uptoBulkAll ds ≤ 1048576)
def OpenSpec.upto (s : _root_.Go.ChangeSpec) : _root_.Go.OpenSpec := { _root_.Go.OpenSpec.ofChange s with cond := some uptoSmall }

/-- 'homehublaw16.MacPuts', WHERE WHAT IT READS IS OF BULK AT MOST 1048576: true; the input reads as it did. -/
def macPutsUptoRow : OpenClaim := { program := "ytjdhgokcbcidlaa", sum := "a8014c8cb237c284e705e41c8f09c966ed709f0b0007e32b66bb73498f56c0ae", func := "homehub/homehublaw16.MacPuts", spec := "macPuts", inPlace := ["slices.overlaps[homehub/api.Sending]"], apart := false, narrowed := true }
def MacPutsUptoSaid : Prop := macPutsUptoRow.holds Try.pinned (OpenSpec.upto macPutsSpec)

/-- 'homehublaw16.MacResults', WHERE WHAT IT READS IS OF BULK AT MOST 1048576: true; the input reads as it did. -/
def macResultsUptoRow : OpenClaim := { program := "ytjdhgokcbcidlaa", sum := "a8014c8cb237c284e705e41c8f09c966ed709f0b0007e32b66bb73498f56c0ae", func := "homehub/homehublaw16.MacResults", spec := "macResults", inPlace := ["slices.overlaps[homehub/api.Sending]"], apart := false, narrowed := true }
def MacResultsUptoSaid : Prop := macResultsUptoRow.holds Try.pinned (OpenSpec.upto macResultsSpec)

/-- 'homehublaw16.MacTries', WHERE WHAT IT READS IS OF BULK AT MOST 1048576: true; the input reads as it did. -/
def macTriesUptoRow : OpenClaim := { program := "ytjdhgokcbcidlaa", sum := "a8014c8cb237c284e705e41c8f09c966ed709f0b0007e32b66bb73498f56c0ae", func := "homehub/homehublaw16.MacTries", spec := "macTries", inPlace := ["slices.overlaps[homehub/api.Sending]"], apart := false, narrowed := true }
def MacTriesUptoSaid : Prop := macTriesUptoRow.holds Try.pinned (OpenSpec.upto macTriesSpec)

/-- 'homehublaw16.MacOrder', WHERE WHAT IT READS IS OF BULK AT MOST 1048576: true; the input reads as it did. -/
def macOrderUptoRow : OpenClaim := { program := "ytjdhgokcbcidlaa", sum := "a8014c8cb237c284e705e41c8f09c966ed709f0b0007e32b66bb73498f56c0ae", func := "homehub/homehublaw16.MacOrder", spec := "macOrder", inPlace := ["slices.overlaps[homehub/api.Sending]"], apart := false, narrowed := true }
def MacOrderUptoSaid : Prop := macOrderUptoRow.holds Try.pinned (OpenSpec.upto macOrderSpec)

/-- 'homehublaw16.MacFresh', WHERE WHAT IT READS IS OF BULK AT MOST 1048576: true; the input reads as it did. -/
def macFreshUptoRow : OpenClaim := { program := "ytjdhgokcbcidlaa", sum := "a8014c8cb237c284e705e41c8f09c966ed709f0b0007e32b66bb73498f56c0ae", func := "homehub/homehublaw16.MacFresh", spec := "macFresh", inPlace := ["slices.overlaps[homehub/api.Sending]"], apart := false, narrowed := true }
def MacFreshUptoSaid : Prop := macFreshUptoRow.holds Try.pinned (OpenSpec.upto macFreshSpec)

/-- 'homehublaw16.MacOnce', WHERE WHAT IT READS IS OF BULK AT MOST 1048576: true; the input reads as it did. -/
def macOnceUptoRow : OpenClaim := { program := "ytjdhgokcbcidlaa", sum := "a8014c8cb237c284e705e41c8f09c966ed709f0b0007e32b66bb73498f56c0ae", func := "homehub/homehublaw16.MacOnce", spec := "macOnce", inPlace := ["slices.overlaps[homehub/api.Sending]"], apart := false, narrowed := true }
def MacOnceUptoSaid : Prop := macOnceUptoRow.holds Try.pinned (OpenSpec.upto macOnceSpec)

end Rows
end Go.Proofs.Ytjdhgokcbcidlaa
