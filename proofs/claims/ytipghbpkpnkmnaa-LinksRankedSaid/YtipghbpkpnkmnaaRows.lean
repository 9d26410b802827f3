/-
  No cell of these rows narrows 'for every input' (looked for: loops, veiled, ifaces, maps, wideKeys, modest, calm, conditions, laid).
  DERIVED. THE GIVEN ROWS OF THIS SEAT. 6 by the template 'for every input the law returns true; each argument reads behind the call as it read before'; 0 by the template 'total and deterministic' (their statements: YtipghbpkpnkmnaaTotals.lean).
  GIVEN WITH THE SEED: the statements are not yours to turn. If you find one false, say at which input.
  Laid BY PROGRAM, IN A SANDBOX (cutbox-rows.mjs): the forced cells as the released guide's own fill.sh prints them over the translation 95269e4bf5bcb144… (all of the seat's roots in one cut). By AI agents, Wed Nov 11 2026. No macro, syntax, notation, axiom, sorry.
-/
import Derived.Test.YtipghbpkpnkmnaaChecked
import GoSem.Claim
import GoSem.ClaimJoined
import GoSem.ClaimMapViews
import Derived.JoinedTies
import Derived.KernelRfl
namespace Go.Proofs.Ytipghbpkpnkmnaa
/- THE CELL 'sum', in the pinned program and in every row, IS THE sha256 OF THE DUMP (.gsa) THAT YtipghbpkpnkmnaaProg.lean LOADS. Nothing in Lean hashes anything: it is a label: what it is worth is what the hold of that sum in a sandbox is worth. -/
noncomputable def Try.pinned : Pinned := { name := "ytipghbpkpnkmnaa", sum := "95269e4bf5bcb144c9e1058b51f315da4292593335012fd09b2d773249e93a06", checked := Try.checked }
namespace Rows
def none {H : Type} : Left H := { results := [], args := [] }

/-- 'homehublaw10.LinksSeen': WHATEVER THE INPUT: true; the input reads as it did. -/
def linksSeenSpec : ChangeSpec := { name := "linksSeen", fn := fun _ => fun
  | [d1, d2, d3] => { results := [.lit (.bool true)], args := [d1, d2, d3] }
  | _ => none }
def linksSeenRow : OpenClaim := { program := "ytipghbpkpnkmnaa", sum := "95269e4bf5bcb144c9e1058b51f315da4292593335012fd09b2d773249e93a06", func := "homehub/homehublaw10.LinksSeen", spec := "linksSeen", inPlace := ["slices.overlaps[homehub/api.Link]"], unfollowed := true, recurses := true, apart := false }
def LinksSeenSaid : Prop := linksSeenRow.holds Try.pinned (OpenSpec.ofChange linksSeenSpec)

/-- ITS FALSE NEIGHBOUR: 'it returns false'. Refute it at one input. -/
def linksSeenWrong : ChangeSpec := { name := "linksSeen", fn := fun _ => fun
  | [d1, d2, d3] => { results := [.lit (.bool false)], args := [d1, d2, d3] }
  | _ => none }
def LinksSeenWrongFalsely : Prop := linksSeenRow.holds Try.pinned (OpenSpec.ofChange linksSeenWrong)

/-- 'homehublaw10.LinksMonotone': WHATEVER THE INPUT: true; the input reads as it did. -/
def linksMonotoneSpec : ChangeSpec := { name := "linksMonotone", fn := fun _ => fun
  | [d1, d2, d3] => { results := [.lit (.bool true)], args := [d1, d2, d3] }
  | _ => none }
def linksMonotoneRow : OpenClaim := { program := "ytipghbpkpnkmnaa", sum := "95269e4bf5bcb144c9e1058b51f315da4292593335012fd09b2d773249e93a06", func := "homehub/homehublaw10.LinksMonotone", spec := "linksMonotone", inPlace := ["slices.overlaps[homehub/api.Link]"], unfollowed := true, recurses := true, apart := false }
def LinksMonotoneSaid : Prop := linksMonotoneRow.holds Try.pinned (OpenSpec.ofChange linksMonotoneSpec)

/-- ITS FALSE NEIGHBOUR: 'it returns false'. Refute it at one input. -/
def linksMonotoneWrong : ChangeSpec := { name := "linksMonotone", fn := fun _ => fun
  | [d1, d2, d3] => { results := [.lit (.bool false)], args := [d1, d2, d3] }
  | _ => none }
def LinksMonotoneWrongFalsely : Prop := linksMonotoneRow.holds Try.pinned (OpenSpec.ofChange linksMonotoneWrong)

/-- 'homehublaw10.LinksChecks': WHATEVER THE INPUT: true; the input reads as it did. -/
def linksChecksSpec : ChangeSpec := { name := "linksChecks", fn := fun _ => fun
  | [d] => { results := [.lit (.bool true)], args := [d] }
  | _ => none }
def linksChecksRow : OpenClaim := { program := "ytipghbpkpnkmnaa", sum := "95269e4bf5bcb144c9e1058b51f315da4292593335012fd09b2d773249e93a06", func := "homehub/homehublaw10.LinksChecks", spec := "linksChecks", inPlace := ["slices.overlaps[homehub/api.Link]"], unfollowed := true, recurses := true, apart := false }
def LinksChecksSaid : Prop := linksChecksRow.holds Try.pinned (OpenSpec.ofChange linksChecksSpec)

/-- ITS FALSE NEIGHBOUR: 'it returns false'. Refute it at one input. -/
def linksChecksWrong : ChangeSpec := { name := "linksChecks", fn := fun _ => fun
  | [d] => { results := [.lit (.bool false)], args := [d] }
  | _ => none }
def LinksChecksWrongFalsely : Prop := linksChecksRow.holds Try.pinned (OpenSpec.ofChange linksChecksWrong)

/-- 'homehublaw10.LinksCosts': WHATEVER THE INPUT: true; the input reads as it did. -/
def linksCostsSpec : ChangeSpec := { name := "linksCosts", fn := fun _ => fun
  | [d1, d2] => { results := [.lit (.bool true)], args := [d1, d2] }
  | _ => none }
def linksCostsRow : OpenClaim := { program := "ytipghbpkpnkmnaa", sum := "95269e4bf5bcb144c9e1058b51f315da4292593335012fd09b2d773249e93a06", func := "homehub/homehublaw10.LinksCosts", spec := "linksCosts", inPlace := ["slices.overlaps[homehub/api.Link]"], unfollowed := true, recurses := true, apart := false }
def LinksCostsSaid : Prop := linksCostsRow.holds Try.pinned (OpenSpec.ofChange linksCostsSpec)

/-- ITS FALSE NEIGHBOUR: 'it returns false'. Refute it at one input. -/
def linksCostsWrong : ChangeSpec := { name := "linksCosts", fn := fun _ => fun
  | [d1, d2] => { results := [.lit (.bool false)], args := [d1, d2] }
  | _ => none }
def LinksCostsWrongFalsely : Prop := linksCostsRow.holds Try.pinned (OpenSpec.ofChange linksCostsWrong)

/-- 'homehublaw10.LinksSixteen': WHATEVER THE INPUT: true; the input reads as it did. -/
def linksSixteenSpec : ChangeSpec := { name := "linksSixteen", fn := fun _ => fun
  | [d1, d2] => { results := [.lit (.bool true)], args := [d1, d2] }
  | _ => none }
def linksSixteenRow : OpenClaim := { program := "ytipghbpkpnkmnaa", sum := "95269e4bf5bcb144c9e1058b51f315da4292593335012fd09b2d773249e93a06", func := "homehub/homehublaw10.LinksSixteen", spec := "linksSixteen", inPlace := ["slices.overlaps[homehub/api.Link]"], unfollowed := true, recurses := true, apart := false }
def LinksSixteenSaid : Prop := linksSixteenRow.holds Try.pinned (OpenSpec.ofChange linksSixteenSpec)

/-- ITS FALSE NEIGHBOUR: 'it returns false'. Refute it at one input. -/
def linksSixteenWrong : ChangeSpec := { name := "linksSixteen", fn := fun _ => fun
  | [d1, d2] => { results := [.lit (.bool false)], args := [d1, d2] }
  | _ => none }
def LinksSixteenWrongFalsely : Prop := linksSixteenRow.holds Try.pinned (OpenSpec.ofChange linksSixteenWrong)

/-- 'homehublaw10.LinksRanked': WHATEVER THE INPUT: true; the input reads as it did. -/
def linksRankedSpec : ChangeSpec := { name := "linksRanked", fn := fun _ => fun
  | [d] => { results := [.lit (.bool true)], args := [d] }
  | _ => none }
def linksRankedRow : OpenClaim := { program := "ytipghbpkpnkmnaa", sum := "95269e4bf5bcb144c9e1058b51f315da4292593335012fd09b2d773249e93a06", func := "homehub/homehublaw10.LinksRanked", spec := "linksRanked", inPlace := ["slices.overlaps[homehub/api.Link]"], unfollowed := true, recurses := true, apart := false }
def LinksRankedSaid : Prop := linksRankedRow.holds Try.pinned (OpenSpec.ofChange linksRankedSpec)

/-- ITS FALSE NEIGHBOUR: 'it returns false'. Refute it at one input. -/
def linksRankedWrong : ChangeSpec := { name := "linksRanked", fn := fun _ => fun
  | [d] => { results := [.lit (.bool false)], args := [d] }
  | _ => none }
def LinksRankedWrongFalsely : Prop := linksRankedRow.holds Try.pinned (OpenSpec.ofChange linksRankedWrong)

/- THE SECOND FORM. 'bulk': how many values and letters a reading holds, each counted each time it is reached (what is shared counts as often as it is met; a slice's spare places count too). A statement '..UptoSaid' is the law's where the arguments, and the package variables that the reading takes, are together of bulk at most 1048576: NARROWER than '..Said'. Prove '..Said' where nothing that the law and all that it calls make is longer than what came in: it says more and counts as full. Else prove '..UptoSaid'. A law counts once. -/
mutual
def uptoBulk {H : Type} : DataW H → Nat
  | .lit (.string bytes) => bytes.length + 1
  | .lit _ => 1
  | .nil => 1
  | .ptr d => uptoBulk d + 1
  | .slice elems spare => uptoBulkAll elems + uptoBulkAll spare + 1
  | .agg parts => uptoBulkAll parts + 1
  | .iface _ d => uptoBulk d + 1
  | .map entries => uptoBulkEntries entries + 1
  | .held _ => 1
def uptoBulkAll {H : Type} : List (DataW H) → Nat
  | [] => 0
  | d :: r => uptoBulk d + uptoBulkAll r
def uptoBulkEntries {H : Type} : List (Lit × DataW H) → Nat
  | [] => 0
  | x :: r => uptoBulkEntry x + uptoBulkEntries r
def uptoBulkEntry {H : Type} : Lit × DataW H → Nat
  | (.string bytes, d) => bytes.length + uptoBulk d + 1
  | (_, d) => uptoBulk d + 1
 end
def uptoSmall : (H : Type) → List (DataW H) → Bool := fun _ ds => decide (uptoBulkAll ds ≤ 1048576)
def OpenSpec.upto (s : _root_.Go.ChangeSpec) : _root_.Go.OpenSpec := { _root_.Go.OpenSpec.ofChange s with cond := some uptoSmall }

/-- 'homehublaw10.LinksSeen', WHERE WHAT IT READS IS OF BULK AT MOST 1048576: true; the input reads as it did. -/
def linksSeenUptoRow : OpenClaim := { program := "ytipghbpkpnkmnaa", sum := "95269e4bf5bcb144c9e1058b51f315da4292593335012fd09b2d773249e93a06", func := "homehub/homehublaw10.LinksSeen", spec := "linksSeen", inPlace := ["slices.overlaps[homehub/api.Link]"], unfollowed := true, recurses := true, apart := false, narrowed := true }
def LinksSeenUptoSaid : Prop := linksSeenUptoRow.holds Try.pinned (OpenSpec.upto linksSeenSpec)

/-- 'homehublaw10.LinksMonotone', WHERE WHAT IT READS IS OF BULK AT MOST 1048576: true; the input reads as it did. -/
def linksMonotoneUptoRow : OpenClaim := { program := "ytipghbpkpnkmnaa", sum := "95269e4bf5bcb144c9e1058b51f315da4292593335012fd09b2d773249e93a06", func := "homehub/homehublaw10.LinksMonotone", spec := "linksMonotone", inPlace := ["slices.overlaps[homehub/api.Link]"], unfollowed := true, recurses := true, apart := false, narrowed := true }
def LinksMonotoneUptoSaid : Prop := linksMonotoneUptoRow.holds Try.pinned (OpenSpec.upto linksMonotoneSpec)

/-- 'homehublaw10.LinksChecks', WHERE WHAT IT READS IS OF BULK AT MOST 1048576: true; the input reads as it did. -/
def linksChecksUptoRow : OpenClaim := { program := "ytipghbpkpnkmnaa", sum := "95269e4bf5bcb144c9e1058b51f315da4292593335012fd09b2d773249e93a06", func := "homehub/homehublaw10.LinksChecks", spec := "linksChecks", inPlace := ["slices.overlaps[homehub/api.Link]"], unfollowed := true, recurses := true, apart := false, narrowed := true }
def LinksChecksUptoSaid : Prop := linksChecksUptoRow.holds Try.pinned (OpenSpec.upto linksChecksSpec)

/-- 'homehublaw10.LinksCosts', WHERE WHAT IT READS IS OF BULK AT MOST 1048576: true; the input reads as it did. -/
def linksCostsUptoRow : OpenClaim := { program := "ytipghbpkpnkmnaa", sum := "95269e4bf5bcb144c9e1058b51f315da4292593335012fd09b2d773249e93a06", func := "homehub/homehublaw10.LinksCosts", spec := "linksCosts", inPlace := ["slices.overlaps[homehub/api.Link]"], unfollowed := true, recurses := true, apart := false, narrowed := true }
def LinksCostsUptoSaid : Prop := linksCostsUptoRow.holds Try.pinned (OpenSpec.upto linksCostsSpec)

/-- 'homehublaw10.LinksSixteen', WHERE WHAT IT READS IS OF BULK AT MOST 1048576: true; the input reads as it did. -/
def linksSixteenUptoRow : OpenClaim := { program := "ytipghbpkpnkmnaa", sum := "95269e4bf5bcb144c9e1058b51f315da4292593335012fd09b2d773249e93a06", func := "homehub/homehublaw10.LinksSixteen", spec := "linksSixteen", inPlace := ["slices.overlaps[homehub/api.Link]"], unfollowed := true, recurses := true, apart := false, narrowed := true }
def LinksSixteenUptoSaid : Prop := linksSixteenUptoRow.holds Try.pinned (OpenSpec.upto linksSixteenSpec)

/-- 'homehublaw10.LinksRanked', WHERE WHAT IT READS IS OF BULK AT MOST 1048576: true; the input reads as it did. -/
def linksRankedUptoRow : OpenClaim := { program := "ytipghbpkpnkmnaa", sum := "95269e4bf5bcb144c9e1058b51f315da4292593335012fd09b2d773249e93a06", func := "homehub/homehublaw10.LinksRanked", spec := "linksRanked", inPlace := ["slices.overlaps[homehub/api.Link]"], unfollowed := true, recurses := true, apart := false, narrowed := true }
def LinksRankedUptoSaid : Prop := linksRankedUptoRow.holds Try.pinned (OpenSpec.upto linksRankedSpec)

end Rows
end Go.Proofs.Ytipghbpkpnkmnaa
