/-
  No cell of these rows narrows 'for every input' (looked for: loops, veiled, ifaces, maps, wideKeys, modest, calm, conditions, laid).
  DERIVED. THE GIVEN ROWS OF THIS SEAT. 8 by the template 'for every input the law returns true; each argument reads behind the call as it read before'; 0 by the template 'total and deterministic' (their statements: YteabeflcffflnaaTotals.lean).
  GIVEN WITH THE SEED: the statements are not yours to turn. If you find one false, say at which input.
  Laid BY PROGRAM, IN A SANDBOX (cutbox-rows.mjs): the forced cells as the released guide's own fill.sh prints them over the translation 28d0b6977dd4ab18… (all of the seat's roots in one cut). By AI agents, Wed Nov 11 2026. No macro, syntax, notation, axiom, sorry.
-/
import Derived.Test.YteabeflcffflnaaChecked
import GoSem.Claim
import GoSem.ClaimJoined
import GoSem.ClaimMapViews
import Derived.JoinedTies
import Derived.KernelRfl
namespace Go.Proofs.Yteabeflcffflnaa
/- THE CELL 'sum', in the pinned program and in every row, IS THE sha256 OF THE DUMP (.gsa) THAT YteabeflcffflnaaProg.lean LOADS. Nothing in Lean hashes anything: it is a label: what it is worth is what the hold of that sum in a sandbox is worth. -/
noncomputable def Try.pinned : Pinned := { name := "yteabeflcffflnaa", sum := "28d0b6977dd4ab1820b8b446d87df1a8347b997635add60cf4cb4a8f99ff8ecd", checked := Try.checked }
namespace Rows
def none {H : Type} : Left H := { results := [], args := [] }

/-- 'homehublaw05.ClockDates': WHATEVER THE INPUT: true; the input reads as it did. -/
def clockDatesSpec : ChangeSpec := { name := "clockDates", fn := fun _ => fun
  | [d1, d2] => { results := [.lit (.bool true)], args := [d1, d2] }
  | _ => none }
def clockDatesRow : OpenClaim := { program := "yteabeflcffflnaa", sum := "28d0b6977dd4ab1820b8b446d87df1a8347b997635add60cf4cb4a8f99ff8ecd", func := "homehub/homehublaw05.ClockDates", spec := "clockDates", apart := false }
def ClockDatesSaid : Prop := clockDatesRow.holds Try.pinned (OpenSpec.ofChange clockDatesSpec)

/-- ITS FALSE NEIGHBOUR: 'it returns false'. Refute it at one input. -/
def clockDatesWrong : ChangeSpec := { name := "clockDates", fn := fun _ => fun
  | [d1, d2] => { results := [.lit (.bool false)], args := [d1, d2] }
  | _ => none }
def ClockDatesWrongFalsely : Prop := clockDatesRow.holds Try.pinned (OpenSpec.ofChange clockDatesWrong)

/-- 'homehublaw05.ClockParts': WHATEVER THE INPUT: true; the input reads as it did. -/
def clockPartsSpec : ChangeSpec := { name := "clockParts", fn := fun _ => fun
  | [d] => { results := [.lit (.bool true)], args := [d] }
  | _ => none }
def clockPartsRow : OpenClaim := { program := "yteabeflcffflnaa", sum := "28d0b6977dd4ab1820b8b446d87df1a8347b997635add60cf4cb4a8f99ff8ecd", func := "homehub/homehublaw05.ClockParts", spec := "clockParts", apart := false }
def ClockPartsSaid : Prop := clockPartsRow.holds Try.pinned (OpenSpec.ofChange clockPartsSpec)

/-- ITS FALSE NEIGHBOUR: 'it returns false'. Refute it at one input. -/
def clockPartsWrong : ChangeSpec := { name := "clockParts", fn := fun _ => fun
  | [d] => { results := [.lit (.bool false)], args := [d] }
  | _ => none }
def ClockPartsWrongFalsely : Prop := clockPartsRow.holds Try.pinned (OpenSpec.ofChange clockPartsWrong)

/-- 'homehublaw05.ClockZones': WHATEVER THE INPUT: true; the input reads as it did. -/
def clockZonesSpec : ChangeSpec := { name := "clockZones", fn := fun _ => fun
  | [d1, d2] => { results := [.lit (.bool true)], args := [d1, d2] }
  | _ => none }
def clockZonesRow : OpenClaim := { program := "yteabeflcffflnaa", sum := "28d0b6977dd4ab1820b8b446d87df1a8347b997635add60cf4cb4a8f99ff8ecd", func := "homehub/homehublaw05.ClockZones", spec := "clockZones", apart := false }
def ClockZonesSaid : Prop := clockZonesRow.holds Try.pinned (OpenSpec.ofChange clockZonesSpec)

/-- ITS FALSE NEIGHBOUR: 'it returns false'. Refute it at one input. -/
def clockZonesWrong : ChangeSpec := { name := "clockZones", fn := fun _ => fun
  | [d1, d2] => { results := [.lit (.bool false)], args := [d1, d2] }
  | _ => none }
def ClockZonesWrongFalsely : Prop := clockZonesRow.holds Try.pinned (OpenSpec.ofChange clockZonesWrong)

/-- 'homehublaw05.ClockUtc': WHATEVER THE INPUT: true; the input reads as it did. -/
def clockUtcSpec : ChangeSpec := { name := "clockUtc", fn := fun _ => fun
  | [d1, d2] => { results := [.lit (.bool true)], args := [d1, d2] }
  | _ => none }
def clockUtcRow : OpenClaim := { program := "yteabeflcffflnaa", sum := "28d0b6977dd4ab1820b8b446d87df1a8347b997635add60cf4cb4a8f99ff8ecd", func := "homehub/homehublaw05.ClockUtc", spec := "clockUtc", apart := false }
def ClockUtcSaid : Prop := clockUtcRow.holds Try.pinned (OpenSpec.ofChange clockUtcSpec)

/-- ITS FALSE NEIGHBOUR: 'it returns false'. Refute it at one input. -/
def clockUtcWrong : ChangeSpec := { name := "clockUtc", fn := fun _ => fun
  | [d1, d2] => { results := [.lit (.bool false)], args := [d1, d2] }
  | _ => none }
def ClockUtcWrongFalsely : Prop := clockUtcRow.holds Try.pinned (OpenSpec.ofChange clockUtcWrong)

/-- 'homehublaw05.ClockBack': WHATEVER THE INPUT: true; the input reads as it did. -/
def clockBackSpec : ChangeSpec := { name := "clockBack", fn := fun _ => fun
  | [d1, d2] => { results := [.lit (.bool true)], args := [d1, d2] }
  | _ => none }
def clockBackRow : OpenClaim := { program := "yteabeflcffflnaa", sum := "28d0b6977dd4ab1820b8b446d87df1a8347b997635add60cf4cb4a8f99ff8ecd", func := "homehub/homehublaw05.ClockBack", spec := "clockBack", apart := false }
def ClockBackSaid : Prop := clockBackRow.holds Try.pinned (OpenSpec.ofChange clockBackSpec)

/-- ITS FALSE NEIGHBOUR: 'it returns false'. Refute it at one input. -/
def clockBackWrong : ChangeSpec := { name := "clockBack", fn := fun _ => fun
  | [d1, d2] => { results := [.lit (.bool false)], args := [d1, d2] }
  | _ => none }
def ClockBackWrongFalsely : Prop := clockBackRow.holds Try.pinned (OpenSpec.ofChange clockBackWrong)

/-- 'homehublaw05.ClockNext': WHATEVER THE INPUT: true; the input reads as it did. -/
def clockNextSpec : ChangeSpec := { name := "clockNext", fn := fun _ => fun
  | [d1, d2] => { results := [.lit (.bool true)], args := [d1, d2] }
  | _ => none }
def clockNextRow : OpenClaim := { program := "yteabeflcffflnaa", sum := "28d0b6977dd4ab1820b8b446d87df1a8347b997635add60cf4cb4a8f99ff8ecd", func := "homehub/homehublaw05.ClockNext", spec := "clockNext", apart := false }
def ClockNextSaid : Prop := clockNextRow.holds Try.pinned (OpenSpec.ofChange clockNextSpec)

/-- ITS FALSE NEIGHBOUR: 'it returns false'. Refute it at one input. -/
def clockNextWrong : ChangeSpec := { name := "clockNext", fn := fun _ => fun
  | [d1, d2] => { results := [.lit (.bool false)], args := [d1, d2] }
  | _ => none }
def ClockNextWrongFalsely : Prop := clockNextRow.holds Try.pinned (OpenSpec.ofChange clockNextWrong)

/-- 'homehublaw05.ClockYears': WHATEVER THE INPUT: true; the input reads as it did. -/
def clockYearsSpec : ChangeSpec := { name := "clockYears", fn := fun _ => fun
  | [d] => { results := [.lit (.bool true)], args := [d] }
  | _ => none }
def clockYearsRow : OpenClaim := { program := "yteabeflcffflnaa", sum := "28d0b6977dd4ab1820b8b446d87df1a8347b997635add60cf4cb4a8f99ff8ecd", func := "homehub/homehublaw05.ClockYears", spec := "clockYears", apart := false }
def ClockYearsSaid : Prop := clockYearsRow.holds Try.pinned (OpenSpec.ofChange clockYearsSpec)

/-- ITS FALSE NEIGHBOUR: 'it returns false'. Refute it at one input. -/
def clockYearsWrong : ChangeSpec := { name := "clockYears", fn := fun _ => fun
  | [d] => { results := [.lit (.bool false)], args := [d] }
  | _ => none }
def ClockYearsWrongFalsely : Prop := clockYearsRow.holds Try.pinned (OpenSpec.ofChange clockYearsWrong)

/-- 'homehublaw05.ClockLeast': WHATEVER THE INPUT: true; the input reads as it did. -/
def clockLeastSpec : ChangeSpec := { name := "clockLeast", fn := fun _ => fun
  | [d1, d2, d3] => { results := [.lit (.bool true)], args := [d1, d2, d3] }
  | _ => none }
def clockLeastRow : OpenClaim := { program := "yteabeflcffflnaa", sum := "28d0b6977dd4ab1820b8b446d87df1a8347b997635add60cf4cb4a8f99ff8ecd", func := "homehub/homehublaw05.ClockLeast", spec := "clockLeast", apart := false }
def ClockLeastSaid : Prop := clockLeastRow.holds Try.pinned (OpenSpec.ofChange clockLeastSpec)

/-- ITS FALSE NEIGHBOUR: 'it returns false'. Refute it at one input. -/
def clockLeastWrong : ChangeSpec := { name := "clockLeast", fn := fun _ => fun
  | [d1, d2, d3] => { results := [.lit (.bool false)], args := [d1, d2, d3] }
  | _ => none }
def ClockLeastWrongFalsely : Prop := clockLeastRow.holds Try.pinned (OpenSpec.ofChange clockLeastWrong)

/- THE SECOND FORM. 'bulk': how many values and letters a reading holds, each counted each time it is reached (what is shared counts as often as it is met; a slice's spare places count too). A statement '..UptoSaid' is the law's where the arguments, and the package variables that the reading takes, are together of bulk at most 1048576: NARROWER than '..Said'. Prove '..Said' where nothing that the law and all that it calls make is longer than what came in: it says more and counts as full. Else prove '..UptoSaid'. A law counts once. -/
mutual
def uptoBulk {H : Type} : DataW H → Nat
  | .lit (.string bytes) => bytes.length + 1
  | .lit _ => 1
  | .nil => 1
  | .ptr d => uptoBulk d + 1
  | .slice elems spare => uptoBulkAll elems + uptoBulkAll spare + 1
  | .agg parts => uptoBulkAll parts + 1
  | .iface _ d => uptoBulk d + 1
  | .map entries => uptoBulkEntries entries + 1
  | .held _ => 1
def uptoBulkAll {H : Type} : List (DataW H) → Nat
  | [] => 0
  | d :: r => uptoBulk d + uptoBulkAll r
def uptoBulkEntries {H : Type} : List (Lit × DataW H) → Nat
  | [] => 0
  | x :: r => uptoBulkEntry x + uptoBulkEntries r
def uptoBulkEntry {H : Type} : Lit × DataW H → Nat
  | (.string bytes, d) => bytes.length + uptoBulk d + 1
  | (_, d) => uptoBulk d + 1
 end
def uptoSmall : (H : Type) → List (DataW H) → Bool := fun _ ds => decide (uptoBulkAll ds ≤ 1048576)
def OpenSpec.upto (s : _root_.Go.ChangeSpec) : _root_.Go.OpenSpec := { _root_.Go.OpenSpec.ofChange s with cond := some uptoSmall }

/-- 'homehublaw05.ClockDates', WHERE WHAT IT READS IS OF BULK AT MOST 1048576: true; the input reads as it did. -/
def clockDatesUptoRow : OpenClaim := { program := "yteabeflcffflnaa", sum := "28d0b6977dd4ab1820b8b446d87df1a8347b997635add60cf4cb4a8f99ff8ecd", func := "homehub/homehublaw05.ClockDates", spec := "clockDates", apart := false, narrowed := true }
def ClockDatesUptoSaid : Prop := clockDatesUptoRow.holds Try.pinned (OpenSpec.upto clockDatesSpec)

/-- 'homehublaw05.ClockParts', WHERE WHAT IT READS IS OF BULK AT MOST 1048576: true; the input reads as it did. -/
def clockPartsUptoRow : OpenClaim := { program := "yteabeflcffflnaa", sum := "28d0b6977dd4ab1820b8b446d87df1a8347b997635add60cf4cb4a8f99ff8ecd", func := "homehub/homehublaw05.ClockParts", spec := "clockParts", apart := false, narrowed := true }
def ClockPartsUptoSaid : Prop := clockPartsUptoRow.holds Try.pinned (OpenSpec.upto clockPartsSpec)

/-- 'homehublaw05.ClockZones', WHERE WHAT IT READS IS OF BULK AT MOST 1048576: true; the input reads as it did. -/
def clockZonesUptoRow : OpenClaim := { program := "yteabeflcffflnaa", sum := "28d0b6977dd4ab1820b8b446d87df1a8347b997635add60cf4cb4a8f99ff8ecd", func := "homehub/homehublaw05.ClockZones", spec := "clockZones", apart := false, narrowed := true }
def ClockZonesUptoSaid : Prop := clockZonesUptoRow.holds Try.pinned (OpenSpec.upto clockZonesSpec)

/-- 'homehublaw05.ClockUtc', WHERE WHAT IT READS IS OF BULK AT MOST 1048576: true; the input reads as it did. -/
def clockUtcUptoRow : OpenClaim := { program := "yteabeflcffflnaa", sum := "28d0b6977dd4ab1820b8b446d87df1a8347b997635add60cf4cb4a8f99ff8ecd", func := "homehub/homehublaw05.ClockUtc", spec := "clockUtc", apart := false, narrowed := true }
def ClockUtcUptoSaid : Prop := clockUtcUptoRow.holds Try.pinned (OpenSpec.upto clockUtcSpec)

/-- 'homehublaw05.ClockBack', WHERE WHAT IT READS IS OF BULK AT MOST 1048576: true; the input reads as it did. -/
def clockBackUptoRow : OpenClaim := { program := "yteabeflcffflnaa", sum := "28d0b6977dd4ab1820b8b446d87df1a8347b997635add60cf4cb4a8f99ff8ecd", func := "homehub/homehublaw05.ClockBack", spec := "clockBack", apart := false, narrowed := true }
def ClockBackUptoSaid : Prop := clockBackUptoRow.holds Try.pinned (OpenSpec.upto clockBackSpec)

/-- 'homehublaw05.ClockNext', WHERE WHAT IT READS IS OF BULK AT MOST 1048576: true; the input reads as it did. -/
def clockNextUptoRow : OpenClaim := { program := "yteabeflcffflnaa", sum := "28d0b6977dd4ab1820b8b446d87df1a8347b997635add60cf4cb4a8f99ff8ecd", func := "homehub/homehublaw05.ClockNext", spec := "clockNext", apart := false, narrowed := true }
def ClockNextUptoSaid : Prop := clockNextUptoRow.holds Try.pinned (OpenSpec.upto clockNextSpec)

/-- 'homehublaw05.ClockYears', WHERE WHAT IT READS IS OF BULK AT MOST 1048576: true; the input reads as it did. -/
def clockYearsUptoRow : OpenClaim := { program := "yteabeflcffflnaa", sum := "28d0b6977dd4ab1820b8b446d87df1a8347b997635add60cf4cb4a8f99ff8ecd", func := "homehub/homehublaw05.ClockYears", spec := "clockYears", apart := false, narrowed := true }
def ClockYearsUptoSaid : Prop := clockYearsUptoRow.holds Try.pinned (OpenSpec.upto clockYearsSpec)

/-- 'homehublaw05.ClockLeast', WHERE WHAT IT READS IS OF BULK AT MOST 1048576: true; the input reads as it did. -/
def clockLeastUptoRow : OpenClaim := { program := "yteabeflcffflnaa", sum := "28d0b6977dd4ab1820b8b446d87df1a8347b997635add60cf4cb4a8f99ff8ecd", func := "homehub/homehublaw05.ClockLeast", spec := "clockLeast", apart := false, narrowed := true }
def ClockLeastUptoSaid : Prop := clockLeastUptoRow.holds Try.pinned (OpenSpec.upto clockLeastSpec)

end Rows
end Go.Proofs.Yteabeflcffflnaa
