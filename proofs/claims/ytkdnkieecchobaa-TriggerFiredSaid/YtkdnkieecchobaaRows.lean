/-
  NARROWER THAN 'FOR EVERY INPUT', by the rows' own cells (each row's printed sentence says how): TriggerFired: loops.
  DERIVED. THE GIVEN ROWS OF THIS SEAT. 7 by the template 'for every input the law returns true; each argument reads behind the call as it read before'; 0 by the template 'total and deterministic' (their statements: YtkdnkieecchobaaTotals.lean).
  GIVEN WITH THE SEED: the statements are not yours to turn. If you find one false, say at which input.
  Laid BY PROGRAM, IN A SANDBOX (cutbox-rows.mjs): the forced cells as the released guide's own fill.sh prints them over the translation 77d4c3e6a5a7d213… (all of the seat's roots in one cut). By AI agents, Wed Nov 11 2026. No macro, syntax, notation, axiom, sorry.
-/
import Derived.Test.YtkdnkieecchobaaChecked
import GoSem.Claim
import GoSem.ClaimJoined
import GoSem.ClaimMapViews
import Derived.JoinedTies
import Derived.KernelRfl
namespace Go.Proofs.Ytkdnkieecchobaa
/- THE CELL 'sum', in the pinned program and in every row, IS THE sha256 OF THE DUMP (.gsa) THAT YtkdnkieecchobaaProg.lean LOADS. Nothing in Lean hashes anything: it is a label: what it is worth is what the hold of that sum in a sandbox is worth. -/
noncomputable def Try.pinned : Pinned := { name := "ytkdnkieecchobaa", sum := "77d4c3e6a5a7d2132605e8e83b0a23f9a6d97e1b21ae9cb6020c32d0615ec5d4", checked := Try.checked }
namespace Rows
def none {H : Type} : Left H := { results := [], args := [] }

/-- 'homehublaw34.TriggerNorms': WHATEVER THE INPUT: true; the input reads as it did. -/
def triggerNormsSpec : ChangeSpec := { name := "triggerNorms", fn := fun _ => fun
  | [d] => { results := [.lit (.bool true)], args := [d] }
  | _ => none }
def triggerNormsRow : OpenClaim := { program := "ytkdnkieecchobaa", sum := "77d4c3e6a5a7d2132605e8e83b0a23f9a6d97e1b21ae9cb6020c32d0615ec5d4", func := "homehub/homehublaw34.TriggerNorms", spec := "triggerNorms", inPlace := ["slices.overlaps[homehub/api.Key]", "slices.overlaps[homehub/api.Event]", "slices.overlaps[string]"], unfollowed := true, recurses := true, apart := false }
def TriggerNormsSaid : Prop := triggerNormsRow.holds Try.pinned (OpenSpec.ofChange triggerNormsSpec)

/-- ITS FALSE NEIGHBOUR: 'it returns false'. Refute it at one input. -/
def triggerNormsWrong : ChangeSpec := { name := "triggerNorms", fn := fun _ => fun
  | [d] => { results := [.lit (.bool false)], args := [d] }
  | _ => none }
def TriggerNormsWrongFalsely : Prop := triggerNormsRow.holds Try.pinned (OpenSpec.ofChange triggerNormsWrong)

/-- 'homehublaw34.TriggerFires': WHATEVER THE INPUT: true; the input reads as it did. -/
def triggerFiresSpec : ChangeSpec := { name := "triggerFires", fn := fun _ => fun
  | [d1, d2, d3] => { results := [.lit (.bool true)], args := [d1, d2, d3] }
  | _ => none }
def triggerFiresRow : OpenClaim := { program := "ytkdnkieecchobaa", sum := "77d4c3e6a5a7d2132605e8e83b0a23f9a6d97e1b21ae9cb6020c32d0615ec5d4", func := "homehub/homehublaw34.TriggerFires", spec := "triggerFires", inPlace := ["slices.overlaps[homehub/api.Key]", "slices.overlaps[homehub/api.Event]", "slices.overlaps[string]"], unfollowed := true, recurses := true, apart := false }
def TriggerFiresSaid : Prop := triggerFiresRow.holds Try.pinned (OpenSpec.ofChange triggerFiresSpec)

/-- ITS FALSE NEIGHBOUR: 'it returns false'. Refute it at one input. -/
def triggerFiresWrong : ChangeSpec := { name := "triggerFires", fn := fun _ => fun
  | [d1, d2, d3] => { results := [.lit (.bool false)], args := [d1, d2, d3] }
  | _ => none }
def TriggerFiresWrongFalsely : Prop := triggerFiresRow.holds Try.pinned (OpenSpec.ofChange triggerFiresWrong)

/-- 'homehublaw34.TriggerMerges': WHATEVER THE INPUT: true; the input reads as it did. -/
def triggerMergesSpec : ChangeSpec := { name := "triggerMerges", fn := fun _ => fun
  | [d1, d2] => { results := [.lit (.bool true)], args := [d1, d2] }
  | _ => none }
def triggerMergesRow : OpenClaim := { program := "ytkdnkieecchobaa", sum := "77d4c3e6a5a7d2132605e8e83b0a23f9a6d97e1b21ae9cb6020c32d0615ec5d4", func := "homehub/homehublaw34.TriggerMerges", spec := "triggerMerges", inPlace := ["slices.overlaps[homehub/api.Key]", "slices.overlaps[homehub/api.Event]", "slices.overlaps[string]"], unfollowed := true, recurses := true, apart := false }
def TriggerMergesSaid : Prop := triggerMergesRow.holds Try.pinned (OpenSpec.ofChange triggerMergesSpec)

/-- ITS FALSE NEIGHBOUR: 'it returns false'. Refute it at one input. -/
def triggerMergesWrong : ChangeSpec := { name := "triggerMerges", fn := fun _ => fun
  | [d1, d2] => { results := [.lit (.bool false)], args := [d1, d2] }
  | _ => none }
def TriggerMergesWrongFalsely : Prop := triggerMergesRow.holds Try.pinned (OpenSpec.ofChange triggerMergesWrong)

/-- 'homehublaw34.TriggerOrder': WHATEVER THE INPUT: true; the input reads as it did. -/
def triggerOrderSpec : ChangeSpec := { name := "triggerOrder", fn := fun _ => fun
  | [d1, d2, d3] => { results := [.lit (.bool true)], args := [d1, d2, d3] }
  | _ => none }
def triggerOrderRow : OpenClaim := { program := "ytkdnkieecchobaa", sum := "77d4c3e6a5a7d2132605e8e83b0a23f9a6d97e1b21ae9cb6020c32d0615ec5d4", func := "homehub/homehublaw34.TriggerOrder", spec := "triggerOrder", inPlace := ["slices.overlaps[homehub/api.Key]", "slices.overlaps[homehub/api.Event]", "slices.overlaps[string]"], unfollowed := true, recurses := true, apart := false }
def TriggerOrderSaid : Prop := triggerOrderRow.holds Try.pinned (OpenSpec.ofChange triggerOrderSpec)

/-- ITS FALSE NEIGHBOUR: 'it returns false'. Refute it at one input. -/
def triggerOrderWrong : ChangeSpec := { name := "triggerOrder", fn := fun _ => fun
  | [d1, d2, d3] => { results := [.lit (.bool false)], args := [d1, d2, d3] }
  | _ => none }
def TriggerOrderWrongFalsely : Prop := triggerOrderRow.holds Try.pinned (OpenSpec.ofChange triggerOrderWrong)

/-- 'homehublaw34.TriggerJoined': WHATEVER THE INPUT: true; the input reads as it did. -/
def triggerJoinedSpec : ChangeSpec := { name := "triggerJoined", fn := fun _ => fun
  | [d1, d2, d3, d4] => { results := [.lit (.bool true)], args := [d1, d2, d3, d4] }
  | _ => none }
def triggerJoinedRow : OpenClaim := { program := "ytkdnkieecchobaa", sum := "77d4c3e6a5a7d2132605e8e83b0a23f9a6d97e1b21ae9cb6020c32d0615ec5d4", func := "homehub/homehublaw34.TriggerJoined", spec := "triggerJoined", inPlace := ["slices.overlaps[homehub/api.Key]", "slices.overlaps[homehub/api.Event]", "slices.overlaps[string]"], unfollowed := true, recurses := true, apart := false }
def TriggerJoinedSaid : Prop := triggerJoinedRow.holds Try.pinned (OpenSpec.ofChange triggerJoinedSpec)

/-- ITS FALSE NEIGHBOUR: 'it returns false'. Refute it at one input. -/
def triggerJoinedWrong : ChangeSpec := { name := "triggerJoined", fn := fun _ => fun
  | [d1, d2, d3, d4] => { results := [.lit (.bool false)], args := [d1, d2, d3, d4] }
  | _ => none }
def TriggerJoinedWrongFalsely : Prop := triggerJoinedRow.holds Try.pinned (OpenSpec.ofChange triggerJoinedWrong)

/-- 'homehublaw34.TriggerDaily': WHATEVER THE INPUT: true; the input reads as it did. -/
def triggerDailySpec : ChangeSpec := { name := "triggerDaily", fn := fun _ => fun
  | [d1, d2] => { results := [.lit (.bool true)], args := [d1, d2] }
  | _ => none }
def triggerDailyRow : OpenClaim := { program := "ytkdnkieecchobaa", sum := "77d4c3e6a5a7d2132605e8e83b0a23f9a6d97e1b21ae9cb6020c32d0615ec5d4", func := "homehub/homehublaw34.TriggerDaily", spec := "triggerDaily", inPlace := ["slices.overlaps[homehub/api.Key]", "slices.overlaps[homehub/api.Event]", "slices.overlaps[string]"], unfollowed := true, recurses := true, apart := false }
def TriggerDailySaid : Prop := triggerDailyRow.holds Try.pinned (OpenSpec.ofChange triggerDailySpec)

/-- ITS FALSE NEIGHBOUR: 'it returns false'. Refute it at one input. -/
def triggerDailyWrong : ChangeSpec := { name := "triggerDaily", fn := fun _ => fun
  | [d1, d2] => { results := [.lit (.bool false)], args := [d1, d2] }
  | _ => none }
def TriggerDailyWrongFalsely : Prop := triggerDailyRow.holds Try.pinned (OpenSpec.ofChange triggerDailyWrong)

/-- 'homehublaw34.TriggerFired': WHATEVER THE INPUT: true; the input reads as it did. -/
def triggerFiredSpec : ChangeSpec := { name := "triggerFired", fn := fun _ => fun
  | [d1, d2] => { results := [.lit (.bool true)], args := [d1, d2] }
  | _ => none }
def triggerFiredRow : OpenClaim := { program := "ytkdnkieecchobaa", sum := "77d4c3e6a5a7d2132605e8e83b0a23f9a6d97e1b21ae9cb6020c32d0615ec5d4", func := "homehub/homehublaw34.TriggerFired", spec := "triggerFired", inPlace := ["slices.overlaps[homehub/api.Key]", "slices.overlaps[homehub/api.Event]", "slices.overlaps[string]"], unfollowed := true, recurses := true, loops := true, apart := false }
def TriggerFiredSaid : Prop := triggerFiredRow.holds Try.pinned (OpenSpec.ofChange triggerFiredSpec)

/-- ITS FALSE NEIGHBOUR: 'it returns false'. Refute it at one input. -/
def triggerFiredWrong : ChangeSpec := { name := "triggerFired", fn := fun _ => fun
  | [d1, d2] => { results := [.lit (.bool false)], args := [d1, d2] }
  | _ => none }
def TriggerFiredWrongFalsely : Prop := triggerFiredRow.holds Try.pinned (OpenSpec.ofChange triggerFiredWrong)

/- THE SECOND FORM. 'bulk': how many values and letters a reading holds, each counted each time it is reached (what is shared counts as often as it is met; a slice's spare places count too). A statement '..UptoSaid' is the law's where the arguments, and the package variables that the reading takes, are together of bulk at most 1048576: NARROWER than '..Said'. Prove '..Said' where nothing that the law and all that it calls make is longer than what came in: it says more and counts as full. Else prove '..UptoSaid'. A law counts once. -/
mutual
def uptoBulk {H : Type} : DataW H → Nat
  | .lit (.string bytes) => bytes.length + 1
  | .lit _ => 1
  | .nil => 1
  | .ptr d => uptoBulk d + 1
  | .slice elems spare => uptoBulkAll elems + uptoBulkAll spare + 1
  | .agg parts => uptoBulkAll parts + 1
  | .iface _ d => uptoBulk d + 1
  | .map entries => uptoBulkEntries entries + 1
  | .held _ => 1
def uptoBulkAll {H : Type} : List (DataW H) → Nat
  | [] => 0
  | d :: r => uptoBulk d + uptoBulkAll r
def uptoBulkEntries {H : Type} : List (Lit × DataW H) → Nat
  | [] => 0
  | x :: r => uptoBulkEntry x + uptoBulkEntries r
def uptoBulkEntry {H : Type} : Lit × DataW H → Nat
  | (.string bytes, d) => bytes.length + uptoBulk d + 1
  | (_, d) => uptoBulk d + 1
 end
def uptoSmall : (H : Type) → List (DataW H) → Bool := fun _ ds => decide (uptoBulkAll ds ≤ 1048576)
def OpenSpec.upto (s : _root_.Go.ChangeSpec) : _root_.Go.OpenSpec := { _root_.Go.OpenSpec.ofChange s with cond := some uptoSmall }

/-- 'homehublaw34.TriggerNorms', WHERE WHAT IT READS IS OF BULK AT MOST 1048576: true; the input reads as it did. -/
def triggerNormsUptoRow : OpenClaim := { program := "ytkdnkieecchobaa", sum := "77d4c3e6a5a7d2132605e8e83b0a23f9a6d97e1b21ae9cb6020c32d0615ec5d4", func := "homehub/homehublaw34.TriggerNorms", spec := "triggerNorms", inPlace := ["slices.overlaps[homehub/api.Key]", "slices.overlaps[homehub/api.Event]", "slices.overlaps[string]"], unfollowed := true, recurses := true, apart := false, narrowed := true }
def TriggerNormsUptoSaid : Prop := triggerNormsUptoRow.holds Try.pinned (OpenSpec.upto triggerNormsSpec)

/-- 'homehublaw34.TriggerFires', WHERE WHAT IT READS IS OF BULK AT MOST 1048576: true; the input reads as it did. -/
def triggerFiresUptoRow : OpenClaim := { program := "ytkdnkieecchobaa", sum := "77d4c3e6a5a7d2132605e8e83b0a23f9a6d97e1b21ae9cb6020c32d0615ec5d4", func := "homehub/homehublaw34.TriggerFires", spec := "triggerFires", inPlace := ["slices.overlaps[homehub/api.Key]", "slices.overlaps[homehub/api.Event]", "slices.overlaps[string]"], unfollowed := true, recurses := true, apart := false, narrowed := true }
def TriggerFiresUptoSaid : Prop := triggerFiresUptoRow.holds Try.pinned (OpenSpec.upto triggerFiresSpec)

/-- 'homehublaw34.TriggerMerges', WHERE WHAT IT READS IS OF BULK AT MOST 1048576: true; the input reads as it did. -/
def triggerMergesUptoRow : OpenClaim := { program := "ytkdnkieecchobaa", sum := "77d4c3e6a5a7d2132605e8e83b0a23f9a6d97e1b21ae9cb6020c32d0615ec5d4", func := "homehub/homehublaw34.TriggerMerges", spec := "triggerMerges", inPlace := ["slices.overlaps[homehub/api.Key]", "slices.overlaps[homehub/api.Event]", "slices.overlaps[string]"], unfollowed := true, recurses := true, apart := false, narrowed := true }
def TriggerMergesUptoSaid : Prop := triggerMergesUptoRow.holds Try.pinned (OpenSpec.upto triggerMergesSpec)

/-- 'homehublaw34.TriggerOrder', WHERE WHAT IT READS IS OF BULK AT MOST 1048576: true; the input reads as it did. -/
def triggerOrderUptoRow : OpenClaim := { program := "ytkdnkieecchobaa", sum := "77d4c3e6a5a7d2132605e8e83b0a23f9a6d97e1b21ae9cb6020c32d0615ec5d4", func := "homehub/homehublaw34.TriggerOrder", spec := "triggerOrder", inPlace := ["slices.overlaps[homehub/api.Key]", "slices.overlaps[homehub/api.Event]", "slices.overlaps[string]"], unfollowed := true, recurses := true, apart := false, narrowed := true }
def TriggerOrderUptoSaid : Prop := triggerOrderUptoRow.holds Try.pinned (OpenSpec.upto triggerOrderSpec)

/-- 'homehublaw34.TriggerJoined', WHERE WHAT IT READS IS OF BULK AT MOST 1048576: true; the input reads as it did. -/
def triggerJoinedUptoRow : OpenClaim := { program := "ytkdnkieecchobaa", sum := "77d4c3e6a5a7d2132605e8e83b0a23f9a6d97e1b21ae9cb6020c32d0615ec5d4", func := "homehub/homehublaw34.TriggerJoined", spec := "triggerJoined", inPlace := ["slices.overlaps[homehub/api.Key]", "slices.overlaps[homehub/api.Event]", "slices.overlaps[string]"], unfollowed := true, recurses := true, apart := false, narrowed := true }
def TriggerJoinedUptoSaid : Prop := triggerJoinedUptoRow.holds Try.pinned (OpenSpec.upto triggerJoinedSpec)

/-- 'homehublaw34.TriggerDaily', WHERE WHAT IT READS IS OF BULK AT MOST 1048576: true; the input reads as it did. -/
def triggerDailyUptoRow : OpenClaim := { program := "ytkdnkieecchobaa", sum := "77d4c3e6a5a7d2132605e8e83b0a23f9a6d97e1b21ae9cb6020c32d0615ec5d4", func := "homehub/homehublaw34.TriggerDaily", spec := "triggerDaily", inPlace := ["slices.overlaps[homehub/api.Key]", "slices.overlaps[homehub/api.Event]", "slices.overlaps[string]"], unfollowed := true, recurses := true, apart := false, narrowed := true }
def TriggerDailyUptoSaid : Prop := triggerDailyUptoRow.holds Try.pinned (OpenSpec.upto triggerDailySpec)

/-- 'homehublaw34.TriggerFired', WHERE WHAT IT READS IS OF BULK AT MOST 1048576: true; the input reads as it did. -/
def triggerFiredUptoRow : OpenClaim := { program := "ytkdnkieecchobaa", sum := "77d4c3e6a5a7d2132605e8e83b0a23f9a6d97e1b21ae9cb6020c32d0615ec5d4", func := "homehub/homehublaw34.TriggerFired", spec := "triggerFired", inPlace := ["slices.overlaps[homehub/api.Key]", "slices.overlaps[homehub/api.Event]", "slices.overlaps[string]"], unfollowed := true, recurses := true, loops := true, apart := false, narrowed := true }
def TriggerFiredUptoSaid : Prop := triggerFiredUptoRow.holds Try.pinned (OpenSpec.upto triggerFiredSpec)

end Rows
end Go.Proofs.Ytkdnkieecchobaa
