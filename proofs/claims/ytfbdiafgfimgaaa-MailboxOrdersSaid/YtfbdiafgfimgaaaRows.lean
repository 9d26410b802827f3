/-
  No cell of these rows narrows 'for every input' (looked for: loops, veiled, ifaces, maps, wideKeys, modest, calm, conditions, laid).
  DERIVED. THE GIVEN ROWS OF THIS SEAT. 6 by the template 'for every input the law returns true; each argument reads behind the call as it read before'; 0 by the template 'total and deterministic' (their statements: YtfbdiafgfimgaaaTotals.lean).
  GIVEN WITH THE SEED: the statements are not yours to turn. If you find one false, say at which input.
  Laid BY PROGRAM, IN A SANDBOX (cutbox-rows.mjs): the forced cells as the released guide's own fill.sh prints them over the translation d4f9b39c381d7939… (all of the seat's roots in one cut). By AI agents, Wed Nov 11 2026. No macro, syntax, notation, axiom, sorry.
-/
import Derived.Test.YtfbdiafgfimgaaaChecked
import GoSem.Claim
import GoSem.ClaimJoined
import GoSem.ClaimMapViews
import Derived.JoinedTies
import Derived.KernelRfl
namespace Go.Proofs.Ytfbdiafgfimgaaa
/- THE CELL 'sum', in the pinned program and in every row, IS THE sha256 OF THE DUMP (.gsa) THAT YtfbdiafgfimgaaaProg.lean LOADS. Nothing in Lean hashes anything: it is a label: what it is worth is what the hold of that sum in a sandbox is worth. -/
noncomputable def Try.pinned : Pinned := { name := "ytfbdiafgfimgaaa", sum := "d4f9b39c381d7939da1486b08032ec9ea156583191d4a781a6ab63720cb14c01", checked := Try.checked }
namespace Rows
def none {H : Type} : Left H := { results := [], args := [] }

/-- 'homehublaw13.MailboxPuts': WHATEVER THE INPUT: true; the input reads as it did. -/
def mailboxPutsSpec : ChangeSpec := { name := "mailboxPuts", fn := fun _ => fun
  | [d1, d2, d3] => { results := [.lit (.bool true)], args := [d1, d2, d3] }
  | _ => none }
def mailboxPutsRow : OpenClaim := { program := "ytfbdiafgfimgaaa", sum := "d4f9b39c381d7939da1486b08032ec9ea156583191d4a781a6ab63720cb14c01", func := "homehub/homehublaw13.MailboxPuts", spec := "mailboxPuts", inPlace := ["slices.overlaps[homehub/api.Mail]"], unfollowed := true, recurses := true, apart := false }
def MailboxPutsSaid : Prop := mailboxPutsRow.holds Try.pinned (OpenSpec.ofChange mailboxPutsSpec)

/-- ITS FALSE NEIGHBOUR: 'it returns false'. Refute it at one input. -/
def mailboxPutsWrong : ChangeSpec := { name := "mailboxPuts", fn := fun _ => fun
  | [d1, d2, d3] => { results := [.lit (.bool false)], args := [d1, d2, d3] }
  | _ => none }
def MailboxPutsWrongFalsely : Prop := mailboxPutsRow.holds Try.pinned (OpenSpec.ofChange mailboxPutsWrong)

/-- 'homehublaw13.MailboxOrders': WHATEVER THE INPUT: true; the input reads as it did. -/
def mailboxOrdersSpec : ChangeSpec := { name := "mailboxOrders", fn := fun _ => fun
  | [d] => { results := [.lit (.bool true)], args := [d] }
  | _ => none }
def mailboxOrdersRow : OpenClaim := { program := "ytfbdiafgfimgaaa", sum := "d4f9b39c381d7939da1486b08032ec9ea156583191d4a781a6ab63720cb14c01", func := "homehub/homehublaw13.MailboxOrders", spec := "mailboxOrders", inPlace := ["slices.overlaps[homehub/api.Mail]"], unfollowed := true, recurses := true, apart := false }
def MailboxOrdersSaid : Prop := mailboxOrdersRow.holds Try.pinned (OpenSpec.ofChange mailboxOrdersSpec)

/-- ITS FALSE NEIGHBOUR: 'it returns false'. Refute it at one input. -/
def mailboxOrdersWrong : ChangeSpec := { name := "mailboxOrders", fn := fun _ => fun
  | [d] => { results := [.lit (.bool false)], args := [d] }
  | _ => none }
def MailboxOrdersWrongFalsely : Prop := mailboxOrdersRow.holds Try.pinned (OpenSpec.ofChange mailboxOrdersWrong)

/-- 'homehublaw13.MailboxUrgent': WHATEVER THE INPUT: true; the input reads as it did. -/
def mailboxUrgentSpec : ChangeSpec := { name := "mailboxUrgent", fn := fun _ => fun
  | [d1, d2, d3] => { results := [.lit (.bool true)], args := [d1, d2, d3] }
  | _ => none }
def mailboxUrgentRow : OpenClaim := { program := "ytfbdiafgfimgaaa", sum := "d4f9b39c381d7939da1486b08032ec9ea156583191d4a781a6ab63720cb14c01", func := "homehub/homehublaw13.MailboxUrgent", spec := "mailboxUrgent", inPlace := ["slices.overlaps[homehub/api.Mail]"], unfollowed := true, recurses := true, apart := false }
def MailboxUrgentSaid : Prop := mailboxUrgentRow.holds Try.pinned (OpenSpec.ofChange mailboxUrgentSpec)

/-- ITS FALSE NEIGHBOUR: 'it returns false'. Refute it at one input. -/
def mailboxUrgentWrong : ChangeSpec := { name := "mailboxUrgent", fn := fun _ => fun
  | [d1, d2, d3] => { results := [.lit (.bool false)], args := [d1, d2, d3] }
  | _ => none }
def MailboxUrgentWrongFalsely : Prop := mailboxUrgentRow.holds Try.pinned (OpenSpec.ofChange mailboxUrgentWrong)

/-- 'homehublaw13.MailboxDrains': WHATEVER THE INPUT: true; the input reads as it did. -/
def mailboxDrainsSpec : ChangeSpec := { name := "mailboxDrains", fn := fun _ => fun
  | [d1, d2] => { results := [.lit (.bool true)], args := [d1, d2] }
  | _ => none }
def mailboxDrainsRow : OpenClaim := { program := "ytfbdiafgfimgaaa", sum := "d4f9b39c381d7939da1486b08032ec9ea156583191d4a781a6ab63720cb14c01", func := "homehub/homehublaw13.MailboxDrains", spec := "mailboxDrains", inPlace := ["slices.overlaps[homehub/api.Mail]"], unfollowed := true, recurses := true, apart := false }
def MailboxDrainsSaid : Prop := mailboxDrainsRow.holds Try.pinned (OpenSpec.ofChange mailboxDrainsSpec)

/-- ITS FALSE NEIGHBOUR: 'it returns false'. Refute it at one input. -/
def mailboxDrainsWrong : ChangeSpec := { name := "mailboxDrains", fn := fun _ => fun
  | [d1, d2] => { results := [.lit (.bool false)], args := [d1, d2] }
  | _ => none }
def MailboxDrainsWrongFalsely : Prop := mailboxDrainsRow.holds Try.pinned (OpenSpec.ofChange mailboxDrainsWrong)

/-- 'homehublaw13.MailboxTakes': WHATEVER THE INPUT: true; the input reads as it did. -/
def mailboxTakesSpec : ChangeSpec := { name := "mailboxTakes", fn := fun _ => fun
  | [d1, d2, d3] => { results := [.lit (.bool true)], args := [d1, d2, d3] }
  | _ => none }
def mailboxTakesRow : OpenClaim := { program := "ytfbdiafgfimgaaa", sum := "d4f9b39c381d7939da1486b08032ec9ea156583191d4a781a6ab63720cb14c01", func := "homehub/homehublaw13.MailboxTakes", spec := "mailboxTakes", inPlace := ["slices.overlaps[homehub/api.Mail]"], unfollowed := true, recurses := true, apart := false }
def MailboxTakesSaid : Prop := mailboxTakesRow.holds Try.pinned (OpenSpec.ofChange mailboxTakesSpec)

/-- ITS FALSE NEIGHBOUR: 'it returns false'. Refute it at one input. -/
def mailboxTakesWrong : ChangeSpec := { name := "mailboxTakes", fn := fun _ => fun
  | [d1, d2, d3] => { results := [.lit (.bool false)], args := [d1, d2, d3] }
  | _ => none }
def MailboxTakesWrongFalsely : Prop := mailboxTakesRow.holds Try.pinned (OpenSpec.ofChange mailboxTakesWrong)

/-- 'homehublaw13.MailboxConserves': WHATEVER THE INPUT: true; the input reads as it did. -/
def mailboxConservesSpec : ChangeSpec := { name := "mailboxConserves", fn := fun _ => fun
  | [d1, d2, d3] => { results := [.lit (.bool true)], args := [d1, d2, d3] }
  | _ => none }
def mailboxConservesRow : OpenClaim := { program := "ytfbdiafgfimgaaa", sum := "d4f9b39c381d7939da1486b08032ec9ea156583191d4a781a6ab63720cb14c01", func := "homehub/homehublaw13.MailboxConserves", spec := "mailboxConserves", inPlace := ["slices.overlaps[homehub/api.Mail]"], unfollowed := true, recurses := true, apart := false }
def MailboxConservesSaid : Prop := mailboxConservesRow.holds Try.pinned (OpenSpec.ofChange mailboxConservesSpec)

/-- ITS FALSE NEIGHBOUR: 'it returns false'. Refute it at one input. -/
def mailboxConservesWrong : ChangeSpec := { name := "mailboxConserves", fn := fun _ => fun
  | [d1, d2, d3] => { results := [.lit (.bool false)], args := [d1, d2, d3] }
  | _ => none }
def MailboxConservesWrongFalsely : Prop := mailboxConservesRow.holds Try.pinned (OpenSpec.ofChange mailboxConservesWrong)

/- THE SECOND FORM. 'bulk': how many values and letters a reading holds, each counted each time it is reached (what is shared counts as often as it is met; a slice's spare places count too). A statement '..UptoSaid' is the law's where the arguments, and the package variables that the reading takes, are together of bulk at most 1048576: NARROWER than '..Said'. Prove '..Said' where nothing that the law and all that it calls make is longer than what came in: it says more and counts as full. Else prove '..UptoSaid'. A law counts once. -/
mutual
def uptoBulk {H : Type} : DataW H → Nat
  | .lit (.string bytes) => bytes.length + 1
  | .lit _ => 1
  | .nil => 1
  | .ptr d => uptoBulk d + 1
  | .slice elems spare => uptoBulkAll elems + uptoBulkAll spare + 1
  | .agg parts => uptoBulkAll parts + 1
  | .iface _ d => uptoBulk d + 1
  | .map entries => uptoBulkEntries entries + 1
  | .held _ => 1
def uptoBulkAll {H : Type} : List (DataW H) → Nat
  | [] => 0
  | d :: r => uptoBulk d + uptoBulkAll r
def uptoBulkEntries {H : Type} : List (Lit × DataW H) → Nat
  | [] => 0
  | x :: r => uptoBulkEntry x + uptoBulkEntries r
def uptoBulkEntry {H : Type} : Lit × DataW H → Nat
  | (.string bytes, d) => bytes.length + uptoBulk d + 1
  | (_, d) => uptoBulk d + 1
 end
def uptoSmall : (H : Type) → List (DataW H) → Bool := fun _ ds => decide (uptoBulkAll ds ≤ 1048576)
def OpenSpec.upto (s : _root_.Go.ChangeSpec) : _root_.Go.OpenSpec := { _root_.Go.OpenSpec.ofChange s with cond := some uptoSmall }

/-- 'homehublaw13.MailboxPuts', WHERE WHAT IT READS IS OF BULK AT MOST 1048576: true; the input reads as it did. -/
def mailboxPutsUptoRow : OpenClaim := { program := "ytfbdiafgfimgaaa", sum := "d4f9b39c381d7939da1486b08032ec9ea156583191d4a781a6ab63720cb14c01", func := "homehub/homehublaw13.MailboxPuts", spec := "mailboxPuts", inPlace := ["slices.overlaps[homehub/api.Mail]"], unfollowed := true, recurses := true, apart := false, narrowed := true }
def MailboxPutsUptoSaid : Prop := mailboxPutsUptoRow.holds Try.pinned (OpenSpec.upto mailboxPutsSpec)

/-- 'homehublaw13.MailboxOrders', WHERE WHAT IT READS IS OF BULK AT MOST 1048576: true; the input reads as it did. -/
def mailboxOrdersUptoRow : OpenClaim := { program := "ytfbdiafgfimgaaa", sum := "d4f9b39c381d7939da1486b08032ec9ea156583191d4a781a6ab63720cb14c01", func := "homehub/homehublaw13.MailboxOrders", spec := "mailboxOrders", inPlace := ["slices.overlaps[homehub/api.Mail]"], unfollowed := true, recurses := true, apart := false, narrowed := true }
def MailboxOrdersUptoSaid : Prop := mailboxOrdersUptoRow.holds Try.pinned (OpenSpec.upto mailboxOrdersSpec)

/-- 'homehublaw13.MailboxUrgent', WHERE WHAT IT READS IS OF BULK AT MOST 1048576: true; the input reads as it did. -/
def mailboxUrgentUptoRow : OpenClaim := { program := "ytfbdiafgfimgaaa", sum := "d4f9b39c381d7939da1486b08032ec9ea156583191d4a781a6ab63720cb14c01", func := "homehub/homehublaw13.MailboxUrgent", spec := "mailboxUrgent", inPlace := ["slices.overlaps[homehub/api.Mail]"], unfollowed := true, recurses := true, apart := false, narrowed := true }
def MailboxUrgentUptoSaid : Prop := mailboxUrgentUptoRow.holds Try.pinned (OpenSpec.upto mailboxUrgentSpec)

/-- 'homehublaw13.MailboxDrains', WHERE WHAT IT READS IS OF BULK AT MOST 1048576: true; the input reads as it did. -/
def mailboxDrainsUptoRow : OpenClaim := { program := "ytfbdiafgfimgaaa", sum := "d4f9b39c381d7939da1486b08032ec9ea156583191d4a781a6ab63720cb14c01", func := "homehub/homehublaw13.MailboxDrains", spec := "mailboxDrains", inPlace := ["slices.overlaps[homehub/api.Mail]"], unfollowed := true, recurses := true, apart := false, narrowed := true }
def MailboxDrainsUptoSaid : Prop := mailboxDrainsUptoRow.holds Try.pinned (OpenSpec.upto mailboxDrainsSpec)

/-- 'homehublaw13.MailboxTakes', WHERE WHAT IT READS IS OF BULK AT MOST 1048576: true; the input reads as it did. -/
def mailboxTakesUptoRow : OpenClaim := { program := "ytfbdiafgfimgaaa", sum := "d4f9b39c381d7939da1486b08032ec9ea156583191d4a781a6ab63720cb14c01", func := "homehub/homehublaw13.MailboxTakes", spec := "mailboxTakes", inPlace := ["slices.overlaps[homehub/api.Mail]"], unfollowed := true, recurses := true, apart := false, narrowed := true }
def MailboxTakesUptoSaid : Prop := mailboxTakesUptoRow.holds Try.pinned (OpenSpec.upto mailboxTakesSpec)

/-- 'homehublaw13.MailboxConserves', WHERE WHAT IT READS IS OF BULK AT MOST 1048576: true; the input reads as it did. -/
def mailboxConservesUptoRow : OpenClaim := { program := "ytfbdiafgfimgaaa", sum := "d4f9b39c381d7939da1486b08032ec9ea156583191d4a781a6ab63720cb14c01", func := "homehub/homehublaw13.MailboxConserves", spec := "mailboxConserves", inPlace := ["slices.overlaps[homehub/api.Mail]"], unfollowed := true, recurses := true, apart := false, narrowed := true }
def MailboxConservesUptoSaid : Prop := mailboxConservesUptoRow.holds Try.pinned (OpenSpec.upto mailboxConservesSpec)

end Rows
end Go.Proofs.Ytfbdiafgfimgaaa
