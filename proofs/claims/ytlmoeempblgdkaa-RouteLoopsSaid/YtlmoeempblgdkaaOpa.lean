/- The actions of the law RouteLoops, opened. -/
import Derived.Test.YtlmoeempblgdkaaOpen
import Derived.Test.YtlmoeempblgdkaaLq
namespace Go.Proofs.Ytlmoeempblgdkaa
open Go.ChangeShapes Go.WideShapes Go.ChangeAt Go.RowKit Go.Joins Go.Deep
set_option linter.unusedVariables false

theorem cells50 : Try.prog.cellsOf 50 = 5 := by kernel_rfl
section
variable {H : Type} {enc : TypeId × Value → H} {w : World} {base b0 : Nat} {spare : Nat → Bool} {held : Bool} {r : Reach}
theorem ac_cells {fuel : Nat} {cs : List Value} {y : DataW H × List MemPlace} (hl : cs.length = 5) (h : DataW.trod enc Try.prog w base spare held fuel 50 cs = some y) : ∃ f : Ac, cs = encA f := by
  match cs, hl with
  | [c0, c1, c2, c3, c4], _ =>
    obtain ⟨xs, n, _, hx, _, hlen, hg⟩ := DataW.trod_struct Try.underlying50 h
    match xs, hlen with
    | [x0, x1, x2, x3, x4], _ =>
      have e0 := int_cell (by simpa [cells3] using hg 0 _ rfl)
      have e1 := int_cell (by simpa [cells3] using hg 1 _ rfl)
      have e2 := int_cell (by simpa [cells3] using hg 2 _ rfl)
      have e3 := int_cell (by simpa [cells3] using hg 3 _ rfl)
      have e4 := int_cell (by simpa [cells3] using hg 4 _ rfl)
      exact ⟨⟨intOf c0, intOf c1, intOf c2, intOf c3, intOf c4⟩, by unfold encA; simp only; rw [← e0, ← e1, ← e2, ← e3, ← e4]⟩
instance : Inhabited Ac := ⟨⟨0, 0, 0, 0, 0⟩⟩
theorem open_acts {v : Value} {d : DataW H} {p : List MemPlace} (hv : Value.okWide Try.prog w r b0 46 v) (h : DataW.Trod enc Try.prog w base spare held 46 v d p) :
    ∃ (A : Option Addr) (n cap : Nat) (l : List Ac), v = .slice A n cap ∧ Rd w EA A n l ∧ n ≤ cap ∧ cap ≤ 9223372036854775807 := by
  obtain ⟨a', len', cap', rfl⟩ := okWide_slice Try.underlying46 hv
  obtain ⟨fuel, hf⟩ := h
  exact open_rows EA Try.underlying46 cells50 (fun _ _ _ hl ht => ac_cells hl ht) (v := .slice a' len' cap') (by simpa [Value.cells] using hf)
end
end Go.Proofs.Ytlmoeempblgdkaa
