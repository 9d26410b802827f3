/- A pair of ints, opened. -/
import Derived.Test.YtfbdiafgfimgaaaOpen
namespace Go.Proofs.Ytfbdiafgfimgaaa
open Go.ChangeShapes Go.WideShapes Go.ChangeAt Go.RowKit Go.Joins Go.Deep
section
variable {H : Type} {enc : TypeId × Value → H} {w : World} {base b0 : Nat} {spare : Nat → Bool} {held : Bool} {r : Reach}
theorem cells38 : Try.prog.cellsOf 38 = 2 := by kernel_rfl
theorem open_two {v : Value} {d : DataW H} {p : List MemPlace} (hv : Value.okWide Try.prog w r b0 38 v) (h : DataW.Trod enc Try.prog w base spare held 38 v d p) : ∃ a b : Int, v = .agg #[.int .i64 a, .int .i64 b] := by
  simp only [Value.okWide, Try.underlying38] at hv
  obtain ⟨cs, rfl, hsz, _⟩ := hv
  obtain ⟨l⟩ := cs
  match l, hsz.trans cells38 with
  | [c0, c1], _ =>
    obtain ⟨fuel, hf⟩ := h
    obtain ⟨xs, m, _, hx, _, hlen, hg⟩ := DataW.trod_array Try.underlying38 hf
    match xs, hlen with
    | [x0, x1], _ =>
      have e0 := int_cell (by simpa [Value.cells, cells3] using hg 0 (by decide))
      have e1 := int_cell (by simpa [Value.cells, cells3] using hg 1 (by decide))
      exact ⟨intOf c0, intOf c1, by rw [← e0, ← e1]⟩
end
end Go.Proofs.Ytfbdiafgfimgaaa
