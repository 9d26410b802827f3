/- A slice of frames, opened. -/
import Derived.Test.YtfbdiafgfimgaaaOpen
namespace Go.Proofs.Ytfbdiafgfimgaaa
open Go.ChangeShapes Go.WideShapes Go.ChangeAt Go.RowKit Go.Joins Go.Deep
section
variable {H : Type} {enc : TypeId × Value → H} {w : World} {base b0 : Nat} {spare : Nat → Bool} {held : Bool} {r : Reach}
theorem open_frames {v : Value} {d : DataW H} {p : List MemPlace} (hv : Value.okWide Try.prog w r b0 30 v) (h : DataW.Trod enc Try.prog w base spare held 30 v d p) :
    ∃ (A : Option Addr) (n cap : Nat) (l : List Fr), v = .slice A n cap ∧ Rd w EF A n l ∧ n ≤ cap ∧ cap ≤ 9223372036854775807 := by
  obtain ⟨a', len', cap', rfl⟩ := okWide_slice Try.underlying30 hv
  obtain ⟨fuel, hf⟩ := h
  rcases open_slice Try.underlying30 hf with ⟨hcs, _⟩ | ⟨a, len, cap, m, n, D, Pl, hcs, hb, hl, hm, hmm, hx, hi⟩
  · simp [Value.cells] at hcs
    obtain ⟨rfl, rfl, rfl⟩ := hcs
    exact ⟨none, 0, 0, [], rfl, Rd.none_ _ _ _, Nat.le_refl _, by omega⟩
  · simp [Value.cells] at hcs
    obtain ⟨rfl, rfl, rfl⟩ := hcs
    unfold maxLen at hm
    have hlm : len' ≤ m := by rw [hmm]; split <;> omega
    have hel : ∀ i, i < len' → ∃ x : Fr, ∀ j u, (encF x)[j]? = some u → w.cell? (a.add (i * 9 + j)) = some u := fun i him => by
      obtain ⟨cs', hc, ht'⟩ := hi i (by omega)
      rw [cells24] at hc
      obtain ⟨_, hcl, hat⟩ := World.cells?_some hc
      obtain ⟨x, hx⟩ := frame_cells hcl ht'
      refine ⟨x, fun j u hj => ?_⟩
      have hj9 : j < 9 := (List.getElem?_eq_some_iff.1 hj).1
      have hcell := hat j hj9
      rw [← hj, ← hx, ← Go.Deep.add_add]; exact hcell
    have hch : ∃ f : Nat → Fr, ∀ i, i < len' → ∀ j u, (encF (f i))[j]? = some u → w.cell? (a.add (i * 9 + j)) = some u :=
      ⟨fun i => if hi : i < len' then Classical.choose (hel i hi) else ⟨0, 0, 0, 0, 0, 0, 0, false, .empty⟩, fun i hi => by simp only [dif_pos hi]; exact Classical.choose_spec (hel i hi)⟩
    obtain ⟨f, hf⟩ := hch
    refine ⟨some a, len', cap', (List.range len').map f, rfl, ⟨by simp, fun h0 => ?_⟩, hl, by omega⟩
    have h00 := hf 0 h0 0 _ rfl
    obtain ⟨b, off, spot⟩ := a
    have hspot : spot = none := by simpa [Addr.add] using World.cell?_spot h00
    subst hspot
    refine ⟨b, off, rfl, fun j v hj => ?_⟩
    have hjl : j < len' * 9 := by
      have := (List.getElem?_eq_some_iff.1 hj).1
      rw [EF.flat_length, show EF.size = 9 from rfl] at this
      simpa using this
    have hq : j / 9 < len' := by omega
    have hfl := EF.flat_get ((List.range len').map f) (k := j / 9) (j := j % 9) (a := f (j / 9)) (by simp [hq]) (Nat.mod_lt _ (by decide))
    have hje : j / 9 * 9 + j % 9 = j := by omega
    have he : (encF (f (j / 9)))[j % 9]? = some v := by
      rw [show (encF (f (j / 9)))[j % 9]? = (EF.flat ((List.range len').map f))[j / 9 * EF.size + j % 9]? from hfl.symm]
      rw [show EF.size = 9 from rfl, hje]; exact hj
    have := hf (j / 9) hq (j % 9) v he
    rw [hje, Addr.add_lit] at this
    exact this
end
end Go.Proofs.Ytfbdiafgfimgaaa
