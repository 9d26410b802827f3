/- A slice of changes, opened. -/
import Derived.Test.YtjdhgokcbcidlaaOpen
import Derived.Test.YtjdhgokcbcidlaaWj
namespace Go.Proofs.Ytjdhgokcbcidlaa
open Go.ChangeShapes Go.WideShapes Go.ChangeAt Go.RowKit Go.Joins Go.Deep
theorem cells39 : Try.prog.cellsOf 39 = 12 := by kernel_rfl
section
variable {H : Type} {enc : TypeId × Value → H} {w : World} {base b0 : Nat} {spare : Nat → Bool} {held : Bool} {r : Reach}
theorem op_cells {fuel : Nat} {cs : List Value} {y : DataW H × List MemPlace} (hl : cs.length = 12) (h : DataW.trod enc Try.prog w base spare held fuel 39 cs = some y) : ∃ m : Opn, cs = encO m := by
  obtain ⟨xs, n, _, hx, _, hlen, hg⟩ := DataW.trod_struct Try.underlying39 h
  match xs, hlen with
  | [x0, x1, x2, x3], _ =>
    have g0 : DataW.trod enc Try.prog w base spare held n 3 (cs.take 1) = some x0 := by simpa [cells3] using hg 0 _ rfl
    have g1 : DataW.trod enc Try.prog w base spare held n 3 ((cs.drop 1).take 1) = some x1 := by simpa [cells3] using hg 1 _ rfl
    have g2 : DataW.trod enc Try.prog w base spare held n 24 ((cs.drop 2).take 9) = some x2 := by simpa [cells24] using hg 2 _ rfl
    have g3 : DataW.trod enc Try.prog w base spare held n 4 ((cs.drop 11).take 1) = some x3 := by simpa [cells4] using hg 3 _ rfl
    obtain ⟨f, hf⟩ := frame_cells (by rw [List.length_take, List.length_drop]; omega) g2
    match cs, hl with
    | [c0, c1, c2, c3, c4, c5, c6, c7, c8, c9, c10, c11], _ =>
      have e0 := int_cell (v := c0) g0
      have e1 := int_cell (v := c1) g1
      have e11 := bool_cell (v := c11) g3
      refine ⟨⟨intOf c0, intOf c1, f, boolOf c11⟩, ?_⟩
      have h1 : [c2, c3, c4, c5, c6, c7, c8, c9, c10] = encF f := hf
      have h2 : [c0, c1, c2, c3, c4, c5, c6, c7, c8, c9, c10, c11] = [c0, c1] ++ [c2, c3, c4, c5, c6, c7, c8, c9, c10] ++ [c11] := rfl
      rw [h2, h1, e0, e1, e11]; rfl
theorem open_ops {v : Value} {d : DataW H} {p : List MemPlace} (hv : Value.okWide Try.prog w r b0 37 v) (h : DataW.Trod enc Try.prog w base spare held 37 v d p) :
    ∃ (A : Option Addr) (n cap : Nat) (l : List Opn), v = .slice A n cap ∧ Rd w EO A n l ∧ n ≤ cap ∧ cap ≤ 9223372036854775807 := by
  obtain ⟨a', len', cap', rfl⟩ := okWide_slice Try.underlying37 hv
  obtain ⟨fuel, hf⟩ := h
  rcases open_slice Try.underlying37 hf with ⟨hcs, _⟩ | ⟨a, len, cap, m, n, D, Pl, hcs, hb, hl, hm, hmm, hx, hi⟩
  · simp [Value.cells] at hcs
    obtain ⟨rfl, rfl, rfl⟩ := hcs
    exact ⟨none, 0, 0, [], rfl, Rd.none_ _ _ _, Nat.le_refl _, by omega⟩
  · simp [Value.cells] at hcs
    obtain ⟨rfl, rfl, rfl⟩ := hcs
    unfold maxLen at hm
    have hlm : len' ≤ m := by rw [hmm]; split <;> omega
    have hel : ∀ i, i < len' → ∃ x : Opn, ∀ j u, (encO x)[j]? = some u → w.cell? (a.add (i * 12 + j)) = some u := fun i him => by
      obtain ⟨cs', hc, ht'⟩ := hi i (by omega)
      rw [cells39] at hc
      obtain ⟨_, hcl, hat⟩ := World.cells?_some hc
      obtain ⟨x, hx⟩ := op_cells hcl ht'
      refine ⟨x, fun j u hj => ?_⟩
      have hj12 : j < 12 := (List.getElem?_eq_some_iff.1 hj).1
      have hcell := hat j hj12
      rw [← hj, ← hx, ← Go.Deep.add_add]; exact hcell
    have hch : ∃ f : Nat → Opn, ∀ i, i < len' → ∀ j u, (encO (f i))[j]? = some u → w.cell? (a.add (i * 12 + j)) = some u :=
      ⟨fun i => if hi : i < len' then Classical.choose (hel i hi) else ⟨0, 0, ⟨0, 0, 0, 0, 0, 0, 0, false, .empty⟩, false⟩, fun i hi => by simp only [dif_pos hi]; exact Classical.choose_spec (hel i hi)⟩
    obtain ⟨f, hf⟩ := hch
    refine ⟨some a, len', cap', (List.range len').map f, rfl, ⟨by simp, fun h0 => ?_⟩, hl, by omega⟩
    have h00 := hf 0 h0 0 _ rfl
    obtain ⟨b, off, spot⟩ := a
    have hspot : spot = none := by simpa [Addr.add] using World.cell?_spot h00
    subst hspot
    refine ⟨b, off, rfl, fun j v hj => ?_⟩
    have hjl : j < len' * 12 := by
      have := (List.getElem?_eq_some_iff.1 hj).1
      rw [EO.flat_length, show EO.size = 12 from rfl] at this
      simpa using this
    have hq : j / 12 < len' := by omega
    have hfl := EO.flat_get ((List.range len').map f) (k := j / 12) (j := j % 12) (a := f (j / 12)) (by simp [hq]) (Nat.mod_lt _ (by decide))
    have hje : j / 12 * 12 + j % 12 = j := by omega
    have he : (encO (f (j / 12)))[j % 12]? = some v := by
      rw [show (encO (f (j / 12)))[j % 12]? = (EO.flat ((List.range len').map f))[j / 12 * EO.size + j % 12]? from hfl.symm]
      rw [show EO.size = 12 from rfl, hje]; exact hj
    have := hf (j / 12) hq (j % 12) v he
    rw [hje, Addr.add_lit] at this
    exact this
end
end Go.Proofs.Ytjdhgokcbcidlaa
