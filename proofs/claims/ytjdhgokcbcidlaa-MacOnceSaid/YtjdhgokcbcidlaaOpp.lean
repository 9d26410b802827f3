/- A pair, a slice of pairs, opened. -/
import Derived.Test.YtjdhgokcbcidlaaOpen
import Derived.Test.YtjdhgokcbcidlaaPrs
namespace Go.Proofs.Ytjdhgokcbcidlaa
open Go.ChangeShapes Go.WideShapes Go.ChangeAt Go.RowKit Go.Joins Go.Deep
theorem cells43 : Try.prog.cellsOf 43 = 2 := by kernel_rfl
section
variable {H : Type} {enc : TypeId × Value → H} {w : World} {base b0 : Nat} {spare : Nat → Bool} {held : Bool} {r : Reach}
theorem pr_cells {fuel : Nat} {cs : List Value} {y : DataW H × List MemPlace} (hl : cs.length = 2) (h : DataW.trod enc Try.prog w base spare held fuel 43 cs = some y) : ∃ m : Pr, cs = encP m := by
  match cs, hl with
  | [c0, c1], _ =>
    obtain ⟨xs, n, _, hx, _, hlen, hg⟩ := DataW.trod_struct Try.underlying43 h
    match xs, hlen with
    | [x0, x1], _ =>
      have e0 := int_cell (by simpa [cells3] using hg 0 _ rfl)
      have e1 := int_cell (by simpa [cells3] using hg 1 _ rfl)
      exact ⟨⟨intOf c0, intOf c1⟩, by unfold encP; simp only; rw [← e0, ← e1]⟩
theorem open_pair {v : Value} {d : DataW H} {p : List MemPlace} (hv : Value.okWide Try.prog w r b0 43 v) (h : DataW.Trod enc Try.prog w base spare held 43 v d p) : ∃ f : Pr, v = prV f := by
  obtain ⟨cs, rfl, hsz⟩ := okWide_struct Try.underlying43 hv
  obtain ⟨l⟩ := cs
  obtain ⟨fuel, hf⟩ := h
  obtain ⟨f, hf2⟩ := pr_cells (cs := l) (by have := hsz.trans cells43; simpa using this) hf
  exact ⟨f, by rw [hf2]; rfl⟩
theorem open_pairs {v : Value} {d : DataW H} {p : List MemPlace} (hv : Value.okWide Try.prog w r b0 41 v) (h : DataW.Trod enc Try.prog w base spare held 41 v d p) :
    ∃ (A : Option Addr) (n cap : Nat) (l : List Pr), v = .slice A n cap ∧ Rd w EP A n l ∧ n ≤ cap ∧ cap ≤ 9223372036854775807 := by
  obtain ⟨a', len', cap', rfl⟩ := okWide_slice Try.underlying41 hv
  obtain ⟨fuel, hf⟩ := h
  rcases open_slice Try.underlying41 hf with ⟨hcs, _⟩ | ⟨a, len, cap, m, n, D, Pl, hcs, hb, hl, hm, hmm, hx, hi⟩
  · simp [Value.cells] at hcs
    obtain ⟨rfl, rfl, rfl⟩ := hcs
    exact ⟨none, 0, 0, [], rfl, Rd.none_ _ _ _, Nat.le_refl _, by omega⟩
  · simp [Value.cells] at hcs
    obtain ⟨rfl, rfl, rfl⟩ := hcs
    unfold maxLen at hm
    have hlm : len' ≤ m := by rw [hmm]; split <;> omega
    have hel : ∀ i, i < len' → ∃ x : Pr, ∀ j u, (encP x)[j]? = some u → w.cell? (a.add (i * 2 + j)) = some u := fun i him => by
      obtain ⟨cs', hc, ht'⟩ := hi i (by omega)
      rw [cells43] at hc
      obtain ⟨_, hcl, hat⟩ := World.cells?_some hc
      obtain ⟨x, hx⟩ := pr_cells hcl ht'
      refine ⟨x, fun j u hj => ?_⟩
      have hj2 : j < 2 := (List.getElem?_eq_some_iff.1 hj).1
      have hcell := hat j hj2
      rw [← hj, ← hx, ← Go.Deep.add_add]; exact hcell
    have hch : ∃ f : Nat → Pr, ∀ i, i < len' → ∀ j u, (encP (f i))[j]? = some u → w.cell? (a.add (i * 2 + j)) = some u :=
      ⟨fun i => if hi : i < len' then Classical.choose (hel i hi) else ⟨0, 0⟩, fun i hi => by simp only [dif_pos hi]; exact Classical.choose_spec (hel i hi)⟩
    obtain ⟨f, hf⟩ := hch
    refine ⟨some a, len', cap', (List.range len').map f, rfl, ⟨by simp, fun h0 => ?_⟩, hl, by omega⟩
    have h00 := hf 0 h0 0 _ rfl
    obtain ⟨b, off, spot⟩ := a
    have hspot : spot = none := by simpa [Addr.add] using World.cell?_spot h00
    subst hspot
    refine ⟨b, off, rfl, fun j v hj => ?_⟩
    have hjl : j < len' * 2 := by
      have := (List.getElem?_eq_some_iff.1 hj).1
      rw [EP.flat_length, show EP.size = 2 from rfl] at this
      simpa using this
    have hq : j / 2 < len' := by omega
    have hfl := EP.flat_get ((List.range len').map f) (k := j / 2) (j := j % 2) (a := f (j / 2)) (by simp [hq]) (Nat.mod_lt _ (by decide))
    have hje : j / 2 * 2 + j % 2 = j := by omega
    have he : (encP (f (j / 2)))[j % 2]? = some v := by
      rw [show (encP (f (j / 2)))[j % 2]? = (EP.flat ((List.range len').map f))[j / 2 * EP.size + j % 2]? from hfl.symm]
      rw [show EP.size = 2 from rfl, hje]; exact hj
    have := hf (j / 2) hq (j % 2) v he
    rw [hje, Addr.add_lit] at this
    exact this
end
end Go.Proofs.Ytjdhgokcbcidlaa
