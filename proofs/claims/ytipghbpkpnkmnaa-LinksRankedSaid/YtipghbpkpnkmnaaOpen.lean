/- The arguments of the laws, opened. -/
import Derived.Test.YtipghbpkpnkmnaaLnk
import Derived.ProofKit
import Derived.OpenShut
import Derived.ChangeOld
import Derived.Carry
import Derived.Lib.SmallJoins
import Derived.Deep.Slices
import Derived.Deep.Fields
import Derived.ChangeSame
namespace Go.Proofs.Ytipghbpkpnkmnaa
open Go.ChangeShapes Go.WideShapes Go.ChangeAt Go.RowKit Go.Joins Go.Deep

theorem own : ownKnob Try.prog.godebug = none := by kernel_rfl
theorem laidOut : laidOutB Try.prog = true := by kernel_rfl
theorem cells3 : Try.prog.cellsOf 3 = 1 := by kernel_rfl
theorem cells38 : Try.prog.cellsOf 38 = 3 := by kernel_rfl

section
variable {H : Type} {enc : TypeId × Value → H} {w : World} {base b0 : Nat} {spare : Nat → Bool} {held : Bool} {r : Reach}
theorem int_cell {n : Nat} {v : Value} {y : DataW H × List MemPlace} (h : DataW.trod enc Try.prog w base spare held n 3 [v] = some y) : v = .int .i64 (intOf v) := by
  obtain ⟨a, e0, _, _⟩ := DataW.trod_int Try.underlying3 h
  simp at e0
  rw [e0]; rfl
theorem link_cells {fuel : Nat} {cs : List Value} {y : DataW H × List MemPlace} (hl : cs.length = 3) (h : DataW.trod enc Try.prog w base spare held fuel 38 cs = some y) : ∃ f : Link, cs = encL f := by
  match cs, hl with
  | [c0, c1, c2], _ =>
    obtain ⟨xs, n, _, hx, _, hlen, hg⟩ := DataW.trod_struct Try.underlying38 h
    match xs, hlen with
    | [x0, x1, x2], _ =>
      have e0 := int_cell (by simpa [cells3] using hg 0 _ rfl)
      have e1 := int_cell (by simpa [cells3] using hg 1 _ rfl)
      have e2 := int_cell (by simpa [cells3] using hg 2 _ rfl)
      exact ⟨⟨intOf c0, intOf c1, intOf c2⟩, by unfold encL; simp only; rw [← e0, ← e1, ← e2]⟩
theorem open_links {v : Value} {d : DataW H} {p : List MemPlace} (hv : Value.okWide Try.prog w r b0 22 v) (h : DataW.Trod enc Try.prog w base spare held 22 v d p) :
    ∃ (A : Option Addr) (n cap : Nat) (l : List Link), v = .slice A n cap ∧ Rd w EL A n l ∧ n ≤ cap ∧ cap ≤ 9223372036854775807 := by
  obtain ⟨a', len', cap', rfl⟩ := okWide_slice Try.underlying22 hv
  obtain ⟨fuel, hf⟩ := h
  rcases open_slice Try.underlying22 hf with ⟨hcs, _⟩ | ⟨a, len, cap, m, n, D, Pl, hcs, hb, hl, hm, hmm, hx, hi⟩
  · simp [Value.cells] at hcs
    obtain ⟨rfl, rfl, rfl⟩ := hcs
    exact ⟨none, 0, 0, [], rfl, Rd.none_ _ _ _, Nat.le_refl _, by omega⟩
  · simp [Value.cells] at hcs
    obtain ⟨rfl, rfl, rfl⟩ := hcs
    unfold maxLen at hm
    have hlm : len' ≤ m := by rw [hmm]; split <;> omega
    have hel : ∀ i, i < len' → ∃ x : Link, ∀ j u, (encL x)[j]? = some u → w.cell? (a.add (i * 3 + j)) = some u := fun i him => by
      obtain ⟨cs', hc, ht'⟩ := hi i (by omega)
      rw [cells38] at hc
      obtain ⟨_, hcl, hat⟩ := World.cells?_some hc
      obtain ⟨x, hx⟩ := link_cells hcl ht'
      refine ⟨x, fun j u hj => ?_⟩
      have hj3 : j < 3 := (List.getElem?_eq_some_iff.1 hj).1
      have hcell := hat j hj3
      rw [← hj, ← hx, ← Go.Deep.add_add]; exact hcell
    have hch : ∃ f : Nat → Link, ∀ i, i < len' → ∀ j u, (encL (f i))[j]? = some u → w.cell? (a.add (i * 3 + j)) = some u :=
      ⟨fun i => if hi : i < len' then Classical.choose (hel i hi) else ⟨0, 0, 0⟩, fun i hi => by simp only [dif_pos hi]; exact Classical.choose_spec (hel i hi)⟩
    obtain ⟨f, hf⟩ := hch
    refine ⟨some a, len', cap', (List.range len').map f, rfl, ⟨by simp, fun h0 => ?_⟩, hl, by omega⟩
    have h00 := hf 0 h0 0 _ rfl
    obtain ⟨b, off, spot⟩ := a
    have hspot : spot = none := by simpa [Addr.add] using World.cell?_spot h00
    subst hspot
    refine ⟨b, off, rfl, fun j v hj => ?_⟩
    have hjl : j < len' * 3 := by
      have := (List.getElem?_eq_some_iff.1 hj).1
      rw [EL.flat_length, show EL.size = 3 from rfl] at this
      simpa using this
    have hq : j / 3 < len' := by omega
    have hfl := EL.flat_get ((List.range len').map f) (k := j / 3) (j := j % 3) (a := f (j / 3)) (by simp [hq]) (Nat.mod_lt _ (by decide))
    have hje : j / 3 * 3 + j % 3 = j := by omega
    have he : (encL (f (j / 3)))[j % 3]? = some v := by
      rw [show (encL (f (j / 3)))[j % 3]? = (EL.flat ((List.range len').map f))[j / 3 * EL.size + j % 3]? from hfl.symm]
      rw [show EL.size = 3 from rfl, hje]; exact hj
    have := hf (j / 3) hq (j % 3) v he
    rw [hje, Addr.add_lit] at this
    exact this
end
end Go.Proofs.Ytipghbpkpnkmnaa
