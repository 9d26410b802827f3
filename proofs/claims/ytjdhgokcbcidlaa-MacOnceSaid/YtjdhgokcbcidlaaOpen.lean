/- The arguments of the laws, opened. -/
import Derived.Test.YtjdhgokcbcidlaaSnd
import Derived.ProofKit
import Derived.OpenShut
import Derived.ChangeOld
import Derived.Carry
import Derived.Lib.SmallJoins
import Derived.Deep.Slices
import Derived.Deep.Fields
import Derived.ChangeSame
namespace Go.Proofs.Ytjdhgokcbcidlaa
open Go.ChangeShapes Go.WideShapes Go.ChangeAt Go.RowKit Go.Joins Go.Deep

theorem own : ownKnob Try.prog.godebug = none := by kernel_rfl
theorem laidOut : laidOutB Try.prog = true := by kernel_rfl
theorem cells3 : Try.prog.cellsOf 3 = 1 := by kernel_rfl
theorem cells4 : Try.prog.cellsOf 4 = 1 := by kernel_rfl
theorem cells9 : Try.prog.cellsOf 9 = 1 := by kernel_rfl
theorem cells24 : Try.prog.cellsOf 24 = 9 := by kernel_rfl
theorem cells35 : Try.prog.cellsOf 35 = 11 := by kernel_rfl
def boolOf : Value → Bool
  | .bool b => b
  | _ => false
def strOf : Value → ByteArray
  | .string s => s
  | _ => .empty

section
variable {H : Type} {enc : TypeId × Value → H} {w : World} {base b0 : Nat} {spare : Nat → Bool} {held : Bool} {r : Reach}
theorem int_cell {n : Nat} {v : Value} {y : DataW H × List MemPlace} (h : DataW.trod enc Try.prog w base spare held n 3 [v] = some y) : v = .int .i64 (intOf v) := by
  obtain ⟨a, e0, _, _⟩ := DataW.trod_int Try.underlying3 h
  simp at e0
  rw [e0]; rfl
theorem bool_cell {n : Nat} {v : Value} {y : DataW H × List MemPlace} (h : DataW.trod enc Try.prog w base spare held n 4 [v] = some y) : v = .bool (boolOf v) := by
  obtain ⟨a, e0, _⟩ := DataW.trod_bool Try.underlying4 h
  simp at e0
  rw [e0]; rfl
theorem str_cell {n : Nat} {v : Value} {y : DataW H × List MemPlace} (h : DataW.trod enc Try.prog w base spare held n 9 [v] = some y) : v = .string (strOf v) := by
  obtain ⟨a, e0, _, _⟩ := DataW.trod_string Try.underlying9 h
  simp at e0
  rw [e0]; rfl
theorem frame_cells {fuel : Nat} {cs : List Value} {y : DataW H × List MemPlace} (hl : cs.length = 9) (h : DataW.trod enc Try.prog w base spare held fuel 24 cs = some y) : ∃ f : Fr, cs = encF f := by
  match cs, hl with
  | [c0, c1, c2, c3, c4, c5, c6, c7, c8], _ =>
    obtain ⟨xs, n, _, hx, _, hlen, hg⟩ := DataW.trod_struct Try.underlying24 h
    match xs, hlen with
    | [x0, x1, x2, x3, x4, x5, x6, x7, x8], _ =>
      have e0 := int_cell (by simpa [cells3] using hg 0 _ rfl)
      have e1 := int_cell (by simpa [cells3] using hg 1 _ rfl)
      have e2 := int_cell (by simpa [cells3] using hg 2 _ rfl)
      have e3 := int_cell (by simpa [cells3] using hg 3 _ rfl)
      have e4 := int_cell (by simpa [cells3] using hg 4 _ rfl)
      have e5 := int_cell (by simpa [cells3] using hg 5 _ rfl)
      have e6 := int_cell (by simpa [cells3] using hg 6 _ rfl)
      have e7 := bool_cell (by simpa [cells4] using hg 7 _ rfl)
      have e8 := str_cell (by simpa [cells9] using hg 8 _ rfl)
      exact ⟨⟨intOf c0, intOf c1, intOf c2, intOf c3, intOf c4, intOf c5, intOf c6, boolOf c7, strOf c8⟩, by unfold encF; simp only; rw [← e0, ← e1, ← e2, ← e3, ← e4, ← e5, ← e6, ← e7, ← e8]⟩
theorem open_frame {v : Value} {d : DataW H} {p : List MemPlace} (hv : Value.okWide Try.prog w r b0 24 v) (h : DataW.Trod enc Try.prog w base spare held 24 v d p) : ∃ f : Fr, v = frV f := by
  obtain ⟨cs, rfl, hsz⟩ := okWide_struct Try.underlying24 hv
  obtain ⟨l⟩ := cs
  obtain ⟨fuel, hf⟩ := h
  obtain ⟨f, hf2⟩ := frame_cells (cs := l) (by have := hsz.trans cells24; simpa using this) hf
  exact ⟨f, by rw [hf2]; rfl⟩
theorem snd_cells {fuel : Nat} {cs : List Value} {y : DataW H × List MemPlace} (hl : cs.length = 11) (h : DataW.trod enc Try.prog w base spare held fuel 35 cs = some y) : ∃ m : Sn, cs = encS m := by
  obtain ⟨xs, n, _, hx, _, hlen, hg⟩ := DataW.trod_struct Try.underlying35 h
  match xs, hlen with
  | [x0, x1, x2], _ =>
    have g0 : DataW.trod enc Try.prog w base spare held n 24 (cs.take 9) = some x0 := by simpa [cells24] using hg 0 _ rfl
    have g1 : DataW.trod enc Try.prog w base spare held n 3 ((cs.drop 9).take 1) = some x1 := by simpa [cells3] using hg 1 _ rfl
    have g2 : DataW.trod enc Try.prog w base spare held n 3 ((cs.drop 10).take 1) = some x2 := by simpa [cells3] using hg 2 _ rfl
    obtain ⟨f, hf⟩ := frame_cells (by rw [List.length_take]; omega) g0
    match cs, hl with
    | [c0, c1, c2, c3, c4, c5, c6, c7, c8, c9, c10], _ =>
      have e9 := int_cell (v := c9) g1
      have e10 := int_cell (v := c10) g2
      refine ⟨⟨f, intOf c9, intOf c10⟩, ?_⟩
      have h1 : [c0, c1, c2, c3, c4, c5, c6, c7, c8] = encF f := hf
      have h2 : [c0, c1, c2, c3, c4, c5, c6, c7, c8, c9, c10] = [c0, c1, c2, c3, c4, c5, c6, c7, c8] ++ [c9, c10] := rfl
      rw [h2, h1, e9, e10]; rfl
theorem open_snds {v : Value} {d : DataW H} {p : List MemPlace} (hv : Value.okWide Try.prog w r b0 22 v) (h : DataW.Trod enc Try.prog w base spare held 22 v d p) :
    ∃ (A : Option Addr) (n cap : Nat) (l : List Sn), v = .slice A n cap ∧ Rd w ES A n l ∧ n ≤ cap ∧ cap ≤ 9223372036854775807 := by
  obtain ⟨a', len', cap', rfl⟩ := okWide_slice Try.underlying22 hv
  obtain ⟨fuel, hf⟩ := h
  rcases open_slice Try.underlying22 hf with ⟨hcs, _⟩ | ⟨a, len, cap, m, n, D, Pl, hcs, hb, hl, hm, hmm, hx, hi⟩
  · simp [Value.cells] at hcs
    obtain ⟨rfl, rfl, rfl⟩ := hcs
    exact ⟨none, 0, 0, [], rfl, Rd.none_ _ _ _, Nat.le_refl _, by omega⟩
  · simp [Value.cells] at hcs
    obtain ⟨rfl, rfl, rfl⟩ := hcs
    unfold maxLen at hm
    have hlm : len' ≤ m := by rw [hmm]; split <;> omega
    have hel : ∀ i, i < len' → ∃ x : Sn, ∀ j u, (encS x)[j]? = some u → w.cell? (a.add (i * 11 + j)) = some u := fun i him => by
      obtain ⟨cs', hc, ht'⟩ := hi i (by omega)
      rw [cells35] at hc
      obtain ⟨_, hcl, hat⟩ := World.cells?_some hc
      obtain ⟨x, hx⟩ := snd_cells hcl ht'
      refine ⟨x, fun j u hj => ?_⟩
      have hj11 : j < 11 := (List.getElem?_eq_some_iff.1 hj).1
      have hcell := hat j hj11
      rw [← hj, ← hx, ← Go.Deep.add_add]; exact hcell
    have hch : ∃ f : Nat → Sn, ∀ i, i < len' → ∀ j u, (encS (f i))[j]? = some u → w.cell? (a.add (i * 11 + j)) = some u :=
      ⟨fun i => if hi : i < len' then Classical.choose (hel i hi) else ⟨⟨0, 0, 0, 0, 0, 0, 0, false, .empty⟩, 0, 0⟩, fun i hi => by simp only [dif_pos hi]; exact Classical.choose_spec (hel i hi)⟩
    obtain ⟨f, hf⟩ := hch
    refine ⟨some a, len', cap', (List.range len').map f, rfl, ⟨by simp, fun h0 => ?_⟩, hl, by omega⟩
    have h00 := hf 0 h0 0 _ rfl
    obtain ⟨b, off, spot⟩ := a
    have hspot : spot = none := by simpa [Addr.add] using World.cell?_spot h00
    subst hspot
    refine ⟨b, off, rfl, fun j v hj => ?_⟩
    have hjl : j < len' * 11 := by
      have := (List.getElem?_eq_some_iff.1 hj).1
      rw [ES.flat_length, show ES.size = 11 from rfl] at this
      simpa using this
    have hq : j / 11 < len' := by omega
    have hfl := ES.flat_get ((List.range len').map f) (k := j / 11) (j := j % 11) (a := f (j / 11)) (by simp [hq]) (Nat.mod_lt _ (by decide))
    have hje : j / 11 * 11 + j % 11 = j := by omega
    have he : (encS (f (j / 11)))[j % 11]? = some v := by
      rw [show (encS (f (j / 11)))[j % 11]? = (ES.flat ((List.range len').map f))[j / 11 * ES.size + j % 11]? from hfl.symm]
      rw [show ES.size = 11 from rfl, hje]; exact hj
    have := hf (j / 11) hq (j % 11) v he
    rw [hje, Addr.add_lit] at this
    exact this
end
end Go.Proofs.Ytjdhgokcbcidlaa
