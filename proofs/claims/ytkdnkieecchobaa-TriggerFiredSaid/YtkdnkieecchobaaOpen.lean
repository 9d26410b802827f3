/- The arguments of the laws, opened. -/
import Derived.Test.YtkdnkieecchobaaHe
import Derived.ProofKit
import Derived.OpenShut
import Derived.ChangeOld
import Derived.Carry
import Derived.Lib.SmallJoins
import Derived.Deep.Slices
import Derived.Deep.Fields
import Derived.ChangeSame
namespace Go.Proofs.Ytkdnkieecchobaa
open Go.ChangeShapes Go.WideShapes Go.ChangeAt Go.RowKit Go.Joins Go.Deep
set_option linter.unusedVariables false

theorem own : ownKnob Try.prog.godebug = none := by kernel_rfl
theorem laidOut : laidOutB Try.prog = true := by kernel_rfl
theorem cells3 : Try.prog.cellsOf 3 = 1 := by kernel_rfl
theorem cells4 : Try.prog.cellsOf 4 = 1 := by kernel_rfl
theorem cells9 : Try.prog.cellsOf 9 = 1 := by kernel_rfl
theorem cells22 : Try.prog.cellsOf 22 = 1 := by kernel_rfl
theorem cells23 : Try.prog.cellsOf 23 = 1 := by kernel_rfl
theorem cells24 : Try.prog.cellsOf 24 = 1 := by kernel_rfl
theorem cells26 : Try.prog.cellsOf 26 = 7 := by kernel_rfl
theorem cells32 : Try.prog.cellsOf 32 = 3 := by kernel_rfl
theorem cells34 : Try.prog.cellsOf 34 = 3 := by kernel_rfl
theorem cells36 : Try.prog.cellsOf 36 = 10 := by kernel_rfl
def boolOf : Value → Bool
  | .bool b => b
  | _ => false
def strOf : Value → ByteArray
  | .string s => s
  | _ => .empty

section
variable {H : Type} {enc : TypeId × Value → H} {w : World} {base b0 : Nat} {spare : Nat → Bool} {held : Bool} {r : Reach}
theorem int_cell {n : Nat} {v : Value} {y : DataW H × List MemPlace} (h : DataW.trod enc Try.prog w base spare held n 3 [v] = some y) : v = .int .i64 (intOf v) := by
  obtain ⟨a, e0, _, _⟩ := DataW.trod_int Try.underlying3 h
  simp at e0
  rw [e0]; rfl
theorem bool_cell {n : Nat} {v : Value} {y : DataW H × List MemPlace} (h : DataW.trod enc Try.prog w base spare held n 4 [v] = some y) : v = .bool (boolOf v) := by
  obtain ⟨a, e0, _⟩ := DataW.trod_bool Try.underlying4 h
  simp at e0
  rw [e0]; rfl
theorem str_cell {n : Nat} {v : Value} {y : DataW H × List MemPlace} (h : DataW.trod enc Try.prog w base spare held n 9 [v] = some y) : v = .string (strOf v) := by
  obtain ⟨a, e0, _, _⟩ := DataW.trod_string Try.underlying9 h
  simp at e0
  rw [e0]; rfl
theorem ky32_cells {fuel : Nat} {cs : List Value} {y : DataW H × List MemPlace} (hl : cs.length = 3) (h : DataW.trod enc Try.prog w base spare held fuel 32 cs = some y) : ∃ f : Ky, cs = encK f := by
  match cs, hl with
  | [c0, c1, c2], _ =>
    obtain ⟨xs, n, _, hx, _, hlen, hg⟩ := DataW.trod_struct Try.underlying32 h
    match xs, hlen with
    | [x0, x1, x2], _ =>
      have e0 := int_cell (by simpa [cells3] using hg 0 _ rfl)
      have e1 := str_cell (by simpa [cells9] using hg 1 _ rfl)
      have e2 := str_cell (by simpa [cells9] using hg 2 _ rfl)
      exact ⟨⟨intOf c0, strOf c1, strOf c2⟩, by unfold encK; simp only; rw [← e0, ← e1, ← e2]⟩
theorem ky34_cells {fuel : Nat} {cs : List Value} {y : DataW H × List MemPlace} (hl : cs.length = 3) (h : DataW.trod enc Try.prog w base spare held fuel 34 cs = some y) : ∃ f : Ky, cs = encK f := by
  match cs, hl with
  | [c0, c1, c2], _ =>
    obtain ⟨xs, n, _, hx, _, hlen, hg⟩ := DataW.trod_struct Try.underlying34 h
    match xs, hlen with
    | [x0, x1, x2], _ =>
      have e0 := int_cell (by simpa [cells3] using hg 0 _ rfl)
      have e1 := str_cell (by simpa [cells9] using hg 1 _ rfl)
      have e2 := str_cell (by simpa [cells9] using hg 2 _ rfl)
      exact ⟨⟨intOf c0, strOf c1, strOf c2⟩, by unfold encK; simp only; rw [← e0, ← e1, ← e2]⟩
theorem tx_cells {fuel : Nat} {cs : List Value} {y : DataW H × List MemPlace} (hl : cs.length = 1) (h : DataW.trod enc Try.prog w base spare held fuel 9 cs = some y) : ∃ f : ByteArray, cs = encT f := by
  match cs, hl with
  | [c0], _ => exact ⟨strOf c0, by unfold encT; rw [← str_cell h]⟩
/-- a slice whose elements are known -/
theorem open_rows {α : Type} [Inhabited α] (E : Enc α) {T e : TypeId} (hu : Try.prog.underlying T = some (.slice e)) (hc : Try.prog.cellsOf e = E.size)
    (hcell : ∀ (fuel : Nat) (cs : List Value) (y : DataW H × List MemPlace), cs.length = E.size → DataW.trod enc Try.prog w base spare held fuel e cs = some y → ∃ x, cs = E.enc x)
    {fuel : Nat} {v : Value} {y : DataW H × List MemPlace} (h : DataW.trod enc Try.prog w base spare held fuel T [v] = some y) :
    ∃ (A : Option Addr) (n cap : Nat) (l : List α), v = .slice A n cap ∧ Rd w E A n l ∧ n ≤ cap ∧ cap ≤ 9223372036854775807 := by
  have hpos := E.pos
  rcases open_slice hu h with ⟨hcs, _⟩ | ⟨a, len', cap', m, n, D, Pl, hcs, hb, hl, hm, hmm, hx, hi⟩
  · simp at hcs
    subst hcs
    exact ⟨none, 0, 0, [], rfl, Rd.none_ _ _ _, Nat.le_refl _, by omega⟩
  · simp at hcs
    subst hcs
    unfold maxLen at hm
    have hlm : len' ≤ m := by rw [hmm]; split <;> omega
    have hel : ∀ i, i < len' → ∃ x : α, ∀ j u, (E.enc x)[j]? = some u → w.cell? (a.add (i * E.size + j)) = some u := fun i him => by
      obtain ⟨cs', hc', ht'⟩ := hi i (by omega)
      rw [hc] at hc'
      obtain ⟨_, hcl, hat⟩ := World.cells?_some hc'
      obtain ⟨x, hx⟩ := hcell _ _ _ hcl ht'
      refine ⟨x, fun j u hj => ?_⟩
      have hj2 : j < E.size := by have := (List.getElem?_eq_some_iff.1 hj).1; rwa [E.len] at this
      have hcell := hat j hj2
      rw [← hj, ← hx, ← Go.Deep.add_add]; exact hcell
    have hch : ∃ f : Nat → α, ∀ i, i < len' → ∀ j u, (E.enc (f i))[j]? = some u → w.cell? (a.add (i * E.size + j)) = some u :=
      ⟨fun i => if hi : i < len' then Classical.choose (hel i hi) else default, fun i hi => by simp only [dif_pos hi]; exact Classical.choose_spec (hel i hi)⟩
    obtain ⟨f, hf⟩ := hch
    refine ⟨some a, len', cap', (List.range len').map f, rfl, ⟨by simp, fun h0 => ?_⟩, hl, by omega⟩
    have hne : ∃ u, (E.enc (f 0))[0]? = some u := ⟨_, List.getElem?_eq_getElem (by rw [E.len]; exact hpos)⟩
    obtain ⟨u0, hu0⟩ := hne
    have h00 := hf 0 h0 0 _ hu0
    obtain ⟨b, off, spot⟩ := a
    have hspot : spot = none := by simpa [Addr.add] using World.cell?_spot h00
    subst hspot
    refine ⟨b, off, rfl, fun j v hj => ?_⟩
    have hjl : j < len' * E.size := by
      have := (List.getElem?_eq_some_iff.1 hj).1
      rw [E.flat_length] at this
      simpa using this
    have hq : j / E.size < len' := Nat.div_lt_of_lt_mul (by rw [Nat.mul_comm]; exact hjl)
    have hfl := E.flat_get ((List.range len').map f) (k := j / E.size) (j := j % E.size) (a := f (j / E.size)) (by simp [hq]) (Nat.mod_lt _ hpos)
    have hje : j / E.size * E.size + j % E.size = j := Nat.div_add_mod' _ _
    have he : (E.enc (f (j / E.size)))[j % E.size]? = some v := by
      rw [← hfl, hje]; exact hj
    have := hf (j / E.size) hq (j % E.size) v he
    rw [hje, Addr.add_lit] at this
    exact this
instance : Inhabited Ky := ⟨⟨0, .empty, .empty⟩⟩
theorem hap_cells {fuel : Nat} {cs : List Value} {y : DataW H × List MemPlace} (hl : cs.length = 7) (h : DataW.trod enc Try.prog w base spare held fuel 26 cs = some y) : ∃ (c : Hc) (m : Hap), cs = (hpC c m).toList ∧ HRd w c m := by
  match cs, hl with
  | [c0, c1, c2, c3, c4, c5, c6], _ =>
    obtain ⟨xs, n, _, hx, _, hlen, hg⟩ := DataW.trod_struct Try.underlying26 h
    match xs, hlen with
    | [x0, x1, x2, x3, x4, x5, x6], _ =>
      have g0 : DataW.trod enc Try.prog w base spare held n 22 [c0] = some x0 := by simpa [cells22] using hg 0 _ rfl
      have g1 : DataW.trod enc Try.prog w base spare held n 23 [c1] = some x1 := by simpa [cells23] using hg 1 _ rfl
      have g6 : DataW.trod enc Try.prog w base spare held n 24 [c6] = some x6 := by simpa [cells24] using hg 6 _ rfl
      obtain ⟨A1, n1, p1, l1, rfl, r1, _, _⟩ := open_rows EK Try.underlying22 cells32 (fun _ _ _ hl ht => ky32_cells hl ht) g0
      obtain ⟨A2, n2, p2, l2, rfl, r2, _, _⟩ := open_rows EK Try.underlying23 cells34 (fun _ _ _ hl ht => ky34_cells hl ht) g1
      obtain ⟨A3, n3, p3, l3, rfl, r3, _, _⟩ := open_rows ET Try.underlying24 cells9 (fun _ _ _ hl ht => tx_cells hl ht) g6
      have e2 := int_cell (by simpa [cells3] using hg 2 _ rfl)
      have e3 := int_cell (by simpa [cells3] using hg 3 _ rfl)
      have e4 := str_cell (by simpa [cells9] using hg 4 _ rfl)
      have e5 := bool_cell (by simpa [cells4] using hg 5 _ rfl)
      exact ⟨⟨A1, n1, p1, A2, n2, p2, A3, n3, p3⟩, ⟨l1, l2, intOf c2, intOf c3, strOf c4, boolOf c5, l3⟩, by simp only; rw [← e2, ← e3, ← e4, ← e5], ⟨r1, r2, r3⟩⟩
theorem open_hap {v : Value} {d : DataW H} {p : List MemPlace} (hv : Value.okWide Try.prog w r b0 26 v) (h : DataW.Trod enc Try.prog w base spare held 26 v d p) : ∃ (c : Hc) (m : Hap), v = hpV c m ∧ HRd w c m := by
  obtain ⟨cs, rfl, hsz⟩ := okWide_struct Try.underlying26 hv
  obtain ⟨l⟩ := cs
  obtain ⟨fuel, hf⟩ := h
  obtain ⟨c, m, hf2, hr⟩ := hap_cells (cs := l) (by have := hsz.trans cells26; simpa using this) hf
  exact ⟨c, m, by rw [hf2], hr⟩
theorem tg_cells {fuel : Nat} {cs : List Value} {y : DataW H × List MemPlace} (hl : cs.length = 10) (h : DataW.trod enc Try.prog w base spare held fuel 36 cs = some y) : ∃ t : Tg, cs = (tgC t).toList := by
  match cs, hl with
  | [c0, c1, c2, c3, c4, c5, c6, c7, c8, c9], _ =>
    obtain ⟨xs, n, _, hx, _, hlen, hg⟩ := DataW.trod_struct Try.underlying36 h
    match xs, hlen with
    | [x0, x1, x2, x3, x4, x5], _ =>
      have e0 := int_cell (by simpa [cells3] using hg 0 _ rfl)
      have g1 : DataW.trod enc Try.prog w base spare held n 32 [c1, c2, c3] = some x1 := by simpa [cells32] using hg 1 _ rfl
      have g2 : DataW.trod enc Try.prog w base spare held n 34 [c4, c5, c6] = some x2 := by simpa [cells34] using hg 2 _ rfl
      obtain ⟨k, hk⟩ := ky32_cells rfl g1
      obtain ⟨e, he⟩ := ky34_cells rfl g2
      have e3 := str_cell (by simpa [cells9] using hg 3 _ rfl)
      have e4 := int_cell (by simpa [cells3] using hg 4 _ rfl)
      have e5 := int_cell (by simpa [cells3] using hg 5 _ rfl)
      unfold encK at hk he
      simp only [List.cons.injEq, and_true] at hk he
      obtain ⟨rfl, rfl, rfl⟩ := hk
      obtain ⟨rfl, rfl, rfl⟩ := he
      exact ⟨⟨intOf c0, k, e, strOf c7, intOf c8, intOf c9⟩, by simp only; rw [← e0, ← e3, ← e4, ← e5]⟩
theorem open_tg {v : Value} {d : DataW H} {p : List MemPlace} (hv : Value.okWide Try.prog w r b0 36 v) (h : DataW.Trod enc Try.prog w base spare held 36 v d p) : ∃ t : Tg, v = tgV t := by
  obtain ⟨cs, rfl, hsz⟩ := okWide_struct Try.underlying36 hv
  obtain ⟨l⟩ := cs
  obtain ⟨fuel, hf⟩ := h
  obtain ⟨f, hf2⟩ := tg_cells (cs := l) (by have := hsz.trans cells36; simpa using this) hf
  exact ⟨f, by rw [hf2]⟩
end
end Go.Proofs.Ytkdnkieecchobaa
