/- The arguments of the laws, opened. -/
import Derived.Test.YtlmoeempblgdkaaRou
import Derived.ProofKit
import Derived.OpenShut
import Derived.ChangeOld
import Derived.Carry
import Derived.Lib.SmallJoins
import Derived.Deep.Slices
import Derived.Deep.Fields
import Derived.ChangeSame
namespace Go.Proofs.Ytlmoeempblgdkaa
open Go.ChangeShapes Go.WideShapes Go.ChangeAt Go.RowKit Go.Joins Go.Deep
set_option linter.unusedVariables false

theorem own_ : ownKnob Try.prog.godebug = none := by kernel_rfl
theorem laidOut : laidOutB Try.prog = true := by kernel_rfl
theorem cells3 : Try.prog.cellsOf 3 = 1 := by kernel_rfl
theorem cellsb4 : Try.prog.cellsOf 4 = 1 := by kernel_rfl
theorem cells9 : Try.prog.cellsOf 9 = 1 := by kernel_rfl
theorem cells22 : Try.prog.cellsOf 22 = 1 := by kernel_rfl
theorem cells24 : Try.prog.cellsOf 24 = 3 := by kernel_rfl
theorem cells40 : Try.prog.cellsOf 40 = 4 := by kernel_rfl
def boolOf : Value → Bool
  | .bool b => b
  | _ => false
def strOf : Value → ByteArray
  | .string s => s
  | _ => .empty

section
variable {H : Type} {enc : TypeId × Value → H} {w : World} {base b0 : Nat} {spare : Nat → Bool} {held : Bool} {r : Reach}
theorem int_cell {n : Nat} {v : Value} {y : DataW H × List MemPlace} (h : DataW.trod enc Try.prog w base spare held n 3 [v] = some y) : v = .int .i64 (intOf v) := by
  obtain ⟨a, e0, _, _⟩ := DataW.trod_int Try.underlying3 h
  simp at e0
  rw [e0]; rfl
theorem bool_cell {n : Nat} {v : Value} {y : DataW H × List MemPlace} (h : DataW.trod enc Try.prog w base spare held n 4 [v] = some y) : v = .bool (boolOf v) := by
  obtain ⟨a, e0, _⟩ := DataW.trod_bool Try.underlying4 h
  simp at e0
  rw [e0]; rfl
theorem str_cell {n : Nat} {v : Value} {y : DataW H × List MemPlace} (h : DataW.trod enc Try.prog w base spare held n 9 [v] = some y) : v = .string (strOf v) := by
  obtain ⟨a, e0, _, _⟩ := DataW.trod_string Try.underlying9 h
  simp at e0
  rw [e0]; rfl
theorem rt_cells {fuel : Nat} {cs : List Value} {y : DataW H × List MemPlace} (hl : cs.length = 4) (h : DataW.trod enc Try.prog w base spare held fuel 40 cs = some y) : ∃ f : Rt, cs = encR f := by
  match cs, hl with
  | [c0, c1, c2, c3], _ =>
    obtain ⟨xs, n, _, hx, _, hlen, hg⟩ := DataW.trod_struct Try.underlying40 h
    match xs, hlen with
    | [x0, x1, x2, x3], _ =>
      have e0 := int_cell (by simpa [cells3] using hg 0 _ rfl)
      have e1 := int_cell (by simpa [cells3] using hg 1 _ rfl)
      have e2 := int_cell (by simpa [cells3] using hg 2 _ rfl)
      have e3 := int_cell (by simpa [cells3] using hg 3 _ rfl)
      exact ⟨⟨intOf c0, intOf c1, intOf c2, intOf c3⟩, by unfold encR; simp only; rw [← e0, ← e1, ← e2, ← e3]⟩
/-- a slice whose elements are known -/
theorem open_rows {α : Type} [Inhabited α] (E : Enc α) {T e : TypeId} (hu : Try.prog.underlying T = some (.slice e)) (hc : Try.prog.cellsOf e = E.size)
    (hcell : ∀ (fuel : Nat) (cs : List Value) (y : DataW H × List MemPlace), cs.length = E.size → DataW.trod enc Try.prog w base spare held fuel e cs = some y → ∃ x, cs = E.enc x)
    {fuel : Nat} {v : Value} {y : DataW H × List MemPlace} (h : DataW.trod enc Try.prog w base spare held fuel T [v] = some y) :
    ∃ (A : Option Addr) (n cap : Nat) (l : List α), v = .slice A n cap ∧ Rd w E A n l ∧ n ≤ cap ∧ cap ≤ 9223372036854775807 := by
  have hpos := E.pos
  rcases open_slice hu h with ⟨hcs, _⟩ | ⟨a, len', cap', m, n, D, Pl, hcs, hb, hl, hm, hmm, hx, hi⟩
  · simp at hcs
    subst hcs
    exact ⟨none, 0, 0, [], rfl, Rd.none_ _ _ _, Nat.le_refl _, by omega⟩
  · simp at hcs
    subst hcs
    unfold maxLen at hm
    have hlm : len' ≤ m := by rw [hmm]; split <;> omega
    have hel : ∀ i, i < len' → ∃ x : α, ∀ j u, (E.enc x)[j]? = some u → w.cell? (a.add (i * E.size + j)) = some u := fun i him => by
      obtain ⟨cs', hc', ht'⟩ := hi i (by omega)
      rw [hc] at hc'
      obtain ⟨_, hcl, hat⟩ := World.cells?_some hc'
      obtain ⟨x, hx⟩ := hcell _ _ _ hcl ht'
      refine ⟨x, fun j u hj => ?_⟩
      have hj2 : j < E.size := by have := (List.getElem?_eq_some_iff.1 hj).1; rwa [E.len] at this
      have hcell := hat j hj2
      rw [← hj, ← hx, ← Go.Deep.add_add]; exact hcell
    have hch : ∃ f : Nat → α, ∀ i, i < len' → ∀ j u, (E.enc (f i))[j]? = some u → w.cell? (a.add (i * E.size + j)) = some u :=
      ⟨fun i => if hi : i < len' then Classical.choose (hel i hi) else default, fun i hi => by simp only [dif_pos hi]; exact Classical.choose_spec (hel i hi)⟩
    obtain ⟨f, hf⟩ := hch
    refine ⟨some a, len', cap', (List.range len').map f, rfl, ⟨by simp, fun h0 => ?_⟩, hl, by omega⟩
    have hne : ∃ u, (E.enc (f 0))[0]? = some u := ⟨_, List.getElem?_eq_getElem (by rw [E.len]; exact hpos)⟩
    obtain ⟨u0, hu0⟩ := hne
    have h00 := hf 0 h0 0 _ hu0
    obtain ⟨b, off, spot⟩ := a
    have hspot : spot = none := by simpa [Addr.add] using World.cell?_spot h00
    subst hspot
    refine ⟨b, off, rfl, fun j v hj => ?_⟩
    have hjl : j < len' * E.size := by
      have := (List.getElem?_eq_some_iff.1 hj).1
      rw [E.flat_length] at this
      simpa using this
    have hq : j / E.size < len' := Nat.div_lt_of_lt_mul (by rw [Nat.mul_comm]; exact hjl)
    have hfl := E.flat_get ((List.range len').map f) (k := j / E.size) (j := j % E.size) (a := f (j / E.size)) (by simp [hq]) (Nat.mod_lt _ hpos)
    have hje : j / E.size * E.size + j % E.size = j := Nat.div_add_mod' _ _
    have he : (E.enc (f (j / E.size)))[j % E.size]? = some v := by
      rw [← hfl, hje]; exact hj
    have := hf (j / E.size) hq (j % E.size) v he
    rw [hje, Addr.add_lit] at this
    exact this
instance : Inhabited Rt := ⟨⟨0, 0, 0, 0⟩⟩
theorem open_routes {v : Value} {d : DataW H} {p : List MemPlace} (hv : Value.okWide Try.prog w r b0 22 v) (h : DataW.Trod enc Try.prog w base spare held 22 v d p) :
    ∃ (A : Option Addr) (n cap : Nat) (l : List Rt), v = .slice A n cap ∧ Rd w ER A n l ∧ n ≤ cap ∧ cap ≤ 9223372036854775807 := by
  obtain ⟨a', len', cap', rfl⟩ := okWide_slice Try.underlying22 hv
  obtain ⟨fuel, hf⟩ := h
  exact open_rows ER Try.underlying22 cells40 (fun _ _ _ hl ht => rt_cells hl ht) (v := .slice a' len' cap') (by simpa [Value.cells] using hf)
theorem open_adv {v : Value} {d : DataW H} {p : List MemPlace} (hv : Value.okWide Try.prog w r b0 24 v) (h : DataW.Trod enc Try.prog w base spare held 24 v d p) :
    ∃ (fr cost : Int) (A : Option Addr) (n cap : Nat) (l : List Rt), v = .agg #[.int .i64 fr, .int .i64 cost, .slice A n cap] ∧ Rd w ER A n l ∧ n ≤ cap ∧ cap ≤ 9223372036854775807 := by
  obtain ⟨cs, rfl, hsz⟩ := okWide_struct Try.underlying24 hv
  obtain ⟨l⟩ := cs
  obtain ⟨fuel, hf⟩ := h
  have hl : l.length = 3 := by have := hsz.trans cells24; simpa using this
  match l, hl with
  | [c0, c1, c2], _ =>
    change DataW.trod enc Try.prog w base spare held fuel 24 [c0, c1, c2] = _ at hf
    obtain ⟨xs, n, _, hx, _, hlen, hg⟩ := DataW.trod_struct Try.underlying24 hf
    match xs, hlen with
    | [x0, x1, x2], _ =>
      have e0 := int_cell (v := c0) (by simpa [cells3] using hg 0 _ rfl)
      have e1 := int_cell (v := c1) (by simpa [cells3] using hg 1 _ rfl)
      have g2 : DataW.trod enc Try.prog w base spare held n 22 [c2] = some x2 := by simpa [cells22] using hg 2 _ rfl
      obtain ⟨A, m, cap, t, rfl, hr, h1, h2⟩ := open_rows ER Try.underlying22 cells40 (fun _ _ _ hl ht => rt_cells hl ht) g2
      exact ⟨intOf c0, intOf c1, A, m, cap, t, by rw [← e0, ← e1], hr, h1, h2⟩
end
end Go.Proofs.Ytlmoeempblgdkaa
