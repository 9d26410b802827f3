/- Rules, opened. -/
import Derived.Test.YtkdnkieecchobaaOpen
import Derived.Test.YtkdnkieecchobaaRu
namespace Go.Proofs.Ytkdnkieecchobaa
open Go.ChangeShapes Go.WideShapes Go.ChangeAt Go.RowKit Go.Joins Go.Deep
set_option linter.unusedVariables false
set_option linter.unusedSimpArgs false

theorem cells42 : Try.prog.cellsOf 42 = 1 := by kernel_rfl
theorem cells44 : Try.prog.cellsOf 44 = 3 := by kernel_rfl
theorem cells45 : Try.prog.cellsOf 45 = 1 := by kernel_rfl
theorem cells47 : Try.prog.cellsOf 47 = 11 := by kernel_rfl
theorem cells48 : Try.prog.cellsOf 48 = 1 := by kernel_rfl
theorem cells50 : Try.prog.cellsOf 50 = 15 := by kernel_rfl
section
variable {H : Type} {enc : TypeId × Value → H} {w : World} {base b0 : Nat} {spare : Nat → Bool} {held : Bool} {r : Reach}
theorem open_rowsQ {α : Type} (dflt : α) (Q : α → Prop) (E : Enc α) {T e : TypeId} (hu : Try.prog.underlying T = some (.slice e)) (hc : Try.prog.cellsOf e = E.size)
    (hcell : ∀ (fuel : Nat) (cs : List Value) (y : DataW H × List MemPlace), cs.length = E.size → DataW.trod enc Try.prog w base spare held fuel e cs = some y → ∃ x, cs = E.enc x ∧ Q x)
    {fuel : Nat} {v : Value} {y : DataW H × List MemPlace} (h : DataW.trod enc Try.prog w base spare held fuel T [v] = some y) :
    ∃ (A : Option Addr) (n cap : Nat) (l : List α), v = .slice A n cap ∧ Rd w E A n l ∧ (∀ x ∈ l, Q x) ∧ n ≤ cap ∧ cap ≤ 9223372036854775807 := by
  have hpos := E.pos
  rcases open_slice hu h with ⟨hcs, _⟩ | ⟨a, len', cap', m, n, D, Pl, hcs, hb, hl, hm, hmm, hx, hi⟩
  · simp at hcs
    subst hcs
    exact ⟨none, 0, 0, [], rfl, Rd.none_ _ _ _, by simp, Nat.le_refl _, by omega⟩
  · simp at hcs
    subst hcs
    unfold maxLen at hm
    have hlm : len' ≤ m := by rw [hmm]; split <;> omega
    have hel : ∀ i, i < len' → ∃ x : α, Q x ∧ ∀ j u, (E.enc x)[j]? = some u → w.cell? (a.add (i * E.size + j)) = some u := fun i him => by
      obtain ⟨cs', hc', ht'⟩ := hi i (by omega)
      rw [hc] at hc'
      obtain ⟨_, hcl, hat⟩ := World.cells?_some hc'
      obtain ⟨x, hx, hqx⟩ := hcell _ _ _ hcl ht'
      refine ⟨x, hqx, fun j u hj => ?_⟩
      have hj2 : j < E.size := by have := (List.getElem?_eq_some_iff.1 hj).1; rwa [E.len] at this
      have hcell := hat j hj2
      rw [← hj, ← hx, ← Go.Deep.add_add]; exact hcell
    have hch : ∃ f : Nat → α, ∀ i, i < len' → Q (f i) ∧ ∀ j u, (E.enc (f i))[j]? = some u → w.cell? (a.add (i * E.size + j)) = some u :=
      ⟨fun i => if hi : i < len' then Classical.choose (hel i hi) else dflt, fun i hi => by simp only [dif_pos hi]; exact Classical.choose_spec (hel i hi)⟩
    obtain ⟨f, hf⟩ := hch
    refine ⟨some a, len', cap', (List.range len').map f, rfl, ⟨by simp, fun h0 => ?_⟩, fun x hx => by
      obtain ⟨i, hi2, rfl⟩ := List.mem_map.1 hx
      exact (hf i (List.mem_range.1 hi2)).1, hl, by omega⟩
    have hne : ∃ u, (E.enc (f 0))[0]? = some u := ⟨_, List.getElem?_eq_getElem (by rw [E.len]; exact hpos)⟩
    obtain ⟨u0, hu0⟩ := hne
    have h00 := (hf 0 h0).2 0 _ hu0
    obtain ⟨b, off, spot⟩ := a
    have hspot : spot = none := by simpa [Addr.add] using World.cell?_spot h00
    subst hspot
    refine ⟨b, off, rfl, fun j v hj => ?_⟩
    have hjl : j < len' * E.size := by
      have := (List.getElem?_eq_some_iff.1 hj).1
      rw [E.flat_length] at this
      simpa using this
    have hq : j / E.size < len' := Nat.div_lt_of_lt_mul (by rw [Nat.mul_comm]; exact hjl)
    have hfl := E.flat_get ((List.range len').map f) (k := j / E.size) (j := j % E.size) (a := f (j / E.size)) (by simp [hq]) (Nat.mod_lt _ hpos)
    have hje : j / E.size * E.size + j % E.size = j := Nat.div_add_mod' _ _
    have he : (E.enc (f (j / E.size)))[j % E.size]? = some v := by
      rw [← hfl, hje]; exact hj
    have := (hf (j / E.size) hq).2 (j % E.size) v he
    rw [hje, Addr.add_lit] at this
    exact this

theorem sl_one {T e : TypeId} (hu : Try.prog.underlying T = some (.slice e)) {n : Nat} {v : Value} {y : DataW H × List MemPlace} (h : DataW.trod enc Try.prog w base spare held n T [v] = some y) : v.oneCell' = true := by
  rcases open_slice hu h with ⟨hcs, _⟩ | ⟨a, len', cap', m, n, D, Pl, hcs, _⟩
  · simp at hcs; subst hcs; rfl
  · simp at hcs; subst hcs; rfl
theorem int_one {n : Nat} {v : Value} {y : DataW H × List MemPlace} (h : DataW.trod enc Try.prog w base spare held n 3 [v] = some y) : v.oneCell' = true := by rw [int_cell h]; rfl
theorem str_one {n : Nat} {v : Value} {y : DataW H × List MemPlace} (h : DataW.trod enc Try.prog w base spare held n 9 [v] = some y) : v.oneCell' = true := by rw [str_cell h]; rfl
theorem ky_ones {n : Nat} {a b c : Value} {y : DataW H × List MemPlace} (h : DataW.trod enc Try.prog w base spare held n 32 [a, b, c] = some y) : a.oneCell' = true ∧ b.oneCell' = true ∧ c.oneCell' = true := by
  obtain ⟨k, hk⟩ := ky32_cells rfl h
  unfold encK at hk
  simp only [List.cons.injEq, and_true] at hk
  obtain ⟨rfl, rfl, rfl⟩ := hk
  exact ⟨rfl, rfl, rfl⟩
theorem val_ones {n : Nat} {a b c : Value} {y : DataW H × List MemPlace} (h : DataW.trod enc Try.prog w base spare held n 44 [a, b, c] = some y) : a.oneCell' = true ∧ b.oneCell' = true ∧ c.oneCell' = true := by
  obtain ⟨xs, n, _, hx, _, hlen, hg⟩ := DataW.trod_struct Try.underlying44 h
  match xs, hlen with
  | [x0, x1, x2], _ =>
    have e0 := int_one (v := a) (by simpa [cells3] using hg 0 _ rfl)
    have e1 := int_one (v := b) (by simpa [cells3] using hg 1 _ rfl)
    have e2 := str_one (v := c) (by simpa [cells9] using hg 2 _ rfl)
    exact ⟨e0, e1, e2⟩
def tg0 : Tg := ⟨0, ⟨0, .empty, .empty⟩, ⟨0, .empty, .empty⟩, .empty, 0, 0⟩
def ru0 : Ru := ⟨.empty, .bool false, none, 0, 0, .bool false, .bool false, .bool false, .bool false, .bool false, .bool false, .bool false, .bool false, .bool false, .bool false, .bool false, .bool false, [], by simp [Value.oneCell']⟩
theorem ru_cells {fuel : Nat} {cs : List Value} {y : DataW H × List MemPlace} (hl : cs.length = 15) (h : DataW.trod enc Try.prog w base spare held fuel 50 cs = some y) : ∃ r : Ru, cs = ER.enc r ∧ Rd w EG r.A r.n r.on := by
  match cs, hl with
  | [c0, c1, c2, c3, c4, c5, c6, c7, c8, c9, c10, c11, c12, c13, c14], _ =>
    obtain ⟨xs, n, _, hx, _, hlen, hg⟩ := DataW.trod_struct Try.underlying50 h
    match xs, hlen with
    | [x0, x1, x2, x3, x4], _ =>
      have e0 := str_cell (v := c0) (by simpa [cells9] using hg 0 _ rfl)
      have o1 := int_one (v := c1) (by simpa [cells3] using hg 1 _ rfl)
      have g2 : DataW.trod enc Try.prog w base spare held n 42 [c2] = some x2 := by simpa [cells42] using hg 2 _ rfl
      have g3 : DataW.trod enc Try.prog w base spare held n 47 [c3, c4, c5, c6, c7, c8, c9, c10, c11, c12, c13] = some x3 := by simpa [cells47] using hg 3 _ rfl
      have o14 := sl_one Try.underlying48 (v := c14) (by simpa [cells48] using hg 4 _ rfl)
      obtain ⟨A, m, p, l, rfl, hr, _, _, _⟩ := open_rowsQ tg0 (fun _ => True) EG Try.underlying42 cells36 (fun _ _ _ hl ht => by
        obtain ⟨t, ht⟩ := tg_cells hl ht
        exact ⟨t, ht, trivial⟩) g2
      obtain ⟨ys, n2, _, hy, _, hlen2, hg2⟩ := DataW.trod_struct Try.underlying47 g3
      match ys, hlen2 with
      | [y0, y1, y2, y3, y4, y5, y6], _ =>
        have o3 := int_one (v := c3) (by simpa [cells3] using hg2 0 _ rfl)
        have o4 := int_one (v := c4) (by simpa [cells3] using hg2 1 _ rfl)
        have o5 := int_one (v := c5) (by simpa [cells3] using hg2 2 _ rfl)
        have o6 := str_one (v := c6) (by simpa [cells9] using hg2 3 _ rfl)
        obtain ⟨o7, o8, o9⟩ := val_ones (a := c7) (b := c8) (c := c9) (by simpa [cells44] using hg2 4 _ rfl)
        obtain ⟨o10, o11, o12⟩ := ky_ones (a := c10) (b := c11) (c := c12) (by simpa [cells32] using hg2 5 _ rfl)
        have o13 := sl_one Try.underlying45 (v := c13) (by simpa [cells45] using hg2 6 _ rfl)
        refine ⟨⟨strOf c0, c1, A, m, p, c3, c4, c5, c6, c7, c8, c9, c10, c11, c12, c13, c14, l, ⟨o1, o3, o4, o5, o6, o7, o8, o9, o10, o11, o12, o13, o14⟩⟩, ?_, hr⟩
        show [c0, c1, .slice A m p, c3, c4, c5, c6, c7, c8, c9, c10, c11, c12, c13, c14] = [.string (strOf c0), c1, .slice A m p, c3, c4, c5, c6, c7, c8, c9, c10, c11, c12, c13, c14]
        rw [← e0]
theorem open_rules {v : Value} {d : DataW H} {p : List MemPlace} (hv : Value.okWide Try.prog w r b0 41 v) (h : DataW.Trod enc Try.prog w base spare held 41 v d p) :
    ∃ (A : Option Addr) (n cap : Nat) (l : List Ru), v = .slice A n cap ∧ Rd w ER A n l ∧ (∀ x ∈ l, Rd w EG x.A x.n x.on) ∧ n ≤ 9223372036854775807 := by
  obtain ⟨a', len', cap', rfl⟩ := okWide_slice Try.underlying41 hv
  obtain ⟨fuel, hf⟩ := h
  obtain ⟨A, n, cap, l, e, hr, hq, h1, h2⟩ := open_rowsQ ru0 (fun x => Rd w EG x.A x.n x.on) ER Try.underlying41 cells50 (fun _ _ _ hl ht => ru_cells hl ht) (v := .slice a' len' cap') (by simpa [Value.cells] using hf)
  exact ⟨A, n, cap, l, e, hr, hq, by omega⟩
end
end Go.Proofs.Ytkdnkieecchobaa
