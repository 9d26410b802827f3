/- The arguments of the laws, opened. -/
import Derived.Test.YteabeflcffflnaaZa
import Derived.ProofKit
import Derived.OpenShut
import Derived.ChangeOld
import Derived.Carry
import Derived.Lib.SmallJoins
import Derived.Deep.SlicePairs
namespace Go.Proofs.Yteabeflcffflnaa
open Go.ChangeShapes Go.WideShapes Go.ChangeAt Go.RowKit Go.Joins Go.Deep

theorem own : ownKnob Try.prog.godebug = none := by kernel_rfl
theorem laidOut : laidOutB Try.prog = true := by kernel_rfl
theorem cells3 : Try.prog.cellsOf 3 = 1 := by kernel_rfl
theorem cells23 : Try.prog.cellsOf 23 = 5 := by kernel_rfl
theorem cells34 : Try.prog.cellsOf 34 = 2 := by kernel_rfl
theorem cells46 : Try.prog.cellsOf 46 = 2 := by kernel_rfl

section
variable {H : Type} {enc : TypeId × Value → H} {w : World} {base b0 : Nat} {spare : Nat → Bool} {held : Bool} {r : Reach}
theorem int_cell {n : Nat} {v : Value} {y : DataW H × List MemPlace} (h : DataW.trod enc Try.prog w base spare held n 3 [v] = some y) : v = .int .i64 (intOf v) := by
  obtain ⟨a, e0, _, _⟩ := DataW.trod_int Try.underlying3 h
  simp at e0
  rw [e0]; rfl

theorem open_zone {v : Value} {d : DataW H} {p : List MemPlace} (hv : Value.okWide Try.prog w r b0 34 v) (h : DataW.Trod enc Try.prog w base spare held 34 v d p) :
    ∃ (o : Int) (A : Option Addr) (l : Ch) (cap n : Nat), v = .agg #[.int .i64 o, .slice A n cap] ∧ Chg w A l ∧ l.length = n ∧ n ≤ 9223372036854775807 := by
  obtain ⟨c0, c1, y0, y1, m, rfl, rfl, rfl, h0, h1⟩ := open_agg2 Try.underlying34 (by kernel_rfl) cells34 hv h
  have e0 := int_cell h0
  rcases open_slice_pairs Try.underlying32 Try.underlying46 cells46 rfl rfl (by kernel_rfl) (by kernel_rfl) h1 with ⟨hcs, _⟩ | ⟨a, len, cap, m', n', V0, V1, D0, D1, P0, P1, hcs, _, hl, hm, hmm, _, hcell⟩
  · simp at hcs
    subst hcs
    rw [e0]
    exact ⟨_, none, [], 0, 0, rfl, .inl rfl, rfl, by omega⟩
  · simp at hcs
    subst hcs
    rw [e0]
    unfold maxLen at hm
    have hlm : len ≤ m' := by rw [hmm]; split <;> omega
    refine ⟨_, some a, (List.range len).map (fun i => (intOf (V0 i), intOf (V1 i))), cap, len, rfl, ?_, by simp, by omega⟩
    by_cases hz : len = 0
    · exact .inl (by simp [hz])
    · right
      obtain ⟨b, off, spot⟩ := a
      have c0 := (hcell 0 (by omega)).1
      have hspot : spot = none := by simpa [Addr.add] using World.cell?_spot c0
      subst hspot
      have hb := block_lt_of_cell c0
      refine ⟨b, off, rfl, by simpa [Addr.add] using hb, fun k hk => ?_⟩
      simp at hk
      obtain ⟨g0, g1, t0, t1⟩ := hcell k (by omega)
      have i0 := int_cell t0
      have i1 := int_cell t1
      rw [i0] at g0
      rw [i1] at g1
      have x0 : ct ((List.range len).map (fun i => (intOf (V0 i), intOf (V1 i)))) k = intOf (V0 k) := by simp [ct, hk]
      have x1 : co ((List.range len).map (fun i => (intOf (V0 i), intOf (V1 i)))) k = intOf (V1 k) := by simp [co, hk]
      rw [x0, x1]
      refine ⟨?_, ?_⟩
      · have := g0
        unfold Addr.add at this
        split at this
        · rename_i hk0; rw [hk0]; exact this
        · exact this
      · have := g1
        unfold Addr.add at this
        rw [if_neg (by omega)] at this
        exact this

theorem open_date {v : Value} {d : DataW H} {p : List MemPlace} (hv : Value.okWide Try.prog w r b0 23 v) (h : DataW.Trod enc Try.prog w base spare held 23 v d p) :
    ∃ y m d' h' i : Int, v = .agg #[.int .i64 y, .int .i64 m, .int .i64 d', .int .i64 h', .int .i64 i] := by
  obtain ⟨cs, rfl, hsz⟩ := okWide_struct Try.underlying23 hv
  obtain ⟨l⟩ := cs
  match l, hsz.trans cells23 with
  | [c0, c1, c2, c3, c4], _ =>
    obtain ⟨fuel, hf⟩ := h
    obtain ⟨xs, n, _, hx, _, hlen, hg⟩ := DataW.trod_struct Try.underlying23 hf
    match xs, hlen with
    | [x0, x1, x2, x3, x4], _ =>
      have e0 := int_cell (by simpa [Value.cells, cells3] using hg 0 _ rfl)
      have e1 := int_cell (by simpa [Value.cells, cells3] using hg 1 _ rfl)
      have e2 := int_cell (by simpa [Value.cells, cells3] using hg 2 _ rfl)
      have e3 := int_cell (by simpa [Value.cells, cells3] using hg 3 _ rfl)
      have e4 := int_cell (by simpa [Value.cells, cells3] using hg 4 _ rfl)
      exact ⟨intOf c0, intOf c1, intOf c2, intOf c3, intOf c4, by rw [← e0, ← e1, ← e2, ← e3, ← e4]⟩
end
end Go.Proofs.Yteabeflcffflnaa
