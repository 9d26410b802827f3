/- One field of an element of an owned row is written. Nothing of the program. -/
import Derived.Test.YtipghbpkpnkmnaaIns
namespace Go.Proofs.Ytipghbpkpnkmnaa
open Go.RowKit
variable {α : Type}
theorem Enc.flat_set (E : Enc α) (l : List α) {i j : Nat} {a a' : α} (hi : l[i]? = some a) (hj : j < E.size) (u : Value) (ha : E.enc a' = (E.enc a).set j u) : (E.flat l).set (i * E.size + j) u = E.flat (l.set i a') := by
  induction l generalizing i with
  | nil => simp at hi
  | cons b r ih =>
    cases i with
    | zero =>
      simp at hi; subst hi
      rw [E.flat_cons, List.set_cons_zero, E.flat_cons, ha, Nat.zero_mul, Nat.zero_add, List.set_append_left _ _ (by rw [E.len]; exact hj)]
    | succ i =>
      rw [E.flat_cons, List.set_cons_succ, E.flat_cons, List.set_append_right _ _ (by rw [E.len, Nat.add_mul]; omega), E.len]
      rw [show (i + 1) * E.size + j - E.size = i * E.size + j by rw [Nat.add_mul]; omega, ih (by simpa using hi)]
theorem Ow.setField {w : World} {base : Nat} {e : TypeId} {E : Enc α} {g n cap : Nat} {l : List α} (h : Ow w base e E (.slice (some ⟨g, 0, none⟩) n cap) n l) {i j : Nat} {a a' : α} (hi : l[i]? = some a) (hj : j < E.size) (u : Value)
    (ha : E.enc a' = (E.enc a).set j u) : Ow (w.setCell ⟨g, i * E.size + j, none⟩ u) base e E (.slice (some ⟨g, 0, none⟩) n cap) n (l.set i a') := by
  have hil : i < n := by rw [← h.1]; exact (List.getElem?_eq_some_iff.1 hi).1
  obtain ⟨g', cur, hA, hb, hg, hnc, hcm, hcs, htk⟩ := h.row (by omega)
  cases hA
  have hB : Blk w g e cur := hg
  refine Ow.mk_ (by rw [List.length_set]; exact h.1) hb (hB.set_ (i * E.size + j) u) hnc hcm (by simpa using hcs) ?_
  rw [Array.toList_setIfInBounds, ← E.flat_set l hi hj u ha, ← htk, List.take_set]
theorem Ow.free {w : World} {base : Nat} {e : TypeId} {E : Enc α} {g n cap : Nat} {l : List α} (h : Ow w base e E (.slice (some ⟨g, 0, none⟩) n cap) n l) (hn : 0 < n) (i : Nat) : w.frozen? ⟨g, i, none⟩ = false := by
  obtain ⟨g', cur, hA, hb, hg, _⟩ := h.row hn
  cases hA
  exact Blk.frozen (t := e) (cs := cur) hg i
theorem Ow.at0 {w : World} {base : Nat} {e : TypeId} {E : Enc α} {A : Option Addr} {n cap : Nat} {l : List α} (h : Ow w base e E (.slice A n cap) n l) (hn : 0 < n) : ∃ g, A = some ⟨g, 0, none⟩ ∧ base ≤ g ∧ g < w.heap.size := by
  obtain ⟨g, cur, hA, hb, hg, _⟩ := h.row hn
  exact ⟨g, hA, hb, Blk.lt (t := e) (cs := cur) hg⟩
end Go.Proofs.Ytipghbpkpnkmnaa
