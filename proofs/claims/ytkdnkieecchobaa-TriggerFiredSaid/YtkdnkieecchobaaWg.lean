/- Sorted of texts (the document's answer).. -/
import Derived.Test.YtkdnkieecchobaaPu
import Derived.Test.YtkdnkieecchobaaWf
namespace Go.Proofs.Ytkdnkieecchobaa
open Go.RowKit Go.BigFrame
set_option linter.unusedVariables false
/-- one step down -/
theorem bub {α : Type} (k : List α) (x y : α) {t : Nat} (hy : k[t]? = some y) : ((k.take (t + 1) ++ x :: k.drop (t + 1)).set (t + 1) y).set t x = k.take t ++ x :: k.drop t := by
  have hlt : t < k.length := (List.getElem?_eq_some_iff.1 hy).1
  rw [take_snoc hy, drop_cons_get hy]
  have h1 : (k.take t ++ [y]).length = t + 1 := by rw [List.length_append, List.length_take]; simp; omega
  rw [List.set_append_right _ _ (by omega), h1, Nat.sub_self, List.set_cons_zero, List.append_assoc, List.set_append_right _ _ (by rw [List.length_take]; omega)]
  rw [show t - (k.take t).length = 0 by rw [List.length_take]; omega]
  rfl
theorem bub_get {α : Type} (k : List α) (x y : α) {t : Nat} (hy : k[t]? = some y) : (k.take (t + 1) ++ x :: k.drop (t + 1))[t + 1]? = some x ∧ (k.take (t + 1) ++ x :: k.drop (t + 1))[t]? = some y := by
  have hlt : t < k.length := (List.getElem?_eq_some_iff.1 hy).1
  have h1 : (k.take (t + 1)).length = t + 1 := by rw [List.length_take]; omega
  refine ⟨?_, ?_⟩
  · rw [List.getElem?_append_right (by omega), h1, Nat.sub_self]; rfl
  · rw [List.getElem?_append_left (by omega), List.getElem?_take, if_pos (by omega)]; exact hy
/-- x has come to its place -/
theorem bub_end {α : Type} {lt : α → α → Bool} (h : Lin lt) {k : List α} {x : α} (hk : Srt lt k) (hx : x ∉ k) {t : Nat} (ht : t ≤ k.length) (hab : ∀ i y, t ≤ i → k[i]? = some y → lt x y = true) (hbe : t = 0 ∨ ∃ y, k[t - 1]? = some y ∧ lt x y = false) :
    insO lt x k = k.take t ++ x :: k.drop t := by
  refine (insO_at h hk ht (fun i y hi hy => ?_) (fun y hy => h.asy (hab t y (Nat.le_refl _) hy))).2 (fun e => hx (List.mem_of_getElem? e))
  rcases hbe with h0 | ⟨z, hz, hzx⟩
  · omega
  · have hzt : lt z x = true := by
      cases e : lt z x with
      | true => rfl
      | false => exact absurd (List.mem_of_getElem? hz) (by rw [h.tri z x e hzx]; exact hx)
    rcases Nat.lt_or_ge i (t - 1) with hlt | hge
    · have hy' : y ∈ k.take (t - 1) := by
        refine List.mem_of_getElem? (i := i) ?_
        rw [List.getElem?_take, if_pos hlt]; exact hy
      exact h.tra _ _ _ (srt_before hk hz y hy') hzt
    · obtain rfl : i = t - 1 := by omega
      rw [hz] at hy; cases hy; exact hzt
end Go.Proofs.Ytkdnkieecchobaa
