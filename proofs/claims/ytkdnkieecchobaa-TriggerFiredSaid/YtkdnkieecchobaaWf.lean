/- window. -/
import Derived.Test.YtkdnkieecchobaaWe
namespace Go.Proofs.Ytkdnkieecchobaa
open Go.RowKit Go.BigFrame
set_option linter.unusedVariables false

def win (f t : Int) : Int × Int := if f < 0 ∨ t < f ∨ 1073741824 < t then (-1, -1) else (max f (t - 1440), t)
set_option maxHeartbeats 1000000 in
theorem window31 (f t : Int) (w : World) : Calls Try.prog 31 #[.int .i64 f, .int .i64 t] w fun e w' => e = .returned (.tuple #[.int .i64 (win f t).1, .int .i64 (win f t).2]) ∧ w = w' := by
  by_cases h : f < 0 ∨ t < f ∨ 1073741824 < t
  · have HW := Lib.hid (show win f t = (-1, -1) by unfold win; rw [if_pos h])
    have h' : f < 0 ∨ (¬ f < 0 ∧ t < f) ∨ (¬ f < 0 ∧ ¬ t < f ∧ 1073741824 < t) := by omega
    clear h
    rcases h' with h1 | ⟨h1, h2⟩ | ⟨h1, h2, h3⟩
    all_goals
      go_enter Try.func31, Try.ntmps31
      go_wp2
      refine bodyPost_ret (v := .tuple #[.int .i64 (-1), .int .i64 (-1)]) (by simp [results, Try.results31, go_sem]) rfl ?_
      rw [HW.out]
      exact ⟨rfl, rfl⟩
  · have HW := Lib.hid (show win f t = (max f (t - 1440), t) by unfold win; rw [if_neg h])
    obtain ⟨h1, h2, h3⟩ : ¬ f < 0 ∧ ¬ t < f ∧ ¬ 1073741824 < t := by omega
    clear h
    go_enter Try.func31, Try.ntmps31
    go_wp2
    refine bodyPost_ret (v := .tuple #[.int .i64 (max f (t - 1440)), .int .i64 t]) (by simp [results, Try.results31, go_sem]) rfl ?_
    rw [HW.out]
    exact ⟨rfl, rfl⟩
end Go.Proofs.Ytkdnkieecchobaa
