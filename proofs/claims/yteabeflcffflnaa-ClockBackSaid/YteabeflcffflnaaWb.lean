/- The walks of month, year, length, exists. -/
import Derived.Test.YteabeflcffflnaaWa
namespace Go.Proofs.Yteabeflcffflnaa
open Go.RowKit

set_option maxHeartbeats 400000 in
theorem month34 (y m : Int) (w : World) (h0 : 0 ≤ y) :
    Calls Try.prog 34 #[.int .i64 y, .int .i64 m] w fun e w' => e = .returned (.int .i64 (Cal.dim y m)) ∧ w = w' := by
  have hl := lp_tf y
  rcases hl with ⟨hl, hi⟩ | ⟨hl, hi⟩
  all_goals
    have HI := Lib.hid hi; clear hi
    go_enter Try.func34, Try.ntmps34
    go_wp2_with (go_at_call 42; refine (leap42 _ _ h0).mono ?_; rintro e w' ⟨rfl, rfl⟩)
    all_goals go_ret
    all_goals refine ⟨ret_int ?_, rfl⟩
    all_goals (have hi := HI.out; clear HI; go_light; simp only [beq_iff_eq, beq_eq_false_iff_ne] at *; unfold Cal.dim; (repeat' split) <;> omega)
theorem year35 (y : Int) (w : World) (h0 : 0 ≤ y) :
    Calls Try.prog 35 #[.int .i64 y] w fun e w' => e = .returned (.int .i64 (365 + Cal.lpi y)) ∧ w = w' := by
  have hl := lp_tf y
  rcases hl with ⟨hl, hi⟩ | ⟨hl, hi⟩
  all_goals
    have HI := Lib.hid hi; clear hi
    go_enter Try.func35, Try.ntmps35
    go_wp2_with (go_at_call 42; refine (leap42 _ _ h0).mono ?_; rintro e w' ⟨rfl, rfl⟩)
    all_goals go_ret
    all_goals refine ⟨ret_int ?_, rfl⟩
    all_goals (have hi := HI.out; omega)

theorem dim_tab {y m : Int} (h1 : 1 ≤ m) (h2 : m ≤ 12) : (m = 2 → Cal.lpi y = 1 → Cal.dim y m = 29) ∧ (m ≠ 2 ∨ Cal.lpi y = 0 → Cal.dim y m = Cal.dim 1 m) := by
  have e : Cal.lpi 1 = 0 := by decide
  obtain rfl | rfl | rfl | rfl | rfl | rfl | rfl | rfl | rfl | rfl | rfl | rfl := twelve h1 h2
  all_goals simp [Cal.dim, e]
  all_goals omega
set_option maxHeartbeats 400000 in
theorem length40 (y m : Int) (w : World) (h0 : 0 ≤ y) (h1 : 1 ≤ m) (h2 : m ≤ 12) :
    Calls Try.prog 40 #[.int .i64 y, .int .i64 m] w fun e w' => e = .returned (.int .i64 (Cal.dim y m)) ∧ Below w.heap.size w w' := by
  obtain ⟨W, hW, hB, hz, hk⟩ := boxed w #[.int .i64 31, .int .i64 28, .int .i64 31, .int .i64 30, .int .i64 31, .int .i64 30, .int .i64 31, .int .i64 31, .int .i64 30, .int .i64 31, .int .i64 30, .int .i64 31] 49
  have hc : W.cell? ⟨w.heap.size, m.toNat - 1, none⟩ = some (.int .i64 (Cal.dim 1 m)) := by
    rw [hk.cell, show m.toNat - 1 = (m - 1).toNat by omega]; exact dim_at h1 h2
  clear hk
  have HT := Lib.hid (@dim_tab y m h1 h2)
  rcases lp_tf y with ⟨hl, hi⟩ | ⟨hl, hi⟩
  all_goals
    have HI := Lib.hid hi; clear hi
    by_cases hm : m = 2
    all_goals
      have hmb : (m == 2) = decide (m = 2) := rfl
      first | rw [decide_eq_true hm] at hmb | rw [decide_eq_false hm] at hmb
      have HM := Lib.hid hm; clear hm
      go_enter Try.func40, Try.ntmps40
      go_wp2_with (go_at_call 41; refine (leap41 _ _ h0).mono ?_; rintro e w' ⟨rfl, rfl⟩)
      all_goals go_ret
      all_goals refine ⟨ret_int ?_, hB⟩
      all_goals have hi := HI.out
      all_goals have ht := HT.out
      all_goals have hm := HM.out
      all_goals go_light
      all_goals first | exact (ht.1 hm hi).symm | exact (ht.2 (by omega)).symm
end Go.Proofs.Yteabeflcffflnaa
