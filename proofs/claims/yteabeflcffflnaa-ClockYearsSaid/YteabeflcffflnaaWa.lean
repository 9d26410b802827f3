/- The walks of the small functions: Clamp, valid, leap, since, wide, before, length, month, year. -/
import Derived.Test.YteabeflcffflnaaKit
import Derived.Test.YteabeflcffflnaaMath
namespace Go.Proofs.Yteabeflcffflnaa
open Go.RowKit

def clampM (m : Int) : Int := if m < 0 then 0 else if 1073741824 < m then 1073741824 else m
theorem clampM_bd (m : Int) : 0 ≤ clampM m ∧ clampM m ≤ 1073741824 := by
  unfold clampM
  split
  · omega
  · split <;> omega
theorem clampM_id {m : Int} (h0 : 0 ≤ m) (h1 : m ≤ 1073741824) : clampM m = m := by
  unfold clampM
  rw [if_neg (by omega), if_neg (by omega)]

theorem clamp43 (n : Int) (w : World) :
    Calls Try.prog 43 #[.int .i64 n, .int .i64 0, .int .i64 1073741824] w fun e w' => e = .returned (.int .i64 (clampM n)) ∧ w = w' := by
  go_enter Try.func43, Try.ntmps43
  go_wp2
  all_goals go_ret
  all_goals refine ⟨ret_int ?_, rfl⟩
  all_goals (unfold clampM; split <;> (try split) <;> omega)
theorem clamp44 (n : Int) (w : World) :
    Calls Try.prog 44 #[.int .i64 n, .int .i64 0, .int .i64 1073741824] w fun e w' => e = .returned (.int .i64 (clampM n)) ∧ w = w' := by
  go_enter Try.func44, Try.ntmps44
  go_wp2
  all_goals go_ret
  all_goals refine ⟨ret_int ?_, rfl⟩
  all_goals (unfold clampM; split <;> (try split) <;> omega)
theorem valid36 (n : Int) (w : World) :
    Calls Try.prog 36 #[.int .i64 n] w fun e w' => e = .returned (.int .i64 (clampM n)) ∧ w = w' := by
  go_enter Try.func36, Try.ntmps36
  go_wp2_with (go_at_call 43; refine (clamp43 _ _).mono ?_; rintro e w' ⟨rfl, rfl⟩)
  go_ret
  exact ⟨rfl, rfl⟩
theorem valid37 (n : Int) (w : World) :
    Calls Try.prog 37 #[.int .i64 n] w fun e w' => e = .returned (.int .i64 (clampM n)) ∧ w = w' := by
  go_enter Try.func37, Try.ntmps37
  go_wp2_with (go_at_call 44; refine (clamp44 _ _).mono ?_; rintro e w' ⟨rfl, rfl⟩)
  go_ret
  exact ⟨rfl, rfl⟩
theorem lp_tf (y : Int) : (Cal.lp y = true ∧ Cal.lpi y = 1) ∨ (Cal.lp y = false ∧ Cal.lpi y = 0) := by
  unfold Cal.lp Cal.lpi
  by_cases h : y % 4 = 0 ∧ (y % 100 ≠ 0 ∨ y % 400 = 0)
  · left; rw [if_pos h]; exact ⟨decide_eq_true h, rfl⟩
  · right; rw [if_neg h]; exact ⟨decide_eq_false h, rfl⟩
theorem leap41 (y : Int) (w : World) (h0 : 0 ≤ y) :
    Calls Try.prog 41 #[.int .i64 y] w fun e w' => e = .returned (.bool (Cal.lp y)) ∧ w = w' := by
  go_enter Try.func41, Try.ntmps41
  go_wp2
  all_goals go_ret
  all_goals refine ⟨ret_bool ?_, rfl⟩
  all_goals (simp [Cal.lp, *]; try rfl)
theorem leap42 (y : Int) (w : World) (h0 : 0 ≤ y) :
    Calls Try.prog 42 #[.int .i64 y] w fun e w' => e = .returned (.bool (Cal.lp y)) ∧ w = w' := by
  go_enter Try.func42, Try.ntmps42
  go_wp2
  all_goals go_ret
  all_goals refine ⟨ret_bool ?_, rfl⟩
  all_goals (simp [Cal.lp, *]; try rfl)
theorem since32 (y : Int) (w : World) (h0 : 2000 ≤ y) (h1 : y ≤ 10000) :
    Calls Try.prog 32 #[.int .i64 y] w fun e w' => e = .returned (.int .i64 (Cal.since y)) ∧ w = w' := by
  go_enter Try.func32, Try.ntmps32
  go_wp2
  all_goals go_ret
  all_goals refine ⟨ret_int ?_, rfl⟩
  all_goals (unfold Cal.since; omega)
theorem wide38 (y : Int) (w : World) :
    Calls Try.prog 38 #[.int .i64 y] w fun e w' => e = .returned (.bool (decide (y < -840 ∨ 840 < y))) ∧ w = w' := by
  go_enter Try.func38, Try.ntmps38
  go_wp2
  all_goals go_ret
  all_goals refine ⟨ret_bool ?_, rfl⟩
  all_goals first | (simp; done) | (simp; omega)


theorem twelve {m : Int} (h1 : 1 ≤ m) (h2 : m ≤ 12) : m = 1 ∨ m = 2 ∨ m = 3 ∨ m = 4 ∨ m = 5 ∨ m = 6 ∨ m = 7 ∨ m = 8 ∨ m = 9 ∨ m = 10 ∨ m = 11 ∨ m = 12 := by omega
theorem bef_tab {y m : Int} (h1 : 1 ≤ m) (h2 : m ≤ 12) : (m ≤ 2 ∨ Cal.lpi y = 0 → Cal.bef y m = Cal.bef 1 m) ∧ (2 < m → Cal.lpi y = 1 → Cal.bef y m = Cal.bef 1 m + 1) := by
  have e : Cal.lpi 1 = 0 := by decide
  obtain rfl | rfl | rfl | rfl | rfl | rfl | rfl | rfl | rfl | rfl | rfl | rfl := twelve h1 h2
  all_goals simp [Cal.bef, e]
  all_goals omega
theorem bef_at {m : Int} (h1 : 1 ≤ m) (h2 : m ≤ 12) : (#[.int .i64 0, .int .i64 31, .int .i64 59, .int .i64 90, .int .i64 120, .int .i64 151, .int .i64 181, .int .i64 212, .int .i64 243, .int .i64 273, .int .i64 304, .int .i64 334] : Array Value)[(m - 1).toNat]? = some (.int .i64 (Cal.bef 1 m)) := by
  obtain rfl | rfl | rfl | rfl | rfl | rfl | rfl | rfl | rfl | rfl | rfl | rfl := twelve h1 h2
  all_goals rfl
theorem dim_at {m : Int} (h1 : 1 ≤ m) (h2 : m ≤ 12) : (#[.int .i64 31, .int .i64 28, .int .i64 31, .int .i64 30, .int .i64 31, .int .i64 30, .int .i64 31, .int .i64 31, .int .i64 30, .int .i64 31, .int .i64 30, .int .i64 31] : Array Value)[(m - 1).toNat]? = some (.int .i64 (Cal.dim 1 m)) := by
  obtain rfl | rfl | rfl | rfl | rfl | rfl | rfl | rfl | rfl | rfl | rfl | rfl := twelve h1 h2
  all_goals rfl
theorem bef_bd {m : Int} (h1 : 1 ≤ m) (h2 : m ≤ 12) : 0 ≤ Cal.bef 1 m ∧ Cal.bef 1 m ≤ 334 := by
  have e : Cal.lpi 1 = 0 := by decide
  obtain rfl | rfl | rfl | rfl | rfl | rfl | rfl | rfl | rfl | rfl | rfl | rfl := twelve h1 h2
  all_goals simp [Cal.bef, e]

set_option maxHeartbeats 400000 in
theorem before33 (y m : Int) (w : World) (h0 : 0 ≤ y) (h1 : 1 ≤ m) (h2 : m ≤ 12) :
    Calls Try.prog 33 #[.int .i64 y, .int .i64 m] w fun e w' => e = .returned (.int .i64 (Cal.bef y m)) ∧ Below w.heap.size w w' := by
  obtain ⟨W, hW, hB, hz, hk⟩ := boxed w #[.int .i64 0, .int .i64 31, .int .i64 59, .int .i64 90, .int .i64 120, .int .i64 151, .int .i64 181, .int .i64 212, .int .i64 243, .int .i64 273, .int .i64 304, .int .i64 334] 49
  have hc : W.cell? ⟨w.heap.size, m.toNat - 1, none⟩ = some (.int .i64 (Cal.bef 1 m)) := by
    rw [hk.cell, show m.toNat - 1 = (m - 1).toNat by omega]; exact bef_at h1 h2
  have hb := bef_bd h1 h2
  clear hk
  have HT := Lib.hid (@bef_tab y m h1 h2)
  rcases lp_tf y with ⟨hl, hi⟩ | ⟨hl, hi⟩
  all_goals
    have HI := Lib.hid hi; clear hi
    go_enter Try.func33, Try.ntmps33
    go_wp2_with (go_at_call 41; refine (leap41 _ _ h0).mono ?_; rintro e w' ⟨rfl, rfl⟩)
    all_goals go_ret
    all_goals refine ⟨ret_int ?_, hB⟩
    all_goals have hi := HI.out
    all_goals have ht := HT.out
    all_goals go_light
    all_goals first | exact (ht.1 (by omega)).symm | exact (ht.2 (by omega) (by omega)).symm
end Go.Proofs.Yteabeflcffflnaa
