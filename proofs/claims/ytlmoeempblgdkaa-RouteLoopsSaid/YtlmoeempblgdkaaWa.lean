/- Small functions: limit, node, finite, usable, own, better. -/
import Derived.Test.YtlmoeempblgdkaaRou
namespace Go.Proofs.Ytlmoeempblgdkaa
open Go.RowKit Go.BigFrame
set_option linter.unusedVariables false
set_option linter.unusedSimpArgs false

theorem limit30 (n : Int) (w : World) : Calls Try.prog 30 #[.int .i64 n] w fun e w' => e = .returned (.int .i64 (lim n)) ∧ w = w' := by
  have h : max 0 (min n 250) = lim n := by unfold lim; rw [Int.max_def, Int.min_def]; split <;> split <;> (try split) <;> omega
  have H := Lib.hid h
  clear h
  go_enter Try.func30, Try.ntmps30
  go_wp2
  go_ret
  exact ⟨ret_int H.out, rfl⟩
theorem limit37 (n : Int) (w : World) : Calls Try.prog 37 #[.int .i64 n] w fun e w' => e = .returned (.int .i64 (lim n)) ∧ w = w' := by
  have H := Lib.hid (show lim n = if n < 0 then 0 else if 250 < n then 250 else n from rfl)
  by_cases h1 : n < 0
  · rw [if_pos h1] at H
    go_enter Try.func37, Try.ntmps37
    go_wp2
    go_ret
    exact ⟨ret_int H.out.symm, rfl⟩
  · rw [if_neg h1] at H
    by_cases h2 : 250 < n
    · rw [if_pos h2] at H
      go_enter Try.func37, Try.ntmps37
      go_wp2
      go_ret
      exact ⟨ret_int H.out.symm, rfl⟩
    · rw [if_neg h2] at H
      go_enter Try.func37, Try.ntmps37
      go_wp2
      go_ret
      exact ⟨ret_int H.out.symm, rfl⟩
theorem node32 (n : Int) (w : World) : Calls Try.prog 32 #[.int .i64 n] w fun e w' => e = .returned (.bool (nodeB n)) ∧ w = w' := by
  go_enter Try.func32, Try.ntmps32
  go_wp2
  all_goals go_ret
  all_goals
    refine ⟨ret_bool ?_, rfl⟩
    rw [Bool.eq_iff_iff]
    simp [nodeB]
    try omega
theorem finite34 (r : Rt) (w : World) : Calls Try.prog 34 #[rtV r] w fun e w' => e = .returned (.bool (finB r)) ∧ Below w.heap.size w w' := by
  obtain ⟨W, hW, hB, hz, hk⟩ := boxeds w (rtC r) 40
  have p2 := hk.at 2 (v := .int .i64 r.c) rfl
  clear hz hk
  go_enter Try.func34, Try.ntmps34
  go_wp2
  all_goals go_ret
  all_goals
    refine ⟨ret_bool ?_, hB⟩
    rw [Bool.eq_iff_iff]
    simp [finB]
    try omega
theorem finite41 (r : Rt) (w : World) : Calls Try.prog 41 #[rtV r] w fun e w' => e = .returned (.bool (finB r)) ∧ Below w.heap.size w w' := by
  obtain ⟨W, hW, hB, hz, hk⟩ := boxeds w (rtC r) 40
  have p2 := hk.at 2 (v := .int .i64 r.c) rfl
  clear hz hk
  go_enter Try.func41, Try.ntmps41
  go_wp2
  all_goals go_ret
  all_goals
    refine ⟨ret_bool ?_, hB⟩
    rw [Bool.eq_iff_iff]
    simp [finB]
    try omega
theorem better45 (a b : Rt) (w : World) : Calls Try.prog 45 #[rtV a, rtV b] w fun e w' => e = .returned (.bool (betB a b)) ∧ Below w.heap.size w w' := by
  obtain ⟨W, hW, hB, hz, hk⟩ := boxeds w (rtC a) 40
  obtain ⟨W2, hW2, hB2, hz2, hk2⟩ := boxeds W (rtC b) 40
  have hkp := hk.later hB2
  have hBx := hB.trans (hB2.mono hB.size)
  have p1 := hkp.at 1 (v := .int .i64 a.s) rfl
  have p2 := hkp.at 2 (v := .int .i64 a.c) rfl
  have q1 := hk2.at 1 (v := .int .i64 b.s) rfl
  have q2 := hk2.at 2 (v := .int .i64 b.c) rfl
  clear hz hz2 hk hk2 hkp hB hB2
  go_enter Try.func45, Try.ntmps45
  go_wp2
  all_goals go_ret
  all_goals
    refine ⟨ret_bool ?_, hBx⟩
    rw [Bool.eq_iff_iff]
    simp [betB]
    try omega
theorem better48 (a b : Rt) (w : World) : Calls Try.prog 48 #[rtV a, rtV b] w fun e w' => e = .returned (.bool (betB a b)) ∧ Below w.heap.size w w' := by
  obtain ⟨W, hW, hB, hz, hk⟩ := boxeds w (rtC a) 40
  obtain ⟨W2, hW2, hB2, hz2, hk2⟩ := boxeds W (rtC b) 40
  have hkp := hk.later hB2
  have hBx := hB.trans (hB2.mono hB.size)
  have p1 := hkp.at 1 (v := .int .i64 a.s) rfl
  have p2 := hkp.at 2 (v := .int .i64 a.c) rfl
  have q1 := hk2.at 1 (v := .int .i64 b.s) rfl
  have q2 := hk2.at 2 (v := .int .i64 b.c) rfl
  clear hz hz2 hk hk2 hkp hB hB2
  go_enter Try.func48, Try.ntmps48
  go_wp2
  all_goals go_ret
  all_goals
    refine ⟨ret_bool ?_, hBx⟩
    rw [Bool.eq_iff_iff]
    simp [betB]
    try omega
theorem own42 (self seq : Int) (w : World) : Calls Try.prog 42 #[.int .i64 self, .int .i64 seq] w fun e w' => e = .returned (rtV (own self seq)) ∧ Below w.heap.size w w' := by
  obtain ⟨W, hW, hB, hz, hk⟩ := boxeds w #[.int .i64 0, .int .i64 0, .int .i64 0, .int .i64 0] 40
  have c0 := hk.at 0 (v := .int .i64 0) rfl
  have c1 := hk.at 1 (v := .int .i64 0) rfl
  have c2 := hk.at 2 (v := .int .i64 0) rfl
  have c3 := hk.at 3 (v := .int .i64 0) rfl
  have z0 := hk.frozen 0
  have z1 := hk.frozen 1
  have z2 := hk.frozen 2
  have z3 := hk.frozen 3
  obtain ⟨T, hT, hkT, hgT, hsT⟩ := stored4 hk (.int .i64 self) (.int .i64 seq) (.int .i64 0) (.int .i64 self)
  have hB2 := Below.grow hB hgT hB.size (Nat.le_refl _)
  clear hgT hsT hk hz hB
  go_enter Try.func42, Try.ntmps42
  go_wp2
  refine bodyPost_ret (results_cell_row rfl _ _ w.heap.size 40 _ (0, 0) _ rfl hkT Try.underlying40 rfl size40) rfl ?_
  exact ⟨rfl, hB2⟩
theorem usable33 (r : Rt) (w : World) : Calls Try.prog 33 #[rtV r] w fun e w' => e = .returned (.bool (usB r)) ∧ Below w.heap.size w w' := by
  obtain ⟨W, hW, hB, hz, hk⟩ := boxeds w (rtC r) 40
  have p0 := hk.at 0 (v := .int .i64 r.d) rfl
  have p1 := hk.at 1 (v := .int .i64 r.s) rfl
  have p2 := hk.at 2 (v := .int .i64 r.c) rfl
  have p3 := hk.at 3 (v := .int .i64 r.n) rfl
  have N := Lib.hid (node32 r.d)
  have F := Lib.hid (finite34 r W)
  cases hn : nodeB r.d
  · rw [hn] at N
    have HU := Lib.hid (show usB r = false by unfold usB; rw [hn]; rfl)
    clear hn hz hk
    go_enter Try.func33, Try.ntmps33
    go_wp2_with fail
    refine (N.out W).mono ?_
    rintro e w' ⟨rfl, rfl⟩
    go_wp2
    go_ret
    exact ⟨ret_bool HU.out.symm, hB⟩
  · rw [hn] at N
    by_cases hs : 0 ≤ r.s ∧ r.s ≤ 65535
    · have H1 := Lib.hid (show usB r = ((finB r && decide (r.s % 2 = 0)) || decide (r.c = 255)) by
        unfold usB; rw [hn, decide_eq_true hs.1, decide_eq_true hs.2]; simp)
      obtain ⟨s1, s2⟩ := hs
      cases hf : finB r
      · rw [hf] at F H1
        clear hn hz hk hf
        go_enter Try.func33, Try.ntmps33
        go_wp2_with fail
        refine (N.out W).mono ?_
        rintro e w' ⟨rfl, rfl⟩
        go_wp2_with fail
        refine F.out.mono ?_
        rintro e w2 ⟨rfl, hb2⟩
        have q2 := keep hb2 p2
        have hb3 := hB.trans (hb2.mono hB.size)
        go_wp2
        go_ret
        refine ⟨ret_bool ?_, hb3⟩
        rw [H1.out, Bool.eq_iff_iff]
        simp
      · rw [hf] at F H1
        clear hn hz hk hf
        go_enter Try.func33, Try.ntmps33
        go_wp2_with fail
        refine (N.out W).mono ?_
        rintro e w' ⟨rfl, rfl⟩
        go_wp2_with fail
        refine F.out.mono ?_
        rintro e w2 ⟨rfl, hb2⟩
        have q1 := keep hb2 p1
        have q2 := keep hb2 p2
        have hb3 := hB.trans (hb2.mono hB.size)
        go_wp2
        all_goals go_ret
        all_goals
          refine ⟨ret_bool ?_, hb3⟩
          rw [H1.out, Bool.eq_iff_iff]
          simp
          try omega
    · have HU := Lib.hid (show usB r = false by
        unfold usB; rw [Bool.eq_false_iff]; simp; intro _ a b; exact absurd ⟨a, b⟩ hs)
      have hs' : r.s < 0 ∨ (0 ≤ r.s ∧ 65535 < r.s) := by omega
      clear hn hz hk hs
      rcases hs' with h1 | ⟨h1, h2⟩
      all_goals
        go_enter Try.func33, Try.ntmps33
        go_wp2_with fail
        refine (N.out W).mono ?_
        rintro e w' ⟨rfl, rfl⟩
        go_wp2
        go_ret
        exact ⟨ret_bool HU.out.symm, hB⟩
theorem usable38 (r : Rt) (w : World) : Calls Try.prog 38 #[rtV r] w fun e w' => e = .returned (.bool (usB r)) ∧ Below w.heap.size w w' := by
  obtain ⟨W, hW, hB, hz, hk⟩ := boxeds w (rtC r) 40
  have p0 := hk.at 0 (v := .int .i64 r.d) rfl
  have p1 := hk.at 1 (v := .int .i64 r.s) rfl
  have p2 := hk.at 2 (v := .int .i64 r.c) rfl
  have p3 := hk.at 3 (v := .int .i64 r.n) rfl
  have F := Lib.hid (finite41 r W)
  clear hz hk
  by_cases hs : 0 ≤ r.d ∧ r.d ≤ 250 ∧ 0 ≤ r.s ∧ r.s ≤ 65535
  · have H1 := Lib.hid (show usB r = ((finB r && decide (r.s % 2 = 0)) || decide (r.c = 255)) by
      unfold usB nodeB; rw [decide_eq_true hs.1, decide_eq_true hs.2.1, decide_eq_true hs.2.2.1, decide_eq_true hs.2.2.2]; simp)
    obtain ⟨s1, s2, s3, s4⟩ := hs
    cases hf : finB r
    · rw [hf] at F H1
      clear hf
      go_enter Try.func38, Try.ntmps38
      go_wp2_with fail
      refine F.out.mono ?_
      rintro e w2 ⟨rfl, hb2⟩
      have q2 := keep hb2 p2
      have hb3 := hB.trans (hb2.mono hB.size)
      go_wp2
      go_ret
      refine ⟨ret_bool ?_, hb3⟩
      rw [H1.out, Bool.eq_iff_iff]
      simp
    · rw [hf] at F H1
      clear hf
      go_enter Try.func38, Try.ntmps38
      go_wp2_with fail
      refine F.out.mono ?_
      rintro e w2 ⟨rfl, hb2⟩
      have q1 := keep hb2 p1
      have q2 := keep hb2 p2
      have hb3 := hB.trans (hb2.mono hB.size)
      go_wp2
      all_goals go_ret
      all_goals
        refine ⟨ret_bool ?_, hb3⟩
        rw [H1.out, Bool.eq_iff_iff]
        simp
        try omega
  · have HU := Lib.hid (show usB r = false by
      unfold usB nodeB; rw [Bool.eq_false_iff]; simp; intro a b c d; exact absurd ⟨a, b, c, d⟩ hs)
    have hs' : r.d < 0 ∨ (0 ≤ r.d ∧ 250 < r.d) ∨ (0 ≤ r.d ∧ r.d ≤ 250 ∧ r.s < 0) ∨ (0 ≤ r.d ∧ r.d ≤ 250 ∧ 0 ≤ r.s ∧ 65535 < r.s) := by omega
    clear hs
    rcases hs' with h1 | ⟨h1, h2⟩ | ⟨h1, h2, h3⟩ | ⟨h1, h2, h3, h4⟩
    all_goals
      go_enter Try.func38, Try.ntmps38
      go_wp2
      go_ret
      exact ⟨ret_bool HU.out.symm, hB⟩
end Go.Proofs.Ytlmoeempblgdkaa
