/- The walks of the law ClockBack. -/
import Derived.Test.YteabeflcffflnaaLa
namespace Go.Proofs.Yteabeflcffflnaa
open Go.RowKit Go.BigFrame
set_option linter.unusedVariables false

set_option maxHeartbeats 1000000 in
theorem lawBackIn0 (t y m d h i a er : Int) (w : World) (hsame : AtSame y m d h i a er) (hyes : er = 0 → existsB y m d h i = true ∧ a = atM y m d h i ∧ a ≤ 1073741824) (ht : 0 ≤ t ∧ t ≤ 1073741824) (he : er = 0) :
    Calls Try.prog 7 #[.int .i64 t, .agg #[.int .i64 y, .int .i64 m, .int .i64 d, .int .i64 h, .int .i64 i]] w fun e w' => e = .returned (.bool true) ∧ Below w.heap.size w w' := by
  have HS := Lib.hid hsame
  clear hsame
  obtain ⟨W, hW, hB, hz, hk⟩ := boxed w #[.int .i64 y, .int .i64 m, .int .i64 d, .int .i64 h, .int .i64 i] 23
  have AW : Hid (∀ w, Calls Try.prog 15 #[] w fun e w' => e = .returned (.bool true) ∧ Below w.heap.size w w') := Lib.hid awake15
  subst he
  obtain ⟨hx, ha, ham⟩ := hyes rfl
  obtain ⟨e1, e2, e3, e4⟩ := exists_day hx
  rw [← ha] at e1 e2 e3 e4
  have OF : Hid (∀ w, Calls Try.prog 13 #[.int .i64 a] w fun e w' => e = .returned (.agg #[.int .i64 y, .int .i64 m, .int .i64 d, .int .i64 h, .int .i64 i]) ∧ Below w.heap.size w w') := Lib.hid (of_date e4 ham e1 e2 e3)
  have g0 : decide (0 ≤ a) = true := decide_eq_true e4
  have g1 : decide (a ≤ 1073741824) = true := decide_eq_true ham
  clear hyes hx ha e1 e2 e3
  go_enter Try.func7, Try.ntmps7
  go_wp2_with fail
  refine (of13 _ _).mono ?_
  rintro e w1 ⟨y1, m1, d1, rfl, hd, hb⟩
  rw [clampM_id ht.1 ht.2] at hd ⊢
  have hde := day_exists ht.1 ht.2 hd
  have HA : Hid (∀ w, Calls Try.prog 11 #[.agg #[.int .i64 y1, .int .i64 m1, .int .i64 d1, .int .i64 (t % 1440 / 60), .int .i64 (t % 60)]] w fun e w' => e = .returned (.tuple #[.int .i64 t, .int .i64 0]) ∧ Below w.heap.size w w') := Lib.hid (fun w => by
    have := at11_yes y1 m1 d1 (t % 1440 / 60) (t % 60) w hde.1 (by rw [hde.2]; exact ht.2)
    rwa [hde.2] at this)
  clear hd hde
  have hk1 := hk.later hb
  have hB1 := hB.trans (hb.mono (Nat.le_of_lt hz))
  clear hb hk hB hW
  go_wp2_with fail
  refine (HA.out _).mono ?_
  rintro e w2 ⟨rfl, hb⟩
  have hk2 := hk1.later hb
  have hB2 := hB1.trans (hb.mono hB1.size)
  clear hb hk1 hB1 HA
  have c0 := hk2.at 0 (v := .int .i64 y) rfl
  have c1 := hk2.at 1 (v := .int .i64 m) rfl
  have c2 := hk2.at 2 (v := .int .i64 d) rfl
  have c3 := hk2.at 3 (v := .int .i64 h) rfl
  have c4 := hk2.at 4 (v := .int .i64 i) rfl
  go_wp2_with fail
  refine (HS.out.1 _).mono ?_
  rintro e w3 ⟨rfl, hb⟩
  have hB3 : Below w.heap.size w w3 := hB2.trans (hb.mono hB2.size)
  have C0 := After.cell (keep hb c0)
  have C1 := After.cell (keep hb c1)
  have C2 := After.cell (keep hb c2)
  have C3 := After.cell (keep hb c3)
  have C4 := After.cell (keep hb c4)
  have O : ∀ p : After w3, Calls Try.prog 13 #[.int .i64 a] p.w fun e w'' => e = .returned (.agg #[.int .i64 y, .int .i64 m, .int .i64 d, .int .i64 h, .int .i64 i]) ∧ ∃ q : After w3, w'' = q.w := fun p => p.of (OF.out p.w)
  have A : ∀ p : After w3, Calls Try.prog 15 #[] p.w fun e w'' => e = .returned (.bool true) ∧ ∃ q : After w3, w'' = q.w := fun p => p.of (AW.out p.w)
  clear c0 c1 c2 c3 c4 hb hB2 hk2
  go_wp2_with fail
  refine wp_region_after_tail 19 (by kernel_rfl) (by kernel_rfl) ?_
  simp only [List.take_succ_cons, List.take_zero, List.drop_succ_cons, List.drop_zero]
  repeat (go_big_quiet_step (first | (with_reducible exact O _) | (with_reducible exact A _)))
  refine wpQuiet_nil ?_
  intro w4 hb4
  have hB4 := hB3.trans (hb4.mono hB3.size)
  clear hb4 hB3
  go_wp2
  go_ret
  exact ⟨rfl, hB4⟩

set_option maxHeartbeats 1000000 in
theorem lawBackInN (t y m d h i a er : Int) (w : World) (hsame : AtSame y m d h i a er) (hyes : er = 0 → existsB y m d h i = true ∧ a = atM y m d h i ∧ a ≤ 1073741824) (ht : 0 ≤ t ∧ t ≤ 1073741824) (he : er ≠ 0) :
    Calls Try.prog 7 #[.int .i64 t, .agg #[.int .i64 y, .int .i64 m, .int .i64 d, .int .i64 h, .int .i64 i]] w fun e w' => e = .returned (.bool true) ∧ Below w.heap.size w w' := by
  have HS := Lib.hid hsame
  clear hsame
  obtain ⟨W, hW, hB, hz, hk⟩ := boxed w #[.int .i64 y, .int .i64 m, .int .i64 d, .int .i64 h, .int .i64 i] 23
  have AW : Hid (∀ w, Calls Try.prog 15 #[] w fun e w' => e = .returned (.bool true) ∧ Below w.heap.size w w') := Lib.hid awake15
  have hne : (er != 0) = true := by rw [bne_iff_ne]; exact he
  clear hyes he
  go_enter Try.func7, Try.ntmps7
  go_wp2_with fail
  refine (of13 _ _).mono ?_
  rintro e w1 ⟨y1, m1, d1, rfl, hd, hb⟩
  rw [clampM_id ht.1 ht.2] at hd ⊢
  have hde := day_exists ht.1 ht.2 hd
  have HA : Hid (∀ w, Calls Try.prog 11 #[.agg #[.int .i64 y1, .int .i64 m1, .int .i64 d1, .int .i64 (t % 1440 / 60), .int .i64 (t % 60)]] w fun e w' => e = .returned (.tuple #[.int .i64 t, .int .i64 0]) ∧ Below w.heap.size w w') := Lib.hid (fun w => by
    have := at11_yes y1 m1 d1 (t % 1440 / 60) (t % 60) w hde.1 (by rw [hde.2]; exact ht.2)
    rwa [hde.2] at this)
  clear hd hde
  have hk1 := hk.later hb
  have hB1 := hB.trans (hb.mono (Nat.le_of_lt hz))
  clear hb hk hB hW
  go_wp2_with fail
  refine (HA.out _).mono ?_
  rintro e w2 ⟨rfl, hb⟩
  have hk2 := hk1.later hb
  have hB2 := hB1.trans (hb.mono hB1.size)
  clear hb hk1 hB1 HA
  have c0 := hk2.at 0 (v := .int .i64 y) rfl
  have c1 := hk2.at 1 (v := .int .i64 m) rfl
  have c2 := hk2.at 2 (v := .int .i64 d) rfl
  have c3 := hk2.at 3 (v := .int .i64 h) rfl
  have c4 := hk2.at 4 (v := .int .i64 i) rfl
  go_wp2_with fail
  refine (HS.out.1 _).mono ?_
  rintro e w3 ⟨rfl, hb⟩
  have hB3 : Below w.heap.size w w3 := hB2.trans (hb.mono hB2.size)
  have A : ∀ p : After w3, Calls Try.prog 15 #[] p.w fun e w'' => e = .returned (.bool true) ∧ ∃ q : After w3, w'' = q.w := fun p => p.of (AW.out p.w)
  clear c0 c1 c2 c3 c4 hb hB2 hk2
  go_wp2_with fail
  refine wp_region_after_tail 19 (by kernel_rfl) (by kernel_rfl) ?_
  simp only [List.take_succ_cons, List.take_zero, List.drop_succ_cons, List.drop_zero]
  repeat (go_big_quiet_step ((with_reducible exact A _)))
  refine wpQuiet_nil ?_
  intro w4 hb4
  have hB4 := hB3.trans (hb4.mono hB3.size)
  clear hb4 hB3
  go_wp2
  go_ret
  exact ⟨rfl, hB4⟩

set_option maxHeartbeats 1000000 in
theorem lawBackLo0 (t y m d h i a er : Int) (w : World) (hsame : AtSame y m d h i a er) (hyes : er = 0 → existsB y m d h i = true ∧ a = atM y m d h i ∧ a ≤ 1073741824) (ht : t < 0) (he : er = 0) :
    Calls Try.prog 7 #[.int .i64 t, .agg #[.int .i64 y, .int .i64 m, .int .i64 d, .int .i64 h, .int .i64 i]] w fun e w' => e = .returned (.bool true) ∧ Below w.heap.size w w' := by
  have HS := Lib.hid hsame
  clear hsame
  obtain ⟨W, hW, hB, hz, hk⟩ := boxed w #[.int .i64 y, .int .i64 m, .int .i64 d, .int .i64 h, .int .i64 i] 23
  have AW : Hid (∀ w, Calls Try.prog 15 #[] w fun e w' => e = .returned (.bool true) ∧ Below w.heap.size w w') := Lib.hid awake15
  subst he
  obtain ⟨hx, ha, ham⟩ := hyes rfl
  obtain ⟨e1, e2, e3, e4⟩ := exists_day hx
  rw [← ha] at e1 e2 e3 e4
  have OF : Hid (∀ w, Calls Try.prog 13 #[.int .i64 a] w fun e w' => e = .returned (.agg #[.int .i64 y, .int .i64 m, .int .i64 d, .int .i64 h, .int .i64 i]) ∧ Below w.heap.size w w') := Lib.hid (of_date e4 ham e1 e2 e3)
  have g0 : decide (0 ≤ a) = true := decide_eq_true e4
  have g1 : decide (a ≤ 1073741824) = true := decide_eq_true ham
  clear hyes hx ha e1 e2 e3
  go_enter Try.func7, Try.ntmps7
  have hk2 := hk
  have hB2 := hB
  clear hk hB
  have c0 := hk2.at 0 (v := .int .i64 y) rfl
  have c1 := hk2.at 1 (v := .int .i64 m) rfl
  have c2 := hk2.at 2 (v := .int .i64 d) rfl
  have c3 := hk2.at 3 (v := .int .i64 h) rfl
  have c4 := hk2.at 4 (v := .int .i64 i) rfl
  go_wp2_with fail
  refine (HS.out.1 _).mono ?_
  rintro e w3 ⟨rfl, hb⟩
  have hB3 : Below w.heap.size w w3 := hB2.trans (hb.mono hB2.size)
  have C0 := After.cell (keep hb c0)
  have C1 := After.cell (keep hb c1)
  have C2 := After.cell (keep hb c2)
  have C3 := After.cell (keep hb c3)
  have C4 := After.cell (keep hb c4)
  have O : ∀ p : After w3, Calls Try.prog 13 #[.int .i64 a] p.w fun e w'' => e = .returned (.agg #[.int .i64 y, .int .i64 m, .int .i64 d, .int .i64 h, .int .i64 i]) ∧ ∃ q : After w3, w'' = q.w := fun p => p.of (OF.out p.w)
  have A : ∀ p : After w3, Calls Try.prog 15 #[] p.w fun e w'' => e = .returned (.bool true) ∧ ∃ q : After w3, w'' = q.w := fun p => p.of (AW.out p.w)
  clear c0 c1 c2 c3 c4 hb hB2 hk2
  go_wp2_with fail
  refine wp_region_after_tail 19 (by kernel_rfl) (by kernel_rfl) ?_
  simp only [List.take_succ_cons, List.take_zero, List.drop_succ_cons, List.drop_zero]
  repeat (go_big_quiet_step (first | (with_reducible exact O _) | (with_reducible exact A _)))
  refine wpQuiet_nil ?_
  intro w4 hb4
  have hB4 := hB3.trans (hb4.mono hB3.size)
  clear hb4 hB3
  go_wp2
  go_ret
  exact ⟨rfl, hB4⟩

set_option maxHeartbeats 1000000 in
theorem lawBackLoN (t y m d h i a er : Int) (w : World) (hsame : AtSame y m d h i a er) (hyes : er = 0 → existsB y m d h i = true ∧ a = atM y m d h i ∧ a ≤ 1073741824) (ht : t < 0) (he : er ≠ 0) :
    Calls Try.prog 7 #[.int .i64 t, .agg #[.int .i64 y, .int .i64 m, .int .i64 d, .int .i64 h, .int .i64 i]] w fun e w' => e = .returned (.bool true) ∧ Below w.heap.size w w' := by
  have HS := Lib.hid hsame
  clear hsame
  obtain ⟨W, hW, hB, hz, hk⟩ := boxed w #[.int .i64 y, .int .i64 m, .int .i64 d, .int .i64 h, .int .i64 i] 23
  have AW : Hid (∀ w, Calls Try.prog 15 #[] w fun e w' => e = .returned (.bool true) ∧ Below w.heap.size w w') := Lib.hid awake15
  have hne : (er != 0) = true := by rw [bne_iff_ne]; exact he
  clear hyes he
  go_enter Try.func7, Try.ntmps7
  have hk2 := hk
  have hB2 := hB
  clear hk hB
  have c0 := hk2.at 0 (v := .int .i64 y) rfl
  have c1 := hk2.at 1 (v := .int .i64 m) rfl
  have c2 := hk2.at 2 (v := .int .i64 d) rfl
  have c3 := hk2.at 3 (v := .int .i64 h) rfl
  have c4 := hk2.at 4 (v := .int .i64 i) rfl
  go_wp2_with fail
  refine (HS.out.1 _).mono ?_
  rintro e w3 ⟨rfl, hb⟩
  have hB3 : Below w.heap.size w w3 := hB2.trans (hb.mono hB2.size)
  have A : ∀ p : After w3, Calls Try.prog 15 #[] p.w fun e w'' => e = .returned (.bool true) ∧ ∃ q : After w3, w'' = q.w := fun p => p.of (AW.out p.w)
  clear c0 c1 c2 c3 c4 hb hB2 hk2
  go_wp2_with fail
  refine wp_region_after_tail 19 (by kernel_rfl) (by kernel_rfl) ?_
  simp only [List.take_succ_cons, List.take_zero, List.drop_succ_cons, List.drop_zero]
  repeat (go_big_quiet_step ((with_reducible exact A _)))
  refine wpQuiet_nil ?_
  intro w4 hb4
  have hB4 := hB3.trans (hb4.mono hB3.size)
  clear hb4 hB3
  go_wp2
  go_ret
  exact ⟨rfl, hB4⟩

set_option maxHeartbeats 1000000 in
theorem lawBackHi0 (t y m d h i a er : Int) (w : World) (hsame : AtSame y m d h i a er) (hyes : er = 0 → existsB y m d h i = true ∧ a = atM y m d h i ∧ a ≤ 1073741824) (ht : 1073741824 < t) (he : er = 0) :
    Calls Try.prog 7 #[.int .i64 t, .agg #[.int .i64 y, .int .i64 m, .int .i64 d, .int .i64 h, .int .i64 i]] w fun e w' => e = .returned (.bool true) ∧ Below w.heap.size w w' := by
  have HS := Lib.hid hsame
  clear hsame
  obtain ⟨W, hW, hB, hz, hk⟩ := boxed w #[.int .i64 y, .int .i64 m, .int .i64 d, .int .i64 h, .int .i64 i] 23
  have AW : Hid (∀ w, Calls Try.prog 15 #[] w fun e w' => e = .returned (.bool true) ∧ Below w.heap.size w w') := Lib.hid awake15
  subst he
  obtain ⟨hx, ha, ham⟩ := hyes rfl
  obtain ⟨e1, e2, e3, e4⟩ := exists_day hx
  rw [← ha] at e1 e2 e3 e4
  have OF : Hid (∀ w, Calls Try.prog 13 #[.int .i64 a] w fun e w' => e = .returned (.agg #[.int .i64 y, .int .i64 m, .int .i64 d, .int .i64 h, .int .i64 i]) ∧ Below w.heap.size w w') := Lib.hid (of_date e4 ham e1 e2 e3)
  have g0 : decide (0 ≤ a) = true := decide_eq_true e4
  have g1 : decide (a ≤ 1073741824) = true := decide_eq_true ham
  clear hyes hx ha e1 e2 e3
  go_enter Try.func7, Try.ntmps7
  have hk2 := hk
  have hB2 := hB
  clear hk hB
  have c0 := hk2.at 0 (v := .int .i64 y) rfl
  have c1 := hk2.at 1 (v := .int .i64 m) rfl
  have c2 := hk2.at 2 (v := .int .i64 d) rfl
  have c3 := hk2.at 3 (v := .int .i64 h) rfl
  have c4 := hk2.at 4 (v := .int .i64 i) rfl
  go_wp2_with fail
  refine (HS.out.1 _).mono ?_
  rintro e w3 ⟨rfl, hb⟩
  have hB3 : Below w.heap.size w w3 := hB2.trans (hb.mono hB2.size)
  have C0 := After.cell (keep hb c0)
  have C1 := After.cell (keep hb c1)
  have C2 := After.cell (keep hb c2)
  have C3 := After.cell (keep hb c3)
  have C4 := After.cell (keep hb c4)
  have O : ∀ p : After w3, Calls Try.prog 13 #[.int .i64 a] p.w fun e w'' => e = .returned (.agg #[.int .i64 y, .int .i64 m, .int .i64 d, .int .i64 h, .int .i64 i]) ∧ ∃ q : After w3, w'' = q.w := fun p => p.of (OF.out p.w)
  have A : ∀ p : After w3, Calls Try.prog 15 #[] p.w fun e w'' => e = .returned (.bool true) ∧ ∃ q : After w3, w'' = q.w := fun p => p.of (AW.out p.w)
  clear c0 c1 c2 c3 c4 hb hB2 hk2
  go_wp2_with fail
  refine wp_region_after_tail 19 (by kernel_rfl) (by kernel_rfl) ?_
  simp only [List.take_succ_cons, List.take_zero, List.drop_succ_cons, List.drop_zero]
  repeat (go_big_quiet_step (first | (with_reducible exact O _) | (with_reducible exact A _)))
  refine wpQuiet_nil ?_
  intro w4 hb4
  have hB4 := hB3.trans (hb4.mono hB3.size)
  clear hb4 hB3
  go_wp2
  go_ret
  exact ⟨rfl, hB4⟩

set_option maxHeartbeats 1000000 in
theorem lawBackHiN (t y m d h i a er : Int) (w : World) (hsame : AtSame y m d h i a er) (hyes : er = 0 → existsB y m d h i = true ∧ a = atM y m d h i ∧ a ≤ 1073741824) (ht : 1073741824 < t) (he : er ≠ 0) :
    Calls Try.prog 7 #[.int .i64 t, .agg #[.int .i64 y, .int .i64 m, .int .i64 d, .int .i64 h, .int .i64 i]] w fun e w' => e = .returned (.bool true) ∧ Below w.heap.size w w' := by
  have HS := Lib.hid hsame
  clear hsame
  obtain ⟨W, hW, hB, hz, hk⟩ := boxed w #[.int .i64 y, .int .i64 m, .int .i64 d, .int .i64 h, .int .i64 i] 23
  have AW : Hid (∀ w, Calls Try.prog 15 #[] w fun e w' => e = .returned (.bool true) ∧ Below w.heap.size w w') := Lib.hid awake15
  have hne : (er != 0) = true := by rw [bne_iff_ne]; exact he
  clear hyes he
  go_enter Try.func7, Try.ntmps7
  have hk2 := hk
  have hB2 := hB
  clear hk hB
  have c0 := hk2.at 0 (v := .int .i64 y) rfl
  have c1 := hk2.at 1 (v := .int .i64 m) rfl
  have c2 := hk2.at 2 (v := .int .i64 d) rfl
  have c3 := hk2.at 3 (v := .int .i64 h) rfl
  have c4 := hk2.at 4 (v := .int .i64 i) rfl
  go_wp2_with fail
  refine (HS.out.1 _).mono ?_
  rintro e w3 ⟨rfl, hb⟩
  have hB3 : Below w.heap.size w w3 := hB2.trans (hb.mono hB2.size)
  have A : ∀ p : After w3, Calls Try.prog 15 #[] p.w fun e w'' => e = .returned (.bool true) ∧ ∃ q : After w3, w'' = q.w := fun p => p.of (AW.out p.w)
  clear c0 c1 c2 c3 c4 hb hB2 hk2
  go_wp2_with fail
  refine wp_region_after_tail 19 (by kernel_rfl) (by kernel_rfl) ?_
  simp only [List.take_succ_cons, List.take_zero, List.drop_succ_cons, List.drop_zero]
  repeat (go_big_quiet_step ((with_reducible exact A _)))
  refine wpQuiet_nil ?_
  intro w4 hb4
  have hB4 := hB3.trans (hb4.mono hB3.size)
  clear hb4 hB3
  go_wp2
  go_ret
  exact ⟨rfl, hB4⟩

theorem lawBack (t y m d h i : Int) (w : World) :
    Calls Try.prog 7 #[.int .i64 t, .agg #[.int .i64 y, .int .i64 m, .int .i64 d, .int .i64 h, .int .i64 i]] w fun e w' => e = .returned (.bool true) ∧ Below w.heap.size w w' := by
  obtain ⟨a, er, hsame, hyes, _⟩ := at_same y m d h i
  by_cases he : er = 0
  · rcases Int.lt_or_le t 0 with c | c
    · exact lawBackLo0 t y m d h i a er w hsame hyes c he
    · rcases Int.lt_or_le 1073741824 t with c2 | c2
      · exact lawBackHi0 t y m d h i a er w hsame hyes c2 he
      · exact lawBackIn0 t y m d h i a er w hsame hyes ⟨c, c2⟩ he
  · rcases Int.lt_or_le t 0 with c | c
    · exact lawBackLoN t y m d h i a er w hsame hyes c he
    · rcases Int.lt_or_le 1073741824 t with c2 | c2
      · exact lawBackHiN t y m d h i a er w hsame hyes c2 he
      · exact lawBackInN t y m d h i a er w hsame hyes ⟨c, c2⟩ he
end Go.Proofs.Yteabeflcffflnaa
