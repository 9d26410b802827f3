/- The walks of the laws on dates and parts. -/
import Derived.Test.YteabeflcffflnaaAw
namespace Go.Proofs.Yteabeflcffflnaa
open Go.RowKit Go.BigFrame

/-- both Ats answer alike -/
def AtSame (y m d h i a er : Int) : Prop :=
  (∀ w, Calls Try.prog 11 #[.agg #[.int .i64 y, .int .i64 m, .int .i64 d, .int .i64 h, .int .i64 i]] w fun e w' => e = .returned (.tuple #[.int .i64 a, .int .i64 er]) ∧ Below w.heap.size w w') ∧
  (∀ w, Calls Try.prog 12 #[.agg #[.int .i64 y, .int .i64 m, .int .i64 d, .int .i64 h, .int .i64 i]] w fun e w' => e = .returned (.tuple #[.int .i64 a, .int .i64 er]) ∧ Below w.heap.size w w')
theorem at_same (y m d h i : Int) : ∃ a er, AtSame y m d h i a er ∧ (er = 0 → existsB y m d h i = true ∧ a = atM y m d h i ∧ a ≤ 1073741824) ∧ (existsB y m d h i = true → atM y m d h i ≤ 1073741824 → er = 0 ∧ a = atM y m d h i) := by
  have key : existsR y m d h i = true → existsB y m d h i = true := fun c => by
    have := existsR_of c; unfold existsB; apply decide_eq_true; omega
  have key2 : existsB y m d h i = true → atM y m d h i ≤ 1073741824 → existsR y m d h i = true := fun c cm => by
    have hx := exists_of c
    unfold existsR; apply decide_eq_true
    have hy : y ≤ 4041 := by
      rcases Int.lt_or_le 4041 y with q | q
      · have := Cal.since_mono 4042 y (by omega)
        have e : Cal.since 4042 = 745826 := by decide
        have := @bef_bd' y m (by omega) (by omega)
        unfold atM at cm; omega
      · exact q
    omega
  cases hx : existsB y m d h i with
  | false =>
    have hr : existsR y m d h i = false := by
      cases c : existsR y m d h i with
      | false => rfl
      | true => rw [key c] at hx; cases hx
    exact ⟨0, 2, ⟨fun w => at11_no y m d h i w hx, fun w => at12_no y m d h i w hr⟩, fun h => by omega, fun h => by cases h⟩
  | true =>
    by_cases hm : atM y m d h i ≤ 1073741824
    · exact ⟨_, 0, ⟨fun w => at11_yes y m d h i w hx hm, fun w => at12_yes y m d h i w (key2 hx hm) hm⟩, fun _ => ⟨rfl, rfl, hm⟩, fun _ _ => ⟨rfl, rfl⟩⟩
    · refine ⟨0, 2, ⟨fun w => at11_far y m d h i w hx (by omega), fun w => ?_⟩, fun h => by omega, fun _ h => absurd h hm⟩
      cases hr : existsR y m d h i with
      | false => exact at12_no y m d h i w hr
      | true => exact at12_far y m d h i w hr (by omega)

set_option maxHeartbeats 1000000 in
theorem lawDates (t y m d h i : Int) (w : World) :
    Calls Try.prog 3 #[.int .i64 t, .agg #[.int .i64 y, .int .i64 m, .int .i64 d, .int .i64 h, .int .i64 i]] w fun e w' => e = .returned (.bool true) ∧ Below w.heap.size w w' := by
  obtain ⟨a, er, hsame, _, _⟩ := at_same y m d h i
  have HS := Lib.hid hsame
  clear hsame
  obtain ⟨W, hW, hB, hz, hk⟩ := boxed w #[.int .i64 y, .int .i64 m, .int .i64 d, .int .i64 h, .int .i64 i] 23
  have c0 := hk.at 0 (v := .int .i64 y) rfl
  have c1 := hk.at 1 (v := .int .i64 m) rfl
  have c2 := hk.at 2 (v := .int .i64 d) rfl
  have c3 := hk.at 3 (v := .int .i64 h) rfl
  have c4 := hk.at 4 (v := .int .i64 i) rfl
  go_enter Try.func3, Try.ntmps3
  go_wp2_with fail
  refine (HS.out.1 _).mono ?_
  rintro e w1 ⟨rfl, hb⟩
  have hB1 := hB.trans (hb.mono (Nat.le_of_lt hz))
  have d0 := keep hb c0
  have d1 := keep hb c1
  have d2 := keep hb c2
  have d3 := keep hb c3
  have d4 := keep hb c4
  clear hb c0 c1 c2 c3 c4 hk hW hB
  go_wp2_with fail
  refine (HS.out.2 _).mono ?_
  rintro e w2 ⟨rfl, hb⟩
  have hB2 := hB1.trans (hb.mono hB1.size)
  clear hb d0 d1 d2 d3 d4 hB1
  go_wp2_with fail
  refine (of13 _ _).mono ?_
  rintro e w3 ⟨y1, m1, d1, rfl, hd, hb⟩
  have hB3 := hB2.trans (hb.mono hB2.size)
  clear hb hB2
  have HD := Lib.hid hd
  clear hd
  go_wp2_with fail
  refine (of14 _ _).mono ?_
  rintro e w4 ⟨y2, m2, d2, rfl, hd, hb⟩
  obtain ⟨rfl, rfl, rfl⟩ := HD.out.uniq hd
  have hB4 := hB3.trans (hb.mono hB3.size)
  clear hb hB3 hd
  go_wp2_with fail
  refine (awake15 _).mono ?_
  rintro e w5 ⟨rfl, hb⟩
  have hB5 := hB4.trans (hb.mono hB4.size)
  clear hb hB4
  go_wp2
  go_ret
  exact ⟨rfl, hB5⟩

set_option maxHeartbeats 1000000 in
theorem lawParts (t : Int) (w : World) : Calls Try.prog 4 #[.int .i64 t] w fun e w' => e = .returned (.bool true) ∧ Below w.heap.size w w' := by
  go_enter Try.func4, Try.ntmps4
  go_wp2_with fail
  refine (weekday16 _ _).mono ?_
  rintro e w' ⟨rfl, rfl⟩
  go_wp2_with fail
  refine (weekday17 _ _).mono ?_
  rintro e w' ⟨rfl, rfl⟩
  go_wp2_with fail
  refine (ofday18 _ _).mono ?_
  rintro e w' ⟨rfl, rfl⟩
  go_wp2_with fail
  refine (ofday19 _ _).mono ?_
  rintro e w' ⟨rfl, rfl⟩
  go_wp2_with fail
  refine (ofweek20 _ _).mono ?_
  rintro e w' ⟨rfl, rfl⟩
  go_wp2_with fail
  refine (ofweek21 _ _).mono ?_
  rintro e w' ⟨rfl, rfl⟩
  go_wp2_with fail
  refine (awake15 _).mono ?_
  rintro e w5 ⟨rfl, hb⟩
  go_wp2
  go_ret
  exact ⟨rfl, hb⟩

theorem of_date {a y m d h i : Int} (a0 : 0 ≤ a) (a1 : a ≤ 1073741824) (hd : Cal.OfDay (a / 1440) y m d) (hh : a % 1440 / 60 = h) (hi : a % 60 = i) (w : World) :
    Calls Try.prog 13 #[.int .i64 a] w fun e w' => e = .returned (.agg #[.int .i64 y, .int .i64 m, .int .i64 d, .int .i64 h, .int .i64 i]) ∧ Below w.heap.size w w' := by
  refine (of13 a w).mono ?_
  rintro e w' ⟨y1, m1, d1, rfl, hd1, hb⟩
  rw [clampM_id a0 a1] at hd1 ⊢
  obtain ⟨rfl, rfl, rfl⟩ := hd.uniq hd1
  rw [hh, hi]
  exact ⟨rfl, hb⟩
theorem day_exists {t y m d : Int} (t0 : 0 ≤ t) (t1 : t ≤ 1073741824) (hd : Cal.OfDay (t / 1440) y m d) : existsB y m d (t % 1440 / 60) (t % 60) = true ∧ atM y m d (t % 1440 / 60) (t % 60) = t := by
  have h1 := year_le hd.year.1 (by omega)
  have := hd.y0; have := hd.m1; have := hd.m2; have := hd.d1; have := hd.d2; have := hd.num
  refine ⟨decide_eq_true ⟨by omega, by omega, by omega, by omega, by omega, by omega, by omega, by omega, by omega, by omega⟩, ?_⟩
  unfold atM; omega
theorem exists_day {y m d h i : Int} (hx : existsB y m d h i = true) : Cal.OfDay (atM y m d h i / 1440) y m d ∧ atM y m d h i % 1440 / 60 = h ∧ atM y m d h i % 60 = i ∧ 0 ≤ atM y m d h i := by
  obtain ⟨y0, y1, m0, m1, d0, d1, h0, h1, i0, i1⟩ := exists_of hx
  have sb := since_bd y0 (by omega)
  have bb := @bef_bd' y m m0 m1
  have e : atM y m d h i / 1440 = Cal.since y + Cal.bef y m + d - 1 := by unfold atM; omega
  refine ⟨⟨y0, m0, m1, d0, d1, e.symm⟩, ?_, ?_, ?_⟩ <;> unfold atM <;> omega

end Go.Proofs.Yteabeflcffflnaa
