/- The small walks, and that awake answers true. -/
import Derived.Test.YteabeflcffflnaaZf
import Derived.Test.YteabeflcffflnaaWf
namespace Go.Proofs.Yteabeflcffflnaa
open Go.RowKit Go.BigFrame

def wdI (m : Int) : Int := (clampM m / 1440 + 5) % 7
def odI (m : Int) : Int := clampM m % 1440
theorem wd_bd (m : Int) : 0 ≤ wdI m ∧ wdI m ≤ 6 := by unfold wdI; omega
theorem od_bd (m : Int) : 0 ≤ odI m ∧ odI m ≤ 1439 := by unfold odI; omega
theorem weekday16 (m : Int) (w : World) : Calls Try.prog 16 #[.int .i64 m] w fun e w' => e = .returned (.int .i64 (wdI m)) ∧ w = w' := by
  have hb := clampM_bd m
  go_enter Try.func16, Try.ntmps16
  go_wp2_with (go_at_call 36; refine (valid36 _ _).mono ?_; rintro e w' ⟨rfl, rfl⟩)
  go_ret
  exact ⟨rfl, rfl⟩
theorem weekday17 (m : Int) (w : World) : Calls Try.prog 17 #[.int .i64 m] w fun e w' => e = .returned (.int .i64 (wdI m)) ∧ w = w' := by
  have hb := clampM_bd m
  go_enter Try.func17, Try.ntmps17
  go_wp2_with (go_at_call 37; refine (valid37 _ _).mono ?_; rintro e w' ⟨rfl, rfl⟩)
  go_ret
  exact ⟨rfl, rfl⟩
theorem ofday18 (m : Int) (w : World) : Calls Try.prog 18 #[.int .i64 m] w fun e w' => e = .returned (.int .i64 (odI m)) ∧ w = w' := by
  have hb := clampM_bd m
  go_enter Try.func18, Try.ntmps18
  go_wp2_with (go_at_call 36; refine (valid36 _ _).mono ?_; rintro e w' ⟨rfl, rfl⟩)
  go_ret
  exact ⟨rfl, rfl⟩
theorem ofday19 (m : Int) (w : World) : Calls Try.prog 19 #[.int .i64 m] w fun e w' => e = .returned (.int .i64 (odI m)) ∧ w = w' := by
  have hb := clampM_bd m
  go_enter Try.func19, Try.ntmps19
  go_wp2_with (go_at_call 37; refine (valid37 _ _).mono ?_; rintro e w' ⟨rfl, rfl⟩)
  go_ret
  exact ⟨rfl, rfl⟩
theorem ofweek20 (m : Int) (w : World) : Calls Try.prog 20 #[.int .i64 m] w fun e w' => e = .returned (.int .i64 (1440 * wdI m + odI m)) ∧ w = w' := by
  have h1 := wd_bd m
  have h2 := od_bd m
  go_enter Try.func20, Try.ntmps20
  go_wp2_with (first | (go_at_call 16; refine (weekday16 _ _).mono ?_; rintro e w' ⟨rfl, rfl⟩) | (go_at_call 18; refine (ofday18 _ _).mono ?_; rintro e w' ⟨rfl, rfl⟩))
  go_ret
  exact ⟨rfl, rfl⟩
theorem ofweek21 (m : Int) (w : World) : Calls Try.prog 21 #[.int .i64 m] w fun e w' => e = .returned (.int .i64 (1440 * wdI m + odI m)) ∧ w = w' := by
  have h1 := wd_bd m
  have h2 := od_bd m
  go_enter Try.func21, Try.ntmps21
  go_wp2_with (first | (go_at_call 17; refine (weekday17 _ _).mono ?_; rintro e w' ⟨rfl, rfl⟩) | (go_at_call 19; refine (ofday19 _ _).mono ?_; rintro e w' ⟨rfl, rfl⟩))
  go_ret
  exact ⟨ret_int (by omega), rfl⟩

/-! awake's zone -/
abbrev awz : Ch := [(1000, 120)]
theorem awz_chk : chk 60 awz = 0 := by
  refine chk_0 ?_ (by decide) ?_
  · rintro (h | ⟨k, hk, h⟩)
    · unfold wideI at h; omega
    · obtain rfl : k = 0 := by simp at hk; omega
      simp [badC, wideI, co, ct] at h
  · rintro ⟨k, h1, hk, _⟩
    simp at hk; omega
theorem awz_loc (m : Int) : loc 60 awz m = clampM (clampM m + if 1000 ≤ clampM m then 120 else 60) := by
  unfold loc
  rw [offs_ok awz_chk]
  congr 2
theorem aw_utc1 : IsUtc (loc 60 awz) 1059 999 true := by
  refine .inl ⟨rfl, by omega, by omega, by rw [awz_loc]; decide, fun k h0 h1 => ?_⟩
  rw [awz_loc, clampM_id h0 (by omega), if_neg (by omega), clampM_id (by omega) (by omega)]; omega
theorem aw_utc2 : IsUtc (loc 60 awz) 1060 0 false := by
  refine .inr ⟨rfl, rfl, fun k h0 h1 => ?_⟩
  rw [awz_loc, clampM_id h0 h1]
  unfold clampM
  (repeat' split) <;> omega
theorem aw_of (w : World) : Calls Try.prog 13 #[.int .i64 86399] w fun e w' => e = .returned (.agg #[.int .i64 2000, .int .i64 2, .int .i64 29, .int .i64 23, .int .i64 59]) ∧ Below w.heap.size w w' := by
  refine (of13 86399 w).mono ?_
  rintro e w' ⟨y, m, d, rfl, hd, hb⟩
  have e : clampM 86399 = 86399 := by decide
  rw [e] at hd ⊢
  have := hd.uniq (show Cal.OfDay (86399 / 1440) 2000 2 29 from ⟨by decide, by decide, by decide, by decide, by decide, by decide⟩)
  obtain ⟨rfl, rfl, rfl⟩ := this
  exact ⟨rfl, hb⟩
theorem aw_at (w : World) : Calls Try.prog 11 #[.agg #[.int .i64 2000, .int .i64 3, .int .i64 1, .int .i64 0, .int .i64 0]] w fun e w' => e = .returned (.tuple #[.int .i64 86400, .int .i64 0]) ∧ Below w.heap.size w w' := by
  have := at11_yes 2000 3 1 0 0 w (by decide) (by decide)
  have e : atM 2000 3 1 0 0 = 86400 := by decide
  rwa [e] at this
theorem aw_at2 (w : World) : Calls Try.prog 11 #[.agg #[.int .i64 2100, .int .i64 2, .int .i64 29, .int .i64 0, .int .i64 0]] w fun e w' => e = .returned (.tuple #[.int .i64 0, .int .i64 2]) ∧ Below w.heap.size w w' :=
  at11_no 2100 2 29 0 0 w (by decide)
theorem aw_chg {w : World} {b : Nat} {T : TypeId} (h : Blk w b T #[.int .i64 1000, .int .i64 120]) : Chg w (some ⟨b, 0, none⟩) awz := by
  refine .inr ⟨b, 0, rfl, h.lt, fun k hk => ?_⟩
  obtain rfl : k = 0 := by simp at hk; omega
  exact ⟨h.at 0 rfl, h.at 1 rfl⟩
theorem aw_u1 (w : World) (A : Option Addr) (hc : Chg w A awz) : Calls Try.prog 28 #[.agg #[.int .i64 60, .slice A 1 1], .int .i64 1059] w fun e w' => e = .returned (.tuple #[.int .i64 999, .bool true]) ∧ Below w.heap.size w w' := by
  refine (utc28 60 A awz 1 1 1059 w (by decide) hc rfl).mono ?_
  rintro e w' ⟨a, ok, rfl, hu, hb⟩
  obtain ⟨rfl, rfl⟩ := hu.uniq aw_utc1
  exact ⟨rfl, hb⟩
theorem aw_u2 (w : World) (A : Option Addr) (hc : Chg w A awz) : Calls Try.prog 28 #[.agg #[.int .i64 60, .slice A 1 1], .int .i64 1060] w fun e w' => e = .returned (.tuple #[.int .i64 0, .bool false]) ∧ Below w.heap.size w w' := by
  refine (utc28 60 A awz 1 1 1060 w (by decide) hc rfl).mono ?_
  rintro e w' ⟨a, ok, rfl, hu, hb⟩
  obtain ⟨rfl, rfl⟩ := hu.uniq aw_utc2
  exact ⟨rfl, hb⟩
theorem aw_l1 (w : World) (A : Option Addr) (hc : Chg w A awz) : Calls Try.prog 26 #[.agg #[.int .i64 60, .slice A 1 1], .int .i64 999] w fun e w' => e = .returned (.int .i64 1059) ∧ Below w.heap.size w w' := by
  have := local26 60 A awz 1 1 999 w (by decide) hc rfl
  rwa [awz_loc, show clampM (clampM 999 + if 1000 ≤ clampM 999 then 120 else 60) = 1059 by decide] at this
theorem aw_l2 (w : World) (A : Option Addr) (hc : Chg w A awz) : Calls Try.prog 26 #[.agg #[.int .i64 60, .slice A 1 1], .int .i64 1000] w fun e w' => e = .returned (.int .i64 1120) ∧ Below w.heap.size w w' := by
  have := local26 60 A awz 1 1 1000 w (by decide) hc rfl
  rwa [awz_loc, show clampM (clampM 1000 + if 1000 ≤ clampM 1000 then 120 else 60) = 1120 by decide] at this
theorem aw_wd (w : World) : Calls Try.prog 16 #[.int .i64 0] w fun e w' => e = .returned (.int .i64 5) ∧ w = w' := by
  have := weekday16 0 w
  rwa [show wdI 0 = 5 by decide] at this
theorem aw_ow (w : World) : Calls Try.prog 20 #[.int .i64 1500] w fun e w' => e = .returned (.int .i64 8700) ∧ w = w' := by
  have := ofweek20 1500 w
  rwa [show 1440 * wdI 1500 + odI 1500 = 8700 by decide] at this

set_option maxHeartbeats 1000000 in
theorem awake15 (w : World) : Calls Try.prog 15 #[] w fun e w' => e = .returned (.bool true) ∧ Below w.heap.size w w' := by
  go_enter Try.func15, Try.ntmps15
  go_wp2_with fail
  refine (aw_at _).mono ?_
  rintro e w1 ⟨rfl, hb1⟩
  go_wp2_with fail
  refine (aw_at2 _).mono ?_
  rintro e w2 ⟨rfl, hb2⟩
  have hB2 : Below w.heap.size w w2 := hb1.trans (hb2.mono hb1.size)
  clear hb1 hb2
  obtain ⟨X, hX, hBX, hzX, hkX⟩ := boxed w2 #[.int .i64 1000, .int .i64 120] 46
  obtain ⟨Y, hY, hBY, hzY, hkY⟩ := boxed X #[.int .i64 60, .slice (some ⟨w2.heap.size, 0, none⟩) 1 1] 34
  have hc := (aw_chg hkX).later hBY
  have hB3 : Below w.heap.size w Y := (hB2.trans (hBX.mono hB2.size)).trans (hBY.mono (Nat.le_trans hB2.size hBX.size))
  have c0 := hkY.at 0 (v := .int .i64 60) rfl
  have c1 := hkY.at 1 (v := .slice (some ⟨w2.heap.size, 0, none⟩) 1 1) rfl
  clear hkX hkY hBX hBY hB2
  go_wp2_with fail
  refine (aw_u1 _ _ hc).mono ?_
  rintro e w3 ⟨rfl, hb⟩
  have hB4 := hB3.trans (hb.mono hB3.size)
  have hc4 := hc.later hb
  have d0 := keep hb c0
  have d1 := keep hb c1
  clear hb hc c0 c1 hB3 hX hY hzX hzY
  go_wp2_with fail
  refine (aw_u2 _ _ hc4).mono ?_
  rintro e w4 ⟨rfl, hb⟩
  have hB5 := hB4.trans (hb.mono hB4.size)
  have hc5 := hc4.later hb
  have e0 := keep hb d0
  have e1 := keep hb d1
  clear hb hc4 d0 d1 hB4
  go_wp2_with fail
  refine (aw_of _).mono ?_
  rintro e w5 ⟨rfl, hb⟩
  have hB6 := hB5.trans (hb.mono hB5.size)
  have hc6 := hc5.later hb
  have f0 := keep hb e0
  have f1 := keep hb e1
  clear hb hc5 e0 e1 hB5
  go_wp2_with fail
  refine (aw_wd _).mono ?_
  rintro e w' ⟨rfl, rfl⟩
  go_wp2_with fail
  refine (aw_ow _).mono ?_
  rintro e w' ⟨rfl, rfl⟩
  go_wp2_with fail
  refine (aw_l1 _ _ hc6).mono ?_
  rintro e w7 ⟨rfl, hb⟩
  have hB7 := hB6.trans (hb.mono hB6.size)
  have hc7 := hc6.later hb
  have g0 := keep hb f0
  have g1 := keep hb f1
  clear hb hc6 f0 f1 hB6
  go_wp2_with fail
  refine (aw_l2 _ _ hc7).mono ?_
  rintro e w8 ⟨rfl, hb⟩
  have hB8 := hB7.trans (hb.mono hB7.size)
  have hc8 := hc7.later hb
  have i0 := keep hb g0
  have i1 := keep hb g1
  clear hb hc7 g0 g1 hB7
  go_wp2_with fail
  refine (check22_ok 60 _ awz 1 1 _ (by decide) hc8 awz_chk rfl).mono ?_
  rintro e w9 ⟨rfl, hb⟩
  have hB9 := hB8.trans (hb.mono hB8.size)
  clear hb hc8 i0 i1 hB8
  go_wp2
  go_ret
  exact ⟨rfl, hB9⟩
end Go.Proofs.Yteabeflcffflnaa
