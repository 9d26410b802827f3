/- The walk of the law ClockNext. -/
import Derived.Test.YteabeflcffflnaaLa
namespace Go.Proofs.Yteabeflcffflnaa
open Go.RowKit Go.BigFrame
set_option linter.unusedVariables false

/-- x is the later one, from place K on -/
def LaterAt (xs ys : List Int) (K : Nat) : Prop := K < 5 ∧ ys.getD K 0 < xs.getD K 0 ∧ ∀ j, j < K → xs.getD j 0 = ys.getD j 0
theorem five_at {W : World} {g : Nat} {T : TypeId} {a b c d e : Int} (h : Blk W g T #[.int .i64 a, .int .i64 b, .int .i64 c, .int .i64 d, .int .i64 e]) {k : Nat} (hk : k < 5) :
    W.cell? ⟨g, k, none⟩ = some (.int .i64 (([a, b, c, d, e] : List Int).getD k 0)) := by
  obtain rfl | rfl | rfl | rfl | rfl : k = 0 ∨ k = 1 ∨ k = 2 ∨ k = 3 ∨ k = 4 := by omega
  · exact h.at 0 rfl
  · exact h.at 1 rfl
  · exact h.at 2 rfl
  · exact h.at 3 rfl
  · exact h.at 4 rfl

set_option maxHeartbeats 1000000 in
theorem later30 (a b c d e a' b' c' d' e' : Int) (w : World) (K : Nat) (hL : LaterAt [a, b, c, d, e] [a', b', c', d', e'] K) :
    Calls Try.prog 30 #[.agg #[.int .i64 a, .int .i64 b, .int .i64 c, .int .i64 d, .int .i64 e], .agg #[.int .i64 a', .int .i64 b', .int .i64 c', .int .i64 d', .int .i64 e']] w fun e w' => e = .returned (.bool true) ∧ Below w.heap.size w w' := by
  obtain ⟨W1, hW1, hB1, hz1, hk1⟩ := boxed w #[.int .i64 a, .int .i64 b, .int .i64 c, .int .i64 d, .int .i64 e] 23
  obtain ⟨W2, hW2, hB2, hz2, hk2⟩ := boxed W1 #[.int .i64 a', .int .i64 b', .int .i64 c', .int .i64 d', .int .i64 e'] 23
  obtain ⟨W3, hW3, hB3, hz3, hk3⟩ := boxed W2 #[.int .i64 a, .int .i64 b, .int .i64 c, .int .i64 d, .int .i64 e] 48
  obtain ⟨W4, hW4, hB4, hz4, hk4⟩ := boxed W3 #[.int .i64 a', .int .i64 b', .int .i64 c', .int .i64 d', .int .i64 e'] 48
  have hk12 := hk1.below hB2 hz1
  have p0 := hk12.at 0 (v := .int .i64 a) rfl
  have p1 := hk12.at 1 (v := .int .i64 b) rfl
  have p2 := hk12.at 2 (v := .int .i64 c) rfl
  have p3 := hk12.at 3 (v := .int .i64 d) rfl
  have p4 := hk12.at 4 (v := .int .i64 e) rfl
  have hk23 := hk2.below hB3 hz2
  have q0 := hk23.at 0 (v := .int .i64 a') rfl
  have q1 := hk23.at 1 (v := .int .i64 b') rfl
  have q2 := hk23.at 2 (v := .int .i64 c') rfl
  have q3 := hk23.at 3 (v := .int .i64 d') rfl
  have q4 := hk23.at 4 (v := .int .i64 e') rfl
  have hk34 := hk3.below hB4 hz3
  have hB : Below w.heap.size w W4 := ((hB1.trans (hB2.mono (by omega))).trans (hB3.mono (by omega))).trans (hB4.mono (by omega))
  have hzz : w.heap.size ≤ W4.heap.size := hB.size
  have HL := Lib.hid hL
  have hK5 := hL.1
  clear hk1 hk2 hk3 hB1 hB2 hB3 hB4 hk12 hk23 hL
  go_enter Try.func30, Try.ntmps30
  go_wp2
  clear p0 p1 p2 p3 p4 q0 q1 q2 q3 q4 hW1 hW2 hW3 hW4
  generalize hg2 : W2.heap.size = g2 at *
  generalize hg3 : W3.heap.size = g3 at *
  clear hg2 hg3 hz1 hz2 hz3 hz4
  go_loopw [7] (fun s wr => ∃ k : Nat, k ≤ K ∧ s = .int .i64 k ∧ Below W4.heap.size W4 wr) (fun s _ => 5 - (intOf s).toNat)
  case atStart => exact ⟨0, by omega, rfl, Below.refl _ _⟩
  case round =>
    obtain ⟨k, hk, rfl, hbr⟩ := hrel
    have x0 := five_at (hk34.later hbr) (k := k) (by omega)
    have y0 := five_at (hk4.later hbr) (k := k) (by omega)
    have C0 := After.cell x0
    have C1 := After.cell y0
    have hBr := hB.trans (hbr.mono hzz)
    by_cases hlt : k < K
    · have he := HL.out.2.2 k hlt
      rw [he] at x0 C0
      clear he
      generalize ([a', b', c', d', e'] : List Int).getD k 0 = v at *
      go_wp2
      refine wp_region_after (by kernel_rfl) (by kernel_rfl) ?_
      repeat (go_big_quiet_step (fail))
      refine wpQuiet_nil ?_
      intro w1 hb1
      have hb2 := hbr.trans (hb1.mono hbr.size)
      clear C0 C1 x0 y0 hb1
      go_wp2
      go_roundw
      case rel => exact ⟨k + 1, by omega, by go_num, hb2⟩
      case measure => simp [intOf]; omega
    · obtain rfl : k = K := by omega
      have hgt := HL.out.2.1
      generalize ([a', b', c', d', e'] : List Int).getD k 0 = v at *
      generalize ([a, b, c, d, e] : List Int).getD k 0 = u at *
      go_wp2
      refine wp_region_after (by kernel_rfl) (by kernel_rfl) ?_
      repeat (go_big_quiet_step (fail))
      refine wpQuiet_nil ?_
      intro w1 hb1
      have hb2 := hBr.trans (hb1.mono hBr.size)
      have x1 := After.cell (keep hb1 x0)
      have y1 := After.cell (keep hb1 y0)
      clear C0 C1 x0 y0 hb1
      go_wp2
      refine wp_region_after_tail 7 (by kernel_rfl) (by kernel_rfl) ?_
      simp only [List.take_succ_cons, List.take_zero, List.drop_succ_cons, List.drop_zero]
      repeat (go_big_quiet_step (fail))
      refine wpQuiet_nil ?_
      intro w2 hb2'
      have hb3 := hb2.trans (hb2'.mono hb2.size)
      clear x1 y1 hb2' hb2
      go_wp2
      go_ret
      exact ⟨ret_bool (by simp), hb3⟩

theorem dates_later {t t' y m d y' m' d' : Int} (h : Cal.OfDay (t / 1440) y m d) (h' : Cal.OfDay (t' / 1440) y' m' d') (hlt : t < t') :
    ∃ K, LaterAt [y', m', d', t' % 1440 / 60, t' % 60] [y, m, d, t % 1440 / 60, t % 60] K := by
  have e1 := h.year; have e2 := h'.year
  have l1 : y < y' + 1 := Cal.since_lt (by omega)
  by_cases hy : y = y'
  · subst hy
    have n1 := h.num; have n2 := h'.num
    have := h.m1; have := h.m2; have := h.d1; have := h.d2; have := h'.m1; have := h'.m2; have := h'.d1; have := h'.d2
    have b1 := Cal.bef_succ y m h.m1 h.m2; have b2 := Cal.bef_succ y m' h'.m1 h'.m2
    have hm : m ≤ m' := by
      rcases Int.lt_or_le m' m with c | c
      · have := Cal.bef_mono y (m' + 1) m (by omega) (by omega) (by omega); omega
      · exact c
    by_cases hm2 : m = m'
    · subst hm2
      by_cases hd : d = d'
      · subst hd
        by_cases hh : t % 1440 / 60 = t' % 1440 / 60
        · refine ⟨4, by omega, ?_, ?_⟩
          · show t % 60 < t' % 60; omega
          · intro j hj
            obtain rfl | rfl | rfl | rfl : j = 0 ∨ j = 1 ∨ j = 2 ∨ j = 3 := by omega
            · rfl
            · rfl
            · rfl
            · exact hh.symm
        · refine ⟨3, by omega, ?_, ?_⟩
          · show t % 1440 / 60 < t' % 1440 / 60; omega
          · intro j hj
            obtain rfl | rfl | rfl : j = 0 ∨ j = 1 ∨ j = 2 := by omega
            · rfl
            · rfl
            · rfl
      · refine ⟨2, by omega, ?_, ?_⟩
        · show d < d'; omega
        · intro j hj
          obtain rfl | rfl : j = 0 ∨ j = 1 := by omega
          · rfl
          · rfl
    · refine ⟨1, by omega, ?_, ?_⟩
      · show m < m'; omega
      · intro j hj
        obtain rfl : j = 0 := by omega
        rfl
  · exact ⟨0, by omega, (by show y < y'; omega), fun j hj => absurd hj (by omega)⟩

theorem next_facts {m : Int} (h0 : 0 ≤ m) (h1 : m ≤ 1073740384) : odI (m + 1440) = odI m ∧ wdI (m + 1440) = (wdI m + 1) % 7 ∧ 1440 * wdI (m + 1) + odI (m + 1) = (1440 * wdI m + odI m + 1) % 10080 := by
  unfold odI wdI
  rw [clampM_id h0 (by omega), clampM_id (show 0 ≤ m + 1440 by omega) (by omega), clampM_id (show 0 ≤ m + 1 by omega) (by omega)]
  omega

set_option maxHeartbeats 1000000 in
theorem lawNext (m n : Int) (w : World) : Calls Try.prog 8 #[.int .i64 m, .int .i64 n] w fun e w' => e = .returned (.bool true) ∧ Below w.heap.size w w' := by
  by_cases hin : 0 ≤ m ∧ m ≤ 1073740384 ∧ m < n ∧ n ≤ 1073741824
  · obtain ⟨h0, h1, h2, h3⟩ := hin
    have HF := Lib.hid (next_facts h0 h1)
    have hw := wd_bd m
    have ho := od_bd m
    go_enter Try.func8, Try.ntmps8
    go_wp2_with fail
    refine (of13 _ _).mono ?_
    rintro e w1 ⟨y1, m1, d1, rfl, hd1, hb1⟩
    go_wp2_with fail
    refine (of13 _ _).mono ?_
    rintro e w2 ⟨y2, m2, d2, rfl, hd2, hb2⟩
    rw [clampM_id (by omega) h3] at hd1 ⊢
    rw [clampM_id h0 (by omega)] at hd2 ⊢
    have HK := Lib.hid (dates_later hd2 hd1 h2)
    have hB2 := hb1.trans (hb2.mono hb1.size)
    clear hd1 hd2 hb1 hb2
    go_wp2_with fail
    obtain ⟨K, hK⟩ := HK.out
    refine (later30 _ _ _ _ _ _ _ _ _ _ _ K hK).mono ?_
    rintro e w3 ⟨rfl, hb⟩
    have hB3 := hB2.trans (hb.mono hB2.size)
    clear hb hB2 HK hK
    go_wp2_with fail
    refine (ofday18 _ _).mono ?_
    rintro e w' ⟨rfl, rfl⟩
    rw [HF.out.1]
    go_wp2_with fail
    refine (ofday18 _ _).mono ?_
    rintro e w' ⟨rfl, rfl⟩
    go_wp2_with fail
    refine (weekday16 _ _).mono ?_
    rintro e w' ⟨rfl, rfl⟩
    rw [HF.out.2.1]
    go_wp2_with fail
    refine (weekday16 _ _).mono ?_
    rintro e w' ⟨rfl, rfl⟩
    go_wp2_with fail
    refine (ofweek20 _ _).mono ?_
    rintro e w' ⟨rfl, rfl⟩
    rw [HF.out.2.2]
    go_wp2_with fail
    refine (ofweek20 _ _).mono ?_
    rintro e w' ⟨rfl, rfl⟩
    go_wp2_with fail
    refine (ofweek20 _ _).mono ?_
    rintro e w' ⟨rfl, rfl⟩
    go_wp2_with fail
    refine (weekday16 _ _).mono ?_
    rintro e w' ⟨rfl, rfl⟩
    go_wp2_with fail
    refine (ofday18 _ _).mono ?_
    rintro e w' ⟨rfl, rfl⟩
    go_wp2_with fail
    refine (awake15 _).mono ?_
    rintro e w4 ⟨rfl, hb⟩
    have hB4 := hB3.trans (hb.mono hB3.size)
    clear hb hB3
    go_wp2
    go_ret
    exact ⟨rfl, hB4⟩
  · have hout : m < 0 ∨ (0 ≤ m ∧ 1073740384 < m) ∨ (0 ≤ m ∧ m ≤ 1073740384 ∧ n ≤ m) ∨ (0 ≤ m ∧ m ≤ 1073740384 ∧ m < n ∧ 1073741824 < n) := by omega
    clear hin
    rcases hout with h0 | ⟨h0, h1⟩ | ⟨h0, h1, h2⟩ | ⟨h0, h1, h2, h3⟩
    all_goals
      go_enter Try.func8, Try.ntmps8
      go_wp2_with fail
      refine (awake15 _).mono ?_
      rintro e w5 ⟨rfl, hb⟩
      go_wp2
      go_ret
      exact ⟨rfl, hb⟩
end Go.Proofs.Yteabeflcffflnaa
