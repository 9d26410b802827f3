/- The walks of the laws ClockYears, ClockLeast and ClockNext. -/
import Derived.Test.YteabeflcffflnaaLa
namespace Go.Proofs.Yteabeflcffflnaa
open Go.RowKit Go.BigFrame
set_option linter.unusedVariables false

theorem at_jan (y : Int) (w : World) (h0 : 2000 ≤ y) (h1 : y ≤ 4041) :
    Calls Try.prog 11 #[.agg #[.int .i64 y, .int .i64 1, .int .i64 1, .int .i64 0, .int .i64 0]] w fun e w' => e = .returned (.tuple #[.int .i64 (Cal.since y * 1440), .int .i64 0]) ∧ Below w.heap.size w w' := by
  have e : atM y 1 1 0 0 = Cal.since y * 1440 := by unfold atM; rw [Cal.bef_1]; omega
  have hm := Cal.since_mono y 4041 h1
  have e2 : Cal.since 4041 = 745461 := by decide
  have := at11_yes y 1 1 0 0 w (decide_eq_true ⟨by omega, by omega, by omega, by omega, by omega, by have := Cal.dim_pos y 1; omega, by omega, by omega, by omega, by omega⟩) (by rw [e]; omega)
  rwa [e] at this

theorem lp_cases (y : Int) : (y % 4 = 0 ∧ ¬ y % 100 = 0 ∧ Cal.lpi y = 1) ∨ (y % 4 = 0 ∧ y % 100 = 0 ∧ y % 400 = 0 ∧ Cal.lpi y = 1) ∨ (y % 4 = 0 ∧ y % 100 = 0 ∧ ¬ y % 400 = 0 ∧ Cal.lpi y = 0) ∨ (¬ y % 4 = 0 ∧ Cal.lpi y = 0) := by
  unfold Cal.lpi; split <;> omega
theorem jan2 (y k : Int) (w : World) (hy0 : 2000 ≤ y) (hy1 : y ≤ 4040) (hk : Cal.lpi y = k) :
    Calls Try.prog 11 #[.agg #[.int .i64 (y + 1), .int .i64 1, .int .i64 1, .int .i64 0, .int .i64 0]] w fun e w' => e = .returned (.tuple #[.int .i64 ((Cal.since y + 365 + k) * 1440), .int .i64 0]) ∧ Below w.heap.size w w' := by
  have := at_jan (y + 1) w (by omega) (by omega)
  rwa [Cal.since_succ y, hk] at this

set_option maxHeartbeats 1000000 in
theorem lawYears (y : Int) (w : World) : Calls Try.prog 9 #[.int .i64 y] w fun e w' => e = .returned (.bool true) ∧ Below w.heap.size w w' := by
  by_cases hy : 2000 ≤ y ∧ y ≤ 4040
  · obtain ⟨hy0, hy1⟩ := hy
    have sb := since_bd hy0 (by omega)
    have J0 : Hid (∀ w, Calls Try.prog 11 #[.agg #[.int .i64 y, .int .i64 1, .int .i64 1, .int .i64 0, .int .i64 0]] w fun e w' => e = .returned (.tuple #[.int .i64 (Cal.since y * 1440), .int .i64 0]) ∧ Below w.heap.size w w') := Lib.hid (fun w => at_jan y w hy0 (by omega))
    rcases lp_cases y with ⟨c1, c2, hk⟩ | ⟨c1, c2, c3, hk⟩ | ⟨c1, c2, c3, hk⟩ | ⟨c1, hk⟩
    all_goals
      have J1 := Lib.hid (fun w => jan2 y _ w hy0 hy1 hk)
      clear hk
      go_enter Try.func9, Try.ntmps9
      go_wp2_with fail
      refine (J0.out _).mono ?_
      rintro e w1 ⟨rfl, hb⟩
      go_wp2_with fail
      refine (J1.out _).mono ?_
      rintro e w2 ⟨rfl, hb2⟩
      have hB := hb.trans (hb2.mono hb.size)
      clear hb hb2 J0 J1
      go_wp2_with fail
      refine (awake15 _).mono ?_
      rintro e w3 ⟨rfl, hb⟩
      have hB3 := hB.trans (hb.mono hB.size)
      clear hb hB
      go_wp2
      go_ret
      exact ⟨rfl, hB3⟩
  · by_cases h0 : y < 2000
    · go_enter Try.func9, Try.ntmps9
      go_wp2_with fail
      refine (awake15 _).mono ?_
      rintro e w5 ⟨rfl, hb⟩
      go_wp2
      go_ret
      exact ⟨rfl, hb⟩
    · have h1 : 4040 < y := by omega
      go_enter Try.func9, Try.ntmps9
      go_wp2_with fail
      refine (awake15 _).mono ?_
      rintro e w5 ⟨rfl, hb⟩
      go_wp2
      go_ret
      exact ⟨rfl, hb⟩

set_option maxHeartbeats 1000000 in
theorem lawLeast (o : Int) (A : Option Addr) (l : Ch) (cap n : Nat) (L t : Int) (w : World) (hc : Chg w A l) (hn : l.length = n) (hcap : n ≤ 9223372036854775807) :
    Calls Try.prog 10 #[.agg #[.int .i64 o, .slice A n cap], .int .i64 L, .int .i64 t] w fun e w' => e = .returned (.bool true) ∧ Below w.heap.size w w' := by
  obtain ⟨W, hW, hB, hz, hk⟩ := boxed w #[.int .i64 o, .slice A n cap] 34
  have hc' := hc.later hB
  have k0 := hk.at 0 (v := .int .i64 o) rfl
  have k1 := hk.at 1 (v := .slice A n cap) rfl
  by_cases hl : l.length ≤ 70
  · have hn70 : n ≤ 70 := by omega
    have HN := Lib.hid hn
    have LO : Hid (∀ m w, Chg w A l → Calls Try.prog 26 #[.agg #[.int .i64 o, .slice A n cap], .int .i64 m] w fun e w' => e = .returned (.int .i64 (loc o l m)) ∧ Below w.heap.size w w') := Lib.hid (fun m w hc => local26 o A l cap n m w hl hc hn)
    clear hn
    go_enter Try.func10, Try.ntmps10
    go_wp2_with fail
    refine (utc28 o A l cap n L _ hl hc' HN.out).mono ?_
    rintro e w1 ⟨a, ok, rfl, hu, hb⟩
    have hB1 := hB.trans (hb.mono (Nat.le_of_lt hz))
    have hc1 := hc'.later hb
    have r0 := keep hb k0
    have r1 := keep hb k1
    clear hb hB hW k0 k1 hk hc hc'
    by_cases ht : 0 ≤ t ∧ t ≤ 1073741824
    · rcases hu with ⟨rfl, h0, h1, h2, h3⟩ | ⟨rfl, rfl, h3⟩
      · have hb2 : (loc o l a != L) = false := by rw [h2]; simp
        have H3 := Lib.hid h3
        clear h2 h3
        go_wp2_with fail
        refine (LO.out _ _ hc1).mono ?_
        rintro e w2 ⟨rfl, hb⟩
        have hB2 := hB1.trans (hb.mono hB1.size)
        have hc2 := hc1.later hb
        have s0 := keep hb r0
        have s1 := keep hb r1
        clear hb hB1 hc1 r0 r1
        go_wp2_with fail
        refine (LO.out _ _ hc2).mono ?_
        rintro e w3 ⟨rfl, hb⟩
        have hB3 := hB2.trans (hb.mono hB2.size)
        clear hb hB2 hc2 s0 s1
        by_cases he : loc o l t = L
        · have he2 : (loc o l t != L) = false := by rw [he]; simp
          have hle : a ≤ t := by
            rcases Int.lt_or_le t a with c | c
            · exact absurd he (H3.out t ht.1 c)
            · exact c
          clear he
          go_wp2_with fail
          refine (awake15 _).mono ?_
          rintro e w4 ⟨rfl, hb⟩
          have hB4 := hB3.trans (hb.mono hB3.size)
          clear hb hB3
          go_wp2
          go_ret
          exact ⟨rfl, hB4⟩
        · have he2 : (loc o l t != L) = true := by rw [bne_iff_ne]; exact he
          clear he
          go_wp2_with fail
          refine (awake15 _).mono ?_
          rintro e w4 ⟨rfl, hb⟩
          have hB4 := hB3.trans (hb.mono hB3.size)
          clear hb hB3
          go_wp2
          go_ret
          exact ⟨rfl, hB4⟩
      · have he2 : (loc o l t != L) = true := by rw [bne_iff_ne]; exact h3 t ht.1 ht.2
        clear h3
        go_wp2_with fail
        refine (LO.out _ _ hc1).mono ?_
        rintro e w2 ⟨rfl, hb⟩
        have hB2 := hB1.trans (hb.mono hB1.size)
        clear hb hB1 hc1 r0 r1
        go_wp2_with fail
        refine (awake15 _).mono ?_
        rintro e w4 ⟨rfl, hb⟩
        have hB4 := hB2.trans (hb.mono hB2.size)
        clear hb hB2
        go_wp2
        go_ret
        exact ⟨rfl, hB4⟩
    · have hto : t < 0 ∨ (0 ≤ t ∧ 1073741824 < t) := by omega
      clear ht
      rcases hu with ⟨rfl, h0, h1, h2, h3⟩ | ⟨rfl, rfl, h3⟩
      · have hb2 : (loc o l a != L) = false := by rw [h2]; simp
        clear h2 h3
        go_wp2_with fail
        refine (LO.out _ _ hc1).mono ?_
        rintro e w2 ⟨rfl, hb⟩
        have hB2 := hB1.trans (hb.mono hB1.size)
        clear hb hB1 hc1 r0 r1
        rcases hto with hto | ⟨hto, hto2⟩
        all_goals
          go_wp2_with fail
          refine (awake15 _).mono ?_
          rintro e w4 ⟨rfl, hb⟩
          have hB4 := hB2.trans (hb.mono hB2.size)
          clear hb hB2
          go_wp2
          go_ret
          exact ⟨rfl, hB4⟩
      · clear h3
        rcases hto with hto | ⟨hto, hto2⟩
        all_goals
          go_wp2_with fail
          refine (awake15 _).mono ?_
          rintro e w4 ⟨rfl, hb⟩
          have hB4 := hB1.trans (hb.mono hB1.size)
          clear hb hB1
          go_wp2
          go_ret
          exact ⟨rfl, hB4⟩
  · have hn70 : 70 < n := by omega
    clear hn hl
    go_enter Try.func10, Try.ntmps10
    go_wp2_with fail
    refine (awake15 _).mono ?_
    rintro e w5 ⟨rfl, hb⟩
    have hB5 := hB.trans (hb.mono (Nat.le_of_lt hz))
    clear hb hB
    go_wp2
    go_ret
    exact ⟨rfl, hB5⟩
end Go.Proofs.Yteabeflcffflnaa
