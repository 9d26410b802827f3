/- The walks of Of and the reference's Of. -/
import Derived.Test.YteabeflcffflnaaWd
namespace Go.Proofs.Yteabeflcffflnaa
open Go.RowKit Go.BigFrame

/-- what Of ends in: the date of the minute t (a valid one) -/
def OfEnd (t : Int) (w : World) (e : Ending) (w' : World) : Prop :=
  ∃ y m d : Int, e = .returned (.agg #[.int .i64 y, .int .i64 m, .int .i64 d, .int .i64 (t % 1440 / 60), .int .i64 (t % 60)]) ∧ Cal.OfDay (t / 1440) y m d ∧ Below w.heap.size w w'
theorem guess_le (q : Int) (h : 0 ≤ q) : Cal.since (2000 + q / 366) ≤ q := by unfold Cal.since; omega
theorem year_le {y q : Int} (h : Cal.since y ≤ q) (hq : q ≤ 745654) : y ≤ 4041 := by
  rcases Int.lt_or_le 4041 y with c | c
  · have := Cal.since_mono 4042 y (by omega)
    have e : Cal.since 4042 = 745826 := by decide
    omega
  · exact c

set_option maxHeartbeats 1000000 in
theorem of13 (n : Int) (w : World) : Calls Try.prog 13 #[.int .i64 n] w (OfEnd (clampM n) w) := by
  obtain ⟨W, hW, hB, hz, hk⟩ := boxed w #[.int .i64 0, .int .i64 0, .int .i64 0, .int .i64 0, .int .i64 0] 23
  have hcb := clampM_bd n
  go_enter Try.func13, Try.ntmps13
  go_wp2_with (go_at_call 36; refine (valid36 _ _).mono ?_; rintro e w' ⟨rfl, rfl⟩)
  generalize clampM n = t at *
  have hg := guess_le (t / 1440) (by omega)
  have hq : t / 1440 ≤ 745654 := by omega
  clear hW
  go_loop [4] (fun s => ∃ y : Int, 2000 ≤ y ∧ Cal.since y ≤ t / 1440 ∧ s = .int .i64 y) (fun s => (4042 - intOf s).toNat)
  case atStart => exact ⟨_, by omega, hg, rfl⟩
  case round =>
    obtain ⟨y, hy0, hy1, rfl⟩ := hrel
    have hy2 := year_le hy1 hq
    clear hg
    by_cases hs : Cal.since (y + 1) ≤ t / 1440
    · go_wp2_with (go_at_call 32; refine (since32 _ _ (by omega) (by omega)).mono ?_; rintro e w' ⟨rfl, rfl⟩)
      go_round
      case rel => exact ⟨y + 1, by omega, hs, rfl⟩
      case measure => simp [intOf]; omega
    · have sb := since_bd hy0 (by omega)
      have hl := Cal.since_succ y
      have hl1 := Cal.lpi_01 y
      have hr : t / 1440 - Cal.since y < Cal.bef y 13 := by rw [Cal.bef_13]; omega
      clear hl
      go_wp2_with (go_at_call 32; refine (since32 _ _ (by omega) (by omega)).mono ?_; rintro e w' ⟨rfl, rfl⟩)
      go_loopw [5] (fun s wr => ∃ m : Int, 1 ≤ m ∧ m ≤ 12 ∧ s = .int .i64 m ∧ t / 1440 - Cal.since y < Cal.bef y (m + 1) ∧ Below W.heap.size W wr) (fun s _ => (intOf s).toNat)
      case atStart => exact ⟨12, by omega, by omega, rfl, hr, Below.refl _ _⟩
      case round =>
        obtain ⟨m, hm0, hm1, rfl, hlt, hbr⟩ := hrel
        have bb := @bef_bd' y m hm0 hm1
        have bs := Cal.bef_succ y m hm0 hm1
        have b1 := Cal.bef_1 y
        have HS := Lib.hid bs
        clear bs
        by_cases hm : t / 1440 - Cal.since y < Cal.bef y m
        · have hm2 : 2 ≤ m := by
            rcases Int.lt_or_le 1 m with c | c
            · omega
            · obtain rfl : m = 1 := by omega
              omega
          go_wp2_with (go_at_call 33; refine (before33 _ _ _ (by omega) hm0 hm1).mono ?_; rintro e w1 ⟨rfl, hb1⟩)
          go_roundw
          case rel => exact ⟨m - 1, by omega, by omega, rfl, by rw [show m - 1 + 1 = m by omega]; exact hm, hbr.trans (hb1.mono hbr.size)⟩
          case measure => simp [intOf]; omega
        · go_wp2_with fail
          refine (before33 _ _ _ (by omega) hm0 hm1).mono ?_
          rintro e w1 ⟨rfl, hb1⟩
          go_wp2_with fail
          refine (before33 _ _ _ (by omega) hm0 hm1).mono ?_
          rintro e w2 ⟨rfl, hb2⟩
          have hk2 : Blk w2 w.heap.size 23 _ := (((hk.below hbr hz).below (hb1.mono hbr.size) hz).below (hb2.mono (Nat.le_trans hbr.size hb1.size)) hz)
          have k0 := (show w2.cell? ⟨w.heap.size, 0, none⟩ = some (.int .i64 0) from hk2.cell 0)
          have k1 := (show w2.cell? ⟨w.heap.size, 1, none⟩ = some (.int .i64 0) from hk2.cell 1)
          have k2 := (show w2.cell? ⟨w.heap.size, 2, none⟩ = some (.int .i64 0) from hk2.cell 2)
          have k3 := (show w2.cell? ⟨w.heap.size, 3, none⟩ = some (.int .i64 0) from hk2.cell 3)
          have k4 := (show w2.cell? ⟨w.heap.size, 4, none⟩ = some (.int .i64 0) from hk2.cell 4)
          have f0 := hk2.frozen 0
          have f1 := hk2.frozen 1
          have f2 := hk2.frozen 2
          have f3 := hk2.frozen 3
          have f4 := hk2.frozen 4
          have hB2 : Below w.heap.size w w2 := hB.trans (((hbr.trans (hb1.mono hbr.size)).trans (hb2.mono (Nat.le_trans hbr.size hb1.size))).mono (by omega))
          have hz2 : w.heap.size < w2.heap.size := hk2.lt
          clear hb1 hb2 hk2 hk hbr hB hz
          go_wp2
          refine bodyPost_ret (v := .agg #[.int .i64 y, .int .i64 m, .int .i64 (t / 1440 - Cal.since y - Cal.bef y m + 1), .int .i64 (t % 1440 / 60), .int .i64 (t % 60)]) (by simp [results, Try.results13, go_sem, k0, k1, k2, k3, k4]) rfl ⟨y, m, _, rfl, ⟨hy0, hm0, hm1, by omega, by have := HS.out; omega, by omega⟩, ?_⟩
          repeat (first | exact hB2 | refine Below.setCell ?_ (by simp) _)
end Go.Proofs.Yteabeflcffflnaa
