/- The walks of the reference's At. -/
import Derived.Test.YteabeflcffflnaaWc
namespace Go.Proofs.Yteabeflcffflnaa
open Go.RowKit Go.BigFrame
theorem ret_tup2 {k : IntKind} {a b : Int} {v : Value} (h : a = b) : Ending.returned (.tuple #[.int k a, v]) = .returned (.tuple #[.int k b, v]) := by rw [h]

/-- the reference's test -/
def existsR (y m d h i : Int) : Bool := decide (2000 ≤ y ∧ y ≤ 4041 ∧ 1 ≤ m ∧ m ≤ 12 ∧ 1 ≤ d ∧ d ≤ Cal.dim y m ∧ 0 ≤ h ∧ h ≤ 23 ∧ 0 ≤ i ∧ i ≤ 59)
theorem existsR_of {y m d h i : Int} (hx : existsR y m d h i = true) : 2000 ≤ y ∧ y ≤ 4041 ∧ 1 ≤ m ∧ m ≤ 12 ∧ 1 ≤ d ∧ d ≤ Cal.dim y m ∧ 0 ≤ h ∧ h ≤ 23 ∧ 0 ≤ i ∧ i ≤ 59 := by
  simpa [existsR] using hx
theorem existsR_no {y m d h i : Int} (hx : existsR y m d h i = false) : ¬ (2000 ≤ y ∧ y ≤ 4041 ∧ 1 ≤ m ∧ m ≤ 12 ∧ 1 ≤ d ∧ d ≤ Cal.dim y m ∧ 0 ≤ h ∧ h ≤ 23 ∧ 0 ≤ i ∧ i ≤ 59) := by
  intro h'; rw [existsR, decide_eq_true h'] at hx; cases hx

set_option maxHeartbeats 2000000 in
theorem at12_no (y m d h i : Int) (w : World) (hx : existsR y m d h i = false) :
    Calls Try.prog 12 #[.agg #[.int .i64 y, .int .i64 m, .int .i64 d, .int .i64 h, .int .i64 i]] w fun e w' => e = .returned (.tuple #[.int .i64 0, .int .i64 2]) ∧ Below w.heap.size w w' := by
  obtain ⟨W, hW, hB, hz, hk⟩ := boxed w #[.int .i64 y, .int .i64 m, .int .i64 d, .int .i64 h, .int .i64 i] 23
  have C0 := After.cell (show W.cell? ⟨w.heap.size, 0, none⟩ = some (.int .i64 y) from hk.cell 0)
  have C1 := After.cell (show W.cell? ⟨w.heap.size, 1, none⟩ = some (.int .i64 m) from hk.cell 1)
  have C2 := After.cell (show W.cell? ⟨w.heap.size, 2, none⟩ = some (.int .i64 d) from hk.cell 2)
  have C3 := After.cell (show W.cell? ⟨w.heap.size, 3, none⟩ = some (.int .i64 h) from hk.cell 3)
  have C4 := After.cell (show W.cell? ⟨w.heap.size, 4, none⟩ = some (.int .i64 i) from hk.cell 4)
  have HX := Lib.hid (existsR_no hx)
  clear hk hx
  go_enter Try.func12, Try.ntmps12
  go_wp2
  clear hW
  have L : ∀ p : After W, 1 ≤ m → m ≤ 12 → 0 ≤ y → Calls Try.prog 34 #[.int .i64 y, .int .i64 m] p.w fun e w'' => e = .returned (.int .i64 (Cal.dim y m)) ∧ ∃ q : After W, w'' = q.w := fun p h1 h2 h0 => p.same (month34 y m p.w h0)
  refine wp_region_after (by kernel_rfl) (by kernel_rfl) ?_
  repeat (any_goals (first | go_big_quiet_step (exact L _ (by omega) (by omega) (by omega)) | quiet_step (exact L _ (by omega) (by omega) (by omega)) | (refine wpQuiet_step (fun K hK => ?_); go_simp; split <;> (refine hK _ ?_; clear hK K))))
  all_goals (refine wpQuiet_nil ?_; intro w1 hb1)
  all_goals
    have hB1 : Below w.heap.size w w1 := hB.trans (hb1.mono (by omega))
    clear hb1 hB C0 C1 C2 C3 C4 L
    go_wp2
  all_goals go_light
  all_goals first | (have hx := HX.out; exfalso; omega) | (go_ret2; exact ⟨rfl, hB1⟩)

set_option maxHeartbeats 2000000 in
theorem at12_yes (y m d h i : Int) (w : World) (hx : existsR y m d h i = true) (hM : atM y m d h i ≤ 1073741824) :
    Calls Try.prog 12 #[.agg #[.int .i64 y, .int .i64 m, .int .i64 d, .int .i64 h, .int .i64 i]] w fun e w' => e = .returned (.tuple #[.int .i64 (atM y m d h i), .int .i64 0]) ∧ Below w.heap.size w w' := by
  obtain ⟨W, hW, hB, hz, hk⟩ := boxed w #[.int .i64 y, .int .i64 m, .int .i64 d, .int .i64 h, .int .i64 i] 23
  have c0 := (show W.cell? ⟨w.heap.size, 0, none⟩ = some (.int .i64 y) from hk.cell 0)
  have c1 := (show W.cell? ⟨w.heap.size, 1, none⟩ = some (.int .i64 m) from hk.cell 1)
  have c2 := (show W.cell? ⟨w.heap.size, 2, none⟩ = some (.int .i64 d) from hk.cell 2)
  have c3 := (show W.cell? ⟨w.heap.size, 3, none⟩ = some (.int .i64 h) from hk.cell 3)
  have c4 := (show W.cell? ⟨w.heap.size, 4, none⟩ = some (.int .i64 i) from hk.cell 4)
  have C0 := After.cell c0
  have C1 := After.cell c1
  have C2 := After.cell c2
  have C3 := After.cell c3
  have C4 := After.cell c4
  obtain ⟨y0, y1, m0, m1, d0, d1, h0, h1, i0, i1⟩ := existsR_of hx
  clear hk hx
  go_enter Try.func12, Try.ntmps12
  go_wp2
  clear hW
  have L : ∀ p : After W, 1 ≤ m → m ≤ 12 → 0 ≤ y → Calls Try.prog 34 #[.int .i64 y, .int .i64 m] p.w fun e w'' => e = .returned (.int .i64 (Cal.dim y m)) ∧ ∃ q : After W, w'' = q.w := fun p h1 h2 h0 => p.same (month34 y m p.w h0)
  have e0 : decide (y < 2000) = false := decide_eq_false (by omega)
  have e1 : decide (4041 < y) = false := decide_eq_false (by omega)
  have e2 : decide (m < 1) = false := decide_eq_false (by omega)
  have e3 : decide (12 < m) = false := decide_eq_false (by omega)
  have e4 : decide (d < 1) = false := decide_eq_false (by omega)
  have e5 : decide (Cal.dim y m < d) = false := decide_eq_false (by omega)
  have e6 : decide (h < 0) = false := decide_eq_false (by omega)
  have e7 : decide (23 < h) = false := decide_eq_false (by omega)
  have e8 : decide (i < 0) = false := decide_eq_false (by omega)
  have e9 : decide (59 < i) = false := decide_eq_false (by omega)
  refine wp_region_after (by kernel_rfl) (by kernel_rfl) ?_
  repeat (go_big_quiet_step (exact L _ (by omega) (by omega) (by omega)))
  refine wpQuiet_nil ?_
  clear e0 e1 e2 e3 e4 e5 e6 e7 e8 e9
  intro w1 hb1
  have hB1 : Below w.heap.size w w1 := hB.trans (hb1.mono (by omega))
  have hz1 : w.heap.size < w1.heap.size := by have := hb1.size; omega
  have k0 := keep hb1 c0
  have k1 := keep hb1 c1
  have k2 := keep hb1 c2
  have k3 := keep hb1 c3
  have k4 := keep hb1 c4
  have sb := since_bd y0 (by omega)
  have bb := @bef_bd' y m m0 m1
  have db := Cal.dim_pos y m
  have hd : d ≤ 31 := by omega
  unfold atM at hM
  have HM := Lib.hid hM
  clear hb1 hB C0 C1 C2 C3 C4 L c0 c1 c2 c3 c4 db d1 hz hM
  go_wp2
  go_loop [4, 5] (fun n t => ∃ k : Int, 2000 ≤ k ∧ k ≤ y ∧ t = .int .i64 k ∧ n = .int .i64 (d - 1 + Cal.since k)) (fun _ t => (y - intOf t).toNat)
  case atStart => exact ⟨2000, by omega, by omega, rfl, by simp [Cal.since]⟩
  case round =>
    obtain ⟨k, hk0, hk1, rfl, rfl⟩ := hrel
    have kb := since_bd hk0 (by omega)
    by_cases hlt : k < y
    · have hs := Lib.hid (Cal.since_succ k)
      have hl := Cal.lpi_01 k
      go_wp2_with (go_at_call 35; refine (year35 _ _ (by omega)).mono ?_; rintro e w' ⟨rfl, rfl⟩)
      go_round
      case rel => exact ⟨k + 1, by omega, by omega, rfl, by rw [hs.out]; congr 1; omega⟩
      case measure => simp [intOf]; omega
    · obtain rfl : k = y := by omega
      go_wp2
      go_loop [4, 6] (fun n t => ∃ j : Int, 1 ≤ j ∧ j ≤ m ∧ t = .int .i64 j ∧ n = .int .i64 (d - 1 + Cal.since k + Cal.bef k j)) (fun _ t => (m - intOf t).toNat)
      case atStart => exact ⟨1, by omega, by omega, rfl, by simp [Cal.bef]⟩
      case round =>
        obtain ⟨j, hj0, hj1, rfl, rfl⟩ := hrel
        have jb := @bef_bd' k j hj0 (by omega)
        by_cases hlj : j < m
        · have hs := Lib.hid (Cal.bef_succ k j hj0 (by omega))
          have hl := Cal.dim_pos k j
          go_wp2_with (go_at_call 34; refine (month34 _ _ _ (by omega)).mono ?_; rintro e w' ⟨rfl, rfl⟩)
          go_round
          case rel => exact ⟨j + 1, by omega, by omega, rfl, by rw [hs.out]; congr 1; omega⟩
          case measure => simp [intOf]; omega
        · obtain rfl : j = m := by omega
          have hM := HM.out
          go_wp2
          all_goals first | (go_light; exfalso; omega) | (go_ret2; exact ⟨ret_tup2 (by unfold atM; omega), hB1⟩)

set_option maxHeartbeats 2000000 in
theorem at12_far (y m d h i : Int) (w : World) (hx : existsR y m d h i = true) (hM : 1073741824 < atM y m d h i) :
    Calls Try.prog 12 #[.agg #[.int .i64 y, .int .i64 m, .int .i64 d, .int .i64 h, .int .i64 i]] w fun e w' => e = .returned (.tuple #[.int .i64 0, .int .i64 2]) ∧ Below w.heap.size w w' := by
  obtain ⟨W, hW, hB, hz, hk⟩ := boxed w #[.int .i64 y, .int .i64 m, .int .i64 d, .int .i64 h, .int .i64 i] 23
  have c0 := (show W.cell? ⟨w.heap.size, 0, none⟩ = some (.int .i64 y) from hk.cell 0)
  have c1 := (show W.cell? ⟨w.heap.size, 1, none⟩ = some (.int .i64 m) from hk.cell 1)
  have c2 := (show W.cell? ⟨w.heap.size, 2, none⟩ = some (.int .i64 d) from hk.cell 2)
  have c3 := (show W.cell? ⟨w.heap.size, 3, none⟩ = some (.int .i64 h) from hk.cell 3)
  have c4 := (show W.cell? ⟨w.heap.size, 4, none⟩ = some (.int .i64 i) from hk.cell 4)
  have C0 := After.cell c0
  have C1 := After.cell c1
  have C2 := After.cell c2
  have C3 := After.cell c3
  have C4 := After.cell c4
  obtain ⟨y0, y1, m0, m1, d0, d1, h0, h1, i0, i1⟩ := existsR_of hx
  clear hk hx
  go_enter Try.func12, Try.ntmps12
  go_wp2
  clear hW
  have L : ∀ p : After W, 1 ≤ m → m ≤ 12 → 0 ≤ y → Calls Try.prog 34 #[.int .i64 y, .int .i64 m] p.w fun e w'' => e = .returned (.int .i64 (Cal.dim y m)) ∧ ∃ q : After W, w'' = q.w := fun p h1 h2 h0 => p.same (month34 y m p.w h0)
  have e0 : decide (y < 2000) = false := decide_eq_false (by omega)
  have e1 : decide (4041 < y) = false := decide_eq_false (by omega)
  have e2 : decide (m < 1) = false := decide_eq_false (by omega)
  have e3 : decide (12 < m) = false := decide_eq_false (by omega)
  have e4 : decide (d < 1) = false := decide_eq_false (by omega)
  have e5 : decide (Cal.dim y m < d) = false := decide_eq_false (by omega)
  have e6 : decide (h < 0) = false := decide_eq_false (by omega)
  have e7 : decide (23 < h) = false := decide_eq_false (by omega)
  have e8 : decide (i < 0) = false := decide_eq_false (by omega)
  have e9 : decide (59 < i) = false := decide_eq_false (by omega)
  refine wp_region_after (by kernel_rfl) (by kernel_rfl) ?_
  repeat (go_big_quiet_step (exact L _ (by omega) (by omega) (by omega)))
  refine wpQuiet_nil ?_
  clear e0 e1 e2 e3 e4 e5 e6 e7 e8 e9
  intro w1 hb1
  have hB1 : Below w.heap.size w w1 := hB.trans (hb1.mono (by omega))
  have hz1 : w.heap.size < w1.heap.size := by have := hb1.size; omega
  have k0 := keep hb1 c0
  have k1 := keep hb1 c1
  have k2 := keep hb1 c2
  have k3 := keep hb1 c3
  have k4 := keep hb1 c4
  have sb := since_bd y0 (by omega)
  have bb := @bef_bd' y m m0 m1
  have db := Cal.dim_pos y m
  have hd : d ≤ 31 := by omega
  unfold atM at hM
  have HM := Lib.hid hM
  clear hb1 hB C0 C1 C2 C3 C4 L c0 c1 c2 c3 c4 db d1 hz hM
  go_wp2
  go_loop [4, 5] (fun n t => ∃ k : Int, 2000 ≤ k ∧ k ≤ y ∧ t = .int .i64 k ∧ n = .int .i64 (d - 1 + Cal.since k)) (fun _ t => (y - intOf t).toNat)
  case atStart => exact ⟨2000, by omega, by omega, rfl, by simp [Cal.since]⟩
  case round =>
    obtain ⟨k, hk0, hk1, rfl, rfl⟩ := hrel
    have kb := since_bd hk0 (by omega)
    by_cases hlt : k < y
    · have hs := Lib.hid (Cal.since_succ k)
      have hl := Cal.lpi_01 k
      go_wp2_with (go_at_call 35; refine (year35 _ _ (by omega)).mono ?_; rintro e w' ⟨rfl, rfl⟩)
      go_round
      case rel => exact ⟨k + 1, by omega, by omega, rfl, by rw [hs.out]; congr 1; omega⟩
      case measure => simp [intOf]; omega
    · obtain rfl : k = y := by omega
      go_wp2
      go_loop [4, 6] (fun n t => ∃ j : Int, 1 ≤ j ∧ j ≤ m ∧ t = .int .i64 j ∧ n = .int .i64 (d - 1 + Cal.since k + Cal.bef k j)) (fun _ t => (m - intOf t).toNat)
      case atStart => exact ⟨1, by omega, by omega, rfl, by simp [Cal.bef]⟩
      case round =>
        obtain ⟨j, hj0, hj1, rfl, rfl⟩ := hrel
        have jb := @bef_bd' k j hj0 (by omega)
        by_cases hlj : j < m
        · have hs := Lib.hid (Cal.bef_succ k j hj0 (by omega))
          have hl := Cal.dim_pos k j
          go_wp2_with (go_at_call 34; refine (month34 _ _ _ (by omega)).mono ?_; rintro e w' ⟨rfl, rfl⟩)
          go_round
          case rel => exact ⟨j + 1, by omega, by omega, rfl, by rw [hs.out]; congr 1; omega⟩
          case measure => simp [intOf]; omega
        · obtain rfl : j = m := by omega
          have hM := HM.out
          go_wp2
          all_goals first | (go_light; exfalso; omega) | (go_ret2; exact ⟨rfl, hB1⟩)
end Go.Proofs.Yteabeflcffflnaa
