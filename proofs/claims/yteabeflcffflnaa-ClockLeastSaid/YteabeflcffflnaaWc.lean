/- The walks of exists, At and the reference's At. -/
import Derived.Test.YteabeflcffflnaaWb
import Derived.Test.YteabeflcffflnaaTail
namespace Go.Proofs.Yteabeflcffflnaa
open Go.RowKit Go.BigFrame

/-- the bool of 'exists' -/
def existsB (y m d h i : Int) : Bool := decide (2000 ≤ y ∧ y ≤ 9999 ∧ 1 ≤ m ∧ m ≤ 12 ∧ 1 ≤ d ∧ d ≤ Cal.dim y m ∧ 0 ≤ h ∧ h ≤ 23 ∧ 0 ≤ i ∧ i ≤ 59)
/-- a date's minute -/
def atM (y m d h i : Int) : Int := (Cal.since y + Cal.bef y m + d - 1) * 1440 + h * 60 + i
theorem since_bd {y : Int} (h0 : 2000 ≤ y) (h1 : y ≤ 10000) : 0 ≤ Cal.since y ∧ Cal.since y ≤ 3000000 := by unfold Cal.since; omega
theorem bef_bd' {y m : Int} (h1 : 1 ≤ m) (h2 : m ≤ 12) : 0 ≤ Cal.bef y m ∧ Cal.bef y m ≤ 335 := by
  have := bef_bd h1 h2; have := @bef_tab y m h1 h2; have := Cal.lpi_01 y; omega
theorem exists_of {y m d h i : Int} (hx : existsB y m d h i = true) : 2000 ≤ y ∧ y ≤ 9999 ∧ 1 ≤ m ∧ m ≤ 12 ∧ 1 ≤ d ∧ d ≤ Cal.dim y m ∧ 0 ≤ h ∧ h ≤ 23 ∧ 0 ≤ i ∧ i ≤ 59 := by
  simpa [existsB] using hx
/-- does At answer? -/
def atB (y m d h i : Int) : Bool := existsB y m d h i && decide (atM y m d h i ≤ 1073741824)

set_option maxHeartbeats 1000000 in
theorem exists31 (y m d h i : Int) (w : World) :
    Calls Try.prog 31 #[.agg #[.int .i64 y, .int .i64 m, .int .i64 d, .int .i64 h, .int .i64 i]] w fun e w' => e = .returned (.bool (existsB y m d h i)) ∧ Below w.heap.size w w' := by
  obtain ⟨W, hW, hB, hz, hk⟩ := boxed w #[.int .i64 y, .int .i64 m, .int .i64 d, .int .i64 h, .int .i64 i] 23
  have c0 : W.cell? ⟨w.heap.size, 0, none⟩ = some (.int .i64 y) := hk.cell 0
  have c1 : W.cell? ⟨w.heap.size, 1, none⟩ = some (.int .i64 m) := hk.cell 1
  have c2 : W.cell? ⟨w.heap.size, 2, none⟩ = some (.int .i64 d) := hk.cell 2
  have c3 : W.cell? ⟨w.heap.size, 3, none⟩ = some (.int .i64 h) := hk.cell 3
  have c4 : W.cell? ⟨w.heap.size, 4, none⟩ = some (.int .i64 i) := hk.cell 4
  have C0 := After.cell c0
  have C1 := After.cell c1
  have C2 := After.cell c2
  go_enter Try.func31, Try.ntmps31
  go_wp2
  clear c0 c1 c2 hk hW
  have L : ∀ p : After W, 1 ≤ m → m ≤ 12 → 0 ≤ y → Calls Try.prog 40 #[.int .i64 y, .int .i64 m] p.w fun e w'' => e = .returned (.int .i64 (Cal.dim y m)) ∧ ∃ q : After W, w'' = q.w := fun p h1 h2 h0 => p.of (length40 y m p.w h0 h1 h2)
  refine wp_region_after (by kernel_rfl) (by kernel_rfl) ?_
  repeat (any_goals (first | go_big_quiet_step (exact L _ (by omega) (by omega) (by omega)) | quiet_step (exact L _ (by omega) (by omega) (by omega)) | (refine wpQuiet_step (fun K hK => ?_); go_simp; split <;> (refine hK _ ?_; clear hK K))))
  all_goals (refine wpQuiet_nil ?_; intro w1 hb1)
  all_goals
    have d3 := keep hb1 c3
    have d4 := keep hb1 c4
    have hB1 : Below w.heap.size w w1 := hB.trans (hb1.mono (by omega))
    clear hb1 c3 c4 hB C0 C1 C2 L
    go_wp2
  all_goals go_ret
  all_goals refine ⟨ret_bool ?_, hB1⟩
  all_goals go_light
  all_goals (rw [Bool.eq_iff_iff]; simp [existsB]; omega)

set_option maxHeartbeats 1000000 in
theorem at11_no (y m d h i : Int) (w : World) (hx : existsB y m d h i = false) :
    Calls Try.prog 11 #[.agg #[.int .i64 y, .int .i64 m, .int .i64 d, .int .i64 h, .int .i64 i]] w fun e w' => e = .returned (.tuple #[.int .i64 0, .int .i64 2]) ∧ Below w.heap.size w w' := by
  obtain ⟨W, hW, hB, hz, hk⟩ := boxed w #[.int .i64 y, .int .i64 m, .int .i64 d, .int .i64 h, .int .i64 i] 23
  have c0 : W.cell? ⟨w.heap.size, 0, none⟩ = some (.int .i64 y) := hk.cell 0
  have c1 : W.cell? ⟨w.heap.size, 1, none⟩ = some (.int .i64 m) := hk.cell 1
  have c2 : W.cell? ⟨w.heap.size, 2, none⟩ = some (.int .i64 d) := hk.cell 2
  have c3 : W.cell? ⟨w.heap.size, 3, none⟩ = some (.int .i64 h) := hk.cell 3
  have c4 : W.cell? ⟨w.heap.size, 4, none⟩ = some (.int .i64 i) := hk.cell 4
  go_enter Try.func11, Try.ntmps11
  go_wp2_with (go_at_call 31; refine (exists31 _ _ _ _ _ _).mono ?_; rintro e w1 ⟨rfl, hb⟩)
  go_ret2
  exact ⟨rfl, hB.trans (hb.mono (by omega))⟩

set_option maxHeartbeats 1000000 in
theorem at11_yes (y m d h i : Int) (w : World) (hx : existsB y m d h i = true) (hM : atM y m d h i ≤ 1073741824) :
    Calls Try.prog 11 #[.agg #[.int .i64 y, .int .i64 m, .int .i64 d, .int .i64 h, .int .i64 i]] w fun e w' =>
      e = .returned (.tuple #[.int .i64 (atM y m d h i), .int .i64 0]) ∧ Below w.heap.size w w' := by
  obtain ⟨W, hW, hB, hz, hk⟩ := boxed w #[.int .i64 y, .int .i64 m, .int .i64 d, .int .i64 h, .int .i64 i] 23
  have c0 : W.cell? ⟨w.heap.size, 0, none⟩ = some (.int .i64 y) := hk.cell 0
  have c1 : W.cell? ⟨w.heap.size, 1, none⟩ = some (.int .i64 m) := hk.cell 1
  have c2 : W.cell? ⟨w.heap.size, 2, none⟩ = some (.int .i64 d) := hk.cell 2
  have c3 : W.cell? ⟨w.heap.size, 3, none⟩ = some (.int .i64 h) := hk.cell 3
  have c4 : W.cell? ⟨w.heap.size, 4, none⟩ = some (.int .i64 i) := hk.cell 4
  obtain ⟨y0, y1, m0, m1, d0, d1, h0, h1, i0, i1⟩ := exists_of hx
  have sb := since_bd y0 (by omega)
  have bb := @bef_bd' y m m0 m1
  have db := Cal.dim_pos y m
  have hd : d ≤ 31 := by omega
  clear hk db d1
  go_enter Try.func11, Try.ntmps11
  go_wp2_with (go_at_call 31; refine (exists31 _ _ _ _ _ _).mono ?_; rintro e w1 ⟨rfl, hb⟩)
  have C0 := After.cell (keep hb c0)
  have C1 := After.cell (keep hb c1)
  have C2 := After.cell (keep hb c2)
  have C3 := After.cell (keep hb c3)
  have C4 := After.cell (keep hb c4)
  have hB1 : Below w.heap.size w w1 := hB.trans (hb.mono (by omega))
  have hz1 : w.heap.size < w1.heap.size := by have := hb.size; omega
  clear hb c0 c1 c2 c3 c4 hW hB
  have S : ∀ p : After w1, Calls Try.prog 32 #[.int .i64 y] p.w fun e w'' => e = .returned (.int .i64 (Cal.since y)) ∧ ∃ q : After w1, w'' = q.w := fun p => p.same (since32 y p.w y0 (by omega))
  have B : ∀ p : After w1, Calls Try.prog 33 #[.int .i64 y, .int .i64 m] p.w fun e w'' => e = .returned (.int .i64 (Cal.bef y m)) ∧ ∃ q : After w1, w'' = q.w := fun p => p.of (before33 y m p.w (by omega) m0 m1)
  refine wp_region_after_tail 21 (by kernel_rfl) (by kernel_rfl) ?_
  simp only [List.take_succ_cons, List.take_zero, List.drop_succ_cons, List.drop_zero]
  repeat (go_big_quiet_step (first | (go_at_call 32; exact S _) | (go_at_call 33; exact B _)))
  refine wpQuiet_nil ?_
  intro w2 hb2
  have hB2 : Below w.heap.size w w2 := hB1.trans (hb2.mono (by omega))
  clear hb2 C0 C1 C2 C3 C4 S B
  unfold atM at hM
  go_wp2
  go_ret2
  exact ⟨rfl, hB2⟩

set_option maxHeartbeats 1000000 in
theorem at11_far (y m d h i : Int) (w : World) (hx : existsB y m d h i = true) (hM : 1073741824 < atM y m d h i) :
    Calls Try.prog 11 #[.agg #[.int .i64 y, .int .i64 m, .int .i64 d, .int .i64 h, .int .i64 i]] w fun e w' =>
      e = .returned (.tuple #[.int .i64 0, .int .i64 2]) ∧ Below w.heap.size w w' := by
  obtain ⟨W, hW, hB, hz, hk⟩ := boxed w #[.int .i64 y, .int .i64 m, .int .i64 d, .int .i64 h, .int .i64 i] 23
  have c0 : W.cell? ⟨w.heap.size, 0, none⟩ = some (.int .i64 y) := hk.cell 0
  have c1 : W.cell? ⟨w.heap.size, 1, none⟩ = some (.int .i64 m) := hk.cell 1
  have c2 : W.cell? ⟨w.heap.size, 2, none⟩ = some (.int .i64 d) := hk.cell 2
  have c3 : W.cell? ⟨w.heap.size, 3, none⟩ = some (.int .i64 h) := hk.cell 3
  have c4 : W.cell? ⟨w.heap.size, 4, none⟩ = some (.int .i64 i) := hk.cell 4
  obtain ⟨y0, y1, m0, m1, d0, d1, h0, h1, i0, i1⟩ := exists_of hx
  have sb := since_bd y0 (by omega)
  have bb := @bef_bd' y m m0 m1
  have db := Cal.dim_pos y m
  have hd : d ≤ 31 := by omega
  clear hk db d1
  go_enter Try.func11, Try.ntmps11
  go_wp2_with (go_at_call 31; refine (exists31 _ _ _ _ _ _).mono ?_; rintro e w1 ⟨rfl, hb⟩)
  have C0 := After.cell (keep hb c0)
  have C1 := After.cell (keep hb c1)
  have C2 := After.cell (keep hb c2)
  have C3 := After.cell (keep hb c3)
  have C4 := After.cell (keep hb c4)
  have hB1 : Below w.heap.size w w1 := hB.trans (hb.mono (by omega))
  have hz1 : w.heap.size < w1.heap.size := by have := hb.size; omega
  clear hb c0 c1 c2 c3 c4 hW hB
  have S : ∀ p : After w1, Calls Try.prog 32 #[.int .i64 y] p.w fun e w'' => e = .returned (.int .i64 (Cal.since y)) ∧ ∃ q : After w1, w'' = q.w := fun p => p.same (since32 y p.w y0 (by omega))
  have B : ∀ p : After w1, Calls Try.prog 33 #[.int .i64 y, .int .i64 m] p.w fun e w'' => e = .returned (.int .i64 (Cal.bef y m)) ∧ ∃ q : After w1, w'' = q.w := fun p => p.of (before33 y m p.w (by omega) m0 m1)
  refine wp_region_after_tail 21 (by kernel_rfl) (by kernel_rfl) ?_
  simp only [List.take_succ_cons, List.take_zero, List.drop_succ_cons, List.drop_zero]
  repeat (go_big_quiet_step (first | (go_at_call 32; exact S _) | (go_at_call 33; exact B _)))
  refine wpQuiet_nil ?_
  intro w2 hb2
  have hB2 : Below w.heap.size w w2 := hB1.trans (hb2.mono (by omega))
  clear hb2 C0 C1 C2 C3 C4 S B
  unfold atM at hM
  go_wp2
  go_ret2
  exact ⟨rfl, hB2⟩

end Go.Proofs.Yteabeflcffflnaa
