/- The walk of MacTries. -/
import Derived.Test.YtjdhgokcbcidlaaWg
namespace Go.Proofs.Ytjdhgokcbcidlaa
open Go.RowKit Go.BigFrame
set_option linter.unusedVariables false

/-- the entry after so many transmissions -/
def Qt (f : Fr) (j : Nat) : Sn := ⟨f, j, if j = 0 then 0 else if f.urgent then 0 else min (j : Int) 4⟩
theorem q_put (f : Fr) : putS (List.take 16 []) f = ([Qt f 0], true) := by
  unfold putS
  cases h : f.urgent <;> rfl
theorem q_next (f : Fr) {j : Nat} (h : j < 7) : resS (List.take 16 [Qt f j]) 0 false = ([Qt f (j + 1)], false) := by
  unfold resS
  rw [if_neg (by simp), if_neg (by decide)]
  show (if 7 ≤ (Qt f j).tries then _ else _) = _
  have ht : (Qt f j).tries = (j : Int) := rfl
  rw [if_neg (by rw [ht]; omega)]
  have : again (Qt f j) = Qt f (j + 1) := by
    have e : min (max (j : Int) 0) 7 + 1 = ((j + 1 : Nat) : Int) := by omega
    simp only [again, Qt, e]
    rw [if_neg (show ¬ (j + 1 = 0) by omega)]
  rw [this]; rfl
theorem q_last (f : Fr) : resS (List.take 16 [Qt f 7]) 0 false = ([], true) := by
  unfold resS
  rw [if_neg (by simp), if_neg (by decide)]
  rfl
theorem q_wait (f : Fr) (j : Nat) : (Qt f j).wait ≤ 4 ∧ (f.urgent = true → (Qt f j).wait = 0) := by
  unfold Qt
  simp only []
  refine ⟨?_, fun h => ?_⟩
  · split
    · omega
    · split <;> omega
  · rw [h]; split <;> rfl

set_option maxRecDepth 20000 in
set_option maxHeartbeats 4000000 in
theorem lawTries5 (f : Fr) (w : World) : Calls Try.prog 5 #[frV f] w fun e w' => e = .returned (.bool true) ∧ Below w.heap.size w w' := by
  have LV : Hid (∀ w, Calls Try.prog 9 #[] w fun e w' => e = .returned (.bool true) ∧ Below w.heap.size w w') := Lib.hid lives9
  obtain ⟨W, hW, hB, hz, hk⟩ := boxed w #[.int .i64 f.kind, .int .i64 f.src, .int .i64 f.to, .int .i64 f.source, .int .i64 f.target, .int .i64 f.seq, .int .i64 f.hops, .bool f.urgent, .string f.data] 24
  have b0 := hk.at 0 (v := .int .i64 f.kind) rfl
  have b1 := hk.at 1 (v := .int .i64 f.src) rfl
  have b2 := hk.at 2 (v := .int .i64 f.to) rfl
  have b3 := hk.at 3 (v := .int .i64 f.source) rfl
  have b4 := hk.at 4 (v := .int .i64 f.target) rfl
  have b5 := hk.at 5 (v := .int .i64 f.seq) rfl
  have b6 := hk.at 6 (v := .int .i64 f.hops) rfl
  have b7 := hk.at 7 (v := .bool f.urgent) rfl
  have b8 := hk.at 8 (v := .string f.data) rfl
  have P : Hid (Calls Try.prog 10 #[.slice none 0 0, frV f] W (PtEnd W ([Qt f 0], true))) := Lib.hid (by have := put10 none 0 0 [] f W (Nat.le_refl _) (by omega) (Rd.none_ _ _ _); rwa [q_put] at this)
  go_enter Try.func5, Try.ntmps5
  go_wp2_with fail
  refine P.out.mono ?_
  rintro e w1 ⟨A1, n1, c1, he, ho1, hb1⟩
  obtain rfl : e = .returned (.tuple #[.slice A1 n1 c1, .bool true]) := he
  obtain rfl : n1 = 1 := ho1.1.symm
  have hk1 := hk.later hb1
  have hB1 := hB.trans (hb1.mono (Nat.le_of_lt hz))
  have hr1 := ho1.rd
  have hc1 := ho1.cap
  clear P b0 b1 b2 b3 b4 b5 b6 b7 b8 hk hb1 ho1 hB hW hz
  go_wp2
  go_loopw [3, 5] (fun q i wr => ∃ (j c' : Nat) (A' : Option Addr), j ≤ 7 ∧ i = .int .i64 ((j : Int) + 1) ∧ q = .slice A' 1 c' ∧ 1 ≤ c' ∧ c' ≤ 9223372036854775807 ∧ Rd wr ES A' 1 [Qt f j] ∧ Blk wr w.heap.size 24 (encF f).toArray ∧ Below w.heap.size w wr) (fun _ i _ => 8 - (intOf i).toNat)
  case atStart => exact ⟨0, c1, A1, by omega, rfl, rfl, hc1.1, hc1.2, hr1, hk1, hB1⟩
  case round =>
    clear hk1 hr1 hc1 hB1
    obtain ⟨j, c', A', hj, rfl, rfl, hc1, hc2, hr, hkr, hbr⟩ := hrel
    by_cases hlt : j < 7
    · have R := Lib.hid (show Calls Try.prog 13 #[.slice A' 1 c', .int .i64 0, .bool false] wr (PtEnd wr ([Qt f (j + 1)], false)) from by
        have := result13 A' 1 c' [Qt f j] 0 false wr hc1 hc2 hr
        rwa [q_next f hlt] at this)
      have HQ := Lib.hid (q_wait f (j + 1))
      go_wp2_with fail
      refine R.out.mono ?_
      rintro e w2 ⟨A2, n2, c2, he, ho2, hb2⟩
      obtain rfl : e = .returned (.tuple #[.slice A2 n2 c2, .bool false]) := he
      obtain rfl : n2 = 1 := ho2.1.symm
      have hk2 := hkr.later hb2
      have hB2 := hbr.trans (hb2.mono hbr.size)
      have hr2 := ho2.rd
      have hc3 := ho2.cap
      obtain ⟨b, off, x, rfl, hx, q0, q1, q2, q3, q4, q5, q6, q7, q8, q9, q10⟩ := snd_at hr2 (k := 0) (by omega)
      cases hx
      simp only [Nat.zero_mul, Nat.add_zero] at q0 q1 q2 q3 q4 q5 q6 q7 q8 q9 q10
      have Q0 : ∀ p : After w2, p.w.cell? ⟨b, off, none⟩ = some (.int .i64 f.kind) := After.cell q0
      have Q1 : ∀ p : After w2, p.w.cell? ⟨b, off + 1, none⟩ = some (.int .i64 f.src) := After.cell q1
      have Q2 : ∀ p : After w2, p.w.cell? ⟨b, off + 2, none⟩ = some (.int .i64 f.to) := After.cell q2
      have Q3 : ∀ p : After w2, p.w.cell? ⟨b, off + 3, none⟩ = some (.int .i64 f.source) := After.cell q3
      have Q4 : ∀ p : After w2, p.w.cell? ⟨b, off + 4, none⟩ = some (.int .i64 f.target) := After.cell q4
      have Q5 : ∀ p : After w2, p.w.cell? ⟨b, off + 5, none⟩ = some (.int .i64 f.seq) := After.cell q5
      have Q6 : ∀ p : After w2, p.w.cell? ⟨b, off + 6, none⟩ = some (.int .i64 f.hops) := After.cell q6
      have Q7 : ∀ p : After w2, p.w.cell? ⟨b, off + 7, none⟩ = some (.bool f.urgent) := After.cell q7
      have Q8 : ∀ p : After w2, p.w.cell? ⟨b, off + 8, none⟩ = some (.string f.data) := After.cell q8
      have Q9 : ∀ p : After w2, p.w.cell? ⟨b, off + 9, none⟩ = some (.int .i64 ((j : Int) + 1)) := After.cell q9
      obtain ⟨wt, hwt⟩ : ∃ wt, (Qt f (j + 1)).wait = wt := ⟨_, rfl⟩
      rw [hwt] at q10 HQ
      have Q10 := After.cell q10
      have P0 := After.cell (hk2.at 0 (v := .int .i64 f.kind) rfl)
      have P1 := After.cell (hk2.at 1 (v := .int .i64 f.src) rfl)
      have P2 := After.cell (hk2.at 2 (v := .int .i64 f.to) rfl)
      have P3 := After.cell (hk2.at 3 (v := .int .i64 f.source) rfl)
      have P4 := After.cell (hk2.at 4 (v := .int .i64 f.target) rfl)
      have P5 := After.cell (hk2.at 5 (v := .int .i64 f.seq) rfl)
      have P6 := After.cell (hk2.at 6 (v := .int .i64 f.hops) rfl)
      have P7 := After.cell (hk2.at 7 (v := .bool f.urgent) rfl)
      have P8 := After.cell (hk2.at 8 (v := .string f.data) rfl)
      have hne := fun w => neq24_same (a := f) rfl w
      have hw4 : decide (4 < wt) = false := decide_eq_false (by have := HQ.out.1; omega)
      clear R ho2 hr hkr hbr hwt q0 q1 q2 q3 q4 q5 q6 q7 q8 q9 q10
      rcases (show f.urgent = true ∨ f.urgent = false by cases f.urgent <;> simp) with hu | hu
      · have hw0 : wt = 0 := HQ.out.2 hu
        subst hw0
        rw [hu] at P7 Q7
        have hne' : ∀ w, (binOp .neq 24 (.agg #[.int .i64 f.kind, .int .i64 f.src, .int .i64 f.to, .int .i64 f.source, .int .i64 f.target, .int .i64 f.seq, .int .i64 f.hops, .bool true, .string f.data]) (.agg #[.int .i64 f.kind, .int .i64 f.src, .int .i64 f.to, .int .i64 f.source, .int .i64 f.target, .int .i64 f.seq, .int .i64 f.hops, .bool true, .string f.data])).run Try.prog w = .ok (.bool false) w := fun w => by have := hne w; simp only [frV, hu] at this; exact this
        clear hne hw4 hu
        go_wp2
        refine wp_region_after (by kernel_rfl) (by kernel_rfl) ?_
        repeat (go_big_quiet_step (fail))
        refine wpQuiet_nil ?_
        intro w3 hb3
        have hB3 := hB2.trans (hb3.mono hB2.size)
        have hk3 := hk2.later hb3
        have hr3 := hr2.later hb3
        clear Q0 Q1 Q2 Q3 Q4 Q5 Q6 Q7 Q8 Q9 Q10 P0 P1 P2 P3 P4 P5 P6 P7 P8 hne' hk2 hr2 hb3
        go_wp2
        go_roundw
        case rel => exact ⟨j + 1, c2, _, by omega, by go_num, rfl, hc3.1, hc3.2, hr3, hk3, hB3⟩
        case measure => simp [intOf]; omega
      · rw [hu] at P7 Q7
        have hne' : ∀ w, (binOp .neq 24 (.agg #[.int .i64 f.kind, .int .i64 f.src, .int .i64 f.to, .int .i64 f.source, .int .i64 f.target, .int .i64 f.seq, .int .i64 f.hops, .bool false, .string f.data]) (.agg #[.int .i64 f.kind, .int .i64 f.src, .int .i64 f.to, .int .i64 f.source, .int .i64 f.target, .int .i64 f.seq, .int .i64 f.hops, .bool false, .string f.data])).run Try.prog w = .ok (.bool false) w := fun w => by have := hne w; simp only [frV, hu] at this; exact this
        clear hne hu
        go_wp2
        refine wp_region_after (by kernel_rfl) (by kernel_rfl) ?_
        repeat (go_big_quiet_step (fail))
        refine wpQuiet_nil ?_
        intro w3 hb3
        have hB3 := hB2.trans (hb3.mono hB2.size)
        have hk3 := hk2.later hb3
        have hr3 := hr2.later hb3
        clear Q0 Q1 Q2 Q3 Q4 Q5 Q6 Q7 Q8 Q9 Q10 P0 P1 P2 P3 P4 P5 P6 P7 P8 hne' hk2 hr2 hb3
        go_wp2
        go_roundw
        case rel => exact ⟨j + 1, c2, _, by omega, by go_num, rfl, hc3.1, hc3.2, hr3, hk3, hB3⟩
        case measure => simp [intOf]; omega
    · obtain rfl : j = 7 := by omega
      have R := Lib.hid (show Calls Try.prog 13 #[.slice A' 1 c', .int .i64 0, .bool false] wr (PtEnd wr ([], true)) from by
        have := result13 A' 1 c' [Qt f 7] 0 false wr hc1 hc2 hr
        rwa [q_last f] at this)
      clear hr hkr
      go_wp2_with fail
      refine R.out.mono ?_
      rintro e w2 ⟨A2, n2, c2, he, ho2, hb2⟩
      obtain rfl : e = .returned (.tuple #[.slice A2 n2 c2, .bool true]) := he
      obtain rfl : n2 = 0 := ho2.1.symm
      have hB2 := hbr.trans (hb2.mono hbr.size)
      go_wp2_with fail
      refine (LV.out _).mono ?_
      rintro e w3 ⟨rfl, hb3⟩
      have hB3 := hB2.trans (hb3.mono hB2.size)
      go_wp2
      go_ret
      exact ⟨rfl, hB3⟩
end Go.Proofs.Ytjdhgokcbcidlaa
