/- The walk of MacOnce. -/
import Derived.Test.YtjdhgokcbcidlaaWr
namespace Go.Proofs.Ytjdhgokcbcidlaa
open Go.RowKit Go.BigFrame
set_option linter.unusedVariables false

theorem near_start {k : List Pr} {p : Pr} (h : k.getLast? = some p) : Near k p 1 := by
  rw [List.getLast?_eq_getElem?] at h
  exact ⟨k.length - 1, h, by omega⟩

set_option maxRecDepth 20000 in
set_option maxHeartbeats 8000000 in
theorem lawOnce8 (A : Option Addr) (n cap : Nat) (l : List Pr) (p : Pr) (i : Int) (w : World) (hn : n ≤ cap) (hcap : cap ≤ 9223372036854775807) (hr : Rd w EP A n l) :
    Calls Try.prog 8 #[.slice A n cap, prV p, .int .i64 i] w fun e w' => e = .returned (.bool true) ∧ Below w.heap.size w w' := by
  obtain ⟨W, hW, hB, hz, hk⟩ := boxed w #[.int .i64 p.source, .int .i64 p.seq] 43
  have hrW := hr.later hB
  have LV : Hid (∀ w, Calls Try.prog 9 #[] w fun e w' => e = .returned (.bool true) ∧ Below w.heap.size w w') := Lib.hid lives9
  have b0 := hk.at 0 (v := .int .i64 p.source) rfl
  have b1 := hk.at 1 (v := .int .i64 p.seq) rfl
  by_cases hout : 200 < n ∨ i < 0 ∨ 31 < i ∨ 1073741824 < p.source ∨ p.source < 0
  · have hout' : 200 < n ∨ (¬ 200 < n ∧ i < 0) ∨ (¬ 200 < n ∧ ¬ i < 0 ∧ 31 < i) ∨ (¬ 200 < n ∧ ¬ i < 0 ∧ ¬ 31 < i ∧ 1073741824 < p.source) ∨ (¬ 200 < n ∧ ¬ i < 0 ∧ ¬ 31 < i ∧ ¬ 1073741824 < p.source ∧ p.source < 0) := by omega
    clear hout
    rcases hout' with h1 | ⟨h1, h2⟩ | ⟨h1, h2, h3⟩ | ⟨h1, h2, h3, h4⟩ | ⟨h1, h2, h3, h4, h5⟩
    all_goals
      go_enter Try.func8, Try.ntmps8
      go_wp2_with fail
      refine (LV.out _).mono ?_
      rintro e w1 ⟨rfl, hb⟩
      have hB1 := hB.trans (hb.mono (Nat.le_of_lt hz))
      go_wp2
      go_ret
      exact ⟨rfl, hB1⟩
  · obtain ⟨h1, h2, h3, h4, h5⟩ : ¬ 200 < n ∧ ¬ i < 0 ∧ ¬ 31 < i ∧ ¬ 1073741824 < p.source ∧ ¬ p.source < 0 := by omega
    clear hout
    obtain ⟨q, rfl⟩ : ∃ q : Nat, i = (q : Int) := ⟨i.toNat, by omega⟩
    have hq : q ≤ 31 := by omega
    have P1 := Lib.hid (fun w hr => fresh19 A n cap l p w (by omega) hn hcap hr)
    have P2 := Lib.hid (fun w hr => fresh20 A n cap l p w (by omega) hr)
    have hlen := frs_len l p
    generalize hin : frs l p = r at *
    clear hin
    obtain ⟨k, rb⟩ := r
    simp only at hlen
    go_enter Try.func8, Try.ntmps8
    go_wp2_with fail
    refine (P1.out _ hrW).mono ?_
    rintro e w1 ⟨A1, n1, c1, rfl, ho1, hc1, hm1, hb1⟩
    have hk1 := hk.later hb1
    have hr1 := hrW.later hb1
    have hB1 := hB.trans (hb1.mono (Nat.le_of_lt hz))
    have hq31 := Lib.hid hq
    have hS := Lib.hid (show 0 ≤ p.source ∧ p.source ≤ 1073741824 from ⟨by omega, by omega⟩)
    clear P1 b0 b1 hb1 hk hrW hr hB h2 h3 h4 h5 hq
    go_wp2
    go_loopw [7, 9] (fun v z wr => ∃ (j m c : Nat) (B : Option Addr) (k' : List Pr), j ≤ q ∧ z = .int .i64 j ∧ v = .slice B m c ∧ Rd wr EP B m k' ∧ m ≤ 32 ∧ m ≤ c ∧ c ≤ 9223372036854775807 ∧ (k.getLast? = some p → Near k' p (j + 1)) ∧ Blk wr w.heap.size 43 #[.int .i64 p.source, .int .i64 p.seq] ∧ Rd wr EP A n l ∧ Below w.heap.size w wr) (fun _ z _ => q - (intOf z).toNat)
    case atStart => exact ⟨0, n1, c1, A1, k, Nat.zero_le _, rfl, rfl, ho1, by rw [← ho1.1]; exact hlen, hc1, hm1, near_start, hk1, hr1, hB1⟩
    case round =>
      clear hk1 hr1 hB1 ho1 hc1 hm1
      obtain ⟨j, m, c, B, k', hj, rfl, rfl, hrd, hm, hmc, hcm, hnear, hkr, hrr, hbr⟩ := hrel
      have hNR := Lib.hid hnear
      clear hnear
      have p0 := hkr.at 0 (v := .int .i64 p.source) rfl
      have p1 := hkr.at 1 (v := .int .i64 p.seq) rfl
      by_cases hlt : j < q
      · have hov : wrap64 (p.source + 1) = p.source + 1 := by have := hS.out; unfold wrap64; omega
        have hov2 : wrap64 (p.source + 1 + (j : Int)) = p.source + 1 + (j : Int) := by have := hS.out; have := hq31.out; unfold wrap64; omega
        have FR := Lib.hid (fresh19 B m c k' ⟨p.source + 1 + (j : Int), p.seq⟩ wr (by omega) hmc hcm hrd)
        have HL := Lib.hid (frs_len k' ⟨p.source + 1 + (j : Int), p.seq⟩)
        have HN := Lib.hid (show k.getLast? = some p → Near (frs k' ⟨p.source + 1 + (j : Int), p.seq⟩).1 p (j + 1 + 1) from fun h => near_next (by rw [hrd.1]; exact hm) (hNR.out h) (by have := hq31.out; omega))
        go_wp2_with fail
        refine FR.out.mono ?_
        rintro e w2 ⟨B2, m2, c2, rfl, ho2, hc2, hm2, hb2⟩
        have hL2 : m2 ≤ 32 := by rw [← ho2.1]; exact HL.out
        have hk2 := hkr.later hb2
        have hr2 := hrr.later hb2
        have hB2 := hbr.trans (hb2.mono hbr.size)
        generalize (frs k' ⟨p.source + 1 + (j : Int), p.seq⟩).1 = k2 at *
        have hn32 : ¬ 32 < m2 := by omega
        have hj31 : j < 31 := by have := hq31.out; omega
        clear FR HL hNR p0 p1 hkr hrr hb2 hbr hov hov2 hrd hm
        go_wp2
        go_roundw
        case rel => exact ⟨j + 1, m2, c2, B2, k2, by omega, by go_num, rfl, ho2, hL2, hc2, hm2, HN.out, hk2, hr2, hB2⟩
        case measure => simp [intOf]; omega
      · have FR := Lib.hid (fresh19 B m c k' p wr (by omega) hmc hcm hrd)
        have HL := Lib.hid (frs_len k' p)
        have HN := Lib.hid (show k.getLast? = some p → (frs k' p).2 = false from fun h => near_known (by rw [hrd.1]; exact hm) (hNR.out h))
        go_wp2_with fail
        refine FR.out.mono ?_
        rintro e w2 ⟨B2, m2, c2, rfl, ho2, hc2, hm2, hb2⟩
        have hL2 : m2 ≤ 32 := by rw [← ho2.1]; exact HL.out
        have hk2 := hkr.later hb2
        have hr2 := hrr.later hb2
        have hB2 := hbr.trans (hb2.mono hbr.size)
        have q0 := hk2.at 0 (v := .int .i64 p.source) rfl
        have q1 := hk2.at 1 (v := .int .i64 p.seq) rfl
        generalize frs k' p = r2 at *
        obtain ⟨k2, ok⟩ := r2
        simp only at HN
        clear FR HL hNR p0 p1 hkr hrr hb2 hbr hrd hm ho2
        go_wp2_with fail
        refine (P2.out _ hr2).mono ?_
        rintro e w3 ⟨B3, m3, c3, rfl, ho3, hc3, hm3, hb3⟩
        have hL3 : m3 ≤ 32 := by rw [← ho3.1]; exact hlen
        have hk3 := hk2.later hb3
        have hB3 := hB2.trans (hb3.mono hB2.size)
        have hn2 : ¬ 32 < m2 := by omega
        have hn3 : ¬ 32 < m3 := by omega
        clear P2 hk2 hr2 hb3 hB2 q0 q1 hlt hq31 hS hj hlen
        rcases Nat.eq_zero_or_pos m3 with h0 | h0
        · subst h0
          clear hn3 hL3
          go_wp2
          refine wp_region_after (by kernel_rfl) (by kernel_rfl) ?_
          repeat (go_big_quiet_step (fail))
          refine wpQuiet_nil ?_
          intro w4 hb4
          have hB4 := hB3.trans (hb4.mono hB3.size)
          go_wp2_with fail
          refine (LV.out _).mono ?_
          rintro e w5 ⟨rfl, hb5⟩
          have hB5 := hB4.trans (hb5.mono hB4.size)
          go_wp2
          go_ret
          exact ⟨rfl, hB5⟩
        · obtain ⟨k4, rfl⟩ : ∃ k4, m3 = k4 + 1 := ⟨m3 - 1, by omega⟩
          obtain ⟨b, off, a, rfl, hla, q0, q1⟩ := pr_at ho3 (k := k4) (by omega)
          have hkl : k.getLast? = some a := by
            rw [List.getLast?_eq_getElem?, ho3.1]; exact hla
          have Q0 := After.cell q0
          have Q1 := After.cell q1
          have R0 := After.cell (hk3.at 0 (v := .int .i64 p.source) rfl)
          have R1 := After.cell (hk3.at 1 (v := .int .i64 p.seq) rfl)
          clear q0 q1 hla hk3 ho3 h0 hL3
          by_cases hap : a = p
          · have he := fun w => (eql43 a p w).trans (by rw [decide_eq_true hap])
            obtain rfl : ok = false := HN.out (by rw [hkl, hap])
            clear hap HN hkl
            go_wp2
            refine wp_region_after (by kernel_rfl) (by kernel_rfl) ?_
            repeat (go_big_quiet_step (fail))
            refine wpQuiet_nil ?_
            intro w4 hb4
            have hB4 := hB3.trans (hb4.mono hB3.size)
            clear Q0 Q1 R0 R1 he hb4 hB3
            go_wp2_with fail
            refine (LV.out _).mono ?_
            rintro e w5 ⟨rfl, hb5⟩
            have hB5 := hB4.trans (hb5.mono hB4.size)
            go_wp2
            go_ret
            exact ⟨rfl, hB5⟩
          · have he := fun w => (eql43 a p w).trans (by rw [decide_eq_false hap])
            clear hap HN hkl
            go_wp2
            refine wp_region_after (by kernel_rfl) (by kernel_rfl) ?_
            repeat (go_big_quiet_step (fail))
            refine wpQuiet_nil ?_
            intro w4 hb4
            have hB4 := hB3.trans (hb4.mono hB3.size)
            clear Q0 Q1 R0 R1 he hb4 hB3
            go_wp2_with fail
            refine (LV.out _).mono ?_
            rintro e w5 ⟨rfl, hb5⟩
            have hB5 := hB4.trans (hb5.mono hB4.size)
            go_wp2
            go_ret
            exact ⟨rfl, hB5⟩
end Go.Proofs.Ytjdhgokcbcidlaa
