/- looping. -/
import Derived.Test.YtlmoeempblgdkaaLm
namespace Go.Proofs.Ytlmoeempblgdkaa
open Go.RowKit Go.BigFrame
set_option linter.unusedVariables false
set_option linter.unusedSimpArgs false

set_option maxRecDepth 20000 in
set_option maxHeartbeats 8000000 in
theorem looping29 (f : Nat → Sl) (ts : Nat → List Rt) (w : World) (hr : ∀ x : Nat, x < 6 → Rd w ER (f x).A (f x).n (ts x)) (hL : LInv ts) :
    Calls Try.prog 29 #[.agg (arr f)] w fun e w' => e = .returned (.bool false) ∧ Below w.heap.size w w' := by
  obtain ⟨W, hW, hB, hz, hk⟩ := boxeds w (arr f) 47
  have HF := Lib.hid hB
  have HR := Lib.hid (fun (x : Nat) (hx : x < 6) => (hr x hx).later hB)
  have HL := Lib.hid hL
  clear hr hL hB hz
  go_enter Try.func29, Try.ntmps29
  go_wp2
  go_loopw [3] (fun s wr => ∃ a : Nat, a ≤ 6 ∧ s = .int .i64 a ∧ Below W.heap.size W wr) (fun s _ => 6 - (intOf s).toNat)
  case atStart => exact ⟨0, Nat.zero_le _, rfl, Below.refl _ _⟩
  case round =>
    obtain ⟨a, ha, rfl, hbr⟩ := hrel
    by_cases hlt : a < 6
    · obtain ⟨wo, rfl⟩ : ∃ wo : World, wo = wr := ⟨_, rfl⟩
      have HB := Lib.hid hbr
      have HA := Lib.hid hlt
      have da : decide ((a : Int) < 6) = true := decide_eq_true (by omega)
      clear hbr hlt
      go_wp2
      go_loopw [4] (fun s wr => ∃ d : Nat, d ≤ 6 ∧ s = .int .i64 d ∧ Below wo.heap.size wo wr) (fun s _ => 6 - (intOf s).toNat)
      case atStart => exact ⟨0, Nat.zero_le _, rfl, Below.refl _ _⟩
      case round =>
        obtain ⟨d, hd, rfl, hbr⟩ := hrel
        by_cases hdt : d < 6
        · obtain ⟨wp, rfl⟩ : ∃ wp : World, wp = wr := ⟨_, rfl⟩
          have HB2 := Lib.hid (HB.out.trans (hbr.mono HB.out.size))
          have HB3 := Lib.hid hbr
          have HD := Lib.hid hdt
          have dd : decide ((d : Int) < 6) = true := decide_eq_true (by omega)
          clear hbr hdt
          go_upto_block 3 with fail
          go_cut [] (fun w' => Below wp.heap.size wp w')
          case first =>
            go_wp2_with fail
            go_loopw [5, 6] (fun s k wr => ∃ (x j : Nat), x < 6 ∧ s = .int .i64 x ∧ k = .int .i64 j ∧ j + rank ts (d : Int) x ≤ 6 ∧ Below wp.heap.size wp wr) (fun _ k _ => 7 - (intOf k).toNat)
            case atStart => exact ⟨a, 0, HA.out, rfl, rfl, by have := rank_le ts (d : Int) a; omega, Below.refl _ _⟩
            case round =>
              obtain ⟨x, j, hx, rfl, rfl, hj, hbr⟩ := hrel
              by_cases hxd : x = d
              · have d1 : ((x : Int) == (d : Int)) = true := by simp [hxd]
                have d2 : ((x : Int) != (d : Int)) = false := by simp [hxd]
                have d3 : (x == d) = true := by simp [hxd]
                have d4 : (x != d) = false := by simp [hxd]
                clear hxd
                go_wp2
                all_goals first | (exfalso; simp_all; done) | skip
                go_meet
                exact hbr
              · have d1 : ((x : Int) == (d : Int)) = false := by rw [beq_eq_false_iff_ne]; omega
                have d2 : ((x : Int) != (d : Int)) = true := by rw [bne, d1]; rfl
                have d3 : (x == d) = false := by rw [beq_eq_false_iff_ne]; exact hxd
                have d4 : (x != d) = true := by rw [bne, d3]; rfl
                have hj6 : j ≤ 6 := by omega
                have HJ := Lib.hid hj
                have q0 := (hk.later (HB2.out.trans (hbr.mono HB2.out.size))).at x (arr_get f hx)
                have hrx := (HR.out x hx).later (HB2.out.trans (hbr.mono HB2.out.size))
                have HP := Lib.hid (show ((f x).n) ≤ 1000 by rw [← hrx.1]; exact Nat.le_trans (HL.out.ok x hx).le (by omega))
                have H14 := Lib.hid (hop14 (f x).A (f x).n (f x).c (ts x) (d : Int) wr HP.out hrx)
                have hx0 : (0 : Int) ≤ (x : Int) := by omega
                have hx1 : (x : Int) < (6 : Int) := by omega
                have hnext := hop_next HL.out hx (d := (d : Int)) (by omega)
                clear hrx hxd
                rcases hnext with hn | ⟨m, hm, hne, hn, hrk⟩
                · rw [hn] at H14
                  clear hn hj
                  go_wp2_with fail
                  refine H14.out.mono ?_
                  rintro e w3 ⟨rfl, h3⟩
                  have b3 := hbr.trans (h3.mono hbr.size)
                  clear H14 h3 hbr q0
                  go_wp2
                  all_goals first | (exfalso; simp_all; done) | skip
                  go_meet
                  exact b3
                · rw [hn] at H14
                  have HN := Lib.hid (show j + 1 + rank ts (d : Int) m ≤ 6 by omega)
                  have m0 : (0 : Int) ≤ (m : Int) := by omega
                  have m1 : (m : Int) ≤ 5 := by omega
                  have c1 : ((m : Int) == (x : Int)) = false := by rw [beq_eq_false_iff_ne]; omega
                  have c3 : (m == x) = false := by rw [beq_eq_false_iff_ne]; exact hne
                  clear hn hj hrk hne
                  go_wp2_with fail
                  refine H14.out.mono ?_
                  rintro e w3 ⟨rfl, h3⟩
                  have b3 := hbr.trans (h3.mono hbr.size)
                  clear H14 h3 hbr q0
                  go_wp2
                  all_goals first | (exfalso; simp_all; done) | (exfalso; omega) | skip
                  go_roundw
                  case rel => exact ⟨m, j + 1, hm, by go_num, by go_num, HN.out, b3⟩
                  case measure => simp [intOf]; omega
          case rest =>
            obtain ⟨w2, rfl⟩ : ∃ y : World, y = wc := ⟨_, rfl⟩
            have b2 := HB3.out.trans (hcut.mono HB3.out.size)
            clear hcut
            go_wp2
            go_roundw
            case rel => exact ⟨d + 1, by have := HD.out; omega, by go_num, b2⟩
            case measure => have := HD.out; simp [intOf]; omega
        · have b2 := HB.out.trans (hbr.mono HB.out.size)
          clear hbr
          go_wp2
          go_roundw
          case rel => exact ⟨a + 1, by have := HA.out; omega, by go_num, b2⟩
          case measure => have := HA.out; simp [intOf]; omega
    · have b2 := HF.out.trans (hbr.mono HF.out.size)
      clear hbr
      go_wp2
      go_ret
      exact ⟨rfl, b2⟩
end Go.Proofs.Ytlmoeempblgdkaa
