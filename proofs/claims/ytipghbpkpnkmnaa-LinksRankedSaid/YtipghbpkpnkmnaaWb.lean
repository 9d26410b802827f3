/- The walk of the reference's Check, and of the copies that both make. -/
import Derived.Test.YtipghbpkpnkmnaaWa
namespace Go.Proofs.Ytipghbpkpnkmnaa
open Go.RowKit Go.BigFrame
set_option linter.unusedVariables false

set_option maxHeartbeats 4000000 in
theorem check15 (A : Option Addr) (n cap : Nat) (l : List Link) (w : World) (hn : n ≤ 9223372036854775807) (hr : Rd w EL A n l) :
    Calls Try.prog 15 #[.slice A n cap] w fun e w' => e = .returned (.int .i64 (chk l)) ∧ Below w.heap.size w w' := by
  have hl := hr.1
  have hw0 := Below.refl w.heap.size w
  by_cases h24 : 24 < n
  · have HC := Lib.hid (show chk l = 3 by unfold chk; rw [if_pos (by omega)])
    go_enter Try.func15, Try.ntmps15
    go_wp2
    go_ret
    exact ⟨ret_int HC.out.symm, hw0⟩
  · have HS := Lib.hid (chk_start (l := l) (by omega))
    have HL := Lib.hid hl
    clear hl
    go_enter Try.func15, Try.ntmps15
    go_wp2
    go_loopw [3] (fun i wr => ∃ j : Nat, j ≤ n ∧ i = .int .i64 j ∧ Hid (chk l = errF (l.drop j) (prv l j)) ∧ Below w.heap.size w wr) (fun i _ => n - (intOf i).toNat)
    case atStart => exact ⟨0, by omega, rfl, HS, Below.refl _ _⟩
    case round =>
      obtain ⟨j, hj, rfl, hi, hbr⟩ := hrel
      clear HS
      by_cases hlt : j < n
      · obtain ⟨b, off, a, rfl, hla, q0, q1, q2⟩ := link_at (hr.later hbr) hlt
        obtain ⟨V, hV, hBV, hzV, hkV⟩ := boxed wr #[.int .i64 a.node, .int .i64 a.bits, .int .i64 a.count] 38
        have s0 := hkV.at 0 (v := .int .i64 a.node) rfl
        have p0 := After.cell s0
        have p1 := After.cell (hkV.at 1 (v := .int .i64 a.bits) rfl)
        have p2 := After.cell (hkV.at 2 (v := .int .i64 a.count) rfl)
        have hB1 := hbr.trans (hBV.mono hbr.size)
        have hrV := (hr.later hbr).later hBV
        have HA := Lib.hid hla
        clear hla hbr
        by_cases hb : bad a
        · have HB := Lib.hid (chk_bad HA.out hi.out hb)
          have PW : Hid (0 ≤ a.count → a.count ≤ 16 → ∀ p : After V, Calls Try.prog 30 #[.int .i64 a.count] p.w fun e w'' => e = .returned (.int .i64 (2 ^ a.count.toNat)) ∧ ∃ q : After V, w'' = q.w) := Lib.hid (fun h0 h1 p => p.same (power30 _ p.w h0 h1))
          have HG := bad_at hb
          clear hb hi HA hkV hr hrV s0
          cases HG
          all_goals
            (try have PW' := PW.out (by assumption) (by assumption))
            clear PW
            go_wp2
            refine wp_region_after (by kernel_rfl) (by kernel_rfl) ?_
            repeat (go_big_quiet_step (with_reducible exact PW' _))
            refine wpQuiet_nil ?_
            intro w1 hb1
            have hB2 := hB1.trans (hb1.mono hB1.size)
            clear p0 p1 p2
            go_wp2
            go_ret
            exact ⟨ret_int HB.out.symm, hB2⟩
        · obtain ⟨d1, d2, d3, d4, d5, d6, d7, d8⟩ := good_at hb
          have PW : ∀ p : After V, Calls Try.prog 30 #[.int .i64 a.count] p.w fun e w'' => e = .returned (.int .i64 (2 ^ a.count.toNat)) ∧ ∃ q : After V, w'' = q.w := fun p => p.same (power30 _ p.w d6 d7)
          have HG := Lib.hid hb
          clear hb
          go_wp2
          refine wp_region_after (by kernel_rfl) (by kernel_rfl) ?_
          repeat (go_big_quiet_step (with_reducible exact PW _))
          refine wpQuiet_nil ?_
          intro w1 hb1
          have hB2 := hB1.trans (hb1.mono hB1.size)
          have hr1 := hrV.later hb1
          have t0 := After.cell (keep hb1 s0)
          clear p0 p1 p2 d1 d2 d3 d4 d5 d6 d7 d8 PW hb1 hB1 hrV s0 hr hkV
          by_cases hj0 : j = 0
          · have HN := Lib.hid (chk_first HA.out hi.out HG.out hj0)
            have hq0 : decide (0 < j) = false := decide_eq_false (by omega)
            have HJ := Lib.hid hj0
            clear hi hj0
            go_wp2
            refine wp_region_after (by kernel_rfl) (by kernel_rfl) ?_
            repeat (go_big_quiet_step (fail))
            refine wpQuiet_nil ?_
            intro w2 hb2
            have hB3 := hB2.trans (hb2.mono hB2.size)
            go_wp2
            go_roundw
            case rel => exact ⟨j + 1, by omega, by go_num, HN, hB3⟩
            case measure => simp [intOf]; omega
          · obtain ⟨p, hq⟩ : ∃ p, j = p + 1 := ⟨j - 1, by omega⟩
            obtain ⟨b', off', a', hA, hla', r0, r1, r2⟩ := link_at hr1 (k := p) (by omega)
            cases hA
            have u0 := After.cell r0
            have hip : (j : Int) - 1 = p := by omega
            have HQ := Lib.hid hq
            have hq0 : decide (0 < j) = true := decide_eq_true (by omega)
            by_cases ho : a.node ≤ a'.node
            · have HN := Lib.hid (chk_order HA.out hi.out HG.out hq hla' ho)
              have ho' := decide_eq_true ho
              clear hi r0 r1 r2 hr1 hq ho hj0
              go_wp2
              refine wp_region_after (by kernel_rfl) (by kernel_rfl) ?_
              repeat (go_big_quiet_step (fail))
              refine wpQuiet_nil ?_
              intro w2 hb2
              have hB3 := hB2.trans (hb2.mono hB2.size)
              clear u0 t0
              go_wp2
              go_ret
              exact ⟨ret_int HN.out.symm, hB3⟩
            · have HN := Lib.hid (chk_next HA.out hi.out HG.out hq hla' ho)
              have ho' := decide_eq_false ho
              clear hi r0 r1 r2 hr1 hq ho hj0
              go_wp2
              refine wp_region_after (by kernel_rfl) (by kernel_rfl) ?_
              repeat (go_big_quiet_step (fail))
              refine wpQuiet_nil ?_
              intro w2 hb2
              have hB3 := hB2.trans (hb2.mono hB2.size)
              clear u0 t0
              go_wp2
              go_roundw
              case rel => exact ⟨j + 1, by omega, by go_num, HN, hB3⟩
              case measure => simp [intOf]; omega
      · have HE := Lib.hid (chk_end hi.out (by rw [HL.out]; omega))
        clear hi
        go_wp2
        go_ret
        exact ⟨ret_int HE.out.symm, hbr⟩
end Go.Proofs.Ytipghbpkpnkmnaa
