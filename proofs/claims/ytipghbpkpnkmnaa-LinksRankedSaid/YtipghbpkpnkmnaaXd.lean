/- The walk of LinksCosts. -/
import Derived.Test.YtipghbpkpnkmnaaXc
import Derived.Test.YtipghbpkpnkmnaaWj
namespace Go.Proofs.Ytipghbpkpnkmnaa
open Go.RowKit Go.BigFrame
set_option linter.unusedVariables false

set_option maxHeartbeats 2000000 in
theorem lawCosts6 (A : Option Addr) (n cap : Nat) (l : List Link) (v : Int) (w : World) (hn : n ≤ cap) (hcap : cap ≤ 9223372036854775807) (hr : Rd w EL A n l) :
    Calls Try.prog 6 #[.slice A n cap, .int .i64 v] w fun e w' => e = .returned (.bool true) ∧ Below w.heap.size w w' := by
  have LV : Hid (∀ w, Calls Try.prog 9 #[] w fun e w' => e = .returned (.bool true) ∧ Below w.heap.size w w') := Lib.hid lives9
  by_cases h : 300 < n
  · go_enter Try.func6, Try.ntmps6
    go_wp2_with fail
    refine (LV.out _).mono ?_
    rintro e w1 ⟨rfl, hb⟩
    go_wp2
    go_ret
    exact ⟨rfl, hb⟩
  · have P1 := Lib.hid (fun w hr => cost16 A n cap l v w (by omega) hr)
    have P2 := Lib.hid (fun w hr => cost18 A n cap l v w (by omega) hr)
    have Q1 := Lib.hid (fun w hr => qual19 A n cap l v w (by omega) hr)
    have Q2 := Lib.hid (fun w hr => qual20 A n cap l v w (by omega) hr)
    have B1 := Lib.hid (fun w hr => bestA22 A n cap l w (by omega) hr)
    have B2 := Lib.hid (fun w hr => best23 A n cap l w (by omega) hr)
    have hl : (bestS (tab l)).length ≤ 24 := Nat.le_trans bestS_len (tab_len l)
    generalize costT (tab l) v = c at *
    generalize qualT (tab l) v = q at *
    generalize bestS (tab l) = b at *
    go_enter Try.func6, Try.ntmps6
    go_wp2_with fail
    refine (P1.out _ hr).mono ?_
    rintro e w1 ⟨rfl, hb1⟩
    have hr1 := hr.later hb1
    clear P1 hr
    go_wp2_with fail
    refine (P2.out _ hr1).mono ?_
    rintro e w2 ⟨rfl, hb2⟩
    have hr2 := hr1.later hb2
    have hB2 := hb1.trans (hb2.mono hb1.size)
    clear P2 hr1 hb1 hb2
    go_wp2_with fail
    refine (Q1.out _ hr2).mono ?_
    rintro e w3 ⟨rfl, hb3⟩
    have hr3 := hr2.later hb3
    have hB3 := hB2.trans (hb3.mono hB2.size)
    clear Q1 hr2 hb3 hB2
    go_wp2_with fail
    refine (Q2.out _ hr3).mono ?_
    rintro e w4 ⟨rfl, hb4⟩
    have hr4 := hr3.later hb4
    have hB4 := hB3.trans (hb4.mono hB3.size)
    clear Q2 hr3 hb4 hB3
    go_wp2_with fail
    refine (B1.out _ hr4).mono ?_
    rintro e w5 ⟨A5, n5, c5, rfl, ho5, hb5⟩
    have hr5 := hr4.later hb5
    have hx5 := ho5.rd
    have hl5 := ho5.1
    have hB5 := hB4.trans (hb5.mono hB4.size)
    clear B1 hr4 hb5 hB4 ho5
    go_wp2_with fail
    refine (B2.out _ hr5).mono ?_
    rintro e w6 ⟨A6, n6, c6, rfl, ho6, hb6⟩
    obtain rfl : n5 = n6 := by rw [← hl5]; exact ho6.1
    have hx6 := ho6.rd
    have hx56 := hx5.later hb6
    have hB6 := hB5.trans (hb6.mono hB5.size)
    have hn5 : n5 ≤ 24 := by rw [← hl5]; exact hl
    clear B2 hr5 hb6 hB5 ho6 hx5
    go_wp2_with fail
    refine (same21 A5 A6 n5 c5 c6 b _ (by omega) hx56 hx6).mono ?_
    rintro e w7 ⟨rfl, hb7⟩
    have hB7 := hB6.trans (hb7.mono hB6.size)
    clear hx56 hx6 hb7 hB6
    go_wp2_with fail
    refine (LV.out _).mono ?_
    rintro e w8 ⟨rfl, hb8⟩
    have hB8 := hB7.trans (hb8.mono hB7.size)
    go_wp2
    go_ret
    exact ⟨rfl, hB8⟩
end Go.Proofs.Ytipghbpkpnkmnaa
