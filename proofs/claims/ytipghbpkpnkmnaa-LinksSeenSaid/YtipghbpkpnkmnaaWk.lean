/- The walks of LinksSeen and LinksChecks. -/
import Derived.Test.YtipghbpkpnkmnaaWj
namespace Go.Proofs.Ytipghbpkpnkmnaa
open Go.RowKit Go.BigFrame
set_option linter.unusedVariables false

set_option maxHeartbeats 2000000 in
theorem lawSeen3 (A : Option Addr) (n cap : Nat) (l : List Link) (v : Int) (ok : Bool) (w : World) (hn : n ≤ cap) (hcap : cap ≤ 9223372036854775807) (hr : Rd w EL A n l) :
    Calls Try.prog 3 #[.slice A n cap, .int .i64 v, .bool ok] w fun e w' => e = .returned (.bool true) ∧ Below w.heap.size w w' := by
  have LV : Hid (∀ w, Calls Try.prog 9 #[] w fun e w' => e = .returned (.bool true) ∧ Below w.heap.size w w') := Lib.hid lives9
  by_cases h : 300 < n
  · go_enter Try.func3, Try.ntmps3
    go_wp2_with fail
    refine (LV.out _).mono ?_
    rintro e w1 ⟨rfl, hb⟩
    go_wp2
    go_ret
    exact ⟨rfl, hb⟩
  · have P1 := Lib.hid (fun w hr => seen11 A n cap l v ok w (by omega) hr)
    have P2 := Lib.hid (fun w hr => seen12 A n cap l v ok w (by omega) hr)
    have Q1 := Lib.hid (fun w hr => forget13 A n cap l v w (by omega) hr)
    have Q2 := Lib.hid (fun w hr => forget14 A n cap l v w (by omega) hr)
    rw [← seen_eq (tab_good l)] at P2
    rw [← forg_eq (tab_good l).2.1] at Q2
    generalize seenT (tab l) v ok = r at *
    generalize forgT (tab l) v = q at *
    go_enter Try.func3, Try.ntmps3
    go_wp2_with fail
    refine (P1.out _ hr).mono ?_
    rintro e w1 ⟨A1, n1, c1, rfl, ho1, hb1⟩
    have hr1 := ho1.rd
    have hl1 := ho1.1
    have hc1 := ho1.cap
    have hrl := hr.later hb1
    clear P1 ho1 hr
    go_wp2_with fail
    refine (P2.out _ hrl).mono ?_
    rintro e w2 ⟨A2, n2, c2, rfl, ho2, hb2⟩
    obtain rfl : n1 = n2 := by rw [← hl1]; exact ho2.1
    have hr2 := ho2.rd
    have hr12 := hr1.later hb2
    have hrl2 := hrl.later hb2
    have hB2 := hb1.trans (hb2.mono hb1.size)
    have hn1 : n1 ≤ 9223372036854775807 := by have := hc1.1; have h2 := hc1.2; unfold maxLen at h2; omega
    clear P2 ho2 hb1 hb2 hr1 hrl hc1 hl1
    go_wp2_with fail
    refine (same_eq A1 A2 n1 c1 c2 r _ hn1 hr12 hr2).mono ?_
    rintro e w3 ⟨rfl, hb3⟩
    have hrl3 := hrl2.later hb3
    have hB3 := hB2.trans (hb3.mono hB2.size)
    clear hr2 hr12 hrl2 hb3 hB2
    go_wp2_with fail
    refine (Q1.out _ hrl3).mono ?_
    rintro e w4 ⟨A4, n4, c4, rfl, ho4, hb4⟩
    have hr4 := ho4.rd
    have hl4 := ho4.1
    have hc4 := ho4.cap
    have hrl4 := hrl3.later hb4
    have hB4 := hB3.trans (hb4.mono hB3.size)
    clear Q1 ho4 hrl3 hb4 hB3
    go_wp2_with fail
    refine (Q2.out _ hrl4).mono ?_
    rintro e w5 ⟨A5, n5, c5, rfl, ho5, hb5⟩
    obtain rfl : n4 = n5 := by rw [← hl4]; exact ho5.1
    have hr5 := ho5.rd
    have hr45 := hr4.later hb5
    have hB5 := hB4.trans (hb5.mono hB4.size)
    have hn4 : n4 ≤ 9223372036854775807 := by have := hc4.1; have h2 := hc4.2; unfold maxLen at h2; omega
    clear Q2 ho5 hrl4 hb5 hB4 hr4 hc4 hl4
    go_wp2_with fail
    refine (same_eq A4 A5 n4 c4 c5 q _ hn4 hr45 hr5).mono ?_
    rintro e w6 ⟨rfl, hb6⟩
    have hB6 := hB5.trans (hb6.mono hB5.size)
    clear hr5 hr45 hb6 hB5
    go_wp2_with fail
    refine (LV.out _).mono ?_
    rintro e w7 ⟨rfl, hb7⟩
    have hB7 := hB6.trans (hb7.mono hB6.size)
    go_wp2
    go_ret
    exact ⟨rfl, hB7⟩

set_option maxHeartbeats 1000000 in
theorem lawChecks5 (A : Option Addr) (n cap : Nat) (l : List Link) (w : World) (hn : n ≤ cap) (hcap : cap ≤ 9223372036854775807) (hr : Rd w EL A n l) :
    Calls Try.prog 5 #[.slice A n cap] w fun e w' => e = .returned (.bool true) ∧ Below w.heap.size w w' := by
  have hw0 := Below.refl w.heap.size w
  by_cases h : 300 < n
  · go_enter Try.func5, Try.ntmps5
    go_wp2
    go_ret
    exact ⟨rfl, hw0⟩
  · have LV : Hid (∀ w, Calls Try.prog 9 #[] w fun e w' => e = .returned (.bool true) ∧ Below w.heap.size w w') := Lib.hid lives9
    have P1 := Lib.hid (fun w hr => check17 A n cap l w (by omega) hr)
    have P2 := Lib.hid (fun w hr => check15 A n cap l w (by omega) hr)
    generalize chk l = r at *
    go_enter Try.func5, Try.ntmps5
    go_wp2_with fail
    refine (P1.out _ hr).mono ?_
    rintro e w1 ⟨rfl, hb1⟩
    have hr1 := hr.later hb1
    clear P1 hr
    go_wp2_with fail
    refine (P2.out _ hr1).mono ?_
    rintro e w2 ⟨rfl, hb2⟩
    have hB2 := hb1.trans (hb2.mono hb1.size)
    clear P2 hr1 hb1 hb2
    go_wp2_with fail
    refine (LV.out _).mono ?_
    rintro e w3 ⟨rfl, hb3⟩
    have hB3 := hB2.trans (hb3.mono hB2.size)
    go_wp2
    go_ret
    exact ⟨rfl, hB3⟩
end Go.Proofs.Ytipghbpkpnkmnaa
