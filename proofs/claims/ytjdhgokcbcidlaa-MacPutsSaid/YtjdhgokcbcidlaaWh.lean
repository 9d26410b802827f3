/- The walks of MacPuts and MacResults. -/
import Derived.Test.YtjdhgokcbcidlaaWg
namespace Go.Proofs.Ytjdhgokcbcidlaa
open Go.RowKit Go.BigFrame
set_option linter.unusedVariables false

set_option maxHeartbeats 2000000 in
theorem lawPuts3 (A : Option Addr) (n cap : Nat) (l : List Sn) (f : Fr) (w : World) (hn : n ≤ cap) (hcap : cap ≤ 9223372036854775807) (hr : Rd w ES A n l) :
    Calls Try.prog 3 #[.slice A n cap, frV f] w fun e w' => e = .returned (.bool true) ∧ Below w.heap.size w w' := by
  obtain ⟨W, hW, hB, hz, hk⟩ := boxed w #[.int .i64 f.kind, .int .i64 f.src, .int .i64 f.to, .int .i64 f.source, .int .i64 f.target, .int .i64 f.seq, .int .i64 f.hops, .bool f.urgent, .string f.data] 24
  have hrW := hr.later hB
  have LV : Hid (∀ w, Calls Try.prog 9 #[] w fun e w' => e = .returned (.bool true) ∧ Below w.heap.size w w') := Lib.hid lives9
  by_cases h : 100 < n
  · go_enter Try.func3, Try.ntmps3
    go_wp2_with fail
    refine (LV.out _).mono ?_
    rintro e w1 ⟨rfl, hb⟩
    have hB1 := hB.trans (hb.mono (Nat.le_of_lt hz))
    go_wp2
    go_ret
    exact ⟨rfl, hB1⟩
  · have P1 := Lib.hid (fun w hr => put10 A n cap l f w hn hcap hr)
    have P2 := Lib.hid (fun w hr => put11 A n cap l f w (by omega) hr)
    generalize putS (l.take 16) f = r at *
    obtain ⟨r1, r2⟩ := r
    have b0 := hk.at 0 (v := .int .i64 f.kind) rfl
    have b1 := hk.at 1 (v := .int .i64 f.src) rfl
    have b2 := hk.at 2 (v := .int .i64 f.to) rfl
    have b3 := hk.at 3 (v := .int .i64 f.source) rfl
    have b4 := hk.at 4 (v := .int .i64 f.target) rfl
    have b5 := hk.at 5 (v := .int .i64 f.seq) rfl
    have b6 := hk.at 6 (v := .int .i64 f.hops) rfl
    have b7 := hk.at 7 (v := .bool f.urgent) rfl
    have b8 := hk.at 8 (v := .string f.data) rfl
    clear hk hr
    go_enter Try.func3, Try.ntmps3
    go_wp2_with fail
    refine (P1.out _ hrW).mono ?_
    rintro e w1 ⟨A1, n1, c1, he, ho1, hb1⟩
    obtain rfl : e = .returned (.tuple #[.slice A1 n1 c1, .bool r2]) := he
    have d0 := keep hb1 b0
    have d1 := keep hb1 b1
    have d2 := keep hb1 b2
    have d3 := keep hb1 b3
    have d4 := keep hb1 b4
    have d5 := keep hb1 b5
    have d6 := keep hb1 b6
    have d7 := keep hb1 b7
    have d8 := keep hb1 b8
    have hr1 := ho1.rd
    have hl1 := ho1.1
    have hc1 := ho1.cap
    have hB1 := hB.trans (hb1.mono (Nat.le_of_lt hz))
    have hrW1 := hrW.later hb1
    clear b0 b1 b2 b3 b4 b5 b6 b7 b8 P1 ho1 hb1 hB hrW hW hz
    go_wp2_with fail
    refine (P2.out _ hrW1).mono ?_
    rintro e w2 ⟨A2, n2, c2, he, ho2, hb2⟩
    obtain rfl : e = .returned (.tuple #[.slice A2 n2 c2, .bool r2]) := he
    have hr2 := ho2.rd
    have hl2 := ho2.1
    have hr1' := hr1.later hb2
    have hB2 := hB1.trans (hb2.mono hB1.size)
    have hn1 : n1 ≤ 9223372036854775807 := by have := hc1.1; have h2 := hc1.2; unfold maxLen at h2; omega
    obtain rfl : n1 = n2 := by simp at hl1 hl2; omega
    clear d0 d1 d2 d3 d4 d5 d6 d7 d8 P2 ho2 hb2 hr1 hrW1 hl1 hl2 hc1 hB1
    go_wp2_with fail
    refine (same_eq A1 A2 n1 c1 c2 r1 _ hn1 hr1' hr2).mono ?_
    rintro e w3 ⟨rfl, hb3⟩
    have hB3 := hB2.trans (hb3.mono hB2.size)
    go_wp2_with fail
    refine (LV.out _).mono ?_
    rintro e w4 ⟨rfl, hb4⟩
    have hB4 := hB3.trans (hb4.mono hB3.size)
    go_wp2
    go_ret
    exact ⟨rfl, hB4⟩

set_option maxHeartbeats 2000000 in
theorem lawResults4 (A : Option Addr) (n cap : Nat) (l : List Sn) (i : Int) (ok : Bool) (w : World) (hn : n ≤ cap) (hcap : cap ≤ 9223372036854775807) (hr : Rd w ES A n l) :
    Calls Try.prog 4 #[.slice A n cap, .int .i64 i, .bool ok] w fun e w' => e = .returned (.bool true) ∧ Below w.heap.size w w' := by
  have LV : Hid (∀ w, Calls Try.prog 9 #[] w fun e w' => e = .returned (.bool true) ∧ Below w.heap.size w w') := Lib.hid lives9
  by_cases h : 100 < n
  · go_enter Try.func4, Try.ntmps4
    go_wp2_with fail
    refine (LV.out _).mono ?_
    rintro e w1 ⟨rfl, hb⟩
    go_wp2
    go_ret
    exact ⟨rfl, hb⟩
  · have P1 := Lib.hid (fun w hr => result13 A n cap l i ok w hn hcap hr)
    have P2 := Lib.hid (fun w hr => result14 A n cap l i ok w (by omega) hr)
    have N1 := Lib.hid (fun w hr => next15 A n cap l w hn hcap hr)
    have N2 := Lib.hid (fun w hr => next16 A n cap l w (by omega) hr)
    have T1 := Lib.hid (fun w hr => tick17 A n cap l w hn hcap hr)
    have T2 := Lib.hid (fun w hr => tick18 A n cap l w (by omega) hr)
    generalize resS (l.take 16) i ok = r at *
    generalize nextS (l.take 16) = z at *
    generalize (l.take 16).map tick1 = q at *
    obtain ⟨r1, r2⟩ := r
    go_enter Try.func4, Try.ntmps4
    go_wp2_with fail
    refine (P1.out _ hr).mono ?_
    rintro e w1 ⟨A1, n1, c1, he, ho1, hb1⟩
    obtain rfl : e = .returned (.tuple #[.slice A1 n1 c1, .bool r2]) := he
    have hr1 := ho1.rd
    have hl1 := ho1.1
    have hc1 := ho1.cap
    have hrl := hr.later hb1
    clear P1 ho1 hr
    go_wp2_with fail
    refine (P2.out _ hrl).mono ?_
    rintro e w2 ⟨A2, n2, c2, he, ho2, hb2⟩
    obtain rfl : e = .returned (.tuple #[.slice A2 n2 c2, .bool r2]) := he
    obtain rfl : n1 = n2 := by have := ho2.1; simp at hl1 this; omega
    have hr2 := ho2.rd
    have hr12 := hr1.later hb2
    have hrl2 := hrl.later hb2
    have hB2 := hb1.trans (hb2.mono hb1.size)
    have hn1 : n1 ≤ 9223372036854775807 := by have := hc1.1; have h2 := hc1.2; unfold maxLen at h2; omega
    clear P2 ho2 hb1 hb2 hr1 hrl hc1 hl1
    go_wp2_with fail
    refine (same_eq A1 A2 n1 c1 c2 r1 _ hn1 hr12 hr2).mono ?_
    rintro e w3 ⟨rfl, hb3⟩
    have hrl3 := hrl2.later hb3
    have hB3 := hB2.trans (hb3.mono hB2.size)
    clear hr2 hr12 hrl2 hb3 hB2
    go_wp2_with fail
    refine (N1.out _ hrl3).mono ?_
    rintro e w4 ⟨rfl, hb4⟩
    have hrl4 := hrl3.later hb4
    have hB4 := hB3.trans (hb4.mono hB3.size)
    clear N1 hrl3 hb4 hB3
    go_wp2_with fail
    refine (N2.out _ hrl4).mono ?_
    rintro e w5 ⟨rfl, hb5⟩
    have hrl5 := hrl4.later hb5
    have hB5 := hB4.trans (hb5.mono hB4.size)
    clear N2 hrl4 hb5 hB4
    go_wp2_with fail
    refine (T1.out _ hrl5).mono ?_
    rintro e w6 ⟨A6, n6, c6, rfl, ho6, hb6⟩
    have hr6 := ho6.rd
    have hl6 := ho6.1
    have hc6 := ho6.cap
    have hrl6 := hrl5.later hb6
    have hB6 := hB5.trans (hb6.mono hB5.size)
    clear T1 ho6 hrl5 hb6 hB5
    go_wp2_with fail
    refine (T2.out _ hrl6).mono ?_
    rintro e w7 ⟨A7, n7, c7, rfl, ho7, hb7⟩
    obtain rfl : n6 = n7 := by rw [← hl6]; exact ho7.1
    have hr7 := ho7.rd
    have hr67 := hr6.later hb7
    have hB7 := hB6.trans (hb7.mono hB6.size)
    have hn6 : n6 ≤ 9223372036854775807 := by have := hc6.1; have h2 := hc6.2; unfold maxLen at h2; omega
    clear T2 ho7 hrl6 hb7 hB6 hr6 hc6 hl6
    go_wp2_with fail
    refine (same_eq A6 A7 n6 c6 c7 q _ hn6 hr67 hr7).mono ?_
    rintro e w8 ⟨rfl, hb8⟩
    have hB8 := hB7.trans (hb8.mono hB7.size)
    clear hr7 hr67 hb8 hB7
    go_wp2_with fail
    refine (LV.out _).mono ?_
    rintro e w9 ⟨rfl, hb9⟩
    have hB9 := hB8.trans (hb9.mono hB8.size)
    go_wp2
    go_ret
    exact ⟨rfl, hB9⟩
end Go.Proofs.Ytjdhgokcbcidlaa
