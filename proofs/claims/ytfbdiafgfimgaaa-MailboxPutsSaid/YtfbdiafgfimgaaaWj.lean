/- The walk of MailboxPuts. -/
import Derived.Test.YtfbdiafgfimgaaaWi
import Derived.Test.YtfbdiafgfimgaaaWh
namespace Go.Proofs.Ytfbdiafgfimgaaa
open Go.RowKit Go.BigFrame
set_option linter.unusedVariables false

set_option maxHeartbeats 2000000 in
theorem lawPuts3 (A : Option Addr) (n cap : Nat) (l : List Mail) (f : Fr) (now : Int) (w : World) (hn : n ≤ cap) (hcap : cap ≤ 9223372036854775807) (hr : Rd w EM A n l) :
    Calls Try.prog 3 #[.slice A n cap, frV f, .int .i64 now] w fun e w' => e = .returned (.bool true) ∧ Below w.heap.size w w' := by
  obtain ⟨W, hW, hB, hz, hk⟩ := boxed w #[.int .i64 f.kind, .int .i64 f.src, .int .i64 f.to, .int .i64 f.source, .int .i64 f.target, .int .i64 f.seq, .int .i64 f.hops, .bool f.urgent, .string f.data] 24
  have hrW := hr.later hB
  have LV : Hid (∀ w, Calls Try.prog 9 #[] w fun e w' => e = .returned (.bool true) ∧ Below w.heap.size w w') := Lib.hid lives9
  by_cases h : 100 < n
  · go_enter Try.func3, Try.ntmps3
    go_wp2_with fail
    refine (LV.out _).mono ?_
    rintro e w1 ⟨rfl, hb⟩
    have hB1 := hB.trans (hb.mono (Nat.le_of_lt hz))
    go_wp2
    go_ret
    exact ⟨rfl, hB1⟩
  · have P1 := Lib.hid (fun w hr => put10 A n cap l f now w hn hcap hr)
    have P2 := Lib.hid (fun w hr => put11 A n cap l f now w (by omega) hr)
    generalize putM (l.take 16) ⟨f, lim now⟩ = r at *
    obtain ⟨r1, r2⟩ := r
    have b0 := hk.at 0 (v := .int .i64 f.kind) rfl
    have b1 := hk.at 1 (v := .int .i64 f.src) rfl
    have b2 := hk.at 2 (v := .int .i64 f.to) rfl
    have b3 := hk.at 3 (v := .int .i64 f.source) rfl
    have b4 := hk.at 4 (v := .int .i64 f.target) rfl
    have b5 := hk.at 5 (v := .int .i64 f.seq) rfl
    have b6 := hk.at 6 (v := .int .i64 f.hops) rfl
    have b7 := hk.at 7 (v := .bool f.urgent) rfl
    have b8 := hk.at 8 (v := .string f.data) rfl
    clear hk hr
    go_enter Try.func3, Try.ntmps3
    go_wp2_with fail
    refine (P1.out _ hrW).mono ?_
    rintro e w1 ⟨A1, n1, c1, he, ho1, hb1⟩
    obtain rfl : e = .returned (.tuple #[.slice A1 n1 c1, .bool r2]) := he
    have d0 := keep hb1 b0
    have d1 := keep hb1 b1
    have d2 := keep hb1 b2
    have d3 := keep hb1 b3
    have d4 := keep hb1 b4
    have d5 := keep hb1 b5
    have d6 := keep hb1 b6
    have d7 := keep hb1 b7
    have d8 := keep hb1 b8
    have hr1 := ho1.rd
    have hl1 := ho1.1
    have hc1 := ho1.cap
    have hB1 := hB.trans (hb1.mono (Nat.le_of_lt hz))
    have hrW1 := hrW.later hb1
    clear b0 b1 b2 b3 b4 b5 b6 b7 b8 P1 ho1 hb1 hB hrW hW hz
    go_wp2_with fail
    refine (P2.out _ hrW1).mono ?_
    rintro e w2 ⟨A2, n2, c2, he, ho2, hb2⟩
    obtain rfl : e = .returned (.tuple #[.slice A2 n2 c2, .bool r2]) := he
    have hr2 := ho2.rd
    have hl2 := ho2.1
    have hr1' := hr1.later hb2
    have hB2 := hB1.trans (hb2.mono hB1.size)
    have hn1 : n1 ≤ 9223372036854775807 := by have := hc1.1; have h2 := hc1.2; unfold maxLen at h2; omega
    obtain rfl : n1 = n2 := by simp at hl1 hl2; omega
    clear d0 d1 d2 d3 d4 d5 d6 d7 d8 P2 ho2 hb2 hr1 hrW1 hl1 hl2 hc1 hB1
    go_wp2_with fail
    refine (same_eq A1 A2 n1 c1 c2 r1 _ hn1 hr1' hr2).mono ?_
    rintro e w3 ⟨rfl, hb3⟩
    have hB3 := hB2.trans (hb3.mono hB2.size)
    go_wp2_with fail
    refine (LV.out _).mono ?_
    rintro e w4 ⟨rfl, hb4⟩
    have hB4 := hB3.trans (hb4.mono hB3.size)
    go_wp2
    go_ret
    exact ⟨rfl, hB4⟩
end Go.Proofs.Ytfbdiafgfimgaaa
