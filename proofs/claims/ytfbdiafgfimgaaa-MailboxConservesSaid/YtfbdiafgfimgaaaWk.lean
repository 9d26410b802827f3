/- The walk of MailboxConserves. -/
import Derived.Test.YtfbdiafgfimgaaaWi
namespace Go.Proofs.Ytfbdiafgfimgaaa
open Go.RowKit Go.BigFrame
set_option linter.unusedVariables false

theorem takeL_none_of {t : Int} {l : List Mail} (h : cnt t l = 0) : takeL t l = (none, l) := by
  refine takeL_none t l fun a ha e => ?_
  have : 0 < cnt t l := List.length_pos_of_mem (List.mem_filter.2 ⟨ha, by simpa using e⟩)
  omega
theorem takeL_some_of {t : Int} {l : List Mail} (h : 0 < cnt t l) : ∃ f r, takeL t l = (some f, r) ∧ r.length + 1 = l.length ∧ cnt t r + 1 = cnt t l := by
  induction l with
  | nil => simp [cnt] at h
  | cons a k ih =>
    by_cases ha : a.f.to = t
    · exact ⟨a.f, k, by rw [takeL, if_pos ha], by simp, by simp [cnt, ha]⟩
    · have hc : cnt t (a :: k) = cnt t k := by simp [cnt, ha]
      rw [hc] at h ⊢
      obtain ⟨f, r, e, h1, h2⟩ := ih h
      exact ⟨f, a :: r, by rw [takeL, if_neg ha, e], by simp; omega, by rw [← h2]; simp [cnt, ha]⟩

set_option maxHeartbeats 4000000 in
theorem lawConserves8 (A : Option Addr) (n cap : Nat) (l : List Mail) (t p q : Int) (w : World) (hn : n ≤ cap) (hcap : cap ≤ 9223372036854775807) (hr : Rd w EM A n l) :
    Calls Try.prog 8 #[.slice A n cap, .int .i64 t, .agg #[.int .i64 p, .int .i64 q]] w fun e w' => e = .returned (.bool true) ∧ Below w.heap.size w w' := by
  obtain ⟨W, hW, hB, hz, hk⟩ := boxed w #[.int .i64 p, .int .i64 q] 38
  have hrW := hr.later hB
  have LV : Hid (∀ w, Calls Try.prog 9 #[] w fun e w' => e = .returned (.bool true) ∧ Below w.heap.size w w') := Lib.hid lives9
  by_cases h : 100 < n
  · go_enter Try.func8, Try.ntmps8
    go_wp2_with fail
    refine (LV.out _).mono ?_
    rintro e w1 ⟨rfl, hb⟩
    have hB1 := hB.trans (hb.mono (Nat.le_of_lt hz))
    go_wp2
    go_ret
    exact ⟨rfl, hB1⟩
  · have EX := Lib.hid (fun w hr => expire16 A n cap l p q w hn hcap hr)
    have TK := Lib.hid (fun w hr => take14 A n cap l t p q w hn hcap hr)
    obtain ⟨L, hL⟩ : ∃ L, (l.take 16).filter (live p q) = L := ⟨_, rfl⟩
    have hL16 : L.length ≤ 16 := by rw [← hL]; exact Nat.le_trans (List.length_filter_le _ _) (by rw [List.length_take]; omega)
    have hid : Hid ((L.take 16).filter (live p q) = L) := Lib.hid (by rw [List.take_of_length_le hL16, ← hL, List.filter_filter]; simp)
    have hct : Hid (L.take 16 = L) := Lib.hid (List.take_of_length_le hL16)
    rw [hL] at EX TK
    have b0 := hk.at 0 (v := .int .i64 p) rfl
    have b1 := hk.at 1 (v := .int .i64 q) rfl
    clear hk hr hL
    go_enter Try.func8, Try.ntmps8
    go_wp2_with fail
    refine (EX.out _ hrW).mono ?_
    rintro e w1 ⟨A1, n1, c1, rfl, ho1, hb1⟩
    have d0 := keep hb1 b0
    have d1 := keep hb1 b1
    have hr1 := ho1.rd
    have hl1 := ho1.1
    have hc1 := ho1.cap
    have hB1 := hB.trans (hb1.mono (Nat.le_of_lt hz))
    have hrW1 := hrW.later hb1
    clear b0 b1 EX ho1 hb1 hB hrW hW hz
    go_wp2_with fail
    refine (TK.out _ hrW1).mono ?_
    rintro e w2 ⟨A2, n2, c2, he, ho2, hb2⟩
    have d0' := keep hb2 d0
    have d1' := keep hb2 d1
    have hr2 := ho2.rd
    have hl2 := ho2.1
    have hc2 := ho2.cap
    have hr1' := hr1.later hb2
    have hB2 := hB1.trans (hb2.mono hB1.size)
    clear d0 d1 TK ho2 hb2 hrW1 hr1 hB1
    rcases Nat.eq_zero_or_pos (cnt t L) with hz | hz
    · have e1 := takeL_none_of hz
      rw [e1] at he hl2 hr2
      obtain rfl : e = .returned (.tuple #[frV f0, .slice A2 n2 c2, .bool false]) := he
      obtain rfl : n2 = n1 := by rw [← hl2, ← hl1]
      have CN : Hid (∀ w, Rd w EM A1 n2 L → Calls Try.prog 18 #[.slice A1 n2 c1, .int .i64 t] w fun e w' => e = .returned (.int .i64 0) ∧ Below w.heap.size w w') := Lib.hid (fun w hr => by have := count18 A1 n2 c1 L t w hc1.1 hc1.2 hr; rw [hct.out, hz] at this; exact this)
      obtain ⟨V, hV, hBV, hzV, hkV⟩ := boxed w2 #[.int .i64 f0.kind, .int .i64 f0.src, .int .i64 f0.to, .int .i64 f0.source, .int .i64 f0.target, .int .i64 f0.seq, .int .i64 f0.hops, .bool f0.urgent, .string f0.data] 24
      have hrV := hr1'.later hBV
      have hr2V := hr2.later hBV
      have g0 := keep hBV d0'
      have g1 := keep hBV d1'
      have hBV2 := hB2.trans (hBV.mono hB2.size)
      clear hkV hzV e1 hz d0' d1' hBV hB2 hr1' hr2
      go_wp2_with fail
      refine (CN.out _ hrV).mono ?_
      rintro e w3 ⟨rfl, hb3⟩
      have g0' := keep hb3 g0
      have g1' := keep hb3 g1
      have hr3 := hrV.later hb3
      have hr23 := hr2V.later hb3
      have hB3 := hBV2.trans (hb3.mono hBV2.size)
      have EX2 := Lib.hid (fun w hr => expire16 A1 n2 c1 L p q w hc1.1 hc1.2 hr)
      rw [hid.out] at EX2
      clear g0 g1 hrV hr2V hb3 hBV2 CN hV
      go_wp2_with fail
      refine (EX2.out _ hr3).mono ?_
      rintro e w4 ⟨A4, n4, c4, rfl, ho4, hb4⟩
      have hr4 := ho4.rd
      have hl4 := ho4.1
      obtain rfl : n2 = n4 := by rw [← hl1, ← hl4]
      have hr34 := hr3.later hb4
      have hr24 := hr23.later hb4
      have hB4 := hB3.trans (hb4.mono hB3.size)
      clear EX2 hr3 hr23 hb4 hB3 ho4 g0' g1'
      go_wp2_with fail
      refine (same_eq A4 A1 n2 c4 c1 L _ (by omega) hr4 hr34).mono ?_
      rintro e w5 ⟨rfl, hb5⟩
      have hr35 := hr34.later hb5
      have hr25 := hr24.later hb5
      have hB5 := hB4.trans (hb5.mono hB4.size)
      clear hr4 hr34 hr24 hb5 hB4
      go_wp2_with fail
      refine (same_eq A2 A1 n2 c2 c1 L _ (by omega) hr25 hr35).mono ?_
      rintro e w6 ⟨rfl, hb6⟩
      have hB6 := hB5.trans (hb6.mono hB5.size)
      clear hr25 hr35 hb6 hB5
      go_wp2_with fail
      refine (LV.out _).mono ?_
      rintro e w7 ⟨rfl, hb7⟩
      have hB7 := hB6.trans (hb7.mono hB6.size)
      go_wp2
      go_ret
      exact ⟨rfl, hB7⟩
    · obtain ⟨f, r, e1, h1, h2⟩ := takeL_some_of hz
      rw [e1] at he hl2 hr2
      obtain rfl : e = .returned (.tuple #[frV f, .slice A2 n2 c2, .bool true]) := he
      obtain rfl : n1 = n2 + 1 := by simp at hl2; omega
      obtain ⟨c, hc⟩ : ∃ c, cnt t r = c := ⟨_, rfl⟩
      have hcL : cnt t L = c + 1 := by omega
      have hc16 : c ≤ 16 := by have : cnt t L ≤ L.length := List.length_filter_le _ _; omega
      have hrl : r.take 16 = r := List.take_of_length_le (by omega)
      have CN : Hid (∀ w, Rd w EM A1 (n2 + 1) L → Calls Try.prog 18 #[.slice A1 (n2 + 1) c1, .int .i64 t] w fun e w' => e = .returned (.int .i64 ((c : Int) + 1)) ∧ Below w.heap.size w w') := Lib.hid (fun w hr => by have := count18 A1 (n2 + 1) c1 L t w hc1.1 hc1.2 hr; rw [hct.out, hcL] at this; exact this)
      have CR : Hid (∀ w, Rd w EM A2 n2 r → Calls Try.prog 18 #[.slice A2 n2 c2, .int .i64 t] w fun e w' => e = .returned (.int .i64 (c : Int)) ∧ Below w.heap.size w w') := Lib.hid (fun w hr => by have := count18 A2 n2 c2 r t w hc2.1 hc2.2 hr; rw [hrl, hc] at this; exact this)
      have hn16 : n2 + 1 ≤ 16 := by omega
      have hpos : (0 : Int) < (c : Int) + 1 := by omega
      have hw1 : IntKind.i64.wrap ((c : Int) + 1 - 1) = c := by rw [IntKind.wrap_i64]; omega
      have hw2 : IntKind.i64.wrap ((n2 : Int) + 1 - 1) = n2 := by rw [IntKind.wrap_i64]; omega
      obtain ⟨V, hV, hBV, hzV, hkV⟩ := boxed w2 #[.int .i64 f.kind, .int .i64 f.src, .int .i64 f.to, .int .i64 f.source, .int .i64 f.target, .int .i64 f.seq, .int .i64 f.hops, .bool f.urgent, .string f.data] 24
      have hrV := hr1'.later hBV
      have hr2V : Rd V EM A2 n2 r := Rd.later hr2 hBV
      have g0 := keep hBV d0'
      have g1 := keep hBV d1'
      have hBV2 := hB2.trans (hBV.mono hB2.size)
      clear hkV hzV e1 hz d0' d1' hBV hB2 hr1' hr2 hc hcL hrl h1 h2 hl2
      go_wp2_with fail
      refine (CN.out _ hrV).mono ?_
      rintro e w3 ⟨rfl, hb3⟩
      have g0' := keep hb3 g0
      have g1' := keep hb3 g1
      have hr3 := hrV.later hb3
      have hr23 := hr2V.later hb3
      have hB3 := hBV2.trans (hb3.mono hBV2.size)
      have EX2 := Lib.hid (fun w hr => expire16 A1 (n2 + 1) c1 L p q w hc1.1 hc1.2 hr)
      rw [hid.out] at EX2
      clear g0 g1 hrV hr2V hb3 hBV2 CN hV
      go_wp2_with fail
      refine (EX2.out _ hr3).mono ?_
      rintro e w4 ⟨A4, n4, c4, rfl, ho4, hb4⟩
      have hr4 := ho4.rd
      have hl4 := ho4.1
      obtain rfl : n4 = n2 + 1 := by rw [← hl1, ← hl4]
      have hr34 := hr3.later hb4
      have hr24 := hr23.later hb4
      have hB4 := hB3.trans (hb4.mono hB3.size)
      clear EX2 hr3 hr23 hb4 hB3 ho4 g0' g1'
      go_wp2_with fail
      refine (same_eq A4 A1 (n2 + 1) c4 c1 L _ (by omega) hr4 hr34).mono ?_
      rintro e w5 ⟨rfl, hb5⟩
      have hr35 := hr34.later hb5
      have hr25 := hr24.later hb5
      have hB5 := hB4.trans (hb5.mono hB4.size)
      clear hr4 hr34 hr24 hb5 hB4
      go_wp2_with fail
      refine (CR.out _ hr25).mono ?_
      rintro e w6 ⟨rfl, hb6⟩
      have hB6 := hB5.trans (hb6.mono hB5.size)
      clear hr25 hr35 hb6 hB5 CR
      go_wp2_with fail
      refine (LV.out _).mono ?_
      rintro e w7 ⟨rfl, hb7⟩
      have hB7 := hB6.trans (hb7.mono hB6.size)
      go_wp2
      go_ret
      exact ⟨rfl, hB7⟩
end Go.Proofs.Ytfbdiafgfimgaaa
