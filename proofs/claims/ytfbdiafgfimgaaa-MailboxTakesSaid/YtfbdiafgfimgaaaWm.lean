/- The walk of MailboxTakes. -/
import Derived.Test.YtfbdiafgfimgaaaWi
import Derived.Deep.RegionHeld3
namespace Go.Proofs.Ytfbdiafgfimgaaa
open Go.RowKit Go.BigFrame
set_option linter.unusedVariables false

set_option maxHeartbeats 4000000 in
theorem lawTakes7 (A : Option Addr) (n cap : Nat) (l : List Mail) (t p q : Int) (w : World) (hn : n ≤ cap) (hcap : cap ≤ 9223372036854775807) (hr : Rd w EM A n l) :
    Calls Try.prog 7 #[.slice A n cap, .int .i64 t, .agg #[.int .i64 p, .int .i64 q]] w fun e w' => e = .returned (.bool true) ∧ Below w.heap.size w w' := by
  obtain ⟨W, hW, hB, hz, hk⟩ := boxed w #[.int .i64 p, .int .i64 q] 38
  have hrW := hr.later hB
  have LV : Hid (∀ w, Calls Try.prog 9 #[] w fun e w' => e = .returned (.bool true) ∧ Below w.heap.size w w') := Lib.hid lives9
  by_cases h : 100 < n
  · go_enter Try.func7, Try.ntmps7
    go_wp2_with fail
    refine (LV.out _).mono ?_
    rintro e w1 ⟨rfl, hb⟩
    have hB1 := hB.trans (hb.mono (Nat.le_of_lt hz))
    go_wp2
    go_ret
    exact ⟨rfl, hB1⟩
  · have E1 := Lib.hid (fun w hr => expire16 A n cap l p q w hn hcap hr)
    have E2 := Lib.hid (fun w hr => expire17 A n cap l p q w (by omega) hr)
    have T1 := Lib.hid (fun w hr => take14 A n cap l t p q w hn hcap hr)
    have T2 := Lib.hid (fun w hr => take15 A n cap l t p q w (by omega) hr)
    have N1 := Lib.hid (fun w hr => count18 A n cap l t w hn hcap hr)
    have N2 := Lib.hid (fun w hr => count19 A n cap l t w (by omega) hr)
    generalize (l.take 16).filter (live p q) = L at *
    generalize cnt t (l.take 16) = c at *
    generalize takeL t L = r at *
    obtain ⟨r1, r2⟩ := r
    have b0 := hk.at 0 (v := .int .i64 p) rfl
    have b1 := hk.at 1 (v := .int .i64 q) rfl
    clear hk hr
    go_enter Try.func7, Try.ntmps7
    go_wp2_with fail
    refine (T1.out _ hrW).mono ?_
    rintro e w1 ⟨A1, n1, c1, he, ho1, hb1⟩
    obtain ⟨g, hg⟩ : ∃ g, r1.getD f0 = g := ⟨_, rfl⟩
    obtain ⟨ok, hok⟩ : ∃ ok, r1.isSome = ok := ⟨_, rfl⟩
    obtain rfl : e = .returned (.tuple #[frV g, .slice A1 n1 c1, .bool ok]) := by rw [← hg, ← hok]; exact he
    have d0 := keep hb1 b0
    have d1 := keep hb1 b1
    have hr1 := ho1.rd
    have hl1 := ho1.1
    have hB1 := hB.trans (hb1.mono (Nat.le_of_lt hz))
    have hrW1 := hrW.later hb1
    have hc1 := ho1.cap
    clear b0 b1 T1 ho1 hb1 hB hrW hW hz
    obtain ⟨V, hV, hBV, hzV, hkV⟩ := boxed w1 #[.int .i64 g.kind, .int .i64 g.src, .int .i64 g.to, .int .i64 g.source, .int .i64 g.target, .int .i64 g.seq, .int .i64 g.hops, .bool g.urgent, .string g.data] 24
    have hrV := hrW1.later hBV
    have hr1V := hr1.later hBV
    have k0 := keep hBV d0
    have k1 := keep hBV d1
    have hB2 := hB1.trans (hBV.mono hB1.size)
    clear d0 d1 hr1 hB1 hrW1 hBV
    go_wp2_with fail
    refine (T2.out _ hrV).mono ?_
    rintro e w2 ⟨A2, n2, c2, he, ho2, hb2⟩
    obtain rfl : e = .returned (.tuple #[frV g, .slice A2 n2 c2, .bool ok]) := by rw [← hg, ← hok]; exact he
    obtain rfl : n1 = n2 := by rw [← hl1]; exact ho2.1
    obtain ⟨U, hU, hBU, hzU, hkU⟩ := boxed w2 #[.int .i64 g.kind, .int .i64 g.src, .int .i64 g.to, .int .i64 g.source, .int .i64 g.target, .int .i64 g.seq, .int .i64 g.hops, .bool g.urgent, .string g.data] 24
    have hBx := hb2.trans (hBU.mono hb2.size)
    have hB3 := hB2.trans (hBx.mono hB2.size)
    have hrU := hrV.later hBx
    have hr1U := hr1V.later hBx
    have hr2U := ho2.rd.later hBU
    have K0 : ∀ w', Below U.heap.size U w' → w'.cell? ⟨w.heap.size, 0, none⟩ = some (.int .i64 p) := fun w' hb => keep hb (keep hBx k0)
    have K1 : ∀ w', Below U.heap.size U w' → w'.cell? ⟨w.heap.size, 1, none⟩ = some (.int .i64 q) := fun w' hb => keep hb (keep hBx k1)
    have F0 : ∀ w', Below U.heap.size U w' → w'.cell? ⟨w1.heap.size, 0, none⟩ = some (.int .i64 g.kind) := fun w' hb => keep hb (keep hBx (hkV.at 0 (v := .int .i64 g.kind) rfl))
    have G0 : ∀ w', Below U.heap.size U w' → w'.cell? ⟨w2.heap.size, 0, none⟩ = some (.int .i64 g.kind) := fun w' hb => keep hb (hkU.at 0 (v := .int .i64 g.kind) rfl)
    have F1 : ∀ w', Below U.heap.size U w' → w'.cell? ⟨w1.heap.size, 1, none⟩ = some (.int .i64 g.src) := fun w' hb => keep hb (keep hBx (hkV.at 1 (v := .int .i64 g.src) rfl))
    have G1 : ∀ w', Below U.heap.size U w' → w'.cell? ⟨w2.heap.size, 1, none⟩ = some (.int .i64 g.src) := fun w' hb => keep hb (hkU.at 1 (v := .int .i64 g.src) rfl)
    have F2 : ∀ w', Below U.heap.size U w' → w'.cell? ⟨w1.heap.size, 2, none⟩ = some (.int .i64 g.to) := fun w' hb => keep hb (keep hBx (hkV.at 2 (v := .int .i64 g.to) rfl))
    have G2 : ∀ w', Below U.heap.size U w' → w'.cell? ⟨w2.heap.size, 2, none⟩ = some (.int .i64 g.to) := fun w' hb => keep hb (hkU.at 2 (v := .int .i64 g.to) rfl)
    have F3 : ∀ w', Below U.heap.size U w' → w'.cell? ⟨w1.heap.size, 3, none⟩ = some (.int .i64 g.source) := fun w' hb => keep hb (keep hBx (hkV.at 3 (v := .int .i64 g.source) rfl))
    have G3 : ∀ w', Below U.heap.size U w' → w'.cell? ⟨w2.heap.size, 3, none⟩ = some (.int .i64 g.source) := fun w' hb => keep hb (hkU.at 3 (v := .int .i64 g.source) rfl)
    have F4 : ∀ w', Below U.heap.size U w' → w'.cell? ⟨w1.heap.size, 4, none⟩ = some (.int .i64 g.target) := fun w' hb => keep hb (keep hBx (hkV.at 4 (v := .int .i64 g.target) rfl))
    have G4 : ∀ w', Below U.heap.size U w' → w'.cell? ⟨w2.heap.size, 4, none⟩ = some (.int .i64 g.target) := fun w' hb => keep hb (hkU.at 4 (v := .int .i64 g.target) rfl)
    have F5 : ∀ w', Below U.heap.size U w' → w'.cell? ⟨w1.heap.size, 5, none⟩ = some (.int .i64 g.seq) := fun w' hb => keep hb (keep hBx (hkV.at 5 (v := .int .i64 g.seq) rfl))
    have G5 : ∀ w', Below U.heap.size U w' → w'.cell? ⟨w2.heap.size, 5, none⟩ = some (.int .i64 g.seq) := fun w' hb => keep hb (hkU.at 5 (v := .int .i64 g.seq) rfl)
    have F6 : ∀ w', Below U.heap.size U w' → w'.cell? ⟨w1.heap.size, 6, none⟩ = some (.int .i64 g.hops) := fun w' hb => keep hb (keep hBx (hkV.at 6 (v := .int .i64 g.hops) rfl))
    have G6 : ∀ w', Below U.heap.size U w' → w'.cell? ⟨w2.heap.size, 6, none⟩ = some (.int .i64 g.hops) := fun w' hb => keep hb (hkU.at 6 (v := .int .i64 g.hops) rfl)
    have F7 : ∀ w', Below U.heap.size U w' → w'.cell? ⟨w1.heap.size, 7, none⟩ = some (.bool g.urgent) := fun w' hb => keep hb (keep hBx (hkV.at 7 (v := .bool g.urgent) rfl))
    have G7 : ∀ w', Below U.heap.size U w' → w'.cell? ⟨w2.heap.size, 7, none⟩ = some (.bool g.urgent) := fun w' hb => keep hb (hkU.at 7 (v := .bool g.urgent) rfl)
    have F8 : ∀ w', Below U.heap.size U w' → w'.cell? ⟨w1.heap.size, 8, none⟩ = some (.string g.data) := fun w' hb => keep hb (keep hBx (hkV.at 8 (v := .string g.data) rfl))
    have G8 : ∀ w', Below U.heap.size U w' → w'.cell? ⟨w2.heap.size, 8, none⟩ = some (.string g.data) := fun w' hb => keep hb (hkU.at 8 (v := .string g.data) rfl)
    have qE := fun w => eql24_same (a := g) rfl w
    have hn1 : n1 ≤ 9223372036854775807 := by have h2 := hc1.2; have h3 := hc1.1; unfold maxLen at h2; omega
    have SA : Hid (∀ w', Below U.heap.size U w' → Calls Try.prog 12 #[.slice A1 n1 c1, .slice A2 n1 c2] w' fun e w'' => e = .returned (.bool true) ∧ Below w'.heap.size w' w'') := Lib.hid (fun w' hb => same_eq A1 A2 n1 c1 c2 r2 w' hn1 (hr1U.later hb) (hr2U.later hb))
    have X1 : Hid (∀ w', Below U.heap.size U w' → Calls Try.prog 16 #[.slice A n cap, .int .i64 p, .int .i64 q] w' (SlEnd w' L)) := Lib.hid (fun w' hb => E1.out w' (hrU.later hb))
    have X2 : Hid (∀ w', Below U.heap.size U w' → Calls Try.prog 17 #[.slice A n cap, .int .i64 p, .int .i64 q] w' (SlEnd w' L)) := Lib.hid (fun w' hb => E2.out w' (hrU.later hb))
    have Y1 : Hid (∀ w', Below U.heap.size U w' → Calls Try.prog 18 #[.slice A n cap, .int .i64 t] w' fun e w'' => e = .returned (.int .i64 c) ∧ Below w'.heap.size w' w'') := Lib.hid (fun w' hb => N1.out w' (hrU.later hb))
    have Y2 : Hid (∀ w', Below U.heap.size U w' → Calls Try.prog 19 #[.slice A n cap, .int .i64 t] w' fun e w'' => e = .returned (.int .i64 c) ∧ Below w'.heap.size w' w'') := Lib.hid (fun w' hb => N2.out w' (hrU.later hb))
    have hU0 := Below.refl U.heap.size U
    clear hg hok k0 k1 hkV hkU T2 E1 E2 N1 N2 hb2 hB2 hrV hr1V hBU hBx hrU hr1U hr2U ho2 hzV hzU hc1 hl1
    go_wp2_with fail
    go_region_held3 (fun w' => Below U.heap.size U w') (first | assumption | (exact Below.drew (by assumption)) | (exact Below.trans (by assumption) (Below.mono hb5 (Below.size (by assumption)))) | (exact Below.trans (by assumption) (Below.mono hb6 (Below.size (by assumption)))) | (exact Below.trans (by assumption) (Below.mono hb7 (Below.size (by assumption)))) | (exact Below.trans (by assumption) (Below.mono hb8 (Below.size (by assumption)))) | (exact Below.trans (by assumption) (Below.mono hb9 (Below.size (by assumption)))) | (exact Below.trans (by assumption) (Below.mono hb3 (Below.size (by assumption)))))
      (first
        | (go_at_call 16; refine (X1.out _ (by assumption)).mono ?_; rintro e w5 ⟨A5, n5, c5, rfl, ho5, hb5⟩)
        | (go_at_call 17; refine (X2.out _ (by assumption)).mono ?_; rintro e w6 ⟨A6, n6, c6, rfl, ho6, hb6⟩)
        | (go_at_call 18; refine (Y1.out _ (by assumption)).mono ?_; rintro e w7 ⟨rfl, hb7⟩)
        | (go_at_call 19; refine (Y2.out _ (by assumption)).mono ?_; rintro e w8 ⟨rfl, hb8⟩)
        | (go_at_call 9; refine (LV.out _).mono ?_; rintro e w9 ⟨rfl, hb9⟩)
        | (go_at_call_of 12 (Value.slice A1 n1 c1); refine (SA.out _ (by assumption)).mono ?_; rintro e w3 ⟨rfl, hb3⟩)
        | (go_at_call 12; obtain rfl : n5 = n6 := ho5.1.symm.trans ho6.1; with_reducible (refine (same_eq A5 A6 n5 c5 c6 L w6 (by have h2 := ho5.cap; unfold maxLen at h2; omega) (ho5.rd.later hb6) ho6.rd).mono ?_); rintro e w3 ⟨rfl, hb3⟩)
        | (go_at_call 12; obtain rfl : n5 = n6 := ho5.1.symm.trans ho6.1; with_reducible (refine (same_eq A5 A6 n5 c5 c6 L w5 (by have h2 := ho5.cap; unfold maxLen at h2; omega) ho5.rd (ho6.rd.later hb5)).mono ?_); rintro e w3 ⟨rfl, hb3⟩))
    all_goals (go_wp2; go_ret; exact ⟨rfl, hB3.trans (Below.mono (by assumption) hB3.size)⟩)
end Go.Proofs.Ytfbdiafgfimgaaa
