/- The law TriggerDaily. -/
import Derived.Test.YtkdnkieecchobaaLv
namespace Go.Proofs.Ytkdnkieecchobaa
open Go.RowKit Go.BigFrame
set_option linter.unusedVariables false
set_option linter.unusedSimpArgs false

theorem bit127 (m : Int) : bitB 127 m = true := by
  unfold bitB
  have h : ((m / 1440 + 5) % 7).toNat < 7 := by omega
  generalize ((m / 1440 + 5) % 7).toNat = d at h
  have hd : d = 0 ∨ d = 1 ∨ d = 2 ∨ d = 3 ∨ d = 4 ∨ d = 5 ∨ d = 6 := by omega
  rcases hd with rfl | rfl | rfl | rfl | rfl | rfl | rfl <;> decide
theorem day1 {f n : Int} {r : ByteArray} (h0 : 0 ≤ f) (h1 : f ≤ 1073740384) (h2 : 0 ≤ n) (h3 : n ≤ 1439) : true = true ↔ fireP (tm n 127) r (norm (wn f (f + 1440))) := by
  rw [norm_wn h0 (by omega) (by omega) (by omega), fireT]
  refine ⟨fun _ => ⟨by omega, by omega, f + 1 + (n - (f + 1)) % 1440, ?_, ?_, ?_, bit127 _⟩, fun _ => rfl⟩
  · show f < _; omega
  · show _ ≤ f + 1440; omega
  · omega
theorem day2 {f n : Int} {r : ByteArray} (h0 : 0 ≤ f) (h1 : f ≤ 1073740384) : false = true ↔ fireP (tm n 127) r (norm (wn f f)) := by
  rw [norm_wn h0 (by omega) (by omega) (by omega), fireT]
  refine ⟨(nofun), fun h => ?_⟩
  obtain ⟨_, _, m, h1, h2, _⟩ := h
  have h1 : f < m := h1
  have h2 : m ≤ f := h2
  omega
theorem day3 {n : Int} {r : ByteArray} : false = true ↔ fireP (tm n 127) r (norm (wn (-1) (-1))) := by
  rw [fireT]
  refine ⟨(nofun), fun h => ?_⟩
  have e : (norm (wn (-1) (-1))).fr = -1 ∧ (norm (wn (-1) (-1))).til = -1 := by
    unfold norm
    have : win (-1) (-1) = (-1, -1) := by decide
    exact ⟨congrArg Prod.fst this, congrArg Prod.snd this⟩
  rw [e.1, e.2] at h
  obtain ⟨_, _, m, h1, h2, _⟩ := h
  omega
set_option maxRecDepth 20000 in
set_option maxHeartbeats 8000000 in
theorem lawDaily8 (f n : Int) (w : World) :
    Calls Try.prog 8 #[.int .i64 f, .int .i64 n] w fun e w' => e = .returned (.bool true) ∧ Below w.heap.size w w' := by
  have LV := Lib.hid lives11
  have hB0 := Below.refl w.heap.size w
  by_cases hin : 0 ≤ f ∧ f ≤ 1073740384 ∧ 0 ≤ n ∧ n ≤ 1439
  · obtain ⟨i1, i2, i3, i4⟩ := hin
    obtain ⟨W, hW, hB, hz, hk⟩ := boxeds w (tgC (tm n 127)) 36
    have F1 := Lib.hid (fun w' => fires15 (tm n 127) ⟨#[97]⟩ c0 (wn f (f + 1440)) w' true (hrd0 w' _ _) (by decide) (by decide) (by decide) (day1 i1 i2 i3 i4))
    have F2 := Lib.hid (fun w' => fires15 (tm n 127) ⟨#[97]⟩ c0 (wn f f) w' false (hrd0 w' _ _) (by decide) (by decide) (by decide) (day2 i1 i2))
    have F3 := Lib.hid (fun w' => fires15 (tm n 127) ⟨#[97]⟩ c0 (wn (-1) (-1)) w' false (hrd0 w' _ _) (by decide) (by decide) (by decide) day3)
    have K := Lib.hid (fun w' (hb : Below W.heap.size W w') => hk.later hb)
    have a0 := hk.at 0 (v := .int .i64 3) rfl
    have a1 := hk.at 1 (v := .int .i64 0) rfl
    have a2 := hk.at 2 (v := .string ⟨#[]⟩) rfl
    have a3 := hk.at 3 (v := .string ⟨#[]⟩) rfl
    have a4 := hk.at 4 (v := .int .i64 0) rfl
    have a5 := hk.at 5 (v := .string ⟨#[]⟩) rfl
    have a6 := hk.at 6 (v := .string ⟨#[]⟩) rfl
    have a7 := hk.at 7 (v := .string ⟨#[]⟩) rfl
    have a8 := hk.at 8 (v := .int .i64 n) rfl
    have a9 := hk.at 9 (v := .int .i64 127) rfl
    clear hz hk
    go_enter Try.func8, Try.ntmps8
    go_wp2_with fail
    refine (F1.out W).mono ?_
    rintro e w2 ⟨rfl, hb2⟩
    have b0 := (K.out _ hb2).at 0 (v := .int .i64 3) rfl
    have b1 := (K.out _ hb2).at 1 (v := .int .i64 0) rfl
    have b2 := (K.out _ hb2).at 2 (v := .string ⟨#[]⟩) rfl
    have b3 := (K.out _ hb2).at 3 (v := .string ⟨#[]⟩) rfl
    have b4 := (K.out _ hb2).at 4 (v := .int .i64 0) rfl
    have b5 := (K.out _ hb2).at 5 (v := .string ⟨#[]⟩) rfl
    have b6 := (K.out _ hb2).at 6 (v := .string ⟨#[]⟩) rfl
    have b7 := (K.out _ hb2).at 7 (v := .string ⟨#[]⟩) rfl
    have b8 := (K.out _ hb2).at 8 (v := .int .i64 n) rfl
    have b9 := (K.out _ hb2).at 9 (v := .int .i64 127) rfl
    go_wp2_with fail
    refine (F2.out w2).mono ?_
    rintro e w3 ⟨rfl, hb3⟩
    have hb23 := hb2.trans (hb3.mono hb2.size)
    have c0 := (K.out _ hb23).at 0 (v := .int .i64 3) rfl
    have c1 := (K.out _ hb23).at 1 (v := .int .i64 0) rfl
    have c2 := (K.out _ hb23).at 2 (v := .string ⟨#[]⟩) rfl
    have c3 := (K.out _ hb23).at 3 (v := .string ⟨#[]⟩) rfl
    have c4 := (K.out _ hb23).at 4 (v := .int .i64 0) rfl
    have c5 := (K.out _ hb23).at 5 (v := .string ⟨#[]⟩) rfl
    have c6 := (K.out _ hb23).at 6 (v := .string ⟨#[]⟩) rfl
    have c7 := (K.out _ hb23).at 7 (v := .string ⟨#[]⟩) rfl
    have c8 := (K.out _ hb23).at 8 (v := .int .i64 n) rfl
    have c9 := (K.out _ hb23).at 9 (v := .int .i64 127) rfl
    go_wp2_with fail
    refine (F3.out w3).mono ?_
    rintro e w4 ⟨rfl, hb4⟩
    go_wp2_with fail
    refine (LV.out w4).mono ?_
    rintro e w5 ⟨rfl, hb5⟩
    have h4 := hb23.trans (hb4.mono hb23.size)
    have h5 := h4.trans (hb5.mono h4.size)
    have h6 := hB.trans (h5.mono hB.size)
    go_wp2
    go_ret
    exact ⟨rfl, h6⟩
  · have hin' : f < 0 ∨ (0 ≤ f ∧ 1073740384 < f) ∨ (0 ≤ f ∧ f ≤ 1073740384 ∧ n < 0) ∨ (0 ≤ f ∧ f ≤ 1073740384 ∧ 0 ≤ n ∧ 1439 < n) := by omega
    clear hin
    rcases hin' with h1 | ⟨h1, h2⟩ | ⟨h1, h2, h3⟩ | ⟨h1, h2, h3, h4⟩
    all_goals
      go_enter Try.func8, Try.ntmps8
      go_wp2_with fail
      refine (LV.out _).mono ?_
      rintro e w2 ⟨rfl, hb2⟩
      go_wp2
      go_ret
      exact ⟨rfl, hb2⟩
end Go.Proofs.Ytkdnkieecchobaa
