/- lives. -/
import Derived.Test.YtkdnkieecchobaaMb
import Derived.Test.YtkdnkieecchobaaHf
namespace Go.Proofs.Ytkdnkieecchobaa
open Go.RowKit Go.BigFrame
set_option linter.unusedVariables false

abbrev c0 : Hc := ⟨none, 0, 0, none, 0, 0, none, 0, 0⟩
abbrev wn (f t : Int) : Hap := ⟨[], [], f, t, ⟨#[]⟩, false, []⟩
theorem hrd0 (w : World) (f t : Int) : HRd w c0 (wn f t) := ⟨⟨rfl, fun h => absurd h (by decide)⟩, ⟨rfl, fun h => absurd h (by decide)⟩, ⟨rfl, fun h => absurd h (by decide)⟩⟩
abbrev tm (n m : Int) : Tg := ⟨3, ⟨0, ⟨#[]⟩, ⟨#[]⟩⟩, ⟨0, ⟨#[]⟩, ⟨#[]⟩⟩, ⟨#[]⟩, n, m⟩
theorem fireT {n m : Int} {r : ByteArray} {h : Hap} : fireP (tm n m) r h ↔ strk h.fr h.til n m := by
  unfold fireP
  constructor
  · rintro (h | h | h | h | h | h)
    · simp at h
    · simp at h
    · exact h.2
    · simp at h
    · simp at h
    · simp at h
  · exact fun h => .inr (.inr (.inl ⟨rfl, h⟩))
theorem norm_wn {f t : Int} (h0 : 0 ≤ f) (h1 : f ≤ t) (h2 : t ≤ f + 1440) (h3 : t ≤ 1073741824) : norm (wn f t) = wn f t := by
  unfold norm
  have : win f t = (f, t) := by unfold win; rw [if_neg (by omega), Int.max_eq_left (by omega)]
  show Hap.mk (setO kLt []) (setO kLt []) (win f t).1 (win f t).2 _ _ (setO sLt []) = _
  rw [this]
  rfl
theorem lv_m : norm (mg (norm (wn 400 410)) (norm (wn 410 420))) = wn 400 420 := by
  rw [norm_wn (by omega) (by omega) (by omega) (by omega), norm_wn (by omega) (by omega) (by omega) (by omega)]
  have : mg (wn 400 410) (wn 410 420) = wn 400 420 := by
    unfold mg
    simp
  rw [this, norm_wn (by omega) (by omega) (by omega) (by omega)]
theorem lv1 : true = true ↔ fireP (tm 420 32) ⟨#[]⟩ (norm (wn 419 420)) := by
  rw [norm_wn (by omega) (by omega) (by omega) (by omega), fireT]
  exact ⟨fun _ => ⟨by omega, by omega, 420, by show (419 : Int) < 420; omega, by show (420 : Int) ≤ 420; omega, by omega, by unfold bitB; decide⟩, fun _ => rfl⟩
theorem lv2 : false = true ↔ fireP (tm 420 32) ⟨#[]⟩ (norm (wn 420 421)) := by
  rw [norm_wn (by omega) (by omega) (by omega) (by omega), fireT]
  refine ⟨(nofun), fun h => ?_⟩
  obtain ⟨_, _, m, h1, h2, h3, _⟩ := h
  have h1 : (420 : Int) < m := h1
  have h2 : m ≤ (421 : Int) := h2
  omega
theorem lv3 : false = true ↔ fireP (tm 420 31) ⟨#[]⟩ (norm (wn 419 420)) := by
  rw [norm_wn (by omega) (by omega) (by omega) (by omega), fireT]
  refine ⟨(nofun), fun h => ?_⟩
  obtain ⟨_, _, m, h1, h2, h3, h4⟩ := h
  have h1 : (419 : Int) < m := h1
  have h2 : m ≤ (420 : Int) := h2
  obtain rfl : m = 420 := by omega
  revert h4
  unfold bitB
  decide
def LivesOk (w : World) : Prop := Calls Try.prog 11 #[] w fun e w' => e = .returned (.bool true) ∧ Below w.heap.size w w'
set_option maxRecDepth 20000 in
set_option maxHeartbeats 8000000 in
theorem lives11 (w : World) : LivesOk w := by
  unfold LivesOk
  obtain ⟨W, hW, hB, hz, hk⟩ := boxeds w (tgC (tm 420 32)) 36
  have hkp := hk
  have F1 := Lib.hid (fun w' => fires15 (tm 420 32) ⟨#[]⟩ c0 (wn 419 420) w' true (hrd0 w' _ _) (by decide) (by decide) (by decide) lv1)
  have F2 := Lib.hid (fun w' => fires15 (tm 420 32) ⟨#[]⟩ c0 (wn 420 421) w' false (hrd0 w' _ _) (by decide) (by decide) (by decide) lv2)
  have F3 := Lib.hid (fun w' => fires15 (tm 420 31) ⟨#[]⟩ c0 (wn 419 420) w' false (hrd0 w' _ _) (by decide) (by decide) (by decide) lv3)
  have MM := Lib.hid (fun w' => merge17 c0 c0 (wn 400 410) (wn 410 420) w' (hrd0 _ _ _) (hrd0 _ _ _) ⟨by decide, by decide, by decide⟩ ⟨by decide, by decide, by decide⟩)
  clear hz
  go_enter Try.func11, Try.ntmps11
  go_wp2_with fail
  refine (MM.out W).mono ?_
  rintro e w1 ⟨cm, rfl, hom, hbm⟩
  rw [lv_m]
  obtain ⟨V, hV, hBV, hzV, hkm⟩ := boxeds w1 (hpC cm (wn 400 420)) 26
  have hkt := (hk.later hbm).later hBV
  have hbV := hB.trans ((hbm.mono hB.size).trans (hBV.mono (Nat.le_trans hB.size hbm.size)))
  have a0 := hkt.at 0 (v := .int .i64 3) rfl
  have a1 := hkt.at 1 (v := .int .i64 0) rfl
  have a2 := hkt.at 2 (v := .string ⟨#[]⟩) rfl
  have a3 := hkt.at 3 (v := .string ⟨#[]⟩) rfl
  have a4 := hkt.at 4 (v := .int .i64 0) rfl
  have a5 := hkt.at 5 (v := .string ⟨#[]⟩) rfl
  have a6 := hkt.at 6 (v := .string ⟨#[]⟩) rfl
  have a7 := hkt.at 7 (v := .string ⟨#[]⟩) rfl
  have a8 := hkt.at 8 (v := .int .i64 420) rfl
  have a9 := hkt.at 9 (v := .int .i64 32) rfl
  clear hk hkp hom hbm hBV hzV hB
  go_wp2_with fail
  refine (F1.out V).mono ?_
  rintro e w2 ⟨rfl, hb2⟩
  have hkt2 := hkt.later hb2
  have b0 := hkt2.at 0 (v := .int .i64 3) rfl
  have b1 := hkt2.at 1 (v := .int .i64 0) rfl
  have b2 := hkt2.at 2 (v := .string ⟨#[]⟩) rfl
  have b3 := hkt2.at 3 (v := .string ⟨#[]⟩) rfl
  have b4 := hkt2.at 4 (v := .int .i64 0) rfl
  have b5 := hkt2.at 5 (v := .string ⟨#[]⟩) rfl
  have b6 := hkt2.at 6 (v := .string ⟨#[]⟩) rfl
  have b7 := hkt2.at 7 (v := .string ⟨#[]⟩) rfl
  have b8 := hkt2.at 8 (v := .int .i64 420) rfl
  have b9 := hkt2.at 9 (v := .int .i64 32) rfl
  go_wp2_with fail
  refine (F2.out w2).mono ?_
  rintro e w3 ⟨rfl, hb3⟩
  go_wp2_with fail
  refine (F3.out w3).mono ?_
  rintro e w4 ⟨rfl, hb4⟩
  have hb24 := (hb2.trans (hb3.mono hb2.size)).trans (hb4.mono (Nat.le_trans hb2.size hb3.size))
  have hkm2 := hkm.later hb24
  have hf := hkm2.at 2 (v := .int .i64 400) rfl
  have ht := hkm2.at 3 (v := .int .i64 420) rfl
  have hbF := hbV.trans (hb24.mono hbV.size)
  clear hkm hkm2 hkt hkt2 hb2 hb3 hb4 hb24 hbV
  go_wp2
  go_ret
  exact ⟨rfl, hbF⟩
end Go.Proofs.Ytkdnkieecchobaa
