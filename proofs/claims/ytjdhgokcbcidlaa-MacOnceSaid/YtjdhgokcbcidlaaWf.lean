/- Result of the reference. -/
import Derived.Test.YtjdhgokcbcidlaaWe
namespace Go.Proofs.Ytjdhgokcbcidlaa
open Go.RowKit Go.BigFrame
set_option linter.unusedVariables false

theorem ow_store {w : World} {base g m c p : Nat} {k : List Sn} {a : Sn} (ho : Ow w base 35 ES (.slice (some ⟨g, 0, none⟩) m c) m k) (hka : k[p]? = some a) (t x : Int) :
    Ow (((((((((((w.setCell ⟨g, p * 11, none⟩ (.int .i64 a.f.kind)).setCell ⟨g, p * 11 + 1, none⟩ (.int .i64 a.f.src)).setCell ⟨g, p * 11 + 2, none⟩ (.int .i64 a.f.to)).setCell ⟨g, p * 11 + 3, none⟩ (.int .i64 a.f.source)).setCell ⟨g, p * 11 + 4, none⟩ (.int .i64 a.f.target)).setCell ⟨g, p * 11 + 5, none⟩ (.int .i64 a.f.seq)).setCell ⟨g, p * 11 + 6, none⟩ (.int .i64 a.f.hops)).setCell ⟨g, p * 11 + 7, none⟩ (.bool a.f.urgent)).setCell ⟨g, p * 11 + 8, none⟩ (.string a.f.data)).setCell ⟨g, p * 11 + 9, none⟩ (.int .i64 t)).setCell ⟨g, p * 11 + 10, none⟩ (.int .i64 x)) base 35 ES (.slice (some ⟨g, 0, none⟩) m c) m (k.set p ⟨a.f, t, x⟩) := by
  have hlt : p < k.length := (List.getElem?_eq_some_iff.1 hka).1
  have hs : ∀ b : Sn, (k.set p b)[p]? = some b := fun b => by rw [List.getElem?_set_self hlt]
  have h0 := ho.setField hka (j := 0) (a' := a) (by decide) (.int .i64 a.f.kind) rfl
  have h1 := h0.setField (hs a) (j := 1) (a' := a) (by decide) (.int .i64 a.f.src) rfl
  rw [List.set_set] at h1
  have h2 := h1.setField (hs a) (j := 2) (a' := a) (by decide) (.int .i64 a.f.to) rfl
  rw [List.set_set] at h2
  have h3 := h2.setField (hs a) (j := 3) (a' := a) (by decide) (.int .i64 a.f.source) rfl
  rw [List.set_set] at h3
  have h4 := h3.setField (hs a) (j := 4) (a' := a) (by decide) (.int .i64 a.f.target) rfl
  rw [List.set_set] at h4
  have h5 := h4.setField (hs a) (j := 5) (a' := a) (by decide) (.int .i64 a.f.seq) rfl
  rw [List.set_set] at h5
  have h6 := h5.setField (hs a) (j := 6) (a' := a) (by decide) (.int .i64 a.f.hops) rfl
  rw [List.set_set] at h6
  have h7 := h6.setField (hs a) (j := 7) (a' := a) (by decide) (.bool a.f.urgent) rfl
  rw [List.set_set] at h7
  have h8 := h7.setField (hs a) (j := 8) (a' := a) (by decide) (.string a.f.data) rfl
  rw [List.set_set] at h8
  have h9 := h8.setField (hs a) (j := 9) (a' := ⟨a.f, t, a.wait⟩) (by decide) (.int .i64 t) rfl
  rw [List.set_set] at h9
  have h10 := h9.setField (hs ⟨a.f, t, a.wait⟩) (j := 10) (a' := ⟨a.f, t, x⟩) (by decide) (.int .i64 x) rfl
  rw [List.set_set] at h10
  exact h10
theorem below_store {w0 w : World} {B g q : Nat} (hb : Below B w0 w) (hg : B ≤ g) (v0 v1 v2 v3 v4 v5 v6 v7 v8 v9 v10 : Value) :
    Below B w0 (((((((((((w.setCell ⟨g, q, none⟩ v0).setCell ⟨g, q + 1, none⟩ v1).setCell ⟨g, q + 2, none⟩ v2).setCell ⟨g, q + 3, none⟩ v3).setCell ⟨g, q + 4, none⟩ v4).setCell ⟨g, q + 5, none⟩ v5).setCell ⟨g, q + 6, none⟩ v6).setCell ⟨g, q + 7, none⟩ v7).setCell ⟨g, q + 8, none⟩ v8).setCell ⟨g, q + 9, none⟩ v9).setCell ⟨g, q + 10, none⟩ v10) :=
  ((((((((((hb.setCell (p := ⟨g, q, none⟩) hg v0).setCell (p := ⟨g, q + 1, none⟩) hg v1).setCell (p := ⟨g, q + 2, none⟩) hg v2).setCell (p := ⟨g, q + 3, none⟩) hg v3).setCell (p := ⟨g, q + 4, none⟩) hg v4).setCell (p := ⟨g, q + 5, none⟩) hg v5).setCell (p := ⟨g, q + 6, none⟩) hg v6).setCell (p := ⟨g, q + 7, none⟩) hg v7).setCell (p := ⟨g, q + 8, none⟩) hg v8).setCell (p := ⟨g, q + 9, none⟩) hg v9).setCell (p := ⟨g, q + 10, none⟩) hg v10

set_option maxRecDepth 20000 in
set_option maxHeartbeats 4000000 in
theorem result14 (A : Option Addr) (n cap : Nat) (l : List Sn) (i : Int) (ok : Bool) (w : World) (hcap : n ≤ 9223372036854775807) (hr : Rd w ES A n l) :
    Calls Try.prog 14 #[.slice A n cap, .int .i64 i, .bool ok] w (PtEnd w (resS (l.take 16) i ok)) := by
  have h16 : (l.take 16).length ≤ 16 := by rw [List.length_take]; omega
  have QX := Lib.hid (first25 A n cap l w hcap hr)
  clear hr
  generalize l.take 16 = k at *
  go_enter Try.func14, Try.ntmps14
  go_wp2_with fail
  refine QX.out.mono ?_
  rintro e w1 ⟨B, m, c, rfl, ho, hb1⟩
  have hm : m ≤ 16 := by rw [← ho.1]; exact h16
  have hl := ho.1
  clear QX h16
  by_cases hi0 : i < 0
  · have hP := Lib.hid (show resS k i ok = (k, false) by unfold resS; rw [if_pos (.inl hi0)])
    go_wp2
    refine bodyPost_ret (v := .tuple #[.slice B m c, .bool false]) (by simp [results, Try.results14, go_sem]) rfl ?_
    rw [hP.out]
    exact ⟨B, m, c, rfl, ho, hb1⟩
  by_cases him : (m : Int) ≤ i
  · have hP := Lib.hid (show resS k i ok = (k, false) by unfold resS; rw [if_pos (.inr (by rw [hl]; exact him))])
    go_wp2
    refine bodyPost_ret (v := .tuple #[.slice B m c, .bool false]) (by simp [results, Try.results14, go_sem]) rfl ?_
    rw [hP.out]
    exact ⟨B, m, c, rfl, ho, hb1⟩
  obtain ⟨p, rfl⟩ : ∃ p : Nat, i = p := ⟨i.toNat, by omega⟩
  have hpm : p < m := by omega
  obtain ⟨a, hka⟩ : ∃ a, k[p]? = some a := ⟨_, List.getElem?_eq_getElem (by omega)⟩
  have HP0 := Lib.hid (show resS k p ok = if ok = true then (k.eraseIdx p, false) else if 7 ≤ a.tries then (k.eraseIdx p, true) else (k.set p (again a), false) by
    unfold resS
    rw [if_neg (by omega), Int.toNat_natCast, hka])
  obtain ⟨g, hBg, hgb, hgl⟩ := ho.at0 (by omega)
  subst hBg
  have HW := Lib.hid (without26 (some ⟨g, 0, none⟩) m c k p w1 (by omega) ho.rd hpm)
  obtain ⟨b, off, a', hA, hla, q0, q1, q2, q3, q4, q5, q6, q7, q8, q9, q10⟩ := snd_at ho.rd hpm
  obtain ⟨rfl, rfl⟩ : g = b ∧ 0 = off := by cases hA; exact ⟨rfl, rfl⟩
  obtain rfl : a = a' := by rw [hka] at hla; exact Option.some.inj hla
  simp only [Nat.zero_add] at q0 q1 q2 q3 q4 q5 q6 q7 q8 q9 q10
  clear hi0 him hA hla
  by_cases hlow : a.tries < 0
  all_goals
    by_cases hgo : ok = true ∨ 7 ≤ a.tries
    · have hP := Lib.hid (show resS k p ok = (k.eraseIdx p, !ok) by
        rw [HP0.out]
        rcases hgo with h | h
        · rw [if_pos h, h]; rfl
        · cases ok with
          | true => rfl
          | false => rw [if_neg (by decide), if_pos h]; rfl)
      clear HP0 hka
      cases ok with
      | true =>
        clear hgo
        go_wp2_with fail
        refine HW.out.mono ?_
        rintro e w2 ⟨A2, m2, c2, rfl, ho2, hb2⟩
        go_wp2
        refine bodyPost_ret (v := .tuple #[.slice A2 m2 c2, .bool false]) (by simp [results, Try.results14, go_sem]) rfl ?_
        rw [hP.out]
        exact ⟨A2, m2, c2, rfl, ho2.rebase hb1.size, hb1.trans (hb2.mono hb1.size)⟩
      | false =>
        have h7 : 7 ≤ a.tries := by
          rcases hgo with h | h
          · cases h
          · exact h
        first
          | (exfalso; omega)
          | (clear hgo
             go_wp2_with fail
             refine HW.out.mono ?_
             rintro e w2 ⟨A2, m2, c2, rfl, ho2, hb2⟩
             go_wp2
             refine bodyPost_ret (v := .tuple #[.slice A2 m2 c2, .bool true]) (by simp [results, Try.results14, go_sem]) rfl ?_
             rw [hP.out]
             exact ⟨A2, m2, c2, rfl, ho2.rebase hb1.size, hb1.trans (hb2.mono hb1.size)⟩)
    · obtain rfl : ok = false := by cases ok with | true => exact absurd (.inl rfl) hgo | false => rfl
      have h7 : ¬ 7 ≤ a.tries := fun c => hgo (.inr c)
      have hP := Lib.hid (show resS k p false = (k.set p (again a), false) by rw [HP0.out, if_neg (by decide), if_neg h7])
      have z0 := ho.free (by omega) (p * 11)
      have z1 := ho.free (by omega) (p * 11 + 1)
      have z2 := ho.free (by omega) (p * 11 + 2)
      have z3 := ho.free (by omega) (p * 11 + 3)
      have z4 := ho.free (by omega) (p * 11 + 4)
      have z5 := ho.free (by omega) (p * 11 + 5)
      have z6 := ho.free (by omega) (p * 11 + 6)
      have z7 := ho.free (by omega) (p * 11 + 7)
      have z8 := ho.free (by omega) (p * 11 + 8)
      have z9 := ho.free (by omega) (p * 11 + 9)
      have z10 := ho.free (by omega) (p * 11 + 10)
      have hag : again a = ⟨a.f, max a.tries 0 + 1, if a.f.urgent then 0 else min (max a.tries 0 + 1) 4⟩ := by
        unfold again
        rw [Int.min_eq_left (show max a.tries 0 ≤ 7 by omega)]
      have hst := fun t x => ow_store ho hka t x
      have hbs := fun v0 v1 v2 v3 v4 v5 v6 v7 v8 v9 v10 => below_store (q := p * 11) hb1 hgb v0 v1 v2 v3 v4 v5 v6 v7 v8 v9 v10
      have hag := Lib.hid hag
      have hst := Lib.hid hst
      clear HP0 hka hgo HW ho
      cases hu : a.f.urgent with
      | true =>
        rw [hu] at q7
        go_wp2
        all_goals
          refine bodyPost_ret (v := .tuple #[.slice (some ⟨g, 0, none⟩) m c, .bool false]) (by simp [results, Try.results14, go_sem]) rfl ?_
          rw [hP.out]
          refine ⟨_, m, c, rfl, ?_, hbs _ _ _ _ _ _ _ _ _ _ _⟩
          rw [hag.out, hu, if_pos rfl]
          first
            | (have h := hst.out 1 0; rw [hu] at h; rw [show max a.tries 0 + 1 = 1 by omega]; exact h)
            | (have h := hst.out (a.tries + 1) 0; rw [hu] at h; rw [show max a.tries 0 + 1 = a.tries + 1 by omega]; exact h)
      | false =>
        rw [hu] at q7
        go_wp2
        all_goals
          refine bodyPost_ret (v := .tuple #[.slice (some ⟨g, 0, none⟩) m c, .bool false]) (by simp [results, Try.results14, go_sem]) rfl ?_
          rw [hP.out]
          refine ⟨_, m, c, rfl, ?_, hbs _ _ _ _ _ _ _ _ _ _ _⟩
          rw [hag.out, hu, if_neg (by decide)]
          first
            | (have h := hst.out 1 1; rw [hu] at h; rw [show max a.tries 0 + 1 = 1 by omega]; exact h)
            | (have h := hst.out (a.tries + 1) 4; rw [hu] at h; rw [show min (max a.tries 0 + 1) 4 = 4 by omega, show max a.tries 0 + 1 = a.tries + 1 by omega]; exact h)
            | (have h := hst.out (a.tries + 1) (a.tries + 1); rw [hu] at h; rw [show min (max a.tries 0 + 1) 4 = a.tries + 1 by omega, show max a.tries 0 + 1 = a.tries + 1 by omega]; exact h)
end Go.Proofs.Ytjdhgokcbcidlaa
