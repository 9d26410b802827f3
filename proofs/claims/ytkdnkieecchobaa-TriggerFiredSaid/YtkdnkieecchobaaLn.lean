/- The laws TriggerNorms, TriggerFires, TriggerMerges. -/
import Derived.Test.YtkdnkieecchobaaLv
import Derived.Test.YtkdnkieecchobaaMc
import Derived.Test.YtkdnkieecchobaaHc
import Derived.Test.YtkdnkieecchobaaHg
namespace Go.Proofs.Ytkdnkieecchobaa
open Go.RowKit Go.BigFrame
set_option linter.unusedVariables false

theorem greatB_no {c : Hc} (h : greatB c = false) : sm c 100 := by
  have := of_decide_eq_false h
  exact ⟨by omega, by omega, by omega⟩
theorem srt_insO_id {α : Type} {lt : α → α → Bool} (hl : Lin lt) {l : List α} (hs : Srt lt l) : setO lt l = l := (setO_eq hl hs (fun _ => Iff.rfl)).symm
theorem win_win (f t : Int) : win (win f t).1 (win f t).2 = win f t := by
  unfold win
  by_cases hw : f < 0 ∨ t < f ∨ 1073741824 < t
  · rw [if_pos hw]; simp
  · rw [if_neg hw]
    have h1 : max f (t - 1440) = f ∨ max f (t - 1440) = t - 1440 := by rw [Int.max_def]; split <;> simp
    have h2 : f ≤ max f (t - 1440) := Int.le_max_left _ _
    have h3 : t - 1440 ≤ max f (t - 1440) := Int.le_max_right _ _
    have h4 : max f (t - 1440) ≤ t := by omega
    simp only
    rw [if_neg (by omega), Int.max_eq_left h3]
theorem norm_norm (h : Hap) : norm (norm h) = norm h := by
  unfold norm
  simp only
  rw [srt_insO_id kLin (srt_setO kLin _), srt_insO_id kLin (srt_setO kLin _), srt_insO_id sLin (srt_setO sLin _), win_win]

set_option maxRecDepth 20000 in
set_option maxHeartbeats 8000000 in
theorem lawNorms3 (c : Hc) (h : Hap) (w : World) (hr : HRd w c h) :
    Calls Try.prog 3 #[hpV c h] w fun e w' => e = .returned (.bool true) ∧ Below w.heap.size w w' := by
  obtain ⟨W, hW, hB, hz, hk⟩ := boxeds w (hpC c h) 26
  have LV := Lib.hid lives11
  have HZ := Lib.hid hz
  have p0 := hk.at 0 (v := .slice c.A1 c.n1 c.c1) rfl
  have p1 := hk.at 1 (v := .slice c.A2 c.n2 c.c2) rfl
  have p2 := hk.at 2 (v := .int .i64 h.fr) rfl
  have p3 := hk.at 3 (v := .int .i64 h.til) rfl
  have p4 := hk.at 4 (v := .string h.mode) rfl
  have p5 := hk.at 5 (v := .bool h.st) rfl
  have p6 := hk.at 6 (v := .slice c.A3 c.n3 c.c3) rfl
  have G := Lib.hid (great10 c h W)
  cases hg : greatB c
  · have S := Lib.hid (greatB_no hg)
    clear hz
    go_enter Try.func3, Try.ntmps3
    go_wp2_with fail
    rw [hg] at G
    refine (G.out).mono ?_
    rintro e w1 ⟨rfl, hb1⟩
    have hk1 := hk.later hb1
    have hB1 := hB.trans (hb1.mono hB.size)
    clear p0 p1 p2 p3 p4 p5 p6 hg
    have q0 := hk1.at 0 (v := .slice c.A1 c.n1 c.c1) rfl
    have q1 := hk1.at 1 (v := .slice c.A2 c.n2 c.c2) rfl
    have q2 := hk1.at 2 (v := .int .i64 h.fr) rfl
    have q3 := hk1.at 3 (v := .int .i64 h.til) rfl
    have q4 := hk1.at 4 (v := .string h.mode) rfl
    have q5 := hk1.at 5 (v := .bool h.st) rfl
    have q6 := hk1.at 6 (v := .slice c.A3 c.n3 c.c3) rfl
    go_wp2_with fail
    have s1 := S.out
    refine (norm12 c h w1 (hr.later hB1) (Nat.le_trans s1.1 (by omega)) (Nat.le_trans s1.2.1 (by omega)) (Nat.le_trans s1.2.2 (by omega))).mono ?_
    rintro e w2 ⟨cN, rfl, hoN, hb2⟩
    obtain ⟨V, hV, hBV, hzV, hkN⟩ := boxeds w2 (hpC cN (norm h)) 26
    have hkV := (hk1.later hb2).later hBV
    have hBV2 := hB1.trans ((hb2.mono hB1.size).trans (hBV.mono (Nat.le_trans hB1.size hb2.size)))
    have hrV := hr.later hBV2
    have hrN := hoN.rd.later hBV
    have hsN := hr.sm s1 hrN
    have P14 : Hid (∀ w', Below V.heap.size V w' → Calls Try.prog 14 #[hpV c h] w' (HEnd w' (norm h))) := Lib.hid (fun w' hb => norm14 c h w' (hrV.later hb) (Nat.le_trans s1.1 (by omega)) (Nat.le_trans s1.2.1 (by omega)) (Nat.le_trans s1.2.2 (by omega)))
    have P12 : Hid (∀ w', Below V.heap.size V w' → Calls Try.prog 12 #[hpV cN (norm h)] w' (HEnd w' (norm h))) := Lib.hid (fun w' hb => by
      have := norm12 cN (norm h) w' (hrN.later hb) (Nat.le_trans hsN.1 (by omega)) (Nat.le_trans hsN.2.1 (by omega)) (Nat.le_trans hsN.2.2 (by omega))
      rw [norm_norm] at this
      exact this)
    have S1 : Hid (∀ (w' : World) (d : Hc), Below V.heap.size V w' → HRd w' d (norm h) → Calls Try.prog 13 #[hpV cN (norm h), hpV d (norm h)] w' (fun e w'' => e = .returned (.bool true) ∧ Below w'.heap.size w' w'')) := Lib.hid (fun w' d hb hd =>
      same13 cN d (norm h) w' (hrN.later hb) hd (Nat.le_trans hsN.1 (by omega)) (Nat.le_trans hsN.2.1 (by omega)) (Nat.le_trans hsN.2.2 (by omega)))
    have S2 : Hid (∀ (w' : World) (d : Hc), Below V.heap.size V w' → HRd w' d (norm h) → Calls Try.prog 13 #[hpV d (norm h), hpV cN (norm h)] w' (fun e w'' => e = .returned (.bool true) ∧ Below w'.heap.size w' w'')) := Lib.hid (fun w' d hb hd => by
      have hd' := hr.sm s1 hd
      exact same13 d cN (norm h) w' hd (hrN.later hb) (Nat.le_trans hd'.1 (by omega)) (Nat.le_trans hd'.2.1 (by omega)) (Nat.le_trans hd'.2.2 (by omega)))
    have K0 : ∀ w', Below V.heap.size V w' → w'.cell? ⟨w.heap.size, 0, none⟩ = some (.slice c.A1 c.n1 c.c1) := fun w' hb => keep hb (hkV.at 0 rfl)
    have K1 : ∀ w', Below V.heap.size V w' → w'.cell? ⟨w.heap.size, 1, none⟩ = some (.slice c.A2 c.n2 c.c2) := fun w' hb => keep hb (hkV.at 1 rfl)
    have K2 : ∀ w', Below V.heap.size V w' → w'.cell? ⟨w.heap.size, 2, none⟩ = some (.int .i64 h.fr) := fun w' hb => keep hb (hkV.at 2 rfl)
    have K3 : ∀ w', Below V.heap.size V w' → w'.cell? ⟨w.heap.size, 3, none⟩ = some (.int .i64 h.til) := fun w' hb => keep hb (hkV.at 3 rfl)
    have K4 : ∀ w', Below V.heap.size V w' → w'.cell? ⟨w.heap.size, 4, none⟩ = some (.string h.mode) := fun w' hb => keep hb (hkV.at 4 rfl)
    have K5 : ∀ w', Below V.heap.size V w' → w'.cell? ⟨w.heap.size, 5, none⟩ = some (.bool h.st) := fun w' hb => keep hb (hkV.at 5 rfl)
    have K6 : ∀ w', Below V.heap.size V w' → w'.cell? ⟨w.heap.size, 6, none⟩ = some (.slice c.A3 c.n3 c.c3) := fun w' hb => keep hb (hkV.at 6 rfl)
    have N0 : ∀ w', Below V.heap.size V w' → w'.cell? ⟨w2.heap.size, 0, none⟩ = some (.slice cN.A1 cN.n1 cN.c1) := fun w' hb => keep hb (hkN.at 0 rfl)
    have N1 : ∀ w', Below V.heap.size V w' → w'.cell? ⟨w2.heap.size, 1, none⟩ = some (.slice cN.A2 cN.n2 cN.c2) := fun w' hb => keep hb (hkN.at 1 rfl)
    have N2 : ∀ w', Below V.heap.size V w' → w'.cell? ⟨w2.heap.size, 2, none⟩ = some (.int .i64 (norm h).fr) := fun w' hb => keep hb (hkN.at 2 rfl)
    have N3 : ∀ w', Below V.heap.size V w' → w'.cell? ⟨w2.heap.size, 3, none⟩ = some (.int .i64 (norm h).til) := fun w' hb => keep hb (hkN.at 3 rfl)
    have N4 : ∀ w', Below V.heap.size V w' → w'.cell? ⟨w2.heap.size, 4, none⟩ = some (.string (norm h).mode) := fun w' hb => keep hb (hkN.at 4 rfl)
    have N5 : ∀ w', Below V.heap.size V w' → w'.cell? ⟨w2.heap.size, 5, none⟩ = some (.bool (norm h).st) := fun w' hb => keep hb (hkN.at 5 rfl)
    have N6 : ∀ w', Below V.heap.size V w' → w'.cell? ⟨w2.heap.size, 6, none⟩ = some (.slice cN.A3 cN.n3 cN.c3) := fun w' hb => keep hb (hkN.at 6 rfl)
    have HF := Lib.hid hBV2
    have hU0 := Below.refl V.heap.size V
    clear q0 q1 q2 q3 q4 q5 q6 hk hk1 hkV hkN hB hB1 hb1 hb2 hBV hBV2 hrV hrN hoN s1 hsN hzV hr
    go_upto_region 4 with fail
    go_region_held3 (fun w' => Below V.heap.size V w') (with_reducible (repeat (first | assumption | refine Below.drew ?_ | refine Below.trans ?_ (Below.mono hbA ?_) | refine Below.trans ?_ (Below.mono hbS ?_) | refine Below.trans ?_ (Below.mono hbB ?_) | refine Below.trans ?_ (Below.mono hbT ?_) | refine Below.trans ?_ (Below.mono hbL ?_) | refine @Below.size V.heap.size V _ ?_)))
      (first
        | (go_at_call 14; refine (P14.out _ (by assumption)).mono ?_; rintro e wA ⟨cA, rfl, hoA, hbA⟩; have hrA := hoA.rd)
        | (go_at_call 12; refine (P12.out _ (by assumption)).mono ?_; rintro e wB ⟨cB, rfl, hoB, hbB⟩; have hrB := hoB.rd)
        | (go_at_call 11; refine (LV.out _).mono ?_; rintro e wL ⟨rfl, hbL⟩)
        | (go_at_call 13; refine (S2.out _ cB (by assumption) hrB).mono ?_; rintro e wT ⟨rfl, hbT⟩)
        | (go_at_call 13; refine (S1.out _ cA (by assumption) hrA).mono ?_; rintro e wS ⟨rfl, hbS⟩))
    have bA : Below V.heap.size V wA := Below.trans (Below.drew (Below.refl _ _)) hbA
    have bS := bA.trans (hbS.mono bA.size)
    have bB := bS.trans (hbB.mono bS.size)
    have bT := bB.trans (hbT.mono bB.size)
    have bL := bT.trans (hbL.mono bT.size)
    have hfin := HF.out.trans (bL.mono HF.out.size)
    clear bA bS bB bT bL hbA hbS hbB hbT hbL hrA hrB hoA hoB
    go_wp2
    go_ret
    exact ⟨rfl, hfin⟩
  · clear hz
    go_enter Try.func3, Try.ntmps3
    go_wp2_with fail
    rw [hg] at G
    refine (G.out).mono ?_
    rintro e w1 ⟨rfl, hb1⟩
    go_wp2_with fail
    refine (LV.out w1).mono ?_
    rintro e w2 ⟨rfl, hb2⟩
    have hBF := (hB.trans (hb1.mono hB.size)).trans (hb2.mono (Nat.le_trans hB.size hb1.size))
    go_wp2
    go_ret
    exact ⟨rfl, hBF⟩
end Go.Proofs.Ytkdnkieecchobaa
