/- The law TriggerOrder. -/
import Derived.Test.YtkdnkieecchobaaLf
import Derived.Test.YtkdnkieecchobaaBk
namespace Go.Proofs.Ytkdnkieecchobaa
open Go.RowKit Go.BigFrame
set_option linter.unusedVariables false

theorem mem_bk {α : Type} (l : List α) (z : α) : z ∈ l.reverse ++ l.take 1 ↔ z ∈ l := by
  rw [List.mem_append, List.mem_reverse]
  exact ⟨fun h => h.elim id (fun h => List.mem_of_mem_take h), .inl⟩
theorem norm_bk (h : Hap) : norm (bk h) = norm h := by
  unfold norm bk
  simp only
  rw [show setO kLt (h.ch.reverse ++ h.ch.take 1) = setO kLt h.ch from setO_eq kLin (srt_setO kLin _) (fun z => (mem_setO kLin _).trans (mem_bk h.ch z)),
    show setO kLt h.ev.reverse = setO kLt h.ev from setO_eq kLin (srt_setO kLin _) (fun z => (mem_setO kLin _).trans List.mem_reverse),
    show setO sLt (h.held.reverse ++ h.held.take 1) = setO sLt h.held from setO_eq sLin (srt_setO sLin _) (fun z => (mem_setO sLin _).trans (mem_bk h.held z))]
theorem sm_bk {w w' : World} {c cB : Hc} {h : Hap} (r : HRd w c h) (s : sm c 100) (r' : HRd w' cB (bk h)) : sm cB 200 := by
  obtain ⟨e1, e2, e3⟩ := r.ns
  obtain ⟨f1, f2, f3⟩ := r'.ns
  obtain ⟨s1, s2, s3⟩ := s
  have t1 := List.length_take_le 1 h.ch
  have t3 := List.length_take_le 1 h.held
  simp only [bk, List.length_append, List.length_reverse] at f1 f2 f3
  exact ⟨by omega, by omega, by omega⟩

set_option maxRecDepth 20000 in
set_option maxHeartbeats 8000000 in
theorem lawOrder6 (t : Tg) (r : ByteArray) (c : Hc) (h : Hap) (w : World) (hr : HRd w c h) :
    Calls Try.prog 6 #[tgV t, .string r, hpV c h] w fun e w' => e = .returned (.bool true) ∧ Below w.heap.size w w' := by
  obtain ⟨W, hW, hB, hz, hk⟩ := boxeds w (tgC t) 36
  obtain ⟨W2, hW2, hB2, hz2, hk2⟩ := boxeds W (hpC c h) 26
  have hkp := hk.later hB2
  have hBx := hB.trans (hB2.mono hB.size)
  have hrx := hr.later hBx
  have LV := Lib.hid lives11
  have p0 := hk2.at 0 (v := .slice c.A1 c.n1 c.c1) rfl
  have p1 := hk2.at 1 (v := .slice c.A2 c.n2 c.c2) rfl
  have p2 := hk2.at 2 (v := .int .i64 h.fr) rfl
  have p3 := hk2.at 3 (v := .int .i64 h.til) rfl
  have p4 := hk2.at 4 (v := .string h.mode) rfl
  have p5 := hk2.at 5 (v := .bool h.st) rfl
  have p6 := hk2.at 6 (v := .slice c.A3 c.n3 c.c3) rfl
  cases hg : greatB c
  · have G := Lib.hid (great_fact c h hg W2)
    have s1 := greatB_no hg
    clear hz hz2 hg
    go_enter Try.func6, Try.ntmps6
    go_wp2_with fail
    refine (G.out).mono ?_
    rintro e w1 ⟨rfl, hb1⟩
    have hk1 := hk2.later hb1
    clear p0 p1 p2 p3 p4 p5 p6
    have q0 := hk1.at 0 (v := .slice c.A1 c.n1 c.c1) rfl
    have q1 := hk1.at 1 (v := .slice c.A2 c.n2 c.c2) rfl
    have q2 := hk1.at 2 (v := .int .i64 h.fr) rfl
    have q3 := hk1.at 3 (v := .int .i64 h.til) rfl
    have q4 := hk1.at 4 (v := .string h.mode) rfl
    have q5 := hk1.at 5 (v := .bool h.st) rfl
    have q6 := hk1.at 6 (v := .slice c.A3 c.n3 c.c3) rfl
    go_wp2_with fail
    refine (back19 c h w1 (hrx.later hb1) s1).mono ?_
    rintro e w2 ⟨cN, rfl, hoN, hb2⟩
    obtain ⟨V, hV, hBV, hzV, hkN⟩ := boxeds w2 (hpC cN (bk h)) 26
    have hb12 := hb1.trans ((hb2.mono hb1.size).trans (hBV.mono (Nat.le_trans hb1.size hb2.size)))
    have hkT := hkp.later hb12
    have hkH := hk2.later hb12
    have hBV2 := hBx.trans (hb12.mono hBx.size)
    have hrV := hrx.later hb12
    have hrN := hoN.rd.later hBV
    have hsN := sm_bk hr s1 hrN
    have s2 := sm_up s1 (show 100 ≤ 200 by omega)
    obtain ⟨b, hb⟩ := bool_of (fireP t r (norm h))
    have F1 : Hid (∀ w', Below V.heap.size V w' → Calls Try.prog 15 #[tgV t, .string r, hpV c h] w' (fun e w'' => e = .returned (.bool b) ∧ Below w'.heap.size w' w'')) := Lib.hid (fun w' hx => fires15 t r c h w' b (hrV.later hx) s2.1 s2.2.1 s2.2.2 hb)
    have F2 : Hid (∀ w', Below V.heap.size V w' → Calls Try.prog 15 #[tgV t, .string r, hpV cN (bk h)] w' (fun e w'' => e = .returned (.bool b) ∧ Below w'.heap.size w' w'')) := Lib.hid (fun w' hx => fires15 t r cN (bk h) w' b (hrN.later hx) hsN.1 hsN.2.1 hsN.2.2 (by rw [norm_bk]; exact hb))
    have N1 : Hid (∀ w', Below V.heap.size V w' → Calls Try.prog 12 #[hpV c h] w' (HEnd w' (norm h))) := Lib.hid (fun w' hx => norm12 c h w' (hrV.later hx) s2.1 s2.2.1 s2.2.2)
    have N2 : Hid (∀ w', Below V.heap.size V w' → Calls Try.prog 12 #[hpV cN (bk h)] w' (HEnd w' (norm h))) := Lib.hid (fun w' hx => by
      have := norm12 cN (bk h) w' (hrN.later hx) hsN.1 hsN.2.1 hsN.2.2
      rw [norm_bk] at this
      exact this)
    have S1 : Hid (∀ (w' : World) (c1 c2 : Hc), HRd w' c1 (norm h) → HRd w' c2 (norm h) → Calls Try.prog 13 #[hpV c1 (norm h), hpV c2 (norm h)] w' (fun e w'' => e = .returned (.bool true) ∧ Below w'.heap.size w' w'')) := Lib.hid (fun w' c1 c2 r1 r2 => by
      have hs := sm_up (hr.sm s1 r1) (show 100 ≤ 200 by omega)
      exact same13 c1 c2 _ w' r1 r2 hs.1 hs.2.1 hs.2.2)
    generalize norm h = x at N1 N2 S1
    generalize bk h = y at *
    have HF := Lib.hid hBV2
    have hU0 := Below.refl V.heap.size V
    have T0 : ∀ w', Below V.heap.size V w' → w'.cell? ⟨w.heap.size, 0, none⟩ = some (.int .i64 t.kind) := fun w' hb => keep hb (hkT.at 0 rfl)
    have T1 : ∀ w', Below V.heap.size V w' → w'.cell? ⟨w.heap.size, 1, none⟩ = some (.int .i64 t.key.dev) := fun w' hb => keep hb (hkT.at 1 rfl)
    have T2 : ∀ w', Below V.heap.size V w' → w'.cell? ⟨w.heap.size, 2, none⟩ = some (.string t.key.a) := fun w' hb => keep hb (hkT.at 2 rfl)
    have T3 : ∀ w', Below V.heap.size V w' → w'.cell? ⟨w.heap.size, 3, none⟩ = some (.string t.key.b) := fun w' hb => keep hb (hkT.at 3 rfl)
    have T4 : ∀ w', Below V.heap.size V w' → w'.cell? ⟨w.heap.size, 4, none⟩ = some (.int .i64 t.ev.dev) := fun w' hb => keep hb (hkT.at 4 rfl)
    have T5 : ∀ w', Below V.heap.size V w' → w'.cell? ⟨w.heap.size, 5, none⟩ = some (.string t.ev.a) := fun w' hb => keep hb (hkT.at 5 rfl)
    have T6 : ∀ w', Below V.heap.size V w' → w'.cell? ⟨w.heap.size, 6, none⟩ = some (.string t.ev.b) := fun w' hb => keep hb (hkT.at 6 rfl)
    have T7 : ∀ w', Below V.heap.size V w' → w'.cell? ⟨w.heap.size, 7, none⟩ = some (.string t.name) := fun w' hb => keep hb (hkT.at 7 rfl)
    have T8 : ∀ w', Below V.heap.size V w' → w'.cell? ⟨w.heap.size, 8, none⟩ = some (.int .i64 t.n) := fun w' hb => keep hb (hkT.at 8 rfl)
    have T9 : ∀ w', Below V.heap.size V w' → w'.cell? ⟨w.heap.size, 9, none⟩ = some (.int .i64 t.m) := fun w' hb => keep hb (hkT.at 9 rfl)
    have K0 : ∀ w', Below V.heap.size V w' → w'.cell? ⟨W.heap.size, 0, none⟩ = some (.slice c.A1 c.n1 c.c1) := fun w' hb => keep hb (hkH.at 0 rfl)
    have K1 : ∀ w', Below V.heap.size V w' → w'.cell? ⟨W.heap.size, 1, none⟩ = some (.slice c.A2 c.n2 c.c2) := fun w' hb => keep hb (hkH.at 1 rfl)
    have K2 : ∀ w', Below V.heap.size V w' → w'.cell? ⟨W.heap.size, 2, none⟩ = some (.int .i64 h.fr) := fun w' hb => keep hb (hkH.at 2 rfl)
    have K3 : ∀ w', Below V.heap.size V w' → w'.cell? ⟨W.heap.size, 3, none⟩ = some (.int .i64 h.til) := fun w' hb => keep hb (hkH.at 3 rfl)
    have K4 : ∀ w', Below V.heap.size V w' → w'.cell? ⟨W.heap.size, 4, none⟩ = some (.string h.mode) := fun w' hb => keep hb (hkH.at 4 rfl)
    have K5 : ∀ w', Below V.heap.size V w' → w'.cell? ⟨W.heap.size, 5, none⟩ = some (.bool h.st) := fun w' hb => keep hb (hkH.at 5 rfl)
    have K6 : ∀ w', Below V.heap.size V w' → w'.cell? ⟨W.heap.size, 6, none⟩ = some (.slice c.A3 c.n3 c.c3) := fun w' hb => keep hb (hkH.at 6 rfl)
    have E0 : ∀ w', Below V.heap.size V w' → w'.cell? ⟨w2.heap.size, 0, none⟩ = some (.slice cN.A1 cN.n1 cN.c1) := fun w' hb => keep hb (hkN.at 0 rfl)
    have E1 : ∀ w', Below V.heap.size V w' → w'.cell? ⟨w2.heap.size, 1, none⟩ = some (.slice cN.A2 cN.n2 cN.c2) := fun w' hb => keep hb (hkN.at 1 rfl)
    have E2 : ∀ w', Below V.heap.size V w' → w'.cell? ⟨w2.heap.size, 2, none⟩ = some (.int .i64 y.fr) := fun w' hb => keep hb (hkN.at 2 rfl)
    have E3 : ∀ w', Below V.heap.size V w' → w'.cell? ⟨w2.heap.size, 3, none⟩ = some (.int .i64 y.til) := fun w' hb => keep hb (hkN.at 3 rfl)
    have E4 : ∀ w', Below V.heap.size V w' → w'.cell? ⟨w2.heap.size, 4, none⟩ = some (.string y.mode) := fun w' hb => keep hb (hkN.at 4 rfl)
    have E5 : ∀ w', Below V.heap.size V w' → w'.cell? ⟨w2.heap.size, 5, none⟩ = some (.bool y.st) := fun w' hb => keep hb (hkN.at 5 rfl)
    have E6 : ∀ w', Below V.heap.size V w' → w'.cell? ⟨w2.heap.size, 6, none⟩ = some (.slice cN.A3 cN.n3 cN.c3) := fun w' hb => keep hb (hkN.at 6 rfl)
    clear hb q0 q1 q2 q3 q4 q5 q6 hk hk1 hk2 hkp hkT hkH hkN hB hB2 hBx hrx hb1 hb2 hBV hBV2 hb12 hrV hrN hoN s1 s2 hsN hzV hr
    cases b
    · go_upto_region 4 with fail
      go_region_held3 (fun w' => Below V.heap.size V w') (with_reducible (repeat (first | assumption | refine Below.drew ?_ | refine Below.trans ?_ (Below.mono hbA ?_) | refine Below.trans ?_ (Below.mono hbB ?_) | refine Below.trans ?_ (Below.mono hbC ?_) | refine Below.trans ?_ (Below.mono hbD ?_) | refine Below.trans ?_ (Below.mono hbS ?_) | refine Below.trans ?_ (Below.mono hbL ?_) | refine @Below.size V.heap.size V _ ?_)))
        (first
          | (go_at_call 15; (with_reducible refine (F1.out _ (by assumption)).mono ?_); rintro e wA ⟨rfl, hbA⟩)
          | (go_at_call 15; (with_reducible refine (F2.out _ (by assumption)).mono ?_); rintro e wB ⟨rfl, hbB⟩)
          | (go_at_call 12; (with_reducible refine (N1.out _ (by assumption)).mono ?_); rintro e wC ⟨cC, rfl, hoC, hbC⟩; have hrC := hoC.rd)
          | (go_at_call 12; (with_reducible refine (N2.out _ (by assumption)).mono ?_); rintro e wD ⟨cD, rfl, hoD, hbD⟩; have hrD := hoD.rd)
          | (go_at_call 13; refine (S1.out _ cC cD (hrC.later (by assumption)) hrD).mono ?_; rintro e wS ⟨rfl, hbS⟩)
          | (go_at_call 11; refine (LV.out _).mono ?_; rintro e wL ⟨rfl, hbL⟩))
      have bhbA : Below V.heap.size V _ := Below.trans (Below.drew (Below.refl _ _)) hbA
      have bhbB := bhbA.trans (hbB.mono bhbA.size)
      have bhbC := bhbB.trans (hbC.mono bhbB.size)
      have bhbD := bhbC.trans (hbD.mono bhbC.size)
      have bhbS := bhbD.trans (hbS.mono bhbD.size)
      have bhbL := bhbS.trans (hbL.mono bhbS.size)
      have hfin := HF.out.trans (bhbL.mono HF.out.size)
      clear bhbA bhbB bhbC bhbD bhbS bhbL hbA hbB hbC hbD hbS hbL hrC hrD hoC hoD
      go_wp2
      go_ret
      exact ⟨rfl, hfin⟩
    · go_upto_region 4 with fail
      go_region_held3 (fun w' => Below V.heap.size V w') (with_reducible (repeat (first | assumption | refine Below.drew ?_ | refine Below.trans ?_ (Below.mono hbA ?_) | refine Below.trans ?_ (Below.mono hbB ?_) | refine Below.trans ?_ (Below.mono hbC ?_) | refine Below.trans ?_ (Below.mono hbD ?_) | refine Below.trans ?_ (Below.mono hbS ?_) | refine Below.trans ?_ (Below.mono hbL ?_) | refine @Below.size V.heap.size V _ ?_)))
        (first
          | (go_at_call 15; (with_reducible refine (F1.out _ (by assumption)).mono ?_); rintro e wA ⟨rfl, hbA⟩)
          | (go_at_call 15; (with_reducible refine (F2.out _ (by assumption)).mono ?_); rintro e wB ⟨rfl, hbB⟩)
          | (go_at_call 12; (with_reducible refine (N1.out _ (by assumption)).mono ?_); rintro e wC ⟨cC, rfl, hoC, hbC⟩; have hrC := hoC.rd)
          | (go_at_call 12; (with_reducible refine (N2.out _ (by assumption)).mono ?_); rintro e wD ⟨cD, rfl, hoD, hbD⟩; have hrD := hoD.rd)
          | (go_at_call 13; refine (S1.out _ cC cD (hrC.later (by assumption)) hrD).mono ?_; rintro e wS ⟨rfl, hbS⟩)
          | (go_at_call 11; refine (LV.out _).mono ?_; rintro e wL ⟨rfl, hbL⟩))
      have bhbA : Below V.heap.size V _ := Below.trans (Below.drew (Below.refl _ _)) hbA
      have bhbB := bhbA.trans (hbB.mono bhbA.size)
      have bhbC := bhbB.trans (hbC.mono bhbB.size)
      have bhbD := bhbC.trans (hbD.mono bhbC.size)
      have bhbS := bhbD.trans (hbS.mono bhbD.size)
      have bhbL := bhbS.trans (hbL.mono bhbS.size)
      have hfin := HF.out.trans (bhbL.mono HF.out.size)
      clear bhbA bhbB bhbC bhbD bhbS bhbL hbA hbB hbC hbD hbS hbL hrC hrD hoC hoD
      go_wp2
      go_ret
      exact ⟨rfl, hfin⟩
  · have G := Lib.hid (great_fact c h hg W2)
    clear hz hz2 hg
    go_enter Try.func6, Try.ntmps6
    go_wp2_with fail
    refine (G.out).mono ?_
    rintro e w1 ⟨rfl, hb1⟩
    go_wp2_with fail
    refine (LV.out w1).mono ?_
    rintro e w2 ⟨rfl, hb2⟩
    have hBF := (hBx.trans (hb1.mono hBx.size)).trans (hb2.mono (Nat.le_trans hBx.size hb1.size))
    go_wp2
    go_ret
    exact ⟨rfl, hBF⟩
end Go.Proofs.Ytkdnkieecchobaa
