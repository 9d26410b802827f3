/- The laws TriggerFires, TriggerMerges. -/
import Derived.Test.YtkdnkieecchobaaLn
namespace Go.Proofs.Ytkdnkieecchobaa
open Go.RowKit Go.BigFrame
set_option linter.unusedVariables false

theorem sm_up {c : Hc} {a b : Nat} (h : sm c a) (hb : a ≤ b) : sm c b := ⟨Nat.le_trans h.1 hb, Nat.le_trans h.2.1 hb, Nat.le_trans h.2.2 hb⟩
theorem smmg {w w1 w2 : World} {ca cb cm : Hc} {a b : Hap} (ra : HRd w ca a) (rb : HRd w1 cb b) (sa : sm ca 100) (sb : sm cb 100) (r : HRd w2 cm (norm (mg (norm a) (norm b)))) : sm cm 200 := by
  obtain ⟨e1, e2, e3⟩ := ra.ns
  obtain ⟨f1, f2, f3⟩ := rb.ns
  obtain ⟨g1, g2, g3⟩ := r.ns
  obtain ⟨s1, s2, s3⟩ := sa
  obtain ⟨t1, t2, t3⟩ := sb
  have l1 := len_setO (lt := kLt) a.ch
  have l2 := len_setO (lt := kLt) a.ev
  have l3 := len_setO (lt := sLt) a.held
  have m1 := len_setO (lt := kLt) b.ch
  have m2 := len_setO (lt := kLt) b.ev
  have m3 := len_setO (lt := sLt) b.held
  have n1 := len_setO (lt := kLt) (setO kLt a.ch ++ setO kLt b.ch)
  have n2 := len_setO (lt := kLt) (setO kLt a.ev ++ setO kLt b.ev)
  have n3 := len_setO (lt := sLt) (setO sLt a.held ++ setO sLt b.held)
  rw [List.length_append] at n1 n2 n3
  simp only [norm, mg] at g1 g2 g3
  exact ⟨by omega, by omega, by omega⟩
theorem bool_of (p : Prop) : ∃ b : Bool, b = true ↔ p := by
  classical
  exact ⟨decide p, by simp⟩
theorem great_fact (c : Hc) (h : Hap) {b : Bool} (hb : greatB c = b) (w : World) : Calls Try.prog 10 #[hpV c h] w fun e w' => e = .returned (.bool b) ∧ Below w.heap.size w w' := hb ▸ great10 c h w

set_option maxRecDepth 20000 in
set_option maxHeartbeats 8000000 in
theorem lawFires4 (t : Tg) (r : ByteArray) (c : Hc) (h : Hap) (w : World) (hr : HRd w c h) :
    Calls Try.prog 4 #[tgV t, .string r, hpV c h] w fun e w' => e = .returned (.bool true) ∧ Below w.heap.size w w' := by
  obtain ⟨W, hW, hB, hz, hk⟩ := boxeds w (tgC t) 36
  obtain ⟨W2, hW2, hB2, hz2, hk2⟩ := boxeds W (hpC c h) 26
  have hkp := hk.later hB2
  have hBx := hB.trans (hB2.mono hB.size)
  have hrx := hr.later hBx
  have LV := Lib.hid lives11
  have HF := Lib.hid hBx
  have hU0 := Below.refl W2.heap.size W2
  have K0 : ∀ w', Below W2.heap.size W2 w' → w'.cell? ⟨w.heap.size, 0, none⟩ = some (.int .i64 t.kind) := fun w' hb => keep hb (hkp.at 0 rfl)
  have K1 : ∀ w', Below W2.heap.size W2 w' → w'.cell? ⟨w.heap.size, 1, none⟩ = some (.int .i64 t.key.dev) := fun w' hb => keep hb (hkp.at 1 rfl)
  have K2 : ∀ w', Below W2.heap.size W2 w' → w'.cell? ⟨w.heap.size, 2, none⟩ = some (.string t.key.a) := fun w' hb => keep hb (hkp.at 2 rfl)
  have K3 : ∀ w', Below W2.heap.size W2 w' → w'.cell? ⟨w.heap.size, 3, none⟩ = some (.string t.key.b) := fun w' hb => keep hb (hkp.at 3 rfl)
  have K4 : ∀ w', Below W2.heap.size W2 w' → w'.cell? ⟨w.heap.size, 4, none⟩ = some (.int .i64 t.ev.dev) := fun w' hb => keep hb (hkp.at 4 rfl)
  have K5 : ∀ w', Below W2.heap.size W2 w' → w'.cell? ⟨w.heap.size, 5, none⟩ = some (.string t.ev.a) := fun w' hb => keep hb (hkp.at 5 rfl)
  have K6 : ∀ w', Below W2.heap.size W2 w' → w'.cell? ⟨w.heap.size, 6, none⟩ = some (.string t.ev.b) := fun w' hb => keep hb (hkp.at 6 rfl)
  have K7 : ∀ w', Below W2.heap.size W2 w' → w'.cell? ⟨w.heap.size, 7, none⟩ = some (.string t.name) := fun w' hb => keep hb (hkp.at 7 rfl)
  have K8 : ∀ w', Below W2.heap.size W2 w' → w'.cell? ⟨w.heap.size, 8, none⟩ = some (.int .i64 t.n) := fun w' hb => keep hb (hkp.at 8 rfl)
  have K9 : ∀ w', Below W2.heap.size W2 w' → w'.cell? ⟨w.heap.size, 9, none⟩ = some (.int .i64 t.m) := fun w' hb => keep hb (hkp.at 9 rfl)
  have J0 : ∀ w', Below W2.heap.size W2 w' → w'.cell? ⟨W.heap.size, 0, none⟩ = some (.slice c.A1 c.n1 c.c1) := fun w' hb => keep hb (hk2.at 0 rfl)
  have J1 : ∀ w', Below W2.heap.size W2 w' → w'.cell? ⟨W.heap.size, 1, none⟩ = some (.slice c.A2 c.n2 c.c2) := fun w' hb => keep hb (hk2.at 1 rfl)
  have J2 : ∀ w', Below W2.heap.size W2 w' → w'.cell? ⟨W.heap.size, 2, none⟩ = some (.int .i64 h.fr) := fun w' hb => keep hb (hk2.at 2 rfl)
  have J3 : ∀ w', Below W2.heap.size W2 w' → w'.cell? ⟨W.heap.size, 3, none⟩ = some (.int .i64 h.til) := fun w' hb => keep hb (hk2.at 3 rfl)
  have J4 : ∀ w', Below W2.heap.size W2 w' → w'.cell? ⟨W.heap.size, 4, none⟩ = some (.string h.mode) := fun w' hb => keep hb (hk2.at 4 rfl)
  have J5 : ∀ w', Below W2.heap.size W2 w' → w'.cell? ⟨W.heap.size, 5, none⟩ = some (.bool h.st) := fun w' hb => keep hb (hk2.at 5 rfl)
  have J6 : ∀ w', Below W2.heap.size W2 w' → w'.cell? ⟨W.heap.size, 6, none⟩ = some (.slice c.A3 c.n3 c.c3) := fun w' hb => keep hb (hk2.at 6 rfl)
  cases hg : greatB c
  · have s1 := greatB_no hg
    have G := Lib.hid (great_fact c h hg)
    obtain ⟨b, hb⟩ := bool_of (fireP t r (norm h))
    have F15 : Hid (∀ w', Below W2.heap.size W2 w' → Calls Try.prog 15 #[tgV t, .string r, hpV c h] w' (fun e w'' => e = .returned (.bool b) ∧ Below w'.heap.size w' w'')) := Lib.hid (fun w' hx => fires15 t r c h w' b (hrx.later hx) (Nat.le_trans s1.1 (by omega)) (Nat.le_trans s1.2.1 (by omega)) (Nat.le_trans s1.2.2 (by omega)) hb)
    have F16 : Hid (∀ w', Below W2.heap.size W2 w' → Calls Try.prog 16 #[tgV t, .string r, hpV c h] w' (fun e w'' => e = .returned (.bool b) ∧ Below w'.heap.size w' w'')) := Lib.hid (fun w' hx => fires16 t r c h w' b (hrx.later hx) (Nat.le_trans s1.1 (by omega)) (Nat.le_trans s1.2.1 (by omega)) (Nat.le_trans s1.2.2 (by omega)) hb)
    clear hz hz2 hk hk2 hkp hB hB2 hBx hr hrx hg hb s1
    cases b
    · go_enter Try.func4, Try.ntmps4
      go_upto_region 1 with fail
      go_region_held3 (fun w' => Below W2.heap.size W2 w') (with_reducible (repeat (first | assumption | refine Below.drew ?_ | refine Below.trans ?_ (Below.mono hbG ?_) | refine Below.trans ?_ (Below.mono hbA ?_) | refine Below.trans ?_ (Below.mono hbB ?_) | refine Below.trans ?_ (Below.mono hbL ?_) | refine @Below.size W2.heap.size W2 _ ?_)))
        (first
          | (go_at_call 10; refine (G.out _).mono ?_; rintro e wG ⟨rfl, hbG⟩)
          | (go_at_call 15; refine (F15.out _ (by assumption)).mono ?_; rintro e wA ⟨rfl, hbA⟩)
          | (go_at_call 16; refine (F16.out _ (by assumption)).mono ?_; rintro e wB ⟨rfl, hbB⟩)
          | (go_at_call 11; refine (LV.out _).mono ?_; rintro e wL ⟨rfl, hbL⟩))
      have bhbG : Below W2.heap.size W2 _ := Below.trans (Below.drew (Below.refl _ _)) hbG
      have bhbA := bhbG.trans (hbA.mono bhbG.size)
      have bhbB := bhbA.trans (hbB.mono bhbA.size)
      have bhbL := bhbB.trans (hbL.mono bhbB.size)
      have hfin := HF.out.trans (bhbL.mono HF.out.size)
      clear bhbG bhbA bhbB bhbL hbG hbA hbB hbL
      go_wp2
      go_ret
      exact ⟨rfl, hfin⟩
    · go_enter Try.func4, Try.ntmps4
      go_upto_region 1 with fail
      go_region_held3 (fun w' => Below W2.heap.size W2 w') (with_reducible (repeat (first | assumption | refine Below.drew ?_ | refine Below.trans ?_ (Below.mono hbG ?_) | refine Below.trans ?_ (Below.mono hbA ?_) | refine Below.trans ?_ (Below.mono hbB ?_) | refine Below.trans ?_ (Below.mono hbL ?_) | refine @Below.size W2.heap.size W2 _ ?_)))
        (first
          | (go_at_call 10; refine (G.out _).mono ?_; rintro e wG ⟨rfl, hbG⟩)
          | (go_at_call 15; refine (F15.out _ (by assumption)).mono ?_; rintro e wA ⟨rfl, hbA⟩)
          | (go_at_call 16; refine (F16.out _ (by assumption)).mono ?_; rintro e wB ⟨rfl, hbB⟩)
          | (go_at_call 11; refine (LV.out _).mono ?_; rintro e wL ⟨rfl, hbL⟩))
      have bhbG : Below W2.heap.size W2 _ := Below.trans (Below.drew (Below.refl _ _)) hbG
      have bhbA := bhbG.trans (hbA.mono bhbG.size)
      have bhbB := bhbA.trans (hbB.mono bhbA.size)
      have bhbL := bhbB.trans (hbL.mono bhbB.size)
      have hfin := HF.out.trans (bhbL.mono HF.out.size)
      clear bhbG bhbA bhbB bhbL hbG hbA hbB hbL
      go_wp2
      go_ret
      exact ⟨rfl, hfin⟩
  · have CG := fun p : After W2 => p.of (great_fact c h hg p.w)
    have A0 := After.cell (hk2.at 0 (v := .slice c.A1 c.n1 c.c1) rfl)
    have A1 := After.cell (hk2.at 1 (v := .slice c.A2 c.n2 c.c2) rfl)
    have A2 := After.cell (hk2.at 2 (v := .int .i64 h.fr) rfl)
    have A3 := After.cell (hk2.at 3 (v := .int .i64 h.til) rfl)
    have A4 := After.cell (hk2.at 4 (v := .string h.mode) rfl)
    have A5 := After.cell (hk2.at 5 (v := .bool h.st) rfl)
    have A6 := After.cell (hk2.at 6 (v := .slice c.A3 c.n3 c.c3) rfl)
    clear hz hz2 hk hk2 hkp hB hB2 hBx hr hrx hg hU0 K0 K1 K2 K3 K4 K5 K6 K7 K8 K9 J0 J1 J2 J3 J4 J5 J6
    go_enter Try.func4, Try.ntmps4
    go_upto_region 1 with fail
    refine wp_region_after (by kernel_rfl) (by kernel_rfl) ?_
    repeat (any_goals (go_big_quiet_step (first | (with_reducible exact CG _))))
    refine wpQuiet_nil ?_
    intro w1 hb1
    have hfin := HF.out.trans (hb1.mono HF.out.size)
    clear hb1 A0 A1 A2 A3 A4 A5 A6 CG
    go_wp2
    go_ret
    exact ⟨rfl, hfin⟩

set_option maxRecDepth 20000 in
set_option maxHeartbeats 8000000 in
theorem lawMerges5 (c d : Hc) (h k : Hap) (w : World) (hr : HRd w c h) (hq : HRd w d k) :
    Calls Try.prog 5 #[hpV c h, hpV d k] w fun e w' => e = .returned (.bool true) ∧ Below w.heap.size w w' := by
  obtain ⟨W, hW, hB, hz, hk⟩ := boxeds w (hpC c h) 26
  obtain ⟨W2, hW2, hB2, hz2, hk2⟩ := boxeds W (hpC d k) 26
  have hkp := hk.later hB2
  have hBx := hB.trans (hB2.mono hB.size)
  have hrx := hr.later hBx
  have hqx := hq.later hBx
  have LV := Lib.hid lives11
  have HF := Lib.hid hBx
  have hU0 := Below.refl W2.heap.size W2
  have K0 : ∀ w', Below W2.heap.size W2 w' → w'.cell? ⟨w.heap.size, 0, none⟩ = some (.slice c.A1 c.n1 c.c1) := fun w' hb => keep hb (hkp.at 0 rfl)
  have K1 : ∀ w', Below W2.heap.size W2 w' → w'.cell? ⟨w.heap.size, 1, none⟩ = some (.slice c.A2 c.n2 c.c2) := fun w' hb => keep hb (hkp.at 1 rfl)
  have K2 : ∀ w', Below W2.heap.size W2 w' → w'.cell? ⟨w.heap.size, 2, none⟩ = some (.int .i64 h.fr) := fun w' hb => keep hb (hkp.at 2 rfl)
  have K3 : ∀ w', Below W2.heap.size W2 w' → w'.cell? ⟨w.heap.size, 3, none⟩ = some (.int .i64 h.til) := fun w' hb => keep hb (hkp.at 3 rfl)
  have K4 : ∀ w', Below W2.heap.size W2 w' → w'.cell? ⟨w.heap.size, 4, none⟩ = some (.string h.mode) := fun w' hb => keep hb (hkp.at 4 rfl)
  have K5 : ∀ w', Below W2.heap.size W2 w' → w'.cell? ⟨w.heap.size, 5, none⟩ = some (.bool h.st) := fun w' hb => keep hb (hkp.at 5 rfl)
  have K6 : ∀ w', Below W2.heap.size W2 w' → w'.cell? ⟨w.heap.size, 6, none⟩ = some (.slice c.A3 c.n3 c.c3) := fun w' hb => keep hb (hkp.at 6 rfl)
  have J0 : ∀ w', Below W2.heap.size W2 w' → w'.cell? ⟨W.heap.size, 0, none⟩ = some (.slice d.A1 d.n1 d.c1) := fun w' hb => keep hb (hk2.at 0 rfl)
  have J1 : ∀ w', Below W2.heap.size W2 w' → w'.cell? ⟨W.heap.size, 1, none⟩ = some (.slice d.A2 d.n2 d.c2) := fun w' hb => keep hb (hk2.at 1 rfl)
  have J2 : ∀ w', Below W2.heap.size W2 w' → w'.cell? ⟨W.heap.size, 2, none⟩ = some (.int .i64 k.fr) := fun w' hb => keep hb (hk2.at 2 rfl)
  have J3 : ∀ w', Below W2.heap.size W2 w' → w'.cell? ⟨W.heap.size, 3, none⟩ = some (.int .i64 k.til) := fun w' hb => keep hb (hk2.at 3 rfl)
  have J4 : ∀ w', Below W2.heap.size W2 w' → w'.cell? ⟨W.heap.size, 4, none⟩ = some (.string k.mode) := fun w' hb => keep hb (hk2.at 4 rfl)
  have J5 : ∀ w', Below W2.heap.size W2 w' → w'.cell? ⟨W.heap.size, 5, none⟩ = some (.bool k.st) := fun w' hb => keep hb (hk2.at 5 rfl)
  have J6 : ∀ w', Below W2.heap.size W2 w' → w'.cell? ⟨W.heap.size, 6, none⟩ = some (.slice d.A3 d.n3 d.c3) := fun w' hb => keep hb (hk2.at 6 rfl)
  cases hg : greatB c
  · have G := Lib.hid (great_fact c h hg)
    cases hg2 : greatB d
    · have G2 := Lib.hid (great_fact d k hg2)
      have s1 := greatB_no hg
      have s2 := greatB_no hg2
      have M17 : Hid (∀ w', Below W2.heap.size W2 w' → Calls Try.prog 17 #[hpV c h, hpV d k] w' (HEnd w' (norm (mg (norm h) (norm k))))) := Lib.hid (fun w' hx => merge17 c d h k w' (hrx.later hx) (hqx.later hx) s1 s2)
      have M18 : Hid (∀ w', Below W2.heap.size W2 w' → Calls Try.prog 18 #[hpV c h, hpV d k] w' (HEnd w' (norm (mg (norm h) (norm k))))) := Lib.hid (fun w' hx => merge18 c d h k w' (hrx.later hx) (hqx.later hx) s1 s2)
      have S1 : Hid (∀ (w' : World) (c1 c2 : Hc), HRd w' c1 (norm (mg (norm h) (norm k))) → HRd w' c2 (norm (mg (norm h) (norm k))) → Calls Try.prog 13 #[hpV c1 (norm (mg (norm h) (norm k))), hpV c2 (norm (mg (norm h) (norm k)))] w' (fun e w'' => e = .returned (.bool true) ∧ Below w'.heap.size w' w'')) := Lib.hid (fun w' c1 c2 r1 r2 => by
        have hs := smmg hrx hqx s1 s2 r1
        exact same13 c1 c2 _ w' r1 r2 hs.1 hs.2.1 hs.2.2)
      generalize norm (mg (norm h) (norm k)) = x at M17 M18 S1
      clear hz hz2 hk hk2 hkp hB hB2 hBx hr hrx hq hqx hg hg2 s1 s2
      go_enter Try.func5, Try.ntmps5
      go_upto_region 1 with fail
      go_region_held3 (fun w' => Below W2.heap.size W2 w') (with_reducible (repeat (first | assumption | refine Below.drew ?_ | refine Below.trans ?_ (Below.mono hbG ?_) | refine Below.trans ?_ (Below.mono hbH ?_) | refine Below.trans ?_ (Below.mono hbA ?_) | refine Below.trans ?_ (Below.mono hbB ?_) | refine Below.trans ?_ (Below.mono hbS ?_) | refine Below.trans ?_ (Below.mono hbL ?_) | refine @Below.size W2.heap.size W2 _ ?_)))
        (first
          | (go_at_call 10; (with_reducible refine (G.out _).mono ?_); rintro e wG ⟨rfl, hbG⟩)
          | (go_at_call 10; (with_reducible refine (G2.out _).mono ?_); rintro e wH ⟨rfl, hbH⟩)
          | (go_at_call 17; refine (M17.out _ (by assumption)).mono ?_; rintro e wA ⟨cA, rfl, hoA, hbA⟩; have hrA := hoA.rd)
          | (go_at_call 18; refine (M18.out _ (by assumption)).mono ?_; rintro e wB ⟨cB, rfl, hoB, hbB⟩; have hrB := hoB.rd)
          | (go_at_call 13; refine (S1.out _ cA cB (hrA.later (by assumption)) hrB).mono ?_; rintro e wS ⟨rfl, hbS⟩)
          | (go_at_call 11; refine (LV.out _).mono ?_; rintro e wL ⟨rfl, hbL⟩))
      have bhbG : Below W2.heap.size W2 _ := Below.trans (Below.drew (Below.refl _ _)) hbG
      have bhbH := bhbG.trans (hbH.mono bhbG.size)
      have bhbA := bhbH.trans (hbA.mono bhbH.size)
      have bhbB := bhbA.trans (hbB.mono bhbA.size)
      have bhbS := bhbB.trans (hbS.mono bhbB.size)
      have bhbL := bhbS.trans (hbL.mono bhbS.size)
      have hfin := HF.out.trans (bhbL.mono HF.out.size)
      clear bhbG bhbH bhbA bhbB bhbS bhbL hbG hbH hbA hbB hbS hbL hrA hrB hoA hoB
      go_wp2
      go_ret
      exact ⟨rfl, hfin⟩
    · have CG := fun p : After W2 => p.of (great_fact c h hg p.w)
      have CH := fun p : After W2 => p.of (great_fact d k hg2 p.w)
      have A0 := After.cell (hkp.at 0 (v := .slice c.A1 c.n1 c.c1) rfl)
      have A1 := After.cell (hkp.at 1 (v := .slice c.A2 c.n2 c.c2) rfl)
      have A2 := After.cell (hkp.at 2 (v := .int .i64 h.fr) rfl)
      have A3 := After.cell (hkp.at 3 (v := .int .i64 h.til) rfl)
      have A4 := After.cell (hkp.at 4 (v := .string h.mode) rfl)
      have A5 := After.cell (hkp.at 5 (v := .bool h.st) rfl)
      have A6 := After.cell (hkp.at 6 (v := .slice c.A3 c.n3 c.c3) rfl)
      have E0 := After.cell (hk2.at 0 (v := .slice d.A1 d.n1 d.c1) rfl)
      have E1 := After.cell (hk2.at 1 (v := .slice d.A2 d.n2 d.c2) rfl)
      have E2 := After.cell (hk2.at 2 (v := .int .i64 k.fr) rfl)
      have E3 := After.cell (hk2.at 3 (v := .int .i64 k.til) rfl)
      have E4 := After.cell (hk2.at 4 (v := .string k.mode) rfl)
      have E5 := After.cell (hk2.at 5 (v := .bool k.st) rfl)
      have E6 := After.cell (hk2.at 6 (v := .slice d.A3 d.n3 d.c3) rfl)
      clear hz hz2 hk hk2 hkp hB hB2 hBx hr hrx hq hqx hU0 hg K0 J0 K1 J1 K2 J2 K3 J3 K4 J4 K5 J5 K6 J6 hg2
      go_enter Try.func5, Try.ntmps5
      go_upto_region 1 with fail
      refine wp_region_after (by kernel_rfl) (by kernel_rfl) ?_
      repeat (any_goals (go_big_quiet_step (first | (with_reducible exact CG _) | (with_reducible exact CH _))))
      refine wpQuiet_nil ?_
      intro w1 hb1
      have hfin := HF.out.trans (hb1.mono HF.out.size)
      clear hb1 CG CH A0 E0 A1 E1 A2 E2 A3 E3 A4 E4 A5 E5 A6 E6
      go_wp2
      go_ret
      exact ⟨rfl, hfin⟩
  · have CG := fun p : After W2 => p.of (great_fact c h hg p.w)
    have A0 := After.cell (hkp.at 0 (v := .slice c.A1 c.n1 c.c1) rfl)
    have A1 := After.cell (hkp.at 1 (v := .slice c.A2 c.n2 c.c2) rfl)
    have A2 := After.cell (hkp.at 2 (v := .int .i64 h.fr) rfl)
    have A3 := After.cell (hkp.at 3 (v := .int .i64 h.til) rfl)
    have A4 := After.cell (hkp.at 4 (v := .string h.mode) rfl)
    have A5 := After.cell (hkp.at 5 (v := .bool h.st) rfl)
    have A6 := After.cell (hkp.at 6 (v := .slice c.A3 c.n3 c.c3) rfl)
    clear hz hz2 hk hk2 hkp hB hB2 hBx hr hrx hq hqx hU0 hg K0 J0 K1 J1 K2 J2 K3 J3 K4 J4 K5 J5 K6 J6
    go_enter Try.func5, Try.ntmps5
    go_upto_region 1 with fail
    refine wp_region_after (by kernel_rfl) (by kernel_rfl) ?_
    repeat (any_goals (go_big_quiet_step (first | (with_reducible exact CG _))))
    refine wpQuiet_nil ?_
    intro w1 hb1
    have hfin := HF.out.trans (hb1.mono HF.out.size)
    clear hb1 CG A0 A1 A2 A3 A4 A5 A6
    go_wp2
    go_ret
    exact ⟨rfl, hfin⟩
end Go.Proofs.Ytkdnkieecchobaa
