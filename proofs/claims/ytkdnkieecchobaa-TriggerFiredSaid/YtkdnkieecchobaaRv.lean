/- Any, of the program and of the document. -/
import Derived.Test.YtkdnkieecchobaaRu
namespace Go.Proofs.Ytkdnkieecchobaa
open Go.RowKit Go.BigFrame
set_option linter.unusedVariables false
set_option linter.unusedSimpArgs false

set_option maxRecDepth 20000 in
set_option maxHeartbeats 8000000 in
theorem any20 (r : Ru) (c : Hc) (h : Hap) (w : World) (b : Bool) (hn : r.n ≤ 20) (ho : Rd w EG r.A r.n r.on) (hr : HRd w c h) (sc : sm c 100) (hb : b = true ↔ anyP r (norm h)) :
    Calls Try.prog 20 #[ruV r, hpV c h] w fun e w' => e = .returned (.bool b) ∧ Below w.heap.size w w' := by
  obtain ⟨W, hW, hB, hz, hk⟩ := boxeds w (ruC r) 50
  obtain ⟨W2, hW2, hB2, hz2, hk2⟩ := boxeds W (hpC c h) 26
  have hkp := hk.later hB2
  have hBx := hB.trans (hB2.mono hB.size)
  have hox := ho.later hBx
  have hrx := hr.later hBx
  have HF := Lib.hid hBx
  have s2 := sm_up sc (show 100 ≤ 200 by omega)
  have R0 : ∀ w', Below W2.heap.size W2 w' → w'.cell? ⟨w.heap.size, 0, none⟩ = some (.string r.name) := fun w' hb => keep hb (hkp.at 0 rfl)
  have R1 : ∀ w', Below W2.heap.size W2 w' → w'.cell? ⟨w.heap.size, 1, none⟩ = some (r.x1) := fun w' hb => keep hb (hkp.at 1 rfl)
  have R2 : ∀ w', Below W2.heap.size W2 w' → w'.cell? ⟨w.heap.size, 2, none⟩ = some (.slice r.A r.n r.c) := fun w' hb => keep hb (hkp.at 2 rfl)
  have R3 : ∀ w', Below W2.heap.size W2 w' → w'.cell? ⟨w.heap.size, 3, none⟩ = some (r.x3) := fun w' hb => keep hb (hkp.at 3 rfl)
  have R4 : ∀ w', Below W2.heap.size W2 w' → w'.cell? ⟨w.heap.size, 4, none⟩ = some (r.x4) := fun w' hb => keep hb (hkp.at 4 rfl)
  have R5 : ∀ w', Below W2.heap.size W2 w' → w'.cell? ⟨w.heap.size, 5, none⟩ = some (r.x5) := fun w' hb => keep hb (hkp.at 5 rfl)
  have R6 : ∀ w', Below W2.heap.size W2 w' → w'.cell? ⟨w.heap.size, 6, none⟩ = some (r.x6) := fun w' hb => keep hb (hkp.at 6 rfl)
  have R7 : ∀ w', Below W2.heap.size W2 w' → w'.cell? ⟨w.heap.size, 7, none⟩ = some (r.x7) := fun w' hb => keep hb (hkp.at 7 rfl)
  have R8 : ∀ w', Below W2.heap.size W2 w' → w'.cell? ⟨w.heap.size, 8, none⟩ = some (r.x8) := fun w' hb => keep hb (hkp.at 8 rfl)
  have R9 : ∀ w', Below W2.heap.size W2 w' → w'.cell? ⟨w.heap.size, 9, none⟩ = some (r.x9) := fun w' hb => keep hb (hkp.at 9 rfl)
  have R10 : ∀ w', Below W2.heap.size W2 w' → w'.cell? ⟨w.heap.size, 10, none⟩ = some (r.x10) := fun w' hb => keep hb (hkp.at 10 rfl)
  have R11 : ∀ w', Below W2.heap.size W2 w' → w'.cell? ⟨w.heap.size, 11, none⟩ = some (r.x11) := fun w' hb => keep hb (hkp.at 11 rfl)
  have R12 : ∀ w', Below W2.heap.size W2 w' → w'.cell? ⟨w.heap.size, 12, none⟩ = some (r.x12) := fun w' hb => keep hb (hkp.at 12 rfl)
  have R13 : ∀ w', Below W2.heap.size W2 w' → w'.cell? ⟨w.heap.size, 13, none⟩ = some (r.x13) := fun w' hb => keep hb (hkp.at 13 rfl)
  have R14 : ∀ w', Below W2.heap.size W2 w' → w'.cell? ⟨w.heap.size, 14, none⟩ = some (r.x14) := fun w' hb => keep hb (hkp.at 14 rfl)
  have K0 : ∀ w', Below W2.heap.size W2 w' → w'.cell? ⟨W.heap.size, 0, none⟩ = some (.slice c.A1 c.n1 c.c1) := fun w' hb => keep hb (hk2.at 0 rfl)
  have K1 : ∀ w', Below W2.heap.size W2 w' → w'.cell? ⟨W.heap.size, 1, none⟩ = some (.slice c.A2 c.n2 c.c2) := fun w' hb => keep hb (hk2.at 1 rfl)
  have K2 : ∀ w', Below W2.heap.size W2 w' → w'.cell? ⟨W.heap.size, 2, none⟩ = some (.int .i64 h.fr) := fun w' hb => keep hb (hk2.at 2 rfl)
  have K3 : ∀ w', Below W2.heap.size W2 w' → w'.cell? ⟨W.heap.size, 3, none⟩ = some (.int .i64 h.til) := fun w' hb => keep hb (hk2.at 3 rfl)
  have K4 : ∀ w', Below W2.heap.size W2 w' → w'.cell? ⟨W.heap.size, 4, none⟩ = some (.string h.mode) := fun w' hb => keep hb (hk2.at 4 rfl)
  have K5 : ∀ w', Below W2.heap.size W2 w' → w'.cell? ⟨W.heap.size, 5, none⟩ = some (.bool h.st) := fun w' hb => keep hb (hk2.at 5 rfl)
  have K6 : ∀ w', Below W2.heap.size W2 w' → w'.cell? ⟨W.heap.size, 6, none⟩ = some (.slice c.A3 c.n3 c.c3) := fun w' hb => keep hb (hk2.at 6 rfl)
  have N1 : Hid (∀ w', Below W2.heap.size W2 w' → Calls Try.prog 12 #[hpV c h] w' (HEnd w' (norm h))) := Lib.hid (fun w' hx => norm12 c h w' (hrx.later hx) s2.1 s2.2.1 s2.2.2)
  have SM : Hid (∀ (w' : World) (cN : Hc), Below W2.heap.size W2 w' → HRd w' cN (norm h) → Calls Try.prog 43 #[ruV r, hpV cN (norm h)] w' (fun e w'' => e = .returned (.bool b) ∧ Below w'.heap.size w' w'')) := Lib.hid (fun w' cN hx rN =>
    some43 r cN (norm h) w' b hn (hox.later hx) rN (sm_up (hr.sm sc rN) (show 100 ≤ 200 by omega)) (winOk_norm h) hb)
  have hU0 := Below.refl W2.heap.size W2
  generalize norm h = x at N1 SM
  clear hz hz2 hk hk2 hkp hB hB2 hBx ho hr hb hrx hox sc s2
  go_enter Try.func20, Try.ntmps20
  go_upto_region 1 with fail
  go_region_held3 (fun w' => Below W2.heap.size W2 w') (with_reducible (repeat (first | assumption | refine Below.drew ?_ | refine Below.trans ?_ (Below.mono hbN ?_) | refine Below.trans ?_ (Below.mono hbS ?_) | refine @Below.size W2.heap.size W2 _ ?_)))
    (first
      | (go_at_call 12; refine (N1.out _ (by assumption)).mono ?_; rintro e wN ⟨cN, rfl, hoN, hbN⟩; have hrN := hoN.rd)
      | (go_at_call 43; refine (SM.out _ cN (by assumption) hrN).mono ?_; rintro e wS ⟨rfl, hbS⟩))
  have bhbN : Below W2.heap.size W2 _ := Below.trans (Below.drew (Below.refl _ _)) hbN
  have bhbS := bhbN.trans (hbS.mono bhbN.size)
  have hfin := HF.out.trans (bhbS.mono HF.out.size)
  clear bhbN bhbS hbN hbS hrN hoN
  go_wp2
  go_ret
  exact ⟨rfl, hfin⟩

set_option maxRecDepth 20000 in
set_option maxHeartbeats 8000000 in
theorem any21 (r : Ru) (c : Hc) (h : Hap) (w : World) (b : Bool) (hn : r.n ≤ 20) (ho : Rd w EG r.A r.n r.on) (hr : HRd w c h) (sc : sm c 100) (hb : b = true ↔ anyP r (norm h)) :
    Calls Try.prog 21 #[ruV r, hpV c h] w fun e w' => e = .returned (.bool b) ∧ Below w.heap.size w w' := by
  obtain ⟨W, hW, hB, hz, hk⟩ := boxeds w (ruC r) 50
  obtain ⟨W2, hW2, hB2, hz2, hk2⟩ := boxeds W (hpC c h) 26
  have hkp := hk.later hB2
  have hBx := hB.trans (hB2.mono hB.size)
  have hox := ho.later hBx
  have hrx := hr.later hBx
  have HF := Lib.hid hBx
  have HB := Lib.hid hb
  have s2 := sm_up sc (show 100 ≤ 200 by omega)
  have K0 : ∀ w', Below W2.heap.size W2 w' → w'.cell? ⟨W.heap.size, 0, none⟩ = some (.slice c.A1 c.n1 c.c1) := fun w' hb => keep hb (hk2.at 0 rfl)
  have K1 : ∀ w', Below W2.heap.size W2 w' → w'.cell? ⟨W.heap.size, 1, none⟩ = some (.slice c.A2 c.n2 c.c2) := fun w' hb => keep hb (hk2.at 1 rfl)
  have K2 : ∀ w', Below W2.heap.size W2 w' → w'.cell? ⟨W.heap.size, 2, none⟩ = some (.int .i64 h.fr) := fun w' hb => keep hb (hk2.at 2 rfl)
  have K3 : ∀ w', Below W2.heap.size W2 w' → w'.cell? ⟨W.heap.size, 3, none⟩ = some (.int .i64 h.til) := fun w' hb => keep hb (hk2.at 3 rfl)
  have K4 : ∀ w', Below W2.heap.size W2 w' → w'.cell? ⟨W.heap.size, 4, none⟩ = some (.string h.mode) := fun w' hb => keep hb (hk2.at 4 rfl)
  have K5 : ∀ w', Below W2.heap.size W2 w' → w'.cell? ⟨W.heap.size, 5, none⟩ = some (.bool h.st) := fun w' hb => keep hb (hk2.at 5 rfl)
  have K6 : ∀ w', Below W2.heap.size W2 w' → w'.cell? ⟨W.heap.size, 6, none⟩ = some (.slice c.A3 c.n3 c.c3) := fun w' hb => keep hb (hk2.at 6 rfl)
  have R0 : ∀ w', Below W2.heap.size W2 w' → w'.cell? ⟨w.heap.size, 0, none⟩ = some (.string r.name) := fun w' hb => keep hb (hkp.at 0 rfl)
  have FF := Lib.hid (fun (t : Tg) (w' : World) (q : Bool) (hx : Below W2.heap.size W2 w') (hq : q = true ↔ fireP t r.name (norm h)) => fires16 t r.name c h w' q (hrx.later hx) s2.1 s2.2.1 s2.2.2 hq)
  have hU0 := Below.refl W2.heap.size W2
  have HK := Lib.hid hkp
  clear hz hz2 hk hk2 hB hB2 hBx ho hr hb hrx sc s2 hkp
  go_enter Try.func21, Try.ntmps21
  go_wp2
  go_loopw [5] (fun i wr => ∃ j : Nat, j ≤ r.n ∧ i = .int .i64 j ∧ (¬ ∃ x ∈ r.on.take j, fireP x r.name (norm h)) ∧ Below W2.heap.size W2 wr) (fun i _ => r.n - (intOf i).toNat)
  case atStart => exact ⟨0, Nat.zero_le _, rfl, by simp, hU0⟩
  case round =>
    clear hU0
    obtain ⟨j, hj, rfl, hno, hbr⟩ := hrel
    have p2 := (HK.out.later hbr).at 2 (v := .slice r.A r.n r.c) rfl
    by_cases hlt : j < r.n
    · obtain ⟨q, hq⟩ := bool_of (∃ t, r.on[j]? = some t ∧ fireP t r.name (norm h))
      obtain ⟨ab, off, t, hA, hla, e0, e1, e2, e3, e4, e5, e6, e7, e8, e9⟩ := tg_at hox hlt
      have hq' : q = true ↔ fireP t r.name (norm h) := by
        rw [hq]
        exact ⟨fun ⟨x, hx, hp⟩ => by rw [hla] at hx; cases hx; exact hp, fun hp => ⟨t, hla, hp⟩⟩
      have E0 : ∀ w', Below W2.heap.size W2 w' → _ := fun w' hb => keep hb e0
      have E1 : ∀ w', Below W2.heap.size W2 w' → _ := fun w' hb => keep hb e1
      have E2 : ∀ w', Below W2.heap.size W2 w' → _ := fun w' hb => keep hb e2
      have E3 : ∀ w', Below W2.heap.size W2 w' → _ := fun w' hb => keep hb e3
      have E4 : ∀ w', Below W2.heap.size W2 w' → _ := fun w' hb => keep hb e4
      have E5 : ∀ w', Below W2.heap.size W2 w' → _ := fun w' hb => keep hb e5
      have E6 : ∀ w', Below W2.heap.size W2 w' → _ := fun w' hb => keep hb e6
      have E7 : ∀ w', Below W2.heap.size W2 w' → _ := fun w' hb => keep hb e7
      have E8 : ∀ w', Below W2.heap.size W2 w' → _ := fun w' hb => keep hb e8
      have E9 : ∀ w', Below W2.heap.size W2 w' → _ := fun w' hb => keep hb e9
      have R2 : ∀ w', Below W2.heap.size W2 w' → w'.cell? ⟨w.heap.size, 2, none⟩ = some (.slice (some ⟨ab, off, none⟩) r.n r.c) := fun w' hb => by rw [← hA]; exact keep hb (HK.out.at 2 rfl)
      rw [hA] at p2
      have HN := Lib.hid hno
      have HLA := Lib.hid hla
      have HBR := Lib.hid hbr
      clear hno hla e0 e1 e2 e3 e4 e5 e6 e7 e8 e9 hq hA
      cases q
      · have F : Hid (∀ w', Below W2.heap.size W2 w' → Calls Try.prog 16 #[tgV t, .string r.name, hpV c h] w' (fun e w'' => e = .returned (.bool false) ∧ Below w'.heap.size w' w'')) := Lib.hid (fun w' hx => FF.out t w' false hx hq')
        have NP : Hid (¬ fireP t r.name (norm h)) := Lib.hid (fun hp => by have := hq'.2 hp; cases this)
        clear hq'
        go_wp2
        clear p2
        go_region_held3 (fun w' => Below W2.heap.size W2 w') (with_reducible (repeat (first | assumption | refine Below.drew ?_ | refine Below.trans ?_ (Below.mono hbF ?_) | refine @Below.size W2.heap.size W2 _ ?_)))
          (first | (go_at_call 16; refine (F.out _ (by assumption)).mono ?_; rintro e w2 ⟨rfl, hbF⟩))
        have hb3 : Below W2.heap.size W2 w2 := (HBR.out.drew).trans (hbF.mono HBR.out.size)
        have HN2 := Lib.hid (anyP_take HLA.out HN.out NP.out)
        clear hbF hbr E0 E1 E2 E3 E4 E5 E6 E7 E8 E9 R2
        go_wp2
        go_roundw
        case rel => exact ⟨j + 1, by omega, by go_num, HN2.out, hb3⟩
        case measure => simp [intOf]; omega
      · have F : Hid (∀ w', Below W2.heap.size W2 w' → Calls Try.prog 16 #[tgV t, .string r.name, hpV c h] w' (fun e w'' => e = .returned (.bool true) ∧ Below w'.heap.size w' w'')) := Lib.hid (fun w' hx => FF.out t w' true hx hq')
        have YP : Hid (fireP t r.name (norm h)) := Lib.hid (hq'.1 rfl)
        clear hq'
        go_wp2
        clear p2
        go_region_held3 (fun w' => Below W2.heap.size W2 w') (with_reducible (repeat (first | assumption | refine Below.drew ?_ | refine Below.trans ?_ (Below.mono hbF ?_) | refine @Below.size W2.heap.size W2 _ ?_)))
          (first | (go_at_call 16; refine (F.out _ (by assumption)).mono ?_; rintro e w2 ⟨rfl, hbF⟩))
        have hb3 : Below W2.heap.size W2 w2 := (HBR.out.drew).trans (hbF.mono HBR.out.size)
        have hb4 := HF.out.trans (hb3.mono HF.out.size)
        have HBT := Lib.hid (show b = true from HB.out.2 ⟨t, List.mem_of_getElem? HLA.out, YP.out⟩)
        clear hbF hbr E0 E1 E2 E3 E4 E5 E6 E7 E8 E9 R2
        go_wp2
        go_ret
        exact ⟨by rw [HBT.out]; rfl, hb4⟩
    · have hbf : b = false := by
        cases hb : b
        · rfl
        · exfalso
          rw [List.take_of_length_le (by rw [hox.1]; omega)] at hno
          exact hno (HB.out.1 hb)
      have HBT := Lib.hid hbf
      have hb3 := HF.out.trans (hbr.mono HF.out.size)
      clear hbf hno
      go_wp2
      go_ret
      exact ⟨by rw [HBT.out]; rfl, hb3⟩
end Go.Proofs.Ytkdnkieecchobaa
