/- Fires of the program. -/
import Derived.Test.YtkdnkieecchobaaHe
import Derived.Deep.RegionHeld3
namespace Go.Proofs.Ytkdnkieecchobaa
open Go.RowKit Go.BigFrame
set_option linter.unusedVariables false

theorem winOk_norm (h : Hap) : winOk (norm h).fr (norm h).til := by
  unfold norm win winOk
  by_cases hw : h.fr < 0 ∨ h.til < h.fr ∨ 1073741824 < h.til
  · rw [if_pos hw]; right; exact ⟨rfl, rfl⟩
  · rw [if_neg hw]; left; show 0 ≤ max h.fr (h.til - 1440) ∧ max h.fr (h.til - 1440) ≤ h.til ∧ h.til ≤ 1073741824
    rw [Int.max_def]; split <;> omega
theorem HRd.len {w : World} {c : Hc} {h : Hap} (r : HRd w c (norm h)) {m1 m2 m3 : Nat} (b1 : h.ch.length ≤ m1) (b2 : h.ev.length ≤ m2) (b3 : h.held.length ≤ m3) : c.n1 ≤ m1 ∧ c.n2 ≤ m2 ∧ c.n3 ≤ m3 := by
  have e1 := r.r1.1
  have e2 := r.r2.1
  have e3 := r.r3.1
  have l1 := len_setO (lt := kLt) h.ch
  have l2 := len_setO (lt := kLt) h.ev
  have l3 := len_setO (lt := sLt) h.held
  simp only [norm] at e1 e2 e3
  omega

set_option maxRecDepth 20000 in
set_option maxHeartbeats 8000000 in
theorem fires15 (t : Tg) (r : ByteArray) (c : Hc) (h : Hap) (w : World) (b : Bool) (hr : HRd w c h) (b1 : c.n1 ≤ 200) (b2 : c.n2 ≤ 200) (b3 : c.n3 ≤ 200) (hb : b = true ↔ fireP t r (norm h)) :
    Calls Try.prog 15 #[tgV t, .string r, hpV c h] w fun e w' => e = .returned (.bool b) ∧ Below w.heap.size w w' := by
  obtain ⟨W, hW, hB, hz, hk⟩ := boxeds w (tgC t) 36
  obtain ⟨W2, hW2, hB2, hz2, hk2⟩ := boxeds W (hpC c h) 26
  have hkp := hk.later hB2
  have hBx := hB.trans (hB2.mono (by omega))
  have K0 : ∀ w', Below W2.heap.size W2 w' → w'.cell? ⟨w.heap.size, 0, none⟩ = some (.int .i64 t.kind) := fun w' hb => keep hb (hkp.at 0 rfl)
  have K1 : ∀ w', Below W2.heap.size W2 w' → w'.cell? ⟨w.heap.size, 1, none⟩ = some (.int .i64 t.key.dev) := fun w' hb => keep hb (hkp.at 1 rfl)
  have K2 : ∀ w', Below W2.heap.size W2 w' → w'.cell? ⟨w.heap.size, 2, none⟩ = some (.string t.key.a) := fun w' hb => keep hb (hkp.at 2 rfl)
  have K3 : ∀ w', Below W2.heap.size W2 w' → w'.cell? ⟨w.heap.size, 3, none⟩ = some (.string t.key.b) := fun w' hb => keep hb (hkp.at 3 rfl)
  have K4 : ∀ w', Below W2.heap.size W2 w' → w'.cell? ⟨w.heap.size, 4, none⟩ = some (.int .i64 t.ev.dev) := fun w' hb => keep hb (hkp.at 4 rfl)
  have K5 : ∀ w', Below W2.heap.size W2 w' → w'.cell? ⟨w.heap.size, 5, none⟩ = some (.string t.ev.a) := fun w' hb => keep hb (hkp.at 5 rfl)
  have K6 : ∀ w', Below W2.heap.size W2 w' → w'.cell? ⟨w.heap.size, 6, none⟩ = some (.string t.ev.b) := fun w' hb => keep hb (hkp.at 6 rfl)
  have K7 : ∀ w', Below W2.heap.size W2 w' → w'.cell? ⟨w.heap.size, 7, none⟩ = some (.string t.name) := fun w' hb => keep hb (hkp.at 7 rfl)
  have K8 : ∀ w', Below W2.heap.size W2 w' → w'.cell? ⟨w.heap.size, 8, none⟩ = some (.int .i64 t.n) := fun w' hb => keep hb (hkp.at 8 rfl)
  have K9 : ∀ w', Below W2.heap.size W2 w' → w'.cell? ⟨w.heap.size, 9, none⟩ = some (.int .i64 t.m) := fun w' hb => keep hb (hkp.at 9 rfl)
  have J0 : ∀ w', Below W2.heap.size W2 w' → w'.cell? ⟨W.heap.size, 0, none⟩ = some (.slice c.A1 c.n1 c.c1) := fun w' hb => keep hb (hk2.at 0 rfl)
  have J1 : ∀ w', Below W2.heap.size W2 w' → w'.cell? ⟨W.heap.size, 1, none⟩ = some (.slice c.A2 c.n2 c.c2) := fun w' hb => keep hb (hk2.at 1 rfl)
  have J2 : ∀ w', Below W2.heap.size W2 w' → w'.cell? ⟨W.heap.size, 2, none⟩ = some (.int .i64 h.fr) := fun w' hb => keep hb (hk2.at 2 rfl)
  have J3 : ∀ w', Below W2.heap.size W2 w' → w'.cell? ⟨W.heap.size, 3, none⟩ = some (.int .i64 h.til) := fun w' hb => keep hb (hk2.at 3 rfl)
  have J4 : ∀ w', Below W2.heap.size W2 w' → w'.cell? ⟨W.heap.size, 4, none⟩ = some (.string h.mode) := fun w' hb => keep hb (hk2.at 4 rfl)
  have J5 : ∀ w', Below W2.heap.size W2 w' → w'.cell? ⟨W.heap.size, 5, none⟩ = some (.bool h.st) := fun w' hb => keep hb (hk2.at 5 rfl)
  have J6 : ∀ w', Below W2.heap.size W2 w' → w'.cell? ⟨W.heap.size, 6, none⟩ = some (.slice c.A3 c.n3 c.c3) := fun w' hb => keep hb (hk2.at 6 rfl)
  have N : Hid (∀ w', Below W2.heap.size W2 w' → Calls Try.prog 12 #[hpV c h] w' (HEnd w' (norm h))) := Lib.hid (fun w' hb => norm12 c h w' ((hr.later hBx).later hb) b1 b2 b3)
  have F : Hid (∀ (c' : Hc) (w' : World), HRd w' c' (norm h) → Calls Try.prog 36 #[tgV t, .string r, hpV c' (norm h)] w' (fun e w'' => e = .returned (.bool b) ∧ Below w'.heap.size w' w'')) := Lib.hid (fun c' w' hr' => by
    have hl := hr'.len (m1 := 200) (m2 := 200) (m3 := 200) (by rw [hr.r1.1]; exact b1) (by rw [hr.r2.1]; exact b2) (by rw [hr.r3.1]; exact b3)
    exact fires36 t r c' (norm h) w' b hr' hl.1 hl.2.1 hl.2.2 (winOk_norm h) hb)
  have hU0 := Below.refl W2.heap.size W2
  have hBx' := Lib.hid hBx
  have Z := Lib.hid (show w.heap.size ≤ W2.heap.size by omega)
  clear hz hz2 hk hk2 hkp hb hr hB hB2 hBx
  go_enter Try.func15, Try.ntmps15
  go_wp2_with fail
  go_region_held3 (fun w' => Below W2.heap.size W2 w') (with_reducible (repeat (first | assumption | refine Below.drew ?_ | refine Below.trans ?_ (Below.mono hbN ?_) | refine Below.trans ?_ (Below.mono hbF ?_) | refine @Below.size W2.heap.size W2 _ ?_)))
    (first
      | (go_at_call 12; refine (N.out _ (by assumption)).mono ?_; rintro e wN ⟨c', rfl, hoN, hbN⟩; have hrN := hoN.rd)
      | (go_at_call 36; refine (F.out c' _ hrN).mono ?_; rintro e wF ⟨rfl, hbF⟩))
  have bN : Below W2.heap.size W2 wN := Below.trans (Below.drew (Below.refl _ _)) hbN
  have bF := bN.trans (hbF.mono bN.size)
  have hfin := hBx'.out.trans (bF.mono Z.out)
  clear bN bF hbN hbF N F
  go_wp2
  go_ret
  exact ⟨rfl, hfin⟩
end Go.Proofs.Ytkdnkieecchobaa
