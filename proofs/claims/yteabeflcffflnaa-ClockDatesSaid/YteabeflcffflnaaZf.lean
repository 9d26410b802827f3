/- The walk of Utc. -/
import Derived.Test.YteabeflcffflnaaZe
namespace Go.Proofs.Yteabeflcffflnaa
open Go.RowKit Go.BigFrame

theorem seg_loc {o : Int} {l : Ch} (h0 : chk o l = 0) {k : Nat} {m : Int} (hk : k ≤ l.length) (m0 : 0 ≤ m) (m1 : m ≤ 1073741824) (hf : frm l k ≤ m) (ht : k < l.length → m < ct l k) : loc o l m = clampM (m + offK o l k) := by
  unfold loc
  rw [offs_ok h0, clampM_id m0 m1, fo_seg (chk_ok h0) hk hf ht]
theorem frm_bd {o : Int} {l : Ch} (h : Ok o l) {k : Nat} (hk : k ≤ l.length) : (0 ≤ frm l k ∧ frm l k ≤ 1073741824) ∧ -840 ≤ offK o l k ∧ offK o l k ≤ 840 := by
  cases k with
  | zero => exact ⟨by simp [frm], by simpa [offK] using h.o0⟩
  | succ k =>
    rw [frm_succ, offK_succ]
    have := h.each k (by omega)
    exact ⟨this.2, this.1⟩
theorem seg_yes {o : Int} {l : Ch} (h0 : chk o l = 0) {k : Nat} {L a t : Int} (hk : k ≤ l.length) (hL : 0 ≤ L ∧ L ≤ 1073741824) (ha : fstM (frm l k) (offK o l k) L = a) (hb : frm l k ≤ a ∧ a < t)
    (ht : t ≤ 1073741825) (htk : k < l.length → t = ct l k) (hno : ∀ m, 0 ≤ m → m < frm l k → loc o l m ≠ L) : IsUtc (loc o l) L a true := by
  have fb := (frm_bd (chk_ok h0) hk).1
  have fy := fst_yes hL.1 hL.2 ha hb.1
  refine .inl ⟨rfl, by omega, by omega, ?_, fun m m0 m1 => ?_⟩
  · rw [seg_loc h0 hk (by omega) (by omega) hb.1 (fun c => by have := htk c; omega)]
    exact fy.1
  · rcases Int.lt_or_le m (frm l k) with c | c
    · exact hno m m0 c
    · rw [seg_loc h0 hk m0 (by omega) c (fun d => by have := htk d; omega)]
      exact fy.2 m c m1
theorem seg_no {o : Int} {l : Ch} (h0 : chk o l = 0) {k : Nat} {L a t : Int} (hk : k ≤ l.length) (hL : 0 ≤ L ∧ L ≤ 1073741824) (ha : fstM (frm l k) (offK o l k) L = a) (hb : ¬ (frm l k ≤ a ∧ a < t))
    (ht : t ≤ 1073741825) (htk : k < l.length → t = ct l k) (hno : ∀ m, 0 ≤ m → m < frm l k → loc o l m ≠ L) : ∀ m, 0 ≤ m → m < t → loc o l m ≠ L := by
  intro m m0 m1
  rcases Int.lt_or_le m (frm l k) with c | c
  · exact hno m m0 c
  · rw [seg_loc h0 hk m0 (by omega) c (fun d => by have := htk d; omega)]
    subst ha
    exact fst_no hL.1 hL.2 hb m c m1

set_option maxHeartbeats 1000000 in
theorem utc28 (o : Int) (A : Option Addr) (l : Ch) (cap n : Nat) (L : Int) (w : World) (hl : l.length ≤ 70) (hc : Chg w A l) (hn : l.length = n) :
    Calls Try.prog 28 #[.agg #[.int .i64 o, .slice A n cap], .int .i64 L] w (UtcEnd o l L w) := by
  obtain ⟨W, hW, hB, hz, hk⟩ := boxed w #[.int .i64 o, .slice A n cap] 34
  have hc' := hc.later hB
  have k0 := hk.at 0 (v := .int .i64 o) rfl
  have k1 := hk.at 1 (v := .slice A n cap) rfl
  have hn70 : n ≤ 70 := by omega
  by_cases hin : 0 ≤ L ∧ L ≤ 1073741824
  · have hvb : (L != clampM L) = false := by rw [clampM_id hin.1 hin.2]; simp
    by_cases h0 : chk o l = 0
    · have HN := Lib.hid hn
      have H0 := Lib.hid h0
      have HOK := Lib.hid (chk_ok h0)
      have CK : Hid (∀ w, Chg w A l → Calls Try.prog 22 #[.agg #[.int .i64 o, .slice A n cap]] w fun e w' => e = .returned (.int .i64 0) ∧ Below w.heap.size w w') := Lib.hid (fun w hc => check22_ok o A l cap n w hl hc h0 hn)
      clear h0 hn
      go_enter Try.func28, Try.ntmps28
      go_wp2_with (go_at_call 36; refine (valid36 _ _).mono ?_; rintro e w' ⟨rfl, rfl⟩)
      refine (CK.out _ hc').mono ?_
      rintro e w1 ⟨rfl, hb1⟩
      clear CK hW hvb
      have hB1 : Below w.heap.size w w1 := hB.trans (hb1.mono (by omega))
      have r0 := keep hb1 k0
      have r1 := keep hb1 k1
      have hc1 := hc'.later hb1
      have C0 := After.cell r0
      clear hk k0 k1 hb1 hc hc' hB hz hl
      go_wp2
      refine wp_region_after (by kernel_rfl) (by kernel_rfl) ?_
      repeat (go_big_quiet_step (fail))
      refine wpQuiet_nil ?_
      intro w2 hb2
      have hB2 : Below w.heap.size w w2 := hB1.trans (hb2.mono hB1.size)
      have s1 := keep hb2 r1
      have hc2 := hc1.later hb2
      clear C0 r0 r1 hb2 hB1 hc1
      go_wp2
      go_loopw [6, 7, 27] (fun f g s wr => ∃ k : Nat, k ≤ n ∧ s = .int .i64 k ∧ f = .int .i64 (frm l k) ∧ g = .int .i64 (offK o l k) ∧ (∀ m, 0 ≤ m → m < frm l k → loc o l m ≠ L) ∧ Below w2.heap.size w2 wr) (fun _ _ s _ => n - (intOf s).toNat)
      case atStart => exact ⟨0, by omega, rfl, by simp [frm], by simp [offK], fun m h1 h2 => by simp [frm] at h2; omega, Below.refl _ _⟩
      case round =>
        obtain ⟨k, hkn, rfl, rfl, rfl, hno, hbr⟩ := hrel
        have HNO := Lib.hid hno
        have hBr : Below w.heap.size w wr := hB2.trans (hbr.mono hB2.size)
        have hfb := frm_bd HOK.out (k := k) (by rw [HN.out]; exact hkn)
        clear hno
        by_cases hlt : k < n
        · obtain ⟨b, off, rfl, hb, hcell⟩ := (hc2.later hbr).get (k := k) (by rw [HN.out]; exact hlt)
          rw [HN.out] at hcell
          obtain ⟨q0, q1⟩ := hcell k hlt
          clear hcell
          have hcb := (HOK.out.each k (by rw [HN.out]; exact hlt)).2
          obtain ⟨V, hV, hBV, hzV, hkV⟩ := boxed wr #[.int .i64 (ct l k), .int .i64 (co l k)] 46
          have p0 := hkV.at 0 (v := .int .i64 (ct l k)) rfl
          have p1 := hkV.at 1 (v := .int .i64 (co l k)) rfl
          have hBV1 : Below w2.heap.size w2 V := hbr.trans (hBV.mono hbr.size)
          have hBV2 : Below w.heap.size w V := hBr.trans (hBV.mono hBr.size)
          clear hkV hbr hBV
          have hse := Lib.hid (frm_succ l k)
          have hoe := Lib.hid (offK_succ o l k)
          obtain ⟨a, ha⟩ : ∃ a, fstM (frm l k) (offK o l k) L = a := ⟨_, rfl⟩
          have HA := Lib.hid ha
          clear ha
          by_cases hb : frm l k ≤ a ∧ a < ct l k
          · have HF : Hid (∀ w, Calls Try.prog 39 #[.int .i64 (frm l k), .int .i64 (ct l k), .int .i64 (offK o l k), .int .i64 L] w fun e w' => e = .returned (.tuple #[.int .i64 a, .bool true]) ∧ w = w') := Lib.hid (fun w => first_t _ (ct l k) _ L a w hfb.1 hfb.2 hin HA.out hb)
            go_wp2_with (go_at_call 39; refine (HF.out _).mono ?_; rintro e w' ⟨rfl, rfl⟩)
            go_ret2
            exact ⟨a, true, rfl, seg_yes H0.out (by rw [HN.out]; exact hkn) hin HA.out hb (by omega) (fun _ => rfl) HNO.out, hBV2⟩
          · have HF : Hid (∀ w, Calls Try.prog 39 #[.int .i64 (frm l k), .int .i64 (ct l k), .int .i64 (offK o l k), .int .i64 L] w fun e w' => e = .returned (.tuple #[.int .i64 a, .bool false]) ∧ w = w') := Lib.hid (fun w => first_f _ (ct l k) _ L a w hfb.1 hfb.2 hin HA.out hb)
            have HB := Lib.hid hb
            clear hb
            go_wp2_with (go_at_call 39; refine (HF.out _).mono ?_; rintro e w' ⟨rfl, rfl⟩)
            have C0 := After.cell p0
            have C1 := After.cell p1
            refine wp_region_after (by kernel_rfl) (by kernel_rfl) ?_
            repeat (go_big_quiet_step (fail))
            refine wpQuiet_nil ?_
            intro w3 hb3
            have hB3 : Below w2.heap.size w2 w3 := hBV1.trans (hb3.mono hBV1.size)
            clear C0 C1 p0 p1 hb3 hBV1 hBV2 q0 q1 HF
            go_wp2
            go_roundw
            case rel =>
              refine ⟨k + 1, by omega, by go_num, by rw [hse.out], by rw [hoe.out], ?_, hB3⟩
              rw [hse.out]
              exact seg_no H0.out (by rw [HN.out]; exact hkn) hin HA.out HB.out (by omega) (fun _ => rfl) HNO.out
            case measure => simp [intOf]; omega
        · obtain rfl : k = n := by omega
          obtain ⟨a, ha⟩ : ∃ a, fstM (frm l k) (offK o l k) L = a := ⟨_, rfl⟩
          have HA := Lib.hid ha
          clear ha
          by_cases hb : frm l k ≤ a ∧ a < 1073741825
          · have HF : Hid (∀ w, Calls Try.prog 39 #[.int .i64 (frm l k), .int .i64 1073741825, .int .i64 (offK o l k), .int .i64 L] w fun e w' => e = .returned (.tuple #[.int .i64 a, .bool true]) ∧ w = w') := Lib.hid (fun w => first_t _ _ _ L a w hfb.1 hfb.2 hin HA.out hb)
            go_wp2_with (go_at_call 39; refine (HF.out _).mono ?_; rintro e w' ⟨rfl, rfl⟩)
            go_ret2
            exact ⟨a, true, rfl, seg_yes H0.out (by rw [HN.out]; exact hkn) hin HA.out hb (by omega) (fun c => by rw [HN.out] at c; omega) HNO.out, hBr⟩
          · have HF : Hid (∀ w, Calls Try.prog 39 #[.int .i64 (frm l k), .int .i64 1073741825, .int .i64 (offK o l k), .int .i64 L] w fun e w' => e = .returned (.tuple #[.int .i64 a, .bool false]) ∧ w = w') := Lib.hid (fun w => first_f _ _ _ L a w hfb.1 hfb.2 hin HA.out hb)
            have HB := Lib.hid hb
            clear hb
            go_wp2_with (go_at_call 39; refine (HF.out _).mono ?_; rintro e w' ⟨rfl, rfl⟩)
            go_ret2
            exact ⟨0, false, rfl, .inr ⟨rfl, rfl, fun m m0 m1 => seg_no H0.out (by rw [HN.out]; exact hkn) hin HA.out HB.out (by omega) (fun c => by rw [HN.out] at c; omega) HNO.out m m0 (by omega)⟩, hBr⟩
    · have hne : (chk o l != 0) = true := by rw [bne_iff_ne]; exact h0
      have CK : Hid (∀ w, Chg w A l → Calls Try.prog 22 #[.agg #[.int .i64 o, .slice A n cap]] w fun e w' => e = .returned (.int .i64 (chk o l)) ∧ Below w.heap.size w w') := Lib.hid (fun w hc => check22_n o A l cap n w hl hc hn)
      have HU : Hid (IsUtc (loc o l) L L true) := Lib.hid (by
        refine .inl ⟨rfl, hin.1, hin.2, ?_, fun m m0 m1 hm => ?_⟩
        · unfold loc; rw [offs_bad h0, Int.add_zero, clampM_id hin.1 hin.2, clampM_id hin.1 hin.2]
        · unfold loc at hm; rw [offs_bad h0, Int.add_zero, clampM_id m0 (by omega), clampM_id m0 (by omega)] at hm; omega)
      have HF : Hid (∀ w, Calls Try.prog 39 #[.int .i64 0, .int .i64 1073741825, .int .i64 0, .int .i64 L] w fun e w' => e = .returned (.tuple #[.int .i64 L, .bool true]) ∧ w = w') := Lib.hid (fun w => first_t 0 _ 0 L L w (by omega) (by omega) hin (by unfold fstM; (repeat' split) <;> omega) (by omega))
      clear h0 hn
      go_enter Try.func28, Try.ntmps28
      go_wp2_with (go_at_call 36; refine (valid36 _ _).mono ?_; rintro e w' ⟨rfl, rfl⟩)
      refine (CK.out _ hc').mono ?_
      rintro e w1 ⟨rfl, hb1⟩
      clear CK hW hvb
      have hB1 : Below w.heap.size w w1 := hB.trans (hb1.mono (by omega))
      have hk1 := hk.later hb1
      have r0 := hk1.at 0 (v := .int .i64 o) rfl
      have r1 := hk1.at 1 (v := .slice A n cap) rfl
      have f0 := hk1.frozen 0
      have f1 := hk1.frozen 1
      clear hk k0 k1 hb1 hc hc' hB hz hl
      go_wp2
      have hk2 : Blk ((w1.setCell ⟨w.heap.size, 0, none⟩ (.int .i64 0)).setCell ⟨w.heap.size, 1, none⟩ (.slice none 0 0)) w.heap.size 34 #[.int .i64 0, .slice none 0 0] := (hk1.set_ 0 _).set_ 1 _
      have hB2 := (hB1.setCell (p := ⟨w.heap.size, 0, none⟩) (Nat.le_refl _) (.int .i64 0)).setCell (p := ⟨w.heap.size, 1, none⟩) (Nat.le_refl _) (.slice none 0 0)
      clear hk1 hB1 r0 r1 f0 f1
      generalize (w1.setCell ⟨w.heap.size, 0, none⟩ (.int .i64 0)).setCell ⟨w.heap.size, 1, none⟩ (.slice none 0 0) = w2 at *
      have r1 := hk2.at 1 (v := .slice none 0 0) rfl
      have C0 := After.cell (hk2.at 0 (v := .int .i64 0) rfl)
      refine wp_region_after (by kernel_rfl) (by kernel_rfl) ?_
      repeat (go_big_quiet_step (fail))
      refine wpQuiet_nil ?_
      intro w3 hb3
      have hB3 : Below w.heap.size w w3 := hB2.trans (hb3.mono hB2.size)
      have s1 := keep hb3 r1
      clear C0 hb3 hB2 hk2 r1
      go_wp2
      go_loopw [6, 7, 27] (fun f g s wr => f = .int .i64 0 ∧ g = .int .i64 0 ∧ s = .int .i64 0 ∧ wr = w3) (fun _ _ _ _ => 0)
      case atStart => exact ⟨rfl, rfl, rfl, rfl⟩
      case round =>
        obtain ⟨rfl, rfl, rfl, rfl⟩ := hrel
        go_wp2_with (go_at_call 39; refine (HF.out _).mono ?_; rintro e w' ⟨rfl, rfl⟩)
        go_ret2
        exact ⟨L, true, rfl, HU.out, hB3⟩
  · have HO := Lib.hid (out_no (o := o) (l := l) hin)
    have hvb : (L != clampM L) = true := by
      rw [bne_iff_ne]; intro h; have := clampM_bd L; omega
    clear hn hl
    go_enter Try.func28, Try.ntmps28
    go_wp2_with (go_at_call 36; refine (valid36 _ _).mono ?_; rintro e w' ⟨rfl, rfl⟩)
    go_ret2
    exact ⟨0, false, rfl, HO.out, hB⟩
end Go.Proofs.Yteabeflcffflnaa
