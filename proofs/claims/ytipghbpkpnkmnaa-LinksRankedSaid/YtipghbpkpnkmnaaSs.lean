/- Two neighbouring blocks change places (rotate); insertion sort. -/
import Derived.Test.YtipghbpkpnkmnaaSq
namespace Go.Proofs.Ytipghbpkpnkmnaa
open Go.RowKit Go.BigFrame
set_option linter.unusedVariables false

set_option maxRecDepth 20000 in
set_option maxHeartbeats 4000000 in
theorem rot48 (W0 : World) (B g n cap a m b : Nat) (p : Option Addr) (L : List Int) (w : World) (hn : n ≤ 24) (ham : a < m) (hmb : m < b) (hbn : b ≤ n) (hw : Below B W0 w) (ho : Ow w B 3 EI (.slice (some ⟨g, 0, none⟩) n cap) n L) :
    Calls Try.prog 48 #[.slice (some ⟨g, 0, none⟩) n cap, .int .i64 a, .int .i64 m, .int .i64 b, cmpV p] w (SoEnd W0 B g n cap (Rot a m b L)) := by
  have SW := Lib.hid (fun (x y k : Nat) (M : List Int) (wr : World) => swr49 W0 B g n cap x y k (cmpV p) M wr hn)
  have R0 := Lib.hid (Rq.start (a := a) (m := m) (b := b) L (by omega) (by omega))
  go_enter Try.func48, Try.ntmps48
  go_wp2
  go_loopw [10, 11] (fun x y wr => ∃ (i j : Nat) (M : List Int), 0 < i ∧ 0 < j ∧ i ≤ m - a ∧ m + j ≤ b ∧ x = .int .i64 i ∧ y = .int .i64 j ∧ Hid (Rq a m b i j L M) ∧ Ow wr B 3 EI (.slice (some ⟨g, 0, none⟩) n cap) n M ∧ Below B W0 wr) (fun x y _ => (intOf x).toNat + (intOf y).toNat)
  case atStart => exact ⟨m - a, b - m, L, by omega, by omega, by omega, by omega, by go_num, by go_num, R0, ho, hw⟩
  case round =>
    clear ho hw R0
    obtain ⟨i, j, M, hi0, hj0, hi, hj, rfl, rfl, hq, hown, hbr⟩ := hrel
    rcases Nat.lt_trichotomy i j with hlt | heq | hgt
    · have CL := Lib.hid (SW.out (m - i) (m + j - i) i M wr (by omega) (by omega) hbr hown)
      rw [show ((m - i : Nat) : Int) = (m : Int) - (i : Int) by omega, show ((m + j - i : Nat) : Int) = (m : Int) + (j : Int) - (i : Int) by omega] at CL
      clear hown SW
      go_wp2_with fail
      refine CL.out.mono ?_
      rintro e w1 ⟨rfl, M', hs, ho1, hb1⟩
      have hq' := Lib.hid (hq.out.right (by omega) hlt hs)
      clear CL hq hs hbr
      go_wp2
      go_roundw
      case rel => exact ⟨i, j - i, M', hi0, by omega, hi, by omega, rfl, by go_num, hq', ho1, hb1⟩
      case measure => simp [intOf]; omega
    · subst heq
      have CL := Lib.hid (SW.out (m - i) m i M wr (by omega) (by omega) hbr hown)
      rw [show ((m - i : Nat) : Int) = (m : Int) - (i : Int) by omega] at CL
      clear hown SW
      go_wp2_with fail
      refine CL.out.mono ?_
      rintro e w1 ⟨rfl, M', hs, ho1, hb1⟩
      have hq' := Lib.hid (hq.out.last (by omega) hs)
      clear CL hq hs hbr
      go_wp2
      go_end0
      exact ⟨rfl, M', hq'.out, ho1, hb1⟩
    · have CL := Lib.hid (SW.out (m - i) m j M wr (by omega) (by omega) hbr hown)
      rw [show ((m - i : Nat) : Int) = (m : Int) - (i : Int) by omega] at CL
      clear hown SW
      go_wp2_with fail
      refine CL.out.mono ?_
      rintro e w1 ⟨rfl, M', hs, ho1, hb1⟩
      have hq' := Lib.hid (hq.out.left (by omega) hgt hs)
      clear CL hq hs hbr
      go_wp2
      go_roundw
      case rel => exact ⟨i - j, j, M', by omega, hj0, by omega, hj, by go_num, rfl, hq', ho1, hb1⟩
      case measure => simp [intOf]; omega

set_option maxRecDepth 20000 in
set_option maxHeartbeats 8000000 in
theorem ins45 (cs : Int → Int) (W0 : World) (B g n cap a b : Nat) (p : Option Addr) (L0 : List Int) (w : World) (hn : n ≤ 24) (hab : a ≤ b) (hbn : b ≤ n) (hcs : ∀ x, 0 ≤ cs x ∧ cs x ≤ 1000) (hC : CmpOk cs W0 B p)
    (hu : Up L0 a b) (hBW : B ≤ W0.heap.size) (hw : Below B W0 w) (ho : Ow w B 3 EI (.slice (some ⟨g, 0, none⟩) n cap) n L0) :
    Calls Try.prog 45 #[.slice (some ⟨g, 0, none⟩) n cap, .int .i64 a, .int .i64 b, cmpV p] w (SoEnd W0 B g n cap (fun L => Mv a b L0 L ∧ Sd cs L a b)) := by
  have HU := Lib.hid hu
  have HC := Lib.hid hC
  have HS := Lib.hid hcs
  clear hu hC hcs
  go_enter Try.func45, Try.ntmps45
  go_wp2
  go_loopw [8] (fun v wr => ∃ (i : Nat) (M : List Int), a + 1 ≤ i ∧ i ≤ b + 1 ∧ v = .int .i64 i ∧ Hid (Mv a (min i b) L0 M ∧ Sd cs M a (min i b)) ∧ Ow wr B 3 EI (.slice (some ⟨g, 0, none⟩) n cap) n M ∧ Below B W0 wr) (fun v _ => b + 1 - (intOf v).toNat)
  case atStart => exact ⟨a + 1, L0, by omega, by omega, by go_num, Lib.hid ⟨Mv.refl _ _ _, Sd.small (by omega)⟩, ho, hw⟩
  case round =>
    clear ho hw
    obtain ⟨i, M, hi0, hi1, rfl, hq, hown, hbr⟩ := hrel
    by_cases hlt : i < b
    · have BS : Hid (Bub cs L0 M a i i) := by
        have h := hq.out
        rw [Nat.min_eq_left (by omega)] at h
        exact Lib.hid (Bub.start h.1 h.2 HU.out (by omega) hlt)
      clear hq
      go_wp2
      go_loopw [9] (fun v wr => ∃ (j : Nat) (N : List Int), a ≤ j ∧ j ≤ i ∧ v = .int .i64 j ∧ Hid (Bub cs L0 N a i j) ∧ Ow wr B 3 EI (.slice (some ⟨g, 0, none⟩) n cap) n N ∧ Below B W0 wr) (fun v _ => (intOf v).toNat)
      case atStart => exact ⟨i, M, by omega, by omega, rfl, BS, hown, hbr⟩
      case round =>
        clear hown hbr BS
        obtain ⟨j, N, hj0, hj1, rfl, hbu, hown, hbr⟩ := hrel
        by_cases hja : a = j
        · have hd : decide ((a : Int) < (j : Int)) = false := decide_eq_false (by omega)
          have hq' : Hid (Mv a (min (i + 1) b) L0 N ∧ Sd cs N a (min (i + 1) b)) := Lib.hid (by
            rw [Nat.min_eq_left (by omega)]
            exact hbu.out.stop (fun h => by omega))
          subst hja
          clear hbu
          go_wp2
          refine wp_region_after (by kernel_rfl) (by kernel_rfl) ?_
          repeat (go_big_quiet_step (fail))
          refine wpQuiet_nil ?_
          intro w2 hb2
          have ho2 := hown.later hb2
          have hB2 := hbr.trans (hb2.mono (Nat.le_trans hBW hbr.size))
          clear hb2 hown hbr
          go_wp2
          go_roundw
          case rel => exact ⟨i + 1, N, by omega, by omega, by go_num, hq', ho2, hB2⟩
          case measure => simp [intOf]; omega
        · obtain ⟨t, rfl⟩ : ∃ t, j = t + 1 := ⟨j - 1, by omega⟩
          have hd : decide ((a : Int) < (t : Int) + 1) = true := decide_eq_true (by omega)
          have C1 := fun q : After wr => q.of (HC.out q.w (hbr.trans (q.hb.mono (Nat.le_trans hBW hbr.size))) (gv N (t + 1)) (gv N t))
          have q1 := hown.gvc (i := t + 1) (by omega)
          have q2 := hown.gvc (i := t) (by omega)
          have Q1 := After.cell q1
          have Q2 := After.cell q2
          obtain ⟨s1, s2⟩ := HS.out (gv N (t + 1))
          obtain ⟨s3, s4⟩ := HS.out (gv N t)
          obtain ⟨g', hg0, hgb, hgl⟩ := hown.at0 (by omega)
          cases hg0
          have hp : (0 : Int) < (t : Int) + 1 := by omega
          by_cases hc : cs (gv N (t + 1)) < cs (gv N t)
          · have hd2 : decide (cs (gv N (t + 1)) - cs (gv N t) < 0) = true := decide_eq_true (by omega)
            have HB := Lib.hid (hbu.out.step (by rw [hown.1]; omega) (by omega) hc)
            have SWP := Lib.hid (fun (w : World) (h : Below wr.heap.size wr w) => (hown.later h).swap (i := t + 1) (j := t) (by omega) (by omega))
            have SF1 := Lib.hid (fun (w : World) (h : Below wr.heap.size wr w) => (hown.later h).free (by omega) (t + 1))
            have SF2 := Lib.hid (fun (w : World) (h : Below wr.heap.size wr w) => ((hown.later h).setI (gv_at (L := N) (i := t + 1) (by rw [hown.1]; omega)) (gv N t)).free (by omega) t)
            have SB := Lib.hid (fun (w : World) (h : Below wr.heap.size wr w) => swW_below (hbr.trans (h.mono (Nat.le_trans hBW hbr.size))) hgb N (t + 1) t)
            clear hc hbu q1 q2
            unfold swW at SWP SB
            generalize gv N (t + 1) = x at *
            generalize gv N t = y at *
            generalize cs x = cx at *
            generalize cs y = cy at *
            clear hown
            go_wp2
            refine wp_region_after (by kernel_rfl) (by kernel_rfl) ?_
            repeat (go_big_quiet_step (first | (with_reducible exact C1 _) | fail))
            refine wpQuiet_nil ?_
            intro w2 hb2
            have o2 := SWP.out w2 hb2
            have f1 := SF1.out w2 hb2
            have f2 := SF2.out w2 hb2
            have b2 := SB.out w2 hb2
            have q1 := keep hb2 (Q1 ⟨wr, Below.refl _ _⟩)
            have q2 := keep hb2 (Q2 ⟨wr, Below.refl _ _⟩)
            clear hb2 hbr Q1 Q2 C1 SWP SF1 SF2 SB
            go_wp2
            go_region
            go_wp2
            go_roundw
            case rel => exact ⟨t, _, by omega, by omega, by go_num, HB, o2.later (Below.refl _ _).drew, b2.drew⟩
            case measure => simp [intOf]
          · have hd2 : decide (cs (gv N (t + 1)) - cs (gv N t) < 0) = false := decide_eq_false (by omega)
            have hq' : Hid (Mv a (min (i + 1) b) L0 N ∧ Sd cs N a (min (i + 1) b)) := Lib.hid (by
              rw [Nat.min_eq_left (by omega)]
              exact hbu.out.stop (fun _ => hc))
            clear hc hbu q1 q2
            generalize gv N (t + 1) = x at *
            generalize gv N t = y at *
            generalize cs x = cx at *
            generalize cs y = cy at *
            go_wp2
            refine wp_region_after (by kernel_rfl) (by kernel_rfl) ?_
            repeat (go_big_quiet_step (first | (with_reducible exact C1 _) | fail))
            refine wpQuiet_nil ?_
            intro w2 hb2
            have ho2 := hown.later hb2
            have hB2 := hbr.trans (hb2.mono (Nat.le_trans hBW hbr.size))
            clear hb2 hown hbr Q1 Q2 C1
            go_wp2
            go_roundw
            case rel => exact ⟨i + 1, N, by omega, by omega, by go_num, hq', ho2, hB2⟩
            case measure => simp [intOf]; omega
    · have hq' : Hid (Mv a b L0 M ∧ Sd cs M a b) := by
        have h := hq.out
        rw [Nat.min_eq_right (by omega)] at h
        exact Lib.hid h
      clear hq
      go_wp2
      go_end0
      exact ⟨rfl, M, hq'.out, hown, hbr⟩
end Go.Proofs.Ytipghbpkpnkmnaa
