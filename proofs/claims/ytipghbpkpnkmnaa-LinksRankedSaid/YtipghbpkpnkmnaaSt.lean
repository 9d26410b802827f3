/- Merging in place (symMerge): one number on the left, one on the right. -/
import Derived.Test.YtipghbpkpnkmnaaSs
namespace Go.Proofs.Ytipghbpkpnkmnaa
open Go.RowKit Go.BigFrame
set_option linter.unusedVariables false

set_option maxRecDepth 20000 in
set_option maxHeartbeats 8000000 in
theorem sym46_left (cs : Int → Int) (W0 : World) (B g n cap a m b : Nat) (p : Option Addr) (L : List Int) (w : World) (hn : n ≤ 24) (hm : m = a + 1) (hmb : m < b) (hbn : b ≤ n) (hcs : ∀ x, 0 ≤ cs x ∧ cs x ≤ 1000) (hC : CmpOk cs W0 B p)
    (hP : Pre cs L a m b) (hBW : B ≤ W0.heap.size) (hw : Below B W0 w) (ho : Ow w B 3 EI (.slice (some ⟨g, 0, none⟩) n cap) n L) :
    Calls Try.prog 46 #[.slice (some ⟨g, 0, none⟩) n cap, .int .i64 a, .int .i64 m, .int .i64 b, cmpV p] w (SoEnd W0 B g n cap (fun M => Mv a b L M ∧ Sd cs M a b)) := by
  have hd0 : ((m : Int) - (a : Int) == 1) = true := by simp; omega
  have hal : a < m := by omega
  have HM := Lib.hid hm
  have HC := Lib.hid hC
  have HS := Lib.hid hcs
  have HP : Hid (Pre cs L a (a + 1) b) := Lib.hid (by rw [← hm]; exact hP)
  have B0 : Hid (Bs (P1 cs L a) (a + 1) b m b) := Lib.hid (by rw [hm]; exact Bs.start _ (by omega))
  clear hm hC hcs hP
  go_enter Try.func46, Try.ntmps46
  go_wp2
  go_loopw [10, 11] (fun x y wr => ∃ (i j : Nat), m ≤ i ∧ i ≤ j ∧ j ≤ b ∧ x = .int .i64 i ∧ y = .int .i64 j ∧ Hid (Bs (P1 cs L a) (a + 1) b i j) ∧ Ow wr B 3 EI (.slice (some ⟨g, 0, none⟩) n cap) n L ∧ Below B W0 wr) (fun x y _ => (intOf y).toNat - (intOf x).toNat)
  case atStart => exact ⟨m, b, by omega, by omega, by omega, rfl, rfl, B0, ho, hw⟩
  case round =>
    clear ho hw B0
    obtain ⟨i, j, hi, hij, hj, rfl, rfl, hbs, hown, hbr⟩ := hrel
    by_cases hlt : i < j
    · obtain ⟨h, hh⟩ : ∃ h : Nat, ((i : Int) + (j : Int)) / 2 = (h : Int) := ⟨(i + j) / 2, by omega⟩
      have hih : i ≤ h := by omega
      have hhj : h < j := by omega
      have C1 := fun q : After wr => q.of (HC.out q.w (hbr.trans (q.hb.mono (Nat.le_trans hBW hbr.size))) (gv L h) (gv L a))
      have Q1 := After.cell (hown.gvc (i := h) (by omega))
      have Q2 := After.cell (hown.gvc (i := a) (by omega))
      obtain ⟨s1, s2⟩ := HS.out (gv L h)
      obtain ⟨s3, s4⟩ := HS.out (gv L a)
      by_cases hc : cs (gv L h) < cs (gv L a)
      · have hd2 : decide (cs (gv L h) - cs (gv L a) < 0) = true := decide_eq_true (by omega)
        have HB : Hid (Bs (P1 cs L a) (a + 1) b (h + 1) j) := Lib.hid (hbs.out.right (P1.mono HP.out) hih hhj (fun hp => hp hc))
        clear hc hbs
        generalize gv L h = x at *
        generalize gv L a = y at *
        generalize cs x = cx at *
        generalize cs y = cy at *
        go_wp2
        refine wp_region_after (by kernel_rfl) (by kernel_rfl) ?_
        repeat (go_big_quiet_step (first | (with_reducible exact C1 _) | fail))
        refine wpQuiet_nil ?_
        intro w2 hb2
        have ho2 := hown.later hb2
        have hB2 := hbr.trans (hb2.mono (Nat.le_trans hBW hbr.size))
        clear hb2 hown hbr Q1 Q2 C1 hh
        go_wp2
        go_roundw
        case rel => exact ⟨h + 1, j, by omega, by omega, hj, by go_num, rfl, HB, ho2, hB2⟩
        case measure => simp [intOf]; omega
      · have hd2 : decide (cs (gv L h) - cs (gv L a) < 0) = false := decide_eq_false (by omega)
        have HB : Hid (Bs (P1 cs L a) (a + 1) b i h) := Lib.hid (hbs.out.left (P1.mono HP.out) hih hhj hc)
        clear hc hbs
        generalize gv L h = x at *
        generalize gv L a = y at *
        generalize cs x = cx at *
        generalize cs y = cy at *
        go_wp2
        refine wp_region_after (by kernel_rfl) (by kernel_rfl) ?_
        repeat (go_big_quiet_step (first | (with_reducible exact C1 _) | fail))
        refine wpQuiet_nil ?_
        intro w2 hb2
        have ho2 := hown.later hb2
        have hB2 := hbr.trans (hb2.mono (Nat.le_trans hBW hbr.size))
        clear hb2 hown hbr Q1 Q2 C1 hh
        go_wp2
        go_roundw
        case rel => exact ⟨i, h, hi, hih, by omega, rfl, by go_num, HB, ho2, hB2⟩
        case measure => simp [intOf]; omega
    · have hji : j = i := by omega
      have HJ := Lib.hid hji
      have HB : Hid (Bs (P1 cs L a) (a + 1) b i i) := by rw [hji] at hbs; exact hbs
      have R0 : Hid (Rot a (a + 1) (a + 1) L L) := Lib.hid (Rot.refl_right a (a + 1) L)
      clear hbs hji HC HS
      obtain ⟨wo, rfl⟩ : ∃ wo : World, wo = wr := ⟨_, rfl⟩
      go_wp2
      go_loopw [13] (fun v wr => ∃ (k : Nat) (N : List Int), a ≤ k ∧ k < i ∧ v = .int .i64 k ∧ Hid (Rot a (a + 1) (k + 1) L N) ∧ Ow wr B 3 EI (.slice (some ⟨g, 0, none⟩) n cap) n N ∧ Below B W0 wr) (fun v _ => i - (intOf v).toNat)
      case atStart => exact ⟨a, L, by omega, by omega, rfl, R0, hown, hbr⟩
      case round =>
        clear hown hbr R0
        obtain ⟨k, N, hk0, hk1, rfl, hr, hown, hbr⟩ := hrel
        by_cases hki : k + 1 < i
        · have hd3 : decide ((k : Int) < (i : Int) - 1) = true := decide_eq_true (by omega)
          have hl : N.length = n := hown.1
          have HR := Lib.hid (hr.out.up hk0 (by rw [← hr.out.1, hl]; omega))
          have q1 := hown.gvc (i := k) (by omega)
          have q2 := hown.gvc (i := k + 1) (by omega)
          have f1 := hown.free (by omega) k
          obtain ⟨g', hg0, hgb, hgl⟩ := hown.at0 (by omega)
          cases hg0
          have o2 := hown.swap (i := k) (j := k + 1) (by omega) (by omega)
          have f2 := (hown.setI (gv_at (L := N) (i := k) (by omega)) (gv N (k + 1))).free (by omega) (k + 1)
          have hb2 := swW_below hbr hgb N k (k + 1)
          unfold swW at o2 hb2
          clear hr hown hl
          generalize gv N k = x at *
          generalize gv N (k + 1) = y at *
          go_wp2
          go_region
          go_wp2
          go_roundw
          case rel => exact ⟨k + 1, _, by omega, by omega, by go_num, HR, o2.later (Below.refl _ _).drew, hb2.drew⟩
          case measure => simp [intOf]; omega
        · have hd3 : decide ((k : Int) < (i : Int) - 1) = false := decide_eq_false (by omega)
          have HE : Hid (Mv a b L N ∧ Sd cs N a b) := Lib.hid (one_left HP.out HB.out (by rw [show i = k + 1 by omega]; exact hr.out))
          go_wp2
          go_end0
          exact ⟨rfl, N, HE.out, hown, hbr⟩

set_option maxRecDepth 20000 in
set_option maxHeartbeats 8000000 in
theorem sym46_right (cs : Int → Int) (W0 : World) (B g n cap a m b : Nat) (p : Option Addr) (L : List Int) (w : World) (hn : n ≤ 24) (ham : a + 1 < m) (hb : b = m + 1) (hbn : b ≤ n) (hcs : ∀ x, 0 ≤ cs x ∧ cs x ≤ 1000) (hC : CmpOk cs W0 B p)
    (hP : Pre cs L a m b) (hBW : B ≤ W0.heap.size) (hw : Below B W0 w) (ho : Ow w B 3 EI (.slice (some ⟨g, 0, none⟩) n cap) n L) :
    Calls Try.prog 46 #[.slice (some ⟨g, 0, none⟩) n cap, .int .i64 a, .int .i64 m, .int .i64 b, cmpV p] w (SoEnd W0 B g n cap (fun M => Mv a b L M ∧ Sd cs M a b)) := by
  have hd0 : ((m : Int) - (a : Int) == 1) = false := by simp; omega
  have hd1 : ((b : Int) - (m : Int) == 1) = true := by simp; omega
  have hmn : m < n := by omega
  have HM := Lib.hid hb
  have HC := Lib.hid hC
  have HS := Lib.hid hcs
  have HP : Hid (Pre cs L a m (m + 1)) := Lib.hid (by rw [← hb]; exact hP)
  have B0 : Hid (Bs (P2 cs L m) a m a m) := Lib.hid (Bs.start _ (by omega))
  clear hb hC hcs hP
  go_enter Try.func46, Try.ntmps46
  go_wp2
  go_loopw [14, 15] (fun x y wr => ∃ (i j : Nat), a ≤ i ∧ i ≤ j ∧ j ≤ m ∧ x = .int .i64 i ∧ y = .int .i64 j ∧ Hid (Bs (P2 cs L m) a m i j) ∧ Ow wr B 3 EI (.slice (some ⟨g, 0, none⟩) n cap) n L ∧ Below B W0 wr) (fun x y _ => (intOf y).toNat - (intOf x).toNat)
  case atStart => exact ⟨a, m, by omega, by omega, by omega, rfl, rfl, B0, ho, hw⟩
  case round =>
    clear ho hw B0
    obtain ⟨i, j, hi, hij, hj, rfl, rfl, hbs, hown, hbr⟩ := hrel
    by_cases hlt : i < j
    · obtain ⟨h, hh⟩ : ∃ h : Nat, ((i : Int) + (j : Int)) / 2 = (h : Int) := ⟨(i + j) / 2, by omega⟩
      have hih : i ≤ h := by omega
      have hhj : h < j := by omega
      have C1 := fun q : After wr => q.of (HC.out q.w (hbr.trans (q.hb.mono (Nat.le_trans hBW hbr.size))) (gv L m) (gv L h))
      have Q1 := After.cell (hown.gvc (i := h) (by omega))
      have Q2 := After.cell (hown.gvc (i := m) (by omega))
      obtain ⟨s1, s2⟩ := HS.out (gv L h)
      obtain ⟨s3, s4⟩ := HS.out (gv L m)
      by_cases hc : cs (gv L m) < cs (gv L h)
      · have hd2 : decide (cs (gv L m) - cs (gv L h) < 0) = true := decide_eq_true (by omega)
        have HB : Hid (Bs (P2 cs L m) a m i h) := Lib.hid (hbs.out.left (P2.mono HP.out) hih hhj hc)
        clear hc hbs
        generalize gv L h = x at *
        generalize gv L m = y at *
        generalize cs x = cx at *
        generalize cs y = cy at *
        go_wp2
        refine wp_region_after (by kernel_rfl) (by kernel_rfl) ?_
        repeat (go_big_quiet_step (first | (with_reducible exact C1 _) | fail))
        refine wpQuiet_nil ?_
        intro w2 hb2
        have ho2 := hown.later hb2
        have hB2 := hbr.trans (hb2.mono (Nat.le_trans hBW hbr.size))
        clear hb2 hown hbr Q1 Q2 C1 hh
        go_wp2
        go_roundw
        case rel => exact ⟨i, h, hi, hih, by omega, rfl, by go_num, HB, ho2, hB2⟩
        case measure => simp [intOf]; omega
      · have hd2 : decide (cs (gv L m) - cs (gv L h) < 0) = false := decide_eq_false (by omega)
        have HB : Hid (Bs (P2 cs L m) a m (h + 1) j) := Lib.hid (hbs.out.right (P2.mono HP.out) hih hhj hc)
        clear hc hbs
        generalize gv L h = x at *
        generalize gv L m = y at *
        generalize cs x = cx at *
        generalize cs y = cy at *
        go_wp2
        refine wp_region_after (by kernel_rfl) (by kernel_rfl) ?_
        repeat (go_big_quiet_step (first | (with_reducible exact C1 _) | fail))
        refine wpQuiet_nil ?_
        intro w2 hb2
        have ho2 := hown.later hb2
        have hB2 := hbr.trans (hb2.mono (Nat.le_trans hBW hbr.size))
        clear hb2 hown hbr Q1 Q2 C1 hh
        go_wp2
        go_roundw
        case rel => exact ⟨h + 1, j, by omega, by omega, hj, by go_num, rfl, HB, ho2, hB2⟩
        case measure => simp [intOf]; omega
    · have hji : j = i := by omega
      have HB : Hid (Bs (P2 cs L m) a m i i) := by rw [hji] at hbs; exact hbs
      have R0 : Hid (Rot m m (m + 1) L L) := Lib.hid (Rot.refl_left m (m + 1) L)
      clear hbs hji HC HS
      obtain ⟨wo, rfl⟩ : ∃ wo : World, wo = wr := ⟨_, rfl⟩
      go_wp2
      go_loopw [17] (fun v wr => ∃ (k : Nat) (N : List Int), i ≤ k ∧ k ≤ m ∧ v = .int .i64 k ∧ Hid (Rot k m (m + 1) L N) ∧ Ow wr B 3 EI (.slice (some ⟨g, 0, none⟩) n cap) n N ∧ Below B W0 wr) (fun v _ => (intOf v).toNat)
      case atStart => exact ⟨m, L, by omega, by omega, rfl, R0, hown, hbr⟩
      case round =>
        clear hown hbr R0
        obtain ⟨k, N, hk0, hk1, rfl, hr, hown, hbr⟩ := hrel
        by_cases hki : i < k
        · obtain ⟨k, rfl⟩ : ∃ q, k = q + 1 := ⟨k - 1, by omega⟩
          have hd3 : decide ((i : Int) < (k : Int) + 1) = true := decide_eq_true (by omega)
          have hl : N.length = n := hown.1
          have HR := Lib.hid (hr.out.down hk1 (by rw [← hr.out.1, hl]; omega))
          have q1 := hown.gvc (i := k + 1) (by omega)
          have q2 := hown.gvc (i := k) (by omega)
          have f1 := hown.free (by omega) (k + 1)
          obtain ⟨g', hg0, hgb, hgl⟩ := hown.at0 (by omega)
          cases hg0
          have o2 := hown.swap (i := k + 1) (j := k) (by omega) (by omega)
          have f2 := (hown.setI (gv_at (L := N) (i := k + 1) (by omega)) (gv N k)).free (by omega) k
          have hb2 := swW_below hbr hgb N (k + 1) k
          unfold swW at o2 hb2
          clear hr hown hl
          generalize gv N (k + 1) = x at *
          generalize gv N k = y at *
          go_wp2
          go_region
          go_wp2
          go_roundw
          case rel => exact ⟨k, _, by omega, by omega, by go_num, HR, o2.later (Below.refl _ _).drew, hb2.drew⟩
          case measure => simp [intOf]
        · have hd3 : decide ((i : Int) < (k : Int)) = false := decide_eq_false (by omega)
          have HE : Hid (Mv a b L N ∧ Sd cs N a b) := Lib.hid (by
            rw [HM.out]
            exact one_right HP.out HB.out (by rw [show i = k by omega]; exact hr.out))
          go_wp2
          go_end0
          exact ⟨rfl, N, HE.out, hown, hbr⟩
end Go.Proofs.Ytipghbpkpnkmnaa
