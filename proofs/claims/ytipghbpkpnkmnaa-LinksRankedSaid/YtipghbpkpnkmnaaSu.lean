/- Merging in place (symMerge): several numbers on both sides. -/
import Derived.Test.YtipghbpkpnkmnaaSt
import Derived.Deep.CutRange
namespace Go.Proofs.Ytipghbpkpnkmnaa
open Go.RowKit Go.BigFrame
set_option linter.unusedVariables false

/-- what symMerge is said to do -/
def SymOk (cs : Int → Int) (W0 : World) (B g n cap : Nat) (p : Option Addr) (a m b : Nat) : Prop :=
  ∀ (L : List Int) (w : World), a < m → m < b → b ≤ n → Pre cs L a m b → Below B W0 w → Ow w B 3 EI (.slice (some ⟨g, 0, none⟩) n cap) n L →
    Calls Try.prog 46 #[.slice (some ⟨g, 0, none⟩) n cap, .int .i64 a, .int .i64 m, .int .i64 b, cmpV p] w (SoEnd W0 B g n cap (fun M => Mv a b L M ∧ Sd cs M a b))

set_option maxRecDepth 20000 in
set_option maxHeartbeats 8000000 in
theorem sym46_gen (cs : Int → Int) (W0 : World) (B g n cap a m b : Nat) (p : Option Addr) (L : List Int) (w : World) (hn : n ≤ 24) (ham : a + 1 < m) (hmb : m + 1 < b) (hbn : b ≤ n) (hcs : ∀ x, 0 ≤ cs x ∧ cs x ≤ 1000) (hC : CmpOk cs W0 B p)
    (IH : ∀ a' m' b' : Nat, b' - a' < b - a → SymOk cs W0 B g n cap p a' m' b')
    (hP : Pre cs L a m b) (hBW : B ≤ W0.heap.size) (hw : Below B W0 w) (ho : Ow w B 3 EI (.slice (some ⟨g, 0, none⟩) n cap) n L) :
    Calls Try.prog 46 #[.slice (some ⟨g, 0, none⟩) n cap, .int .i64 a, .int .i64 m, .int .i64 b, cmpV p] w (SoEnd W0 B g n cap (fun M => Mv a b L M ∧ Sd cs M a b)) := by
  have hd0 : ((m : Int) - (a : Int) == 1) = false := by simp; omega
  have hd1 : ((b : Int) - (m : Int) == 1) = false := by simp; omega
  have hmn : m < n := by omega
  have HC := Lib.hid hC
  have HS := Lib.hid hcs
  have HP := Lib.hid hP
  have HI := Lib.hid IH
  have LH := Lib.hid (lohi (a := a) (m := m) (b := b) (by omega) (by omega))
  have B0 : Hid (Bs (P3 cs L ((a + b) / 2 + m)) (loOf a m b) (hiOf a m b) (loOf a m b) (hiOf a m b)) := Lib.hid (Bs.start _ LH.out.2.1)
  have HMN := Lib.hid (P3.mono HP.out (show a < m by omega) (show m < b by omega))
  have HG := Lib.hid (fun s => gen_cut (s := s) HP.out (show a < m by omega) (show m < b by omega))
  obtain ⟨mid, hmid⟩ : ∃ mid : Nat, (a + b) / 2 = mid := ⟨_, rfl⟩
  have hmi : ((a : Int) + (b : Int)) / 2 = (mid : Int) := by omega
  have hma : a < mid := by omega
  have hmb2 : mid < b := by omega
  have HLO : Hid (loOf a m b = if mid < m then mid + m - b else a) := Lib.hid (by unfold loOf; rw [hmid])
  have HHI : Hid (hiOf a m b = if mid < m then mid else m) := Lib.hid (by unfold hiOf; rw [hmid])
  have HMD := Lib.hid hmid
  have HLB : b ≤ mid + m ∨ m ≤ mid := by omega
  clear hC hcs hP IH hmid
  generalize loOf a m b = lo at *
  generalize hiOf a m b = hi at *
  go_enter Try.func46, Try.ntmps46
  go_upto_if 140 with fail
  go_cut [20, 21] from 138 to 146 (fun s r wz => s = .int .i64 lo ∧ r = .int .i64 hi ∧ wz = w)
  case first =>
    by_cases hmm : mid < m
    · have hlo : (mid : Int) + (m : Int) - (b : Int) = (lo : Int) := by have := HLO.out; rw [if_pos hmm] at this; omega
      have hhi : mid = hi := by have := HHI.out; rw [if_pos hmm] at this; omega
      have HH := Lib.hid hhi
      clear hhi
      go_wp2
      go_meet
      exact ⟨rfl, by rw [HH.out], rfl⟩
    · have HL : Hid (a = lo) := Lib.hid (by have := HLO.out; rw [if_neg hmm] at this; omega)
      have HH : Hid (m = hi) := Lib.hid (by have := HHI.out; rw [if_neg hmm] at this; omega)
      go_wp2
      go_meet
      exact ⟨by rw [HL.out], by rw [HH.out], rfl⟩
  case rest =>
    obtain ⟨rfl, rfl, rfl⟩ := hcut
    clear HLO HHI HLB
    go_wp2
    go_loopw [20, 21] (fun x y wr => ∃ (i j : Nat), lo ≤ i ∧ i ≤ j ∧ j ≤ hi ∧ x = .int .i64 i ∧ y = .int .i64 j ∧ Hid (Bs (P3 cs L ((a + b) / 2 + m)) lo hi i j) ∧ Ow wr B 3 EI (.slice (some ⟨g, 0, none⟩) n cap) n L ∧ Below B W0 wr) (fun x y _ => (intOf y).toNat - (intOf x).toNat)
    case atStart => exact ⟨lo, hi, by omega, LH.out.2.1, by omega, rfl, rfl, B0, ho, hw⟩
    case round =>
      clear ho hw B0
      obtain ⟨i, j, hi0, hij, hj, rfl, rfl, hbs, hown, hbr⟩ := hrel
      by_cases hlt : i < j
      · obtain ⟨h, hh⟩ : ∃ h : Nat, ((i : Int) + (j : Int)) / 2 = (h : Int) := ⟨(i + j) / 2, by omega⟩
        have hih : i ≤ h := by omega
        have hhj : h < j := by omega
        obtain ⟨e1, e2, e3, e4, e5, e6, _⟩ := LH.out
        rw [HMD.out] at e5 e6 e4
        obtain ⟨q, hq⟩ : ∃ q : Nat, mid + m - 1 - h = q := ⟨_, rfl⟩
        have hq2 := e5 h (by omega) (by omega)
        rw [hq] at hq2
        have hqi : (mid : Int) + (m : Int) - 1 - (h : Int) = (q : Int) := by omega
        have hhn : h < n := by omega
        have hqn : q < n := by omega
        have hP3 : P3 cs L ((a + b) / 2 + m) h ↔ cs (gv L q) < cs (gv L h) := by unfold P3; rw [HMD.out, hq]
        clear e1 e2 e3 e4 e5 e6 hq hq2
        have C1 := fun z : After wr => z.of (HC.out z.w (hbr.trans (z.hb.mono (Nat.le_trans hBW hbr.size))) (gv L q) (gv L h))
        have Q1 := After.cell (hown.gvc (i := q) hqn)
        have Q2 := After.cell (hown.gvc (i := h) hhn)
        obtain ⟨s1, s2⟩ := HS.out (gv L q)
        obtain ⟨s3, s4⟩ := HS.out (gv L h)
        by_cases hc : cs (gv L q) < cs (gv L h)
        · have hd2 : decide (cs (gv L q) - cs (gv L h) < 0) = true := decide_eq_true (by omega)
          have HB : Hid (Bs (P3 cs L ((a + b) / 2 + m)) lo hi i h) := Lib.hid (hbs.out.left HMN.out hih hhj (hP3.2 hc))
          clear hc hbs hP3
          generalize gv L q = x at *
          generalize gv L h = y at *
          generalize cs x = cx at *
          generalize cs y = cy at *
          go_wp2
          refine wp_region_after (by kernel_rfl) (by kernel_rfl) ?_
          repeat (go_big_quiet_step (first | (with_reducible exact C1 _) | fail))
          refine wpQuiet_nil ?_
          intro w2 hb2
          have ho2 := hown.later hb2
          have hB2 := hbr.trans (hb2.mono (Nat.le_trans hBW hbr.size))
          clear hb2 hown hbr Q1 Q2 C1 hh hqi
          go_wp2
          go_roundw
          case rel => exact ⟨i, h, hi0, hih, by omega, rfl, by go_num, HB, ho2, hB2⟩
          case measure => simp [intOf]; omega
        · have hd2 : decide (cs (gv L q) - cs (gv L h) < 0) = false := decide_eq_false (by omega)
          have HB : Hid (Bs (P3 cs L ((a + b) / 2 + m)) lo hi (h + 1) j) := Lib.hid (hbs.out.right HMN.out hih hhj (fun hp => hc (hP3.1 hp)))
          clear hc hbs hP3
          generalize gv L q = x at *
          generalize gv L h = y at *
          generalize cs x = cx at *
          generalize cs y = cy at *
          go_wp2
          refine wp_region_after (by kernel_rfl) (by kernel_rfl) ?_
          repeat (go_big_quiet_step (first | (with_reducible exact C1 _) | fail))
          refine wpQuiet_nil ?_
          intro w2 hb2
          have ho2 := hown.later hb2
          have hB2 := hbr.trans (hb2.mono (Nat.le_trans hBW hbr.size))
          clear hb2 hown hbr Q1 Q2 C1 hh hqi
          go_wp2
          go_roundw
          case rel => exact ⟨h + 1, j, by omega, by omega, hj, by go_num, rfl, HB, ho2, hB2⟩
          case measure => simp [intOf]; omega
      · have hji : j = i := by omega
        have HG1 := HG.out i (by have h := hbs.out; rw [hji] at h; exact h)
        rw [HMD.out] at HG1
        obtain ⟨e, he⟩ : ∃ e : Nat, mid + m - i = e := ⟨_, rfl⟩
        rw [he] at HG1
        have HE := Lib.hid HG1
        obtain ⟨g1, g2, g3, g4, g5, _, _⟩ := HG1
        have hei : (mid : Int) + (m : Int) - (i : Int) = (e : Int) := by omega
        have hme : mid = i + (e - m) := by omega
        have HME := Lib.hid hme
        obtain ⟨wo, rfl⟩ : ∃ wo : World, wo = wr := ⟨_, rfl⟩
        clear hbs hji HC HS HMN HG LH he hme hi0 hj hij
        obtain ⟨bb, hbb⟩ : ∃ bb : Bool, bb = (decide (i < m) && decide (m < e)) := ⟨_, rfl⟩
        have HBB := Lib.hid hbb
        clear hbb
        go_upto_region 39 with fail
        go_cut [185] from 178 to 185 (fun s wz => s = .bool bb ∧ wo = wz)
        case first =>
          clear HP HE HI
          by_cases hsm : i < m
          · have hE : bb = decide (m < e) := by rw [HBB.out, decide_eq_true hsm, Bool.true_and]
            have HE := Lib.hid hE
            clear hE HBB
            by_cases hmm : m < e
            · have HB1 := Lib.hid (show bb = true by rw [HE.out]; exact decide_eq_true hmm)
              clear HE
              go_wp2
              go_meet
              exact ⟨by rw [HB1.out], rfl⟩
            · have HB1 := Lib.hid (show bb = false by rw [HE.out]; exact decide_eq_false hmm)
              clear HE
              go_wp2
              go_meet
              exact ⟨by rw [HB1.out], rfl⟩
          · have HB1 := Lib.hid (show bb = false by rw [HBB.out, decide_eq_false hsm, Bool.false_and])
            clear HBB
            go_wp2
            go_meet
            exact ⟨by rw [HB1.out], rfl⟩
        case rest =>
        obtain ⟨rfl, rfl⟩ := hcut
        go_upto_if 185 with fail
        go_cut [] from 178 to 191 (fun wz => ∃ L1 : List Int, Hid (Rot i m e L L1) ∧ Ow wz B 3 EI (.slice (some ⟨g, 0, none⟩) n cap) n L1 ∧ Below B W0 wz)
        case first =>
          clear HP HE HI
          cases bb with
          | true =>
            have hc := HBB.out
            simp only [eq_comm (a := true), Bool.and_eq_true, decide_eq_true_eq] at hc
            obtain ⟨hsm, hmm⟩ := hc
            have RC := Lib.hid (rot48 W0 B g n cap i m e p L wo hn hsm hmm (by omega) hbr hown)
            clear hown hbr HBB
            go_wp2_with fail
            refine RC.out.mono ?_
            rintro en w1 ⟨rfl, L1, hr, ho1, hb1⟩
            have HR := Lib.hid hr
            clear RC hr
            go_wp2
            go_meet
            exact ⟨L1, HR, ho1, hb1⟩
          | false =>
            have HR : Hid (Rot i m e L L) := Lib.hid (by
              by_cases hsm : i < m
              · have hc := HBB.out
                rw [decide_eq_true hsm, Bool.true_and] at hc
                have : ¬ m < e := fun h => by rw [decide_eq_true h] at hc; cases hc
                rw [show e = m by omega]; exact Rot.refl_right _ _ _
              · rw [show m = i by omega]; exact Rot.refl_left _ _ _)
            clear HBB
            go_wp2
            go_meet
            exact ⟨L, HR, hown, hbr⟩
        case rest =>
          clear hown hbr
          obtain ⟨L1, hR, hown, hbr⟩ := hcut
          obtain ⟨w1, rfl⟩ : ∃ w1, w1 = wc := ⟨_, rfl⟩
          have HCP := Lib.hid (cut_pre HP.out hR.out g1 g2 g4 g5 HME.out)
          have HCC := Lib.hid (cut_cross HP.out hR.out g1 g2 g4 g5 HME.out HE.out.2.2.2.2.2.1 HE.out.2.2.2.2.2.2)
          have HMV := Lib.hid ((hR.out.mv g2 g4).wide g1 g5)
          clear HE HP hR
          obtain ⟨bc, hbc⟩ : ∃ bc : Bool, bc = (decide (a < i) && decide (i < mid)) := ⟨_, rfl⟩
          have HBC := Lib.hid hbc
          clear hbc HBB
          go_upto_region 41 with fail
          go_cut [199] from 192 to 199 (fun s wz => s = .bool bc ∧ w1 = wz)
          case first =>
            clear HI HCP HCC
            by_cases hsm : a < i
            · have hE : bc = decide (i < mid) := by rw [HBC.out, decide_eq_true hsm, Bool.true_and]
              have HE := Lib.hid hE
              clear hE HBC
              by_cases hmm : i < mid
              · have HB1 := Lib.hid (show bc = true by rw [HE.out]; exact decide_eq_true hmm)
                clear HE
                go_wp2
                go_meet
                exact ⟨by rw [HB1.out], rfl⟩
              · have HB1 := Lib.hid (show bc = false by rw [HE.out]; exact decide_eq_false hmm)
                clear HE
                go_wp2
                go_meet
                exact ⟨by rw [HB1.out], rfl⟩
            · have HB1 := Lib.hid (show bc = false by rw [HBC.out, decide_eq_false hsm, Bool.false_and])
              clear HBC
              go_wp2
              go_meet
              exact ⟨by rw [HB1.out], rfl⟩
          case rest =>
          obtain ⟨rfl, rfl⟩ := hcut
          go_upto_if 199 with fail
          go_cut [] from 192 to 205 (fun wz => ∃ L2 : List Int, Hid (Mv a mid L1 L2 ∧ Sd cs L2 a mid) ∧ Ow wz B 3 EI (.slice (some ⟨g, 0, none⟩) n cap) n L2 ∧ Below B W0 wz)
          case first =>
            cases bc with
            | true =>
              have hc := HBC.out
              simp only [eq_comm (a := true), Bool.and_eq_true, decide_eq_true_eq] at hc
              obtain ⟨has, hsm⟩ := hc
              have RC := Lib.hid (HI.out a i mid (by omega) L1 w1 has hsm (by omega) HCP.out.1 hbr hown)
              clear hown hbr HCP HCC HI HBC
              go_wp2_with fail
              refine RC.out.mono ?_
              rintro en w2 ⟨rfl, L2, hr, ho2, hb2⟩
              have HR := Lib.hid hr
              clear RC hr
              go_wp2
              go_meet
              exact ⟨L2, HR, ho2, hb2⟩
            | false =>
              have HR : Hid (Mv a mid L1 L1 ∧ Sd cs L1 a mid) := Lib.hid ⟨Mv.refl _ _ _, by
                by_cases has : a < i
                · have hc := HBC.out
                  rw [decide_eq_true has, Bool.true_and] at hc
                  have : ¬ i < mid := fun h => by rw [decide_eq_true h] at hc; cases hc
                  have := HCP.out.1.l; rwa [show i = mid by omega] at this
                · have := HCP.out.1.r; rwa [show i = a by omega] at this⟩
              clear HCP HCC HI HBC
              go_wp2
              go_meet
              exact ⟨L1, HR, hown, hbr⟩
          case rest =>
            clear hown hbr
            obtain ⟨L2, hM, hown, hbr⟩ := hcut
            obtain ⟨w2, rfl⟩ : ∃ w2, w2 = wc := ⟨_, rfl⟩
            have HP2 : Hid (Pre cs L2 mid e b) := Lib.hid (by
              have h := HCP.out.2
              refine ⟨h.l.ext (fun k q1 q2 => hM.out.1.out k (.inr q1)), h.r.ext (fun k q1 q2 => hM.out.1.out k (by omega)), fun x y q1 q2 q3 q4 => ?_⟩
              rw [hM.out.1.out x (.inr q1), hM.out.1.out y (by omega)]
              exact h.n x y q1 q2 q3 q4)
            have HJ := Lib.hid (fun (N : List Int) => cross_join (N := N) HCC.out (Nat.le_of_lt hma) (Nat.le_of_lt hmb2) hM.out.1 hM.out.2)
            clear HCP HCC hM HBC
            by_cases hde : mid < e
            · by_cases heb : e < b
              · have RC := Lib.hid (HI.out mid e b (by omega) L2 w2 hde heb hbn HP2.out hbr hown)
                clear hown hbr HI HP2
                go_wp2_with fail
                refine RC.out.mono ?_
                rintro en w3 ⟨rfl, L3, hr, ho3, hb3⟩
                have HR := Lib.hid (show Mv a b L L3 ∧ Sd cs L3 a b from ⟨HMV.out.trans (HJ.out L3 hr.1 hr.2).1, (HJ.out L3 hr.1 hr.2).2⟩)
                clear RC hr HJ
                go_wp2
                go_end0
                exact ⟨rfl, L3, HR.out, ho3, hb3⟩
              · have HS2 := HJ.out L2 (Mv.refl _ _ _) (by have := HP2.out.l; rwa [show e = b by omega] at this)
                have HR := Lib.hid (show Mv a b L L2 ∧ Sd cs L2 a b from ⟨HMV.out.trans HS2.1, HS2.2⟩)
                clear HS2
                clear HJ HP2 HI
                go_wp2
                go_end0
                exact ⟨rfl, L2, HR.out, hown, hbr⟩
            · have HS2 := HJ.out L2 (Mv.refl _ _ _) (by have := HP2.out.r; rwa [show e = mid by omega] at this)
              have HR := Lib.hid (show Mv a b L L2 ∧ Sd cs L2 a b from ⟨HMV.out.trans HS2.1, HS2.2⟩)
              clear HS2
              clear HJ HP2 HI
              go_wp2
              go_end0
              exact ⟨rfl, L2, HR.out, hown, hbr⟩
end Go.Proofs.Ytipghbpkpnkmnaa
