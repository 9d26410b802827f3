/- The sort of the program meets its contract. -/
import Derived.Test.YtipghbpkpnkmnaaSu
namespace Go.Proofs.Ytipghbpkpnkmnaa
open Go.RowKit Go.BigFrame
set_option linter.unusedVariables false

theorem sym46 (cs : Int → Int) (W0 : World) (B g n cap : Nat) (p : Option Addr) (hn : n ≤ 24) (hcs : ∀ x, 0 ≤ cs x ∧ cs x ≤ 1000) (hC : CmpOk cs W0 B p) (hBW : B ≤ W0.heap.size) :
    ∀ d a m b : Nat, b - a ≤ d → SymOk cs W0 B g n cap p a m b := by
  intro d
  induction d with
  | zero => intro a m b hd L w h1 h2; omega
  | succ d ih =>
    intro a m b hd L w h1 h2 h3 hP hw ho
    by_cases e1 : m = a + 1
    · exact sym46_left cs W0 B g n cap a m b p L w hn e1 h2 h3 hcs hC hP hBW hw ho
    · by_cases e2 : b = m + 1
      · exact sym46_right cs W0 B g n cap a m b p L w hn (by omega) e2 h3 hcs hC hP hBW hw ho
      · exact sym46_gen cs W0 B g n cap a m b p L w hn (by omega) (by omega) h3 hcs hC (fun a' m' b' hlt => ih a' m' b' (by omega)) hP hBW hw ho

set_option maxRecDepth 20000 in
set_option maxHeartbeats 4000000 in
theorem cmp38 (A : Option Addr) (n cap : Nat) (l : List Link) (W0 : World) (B G : Nat) (hn : n ≤ 9223372036854775807) (hG : W0.cell? ⟨G, 0, none⟩ = some (.slice A n cap)) (hGB : G < B) (hr : Rd W0 EL A n l) (hrb : ∀ w, Below B W0 w → Rd w EL A n l)
    (hcs : ∀ x, 0 ≤ costT (tab l) x ∧ costT (tab l) x ≤ 1000) : CmpOk (costT (tab l)) W0 B (some ⟨G, 0, none⟩) := by
  intro wr hb x y
  have C1 := fun q : After wr => q.of (cost16 A n cap l x q.w hn ((hrb wr hb).later q.hb))
  have C2 := fun q : After wr => q.of (cost16 A n cap l y q.w hn ((hrb wr hb).later q.hb))
  obtain ⟨s1, s2⟩ := hcs x
  obtain ⟨s3, s4⟩ := hcs y
  have q0 : wr.cell? ⟨G, 0, none⟩ = some (.slice A n cap) := by rw [hb.cell hGB]; exact hG
  have Q0 := After.cell q0
  clear hr hrb hG q0 hcs
  generalize costT (tab l) x = cx at *
  generalize costT (tab l) y = cy at *
  go_enter Try.func38, Try.ntmps38
  go_wp2
  refine wp_region_after_tail 7 (by kernel_rfl) (by kernel_rfl) ?_
  simp only [List.take_succ_cons, List.take_zero, List.drop_succ_cons, List.drop_zero]
  repeat (go_big_quiet_step (first | (with_reducible exact C1 _) | (with_reducible exact C2 _)))
  refine wpQuiet_nil ?_
  intro w2 hb2
  clear C1 C2 Q0
  go_wp2
  go_ret
  exact ⟨rfl, hb2⟩

set_option maxRecDepth 20000 in
set_option maxHeartbeats 4000000 in
theorem stable43 (cs : Int → Int) (W0 : World) (B g n cap : Nat) (p : Option Addr) (L0 : List Int) (hn : n ≤ 24) (hcs : ∀ x, 0 ≤ cs x ∧ cs x ≤ 1000) (hC : CmpOk cs W0 B p) (hBW : B ≤ W0.heap.size)
    (hu : Up L0 0 n) (ho : Ow W0 B 3 EI (.slice (some ⟨g, 0, none⟩) n cap) n L0) :
    Calls Try.prog 43 #[.slice (some ⟨g, 0, none⟩) n cap, .int .i64 n, cmpV p] W0 (SoEnd W0 B g n cap (fun L => Mv 0 n L0 L ∧ Sd cs L 0 n)) := by
  have INS := Lib.hid (fun (a b : Nat) (L : List Int) (w : World) (hab : a ≤ b) (hbn : b ≤ n) (hup : Up L a b) (hw : Below B W0 w) (ho : Ow w B 3 EI (.slice (some ⟨g, 0, none⟩) n cap) n L) => ins45 cs W0 B g n cap a b p L w hn hab hbn hcs hC hup hBW hw ho)
  have SYM := Lib.hid (sym46 cs W0 B g n cap p hn hcs hC hBW 24 0 20 n (by omega))
  have HU := Lib.hid hu
  have hb0 : Below B W0 W0 := Below.refl _ _
  clear hcs hC hu
  by_cases h20 : n < 20
  · have I1 := Lib.hid (INS.out 0 n L0 W0 (by omega) (Nat.le_refl _) HU.out hb0 ho)
    clear INS SYM ho hb0
    go_enter Try.func43, Try.ntmps43
    go_wp2
    go_loop [7, 8] (fun a b => a = .int .i64 0 ∧ b = .int .i64 20) (fun _ _ => 0)
    case atStart => exact ⟨rfl, rfl⟩
    case round =>
      obtain ⟨rfl, rfl⟩ := hrel
      go_wp2_with fail
      refine I1.out.mono ?_
      rintro e w1 ⟨rfl, L1, hq, ho1, hb1⟩
      have HQ := Lib.hid hq
      clear hq I1
      go_wp2
      go_loop [6] (fun a => a = .int .i64 20) (fun _ => 0)
      case atStart => rfl
      case round =>
        subst hrel
        go_wp2
        go_end0
        exact ⟨rfl, L1, HQ.out, ho1, hb1⟩
  · have I1 := Lib.hid (INS.out 0 20 L0 W0 (by omega) (by omega) (fun i j q1 q2 q3 => HU.out i j q1 q2 (by omega)) hb0 ho)
    have hn20 : 20 ≤ n := by omega
    clear ho hb0 h20
    go_enter Try.func43, Try.ntmps43
    go_wp2
    go_loopw [7, 8] (fun a b wr => (a = .int .i64 0 ∧ b = .int .i64 20 ∧ wr = W0) ∨ (a = .int .i64 20 ∧ b = .int .i64 40 ∧ ∃ L1 : List Int, Hid (Mv 0 20 L0 L1 ∧ Sd cs L1 0 20) ∧ Ow wr B 3 EI (.slice (some ⟨g, 0, none⟩) n cap) n L1 ∧ Below B W0 wr)) (fun _ b _ => 100 - (intOf b).toNat)
    case atStart => exact .inl ⟨rfl, rfl, rfl⟩
    case round =>
      rcases hrel with ⟨rfl, rfl, rfl⟩ | ⟨rfl, rfl, L1, hq1, ho1, hb1⟩
      · clear INS SYM
        go_wp2_with fail
        refine I1.out.mono ?_
        rintro e w1 ⟨rfl, L1, hq, ho1, hb1⟩
        have HQ := Lib.hid hq
        clear hq I1
        go_wp2
        go_roundw
        case rel => exact .inr ⟨rfl, rfl, L1, HQ, ho1, hb1⟩
        case measure => simp [intOf]
      · have hU1 : Up L1 20 n := fun i j q1 q2 q3 => by
          rw [hq1.out.1.out i (.inr q1), hq1.out.1.out j (.inr (by omega))]; exact HU.out i j (by omega) q2 q3
        have I2 := Lib.hid (INS.out 20 n L1 wr hn20 (Nat.le_refl _) hU1 hb1 ho1)
        clear I1 INS hU1 ho1 hb1
        obtain ⟨wo, rfl⟩ : ∃ wo : World, wo = wr := ⟨_, rfl⟩
        go_wp2_with fail
        refine I2.out.mono ?_
        rintro e w2 ⟨rfl, L2, hq, ho2, hb2⟩
        have hP := Lib.hid (pre_blocks HU.out hq1.out.1 hq1.out.2 hq.1 hq.2 hn20)
        have hM := Lib.hid ((hq1.out.1.wide (Nat.le_refl 0) hn20).trans (hq.1.wide (Nat.zero_le _) (Nat.le_refl n)))
        clear hq hq1 I2 HU
        by_cases he : n = 20
        · have HR : Hid (Mv 0 n L0 L2 ∧ Sd cs L2 0 n) := Lib.hid ⟨hM.out, by have := hP.out.l; rwa [← he] at this⟩
          have hlt : ¬ (20 < n) := by omega
          clear SYM hP hM he
          go_wp2
          go_loop [6] (fun a => a = .int .i64 20) (fun _ => 0)
          case atStart => rfl
          case round =>
            subst hrel
            go_wp2
            go_end0
            exact ⟨rfl, L2, HR.out, ho2, hb2⟩
        · have hlt : 20 < n := by omega
          have S1 := Lib.hid (SYM.out L2 w2 (by omega) hlt (Nat.le_refl _) hP.out hb2 ho2)
          clear SYM hP he ho2 hb2
          go_wp2
          go_loopw [6] (fun s wr => (s = .int .i64 20 ∧ wr = w2) ∨ (s = .int .i64 40 ∧ ∃ L3 : List Int, Hid (Mv 0 n L0 L3 ∧ Sd cs L3 0 n) ∧ Ow wr B 3 EI (.slice (some ⟨g, 0, none⟩) n cap) n L3 ∧ Below B W0 wr)) (fun s _ => 100 - (intOf s).toNat)
          case atStart => exact .inl ⟨rfl, rfl⟩
          case round =>
            rcases hrel with ⟨rfl, rfl⟩ | ⟨rfl, L3, hq3, ho3, hb3⟩
            · go_wp2
              go_loop [7, 8] (fun a b => a = .int .i64 0 ∧ b = .int .i64 40) (fun _ _ => 0)
              case atStart => exact ⟨rfl, rfl⟩
              case round =>
                obtain ⟨rfl, rfl⟩ := hrel
                go_wp2_with fail
                refine S1.out.mono ?_
                rintro e w3 ⟨rfl, L3, hq3, ho3, hb3⟩
                have HQ : Hid (Mv 0 n L0 L3 ∧ Sd cs L3 0 n) := Lib.hid ⟨hM.out.trans hq3.1, hq3.2⟩
                clear hq3 S1 hM
                go_wp2
                go_roundw
                case rel => exact .inr ⟨rfl, L3, HQ, ho3, hb3⟩
                case measure => simp [intOf]
            · clear S1 hM
              go_wp2
              go_end0
              exact ⟨rfl, L3, hq3.out, ho3, hb3⟩
end Go.Proofs.Ytipghbpkpnkmnaa
