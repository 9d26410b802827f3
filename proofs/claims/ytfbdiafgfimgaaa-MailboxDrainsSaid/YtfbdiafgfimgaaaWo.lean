/- The walk of MailboxDrains. -/
import Derived.Test.YtfbdiafgfimgaaaWn
import Derived.Test.YtfbdiafgfimgaaaDra
namespace Go.Proofs.Ytfbdiafgfimgaaa
open Go.RowKit Go.BigFrame
set_option linter.unusedVariables false

set_option maxHeartbeats 4000000 in
theorem lawDrains6 (A : Option Addr) (n cap : Nat) (l : List Fr) (t : Int) (w : World) (hn : n ≤ cap) (hcap : cap ≤ 9223372036854775807) (hr : Rd w EF A n l) :
    Calls Try.prog 6 #[.slice A n cap, .int .i64 t] w fun e w' => e = .returned (.bool true) ∧ Below w.heap.size w w' := by
  have LV : Hid (∀ w, Calls Try.prog 9 #[] w fun e w' => e = .returned (.bool true) ∧ Below w.heap.size w w') := Lib.hid lives9
  by_cases h : 16 < n
  · go_enter Try.func6, Try.ntmps6
    go_wp2_with fail
    refine (LV.out _).mono ?_
    rintro e w1 ⟨rfl, hb⟩
    go_wp2
    go_ret
    exact ⟨rfl, hb⟩
  · have HL := Lib.hid hr.1
    go_enter Try.func6, Try.ntmps6
    go_wp2
    go_loopw [5, 6] (fun m i wr => ∃ (j m' cap' : Nat) (A' : Option Addr), j ≤ n ∧ i = .int .i64 j ∧ m = .slice A' m' cap' ∧ m' ≤ cap' ∧ cap' ≤ 9223372036854775807 ∧ Rd wr EM A' m' (Fil t l j) ∧ Below w.heap.size w wr) (fun _ i _ => n - (intOf i).toNat)
    case atStart => exact ⟨0, 0, 0, none, by omega, rfl, rfl, by omega, by omega, Rd.none_ _ _ _, Below.refl _ _⟩
    case round =>
      obtain ⟨j, m', cap', A', hj, rfl, rfl, hmc, hc', hM, hbr⟩ := hrel
      by_cases hlt : j < n
      · obtain ⟨b, off, f, rfl, hlf, q0, q1, q2, q3, q4, q5, q6, q7, q8⟩ := frame_at (hr.later hbr) hlt
        obtain ⟨V, hV, hBV, hzV, hkV⟩ := boxed wr #[.int .i64 f.kind, .int .i64 f.src, .int .i64 f.to, .int .i64 f.source, .int .i64 f.target, .int .i64 f.seq, .int .i64 f.hops, .bool f.urgent, .string f.data] 24
        have p0 := hkV.at 0 (v := .int .i64 f.kind) rfl
        have p1 := hkV.at 1 (v := .int .i64 f.src) rfl
        have p2 := hkV.at 2 (v := .int .i64 f.to) rfl
        have p3 := hkV.at 3 (v := .int .i64 f.source) rfl
        have p4 := hkV.at 4 (v := .int .i64 f.target) rfl
        have p5 := hkV.at 5 (v := .int .i64 f.seq) rfl
        have p6 := hkV.at 6 (v := .int .i64 f.hops) rfl
        have p7 := hkV.at 7 (v := .bool f.urgent) rfl
        have p8 := hkV.at 8 (v := .string f.data) rfl
        have z2 := hkV.frozen 2
        have hBS := hBV.setCell (p := ⟨wr.heap.size, 2, none⟩) (Nat.le_refl _) (.int .i64 t)
        have hBw := hbr.trans (hBS.mono hbr.size)
        have P : Hid (Calls Try.prog 10 #[.slice A' m' cap', .agg #[.int .i64 f.kind, .int .i64 f.src, .int .i64 t, .int .i64 f.source, .int .i64 f.target, .int .i64 f.seq, .int .i64 f.hops, .bool f.urgent, .string f.data], .int .i64 3] (V.setCell ⟨wr.heap.size, 2, none⟩ (.int .i64 t)) (PtEnd (V.setCell ⟨wr.heap.size, 2, none⟩ (.int .i64 t)) (Fil t l (j + 1), true))) := Lib.hid (by
          have := put10 A' m' cap' (Fil t l j) (rt t f) 3 (V.setCell ⟨wr.heap.size, 2, none⟩ (.int .i64 t)) hmc hc' (hM.later hBS)
          rw [List.take_of_length_le (by have := Fil_length t l j; omega), show (⟨(rt t f), lim 3⟩ : Mail) = cv t f from rfl, put_fil hlf (by omega)] at this
          exact this)
        clear hkV hM hlf hBV hBS hzV hmc hc'
        go_wp2_with fail
        refine P.out.mono ?_
        rintro e w1 ⟨A1, n1, c1, he, ho1, hb1⟩
        obtain rfl : e = .returned (.tuple #[.slice A1 n1 c1, .bool true]) := he
        have hr1 := ho1.rd
        have hc1 := ho1.cap
        have hB1 := hBw.trans (hb1.mono hBw.size)
        clear P ho1 hb1 hBw hbr q0 q1 q2 q3 q4 q5 q6 q7 q8 p0 p1 p2 p3 p4 p5 p6 p7 p8 z2 hV
        go_wp2
        go_roundw
        case rel => exact ⟨j + 1, n1, c1, A1, by omega, by go_num, rfl, hc1.1, hc1.2, hr1, hB1⟩
        case measure => simp [intOf]; omega
      · obtain rfl : n = j := by omega
        clear hlt hj
        rw [Rst_start t l n HL.out] at hM
        obtain ⟨wo1, rfl⟩ : ∃ wo1 : World, wo1 = wr := ⟨_, rfl⟩
        go_wp2
        go_loopw [5, 10] (fun m k wq => ∃ (k' m' cap' : Nat) (A' : Option Addr), k' ≤ 2 ∧ k = .int .i64 k' ∧ m = .slice A' m' cap' ∧ m' ≤ cap' ∧ cap' ≤ 9223372036854775807 ∧ Rd wq EM A' m' (Rst t l k' 0) ∧ Below w.heap.size w wq) (fun _ k _ => 2 - (intOf k).toNat)
        case atStart => exact ⟨0, m', cap', A', by omega, rfl, rfl, hmc, hc', hM, hbr⟩
        case round =>
          obtain ⟨k, m', cap', A', hk, rfl, rfl, hmc, hc', hM, hbr⟩ := hrel
          by_cases hk2 : k < 2
          · obtain ⟨kb, hkb⟩ : ∃ kb : Bool, ((k : Int) == 0) = kb := ⟨_, rfl⟩
            have HK := Lib.hid (show (k == 0) = kb by rw [← hkb]; rw [Bool.eq_iff_iff]; simp)
            have HK2 := Lib.hid hk2
            have hkd : decide ((k : Int) < 2) = true := decide_eq_true (by omega)
            clear hk2
            obtain ⟨wo, rfl⟩ : ∃ wo : World, wo = wr := ⟨_, rfl⟩
            go_wp2
            go_loopw [5, 11] (fun m i wq => ∃ (j m' cap' : Nat) (A' : Option Addr), j ≤ n ∧ i = .int .i64 j ∧ m = .slice A' m' cap' ∧ m' ≤ cap' ∧ cap' ≤ 9223372036854775807 ∧ Rd wq EM A' m' (Rst t l k j) ∧ Below w.heap.size w wq) (fun _ i _ => n - (intOf i).toNat)
            case atStart => exact ⟨0, m', cap', A', by omega, rfl, rfl, hmc, hc', hM, hbr⟩
            case round =>
              clear hmc hc' hM hbr
              obtain ⟨j, m2, cap2, A2, hj, rfl, rfl, hmc, hc', hM, hbr⟩ := hrel
              by_cases hlt : j < n
              · obtain ⟨b, off, f, rfl, hlf, q0, q1, q2, q3, q4, q5, q6, q7, q8⟩ := frame_at (hr.later hbr) hlt
                obtain ⟨V, hV, hBV, hzV, hkV⟩ := boxed wr #[.int .i64 f.kind, .int .i64 f.src, .int .i64 f.to, .int .i64 f.source, .int .i64 f.target, .int .i64 f.seq, .int .i64 f.hops, .bool f.urgent, .string f.data] 24
                have p0 := hkV.at 0 (v := .int .i64 f.kind) rfl
                have p1 := hkV.at 1 (v := .int .i64 f.src) rfl
                have p2 := hkV.at 2 (v := .int .i64 f.to) rfl
                have p3 := hkV.at 3 (v := .int .i64 f.source) rfl
                have p4 := hkV.at 4 (v := .int .i64 f.target) rfl
                have p5 := hkV.at 5 (v := .int .i64 f.seq) rfl
                have p6 := hkV.at 6 (v := .int .i64 f.hops) rfl
                have p7 := hkV.at 7 (v := .bool f.urgent) rfl
                have p8 := hkV.at 8 (v := .string f.data) rfl
                have z2 := hkV.frozen 2
                have hBS := hBV.setCell (p := ⟨wr.heap.size, 2, none⟩) (Nat.le_refl _) (.int .i64 t)
                have hBw := hbr.trans (hBS.mono hbr.size)
                have hkS : Blk (V.setCell ⟨wr.heap.size, 2, none⟩ (.int .i64 t)) wr.heap.size 24 (encF (rt t f)).toArray := hkV.set_ 2 _
                have hMS := hM.later hBS
                by_cases hu : f.urgent = kb
                · have HT := Lib.hid (Rst_take hlf (by rw [hu, HK.out]) HK2.out (by rw [HL.out]; omega) (t := t))
                  have T : Hid (Calls Try.prog 14 #[.slice A2 m2 cap2, .int .i64 t, .int .i64 3, .int .i64 0] (V.setCell ⟨wr.heap.size, 2, none⟩ (.int .i64 t)) (TkEnd (V.setCell ⟨wr.heap.size, 2, none⟩ (.int .i64 t)) (some (rt t f), Rst t l k (j + 1)))) := Lib.hid (by
                    have := take14 A2 m2 cap2 _ t 3 0 (V.setCell ⟨wr.heap.size, 2, none⟩ (.int .i64 t)) hmc hc' hMS
                    rwa [HT.out] at this)
                  have he := fun w => neq24_same (a := rt t f) rfl w
                  have hub : (f.urgent == kb) = true := by rw [hu]; cases kb <;> rfl
                  clear hlf HT hM hBV hMS hkV hmc hc' hzV hu
                  go_wp2_with fail
                  refine T.out.mono ?_
                  rintro e w1 ⟨A1, n1, c1, he1, ho1, hb1⟩
                  obtain rfl : e = .returned (.tuple #[.agg #[.int .i64 f.kind, .int .i64 f.src, .int .i64 t, .int .i64 f.source, .int .i64 f.target, .int .i64 f.seq, .int .i64 f.hops, .bool f.urgent, .string f.data], .slice A1 n1 c1, .bool true]) := he1
                  have hkS1 := hkS.later hb1
                  obtain ⟨U, hU, hBU, hzU, hkU⟩ := boxed w1 #[.int .i64 f.kind, .int .i64 f.src, .int .i64 t, .int .i64 f.source, .int .i64 f.target, .int .i64 f.seq, .int .i64 f.hops, .bool f.urgent, .string f.data] 24
                  have hkSU := hkS1.later hBU
                  have u0 := hkU.at 0 (v := .int .i64 f.kind) rfl
                  have u1 := hkU.at 1 (v := .int .i64 f.src) rfl
                  have u2 := hkU.at 2 (v := .int .i64 t) rfl
                  have u3 := hkU.at 3 (v := .int .i64 f.source) rfl
                  have u4 := hkU.at 4 (v := .int .i64 f.target) rfl
                  have u5 := hkU.at 5 (v := .int .i64 f.seq) rfl
                  have u6 := hkU.at 6 (v := .int .i64 f.hops) rfl
                  have u7 := hkU.at 7 (v := .bool f.urgent) rfl
                  have u8 := hkU.at 8 (v := .string f.data) rfl
                  have v0 := hkSU.at 0 (v := .int .i64 f.kind) rfl
                  have v1 := hkSU.at 1 (v := .int .i64 f.src) rfl
                  have v2 := hkSU.at 2 (v := .int .i64 t) rfl
                  have v3 := hkSU.at 3 (v := .int .i64 f.source) rfl
                  have v4 := hkSU.at 4 (v := .int .i64 f.target) rfl
                  have v5 := hkSU.at 5 (v := .int .i64 f.seq) rfl
                  have v6 := hkSU.at 6 (v := .int .i64 f.hops) rfl
                  have v7 := hkSU.at 7 (v := .bool f.urgent) rfl
                  have v8 := hkSU.at 8 (v := .string f.data) rfl
                  have hr1 := ho1.rd.later hBU
                  have hc1 := ho1.cap
                  have hB1 := (hBw.trans (hb1.mono hBw.size))
                  have hB2 := hB1.trans (hBU.mono hB1.size)
                  clear T ho1 hb1 hBw hbr hBS q0 q1 q2 q3 q4 q5 q6 q7 q8 p0 p1 p2 p3 p4 p5 p6 p7 p8 z2 hV hkS hkS1 hkSU hkU hBU hB1 hzU
                  go_wp2
                  go_roundw
                  case rel => exact ⟨j + 1, n1, c1, A1, by omega, by go_num, rfl, hc1.1, hc1.2, hr1, hB2⟩
                  case measure => simp [intOf]; omega
                · have HT := Lib.hid (Rst_skip hlf (by rw [HK.out]; exact hu) HK2.out (t := t))
                  have hub : (f.urgent == kb) = false := by revert hu; cases f.urgent <;> cases kb <;> simp
                  rw [← HT.out] at hMS
                  clear hlf HT hM hBV hkV hzV hu hkS hbr hBS
                  go_wp2
                  go_roundw
                  case rel => exact ⟨j + 1, m2, cap2, A2, by omega, by go_num, rfl, hmc, hc', hMS, hBw⟩
                  case measure => simp [intOf]; omega
              · obtain rfl : n = j := by omega
                rw [Rst_next t l k n HL.out HK2.out] at hM
                have hk2 := HK2.out
                clear hlt hj
                go_wp2
                go_roundw
                case rel => exact ⟨k + 1, m2, cap2, A2, by omega, by go_num, rfl, hmc, hc', hM, hbr⟩
                case measure => simp [intOf]; omega
          · obtain rfl : m' = 0 := by
              obtain rfl : k = 2 := by omega
              exact hM.1.symm
            clear hM
            go_wp2_with fail
            refine (LV.out _).mono ?_
            rintro e w3 ⟨rfl, hb3⟩
            have hB3 := hbr.trans (hb3.mono hbr.size)
            go_wp2
            go_ret
            exact ⟨rfl, hB3⟩
end Go.Proofs.Ytfbdiafgfimgaaa
