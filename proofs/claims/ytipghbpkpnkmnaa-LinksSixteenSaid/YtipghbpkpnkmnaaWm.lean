/- The walk of LinksSixteen. -/
import Derived.Test.YtipghbpkpnkmnaaWl
import Derived.Test.YtipghbpkpnkmnaaSx
namespace Go.Proofs.Ytipghbpkpnkmnaa
open Go.RowKit Go.BigFrame
set_option linter.unusedVariables false

theorem qual_ok {w : World} {A : Option Addr} {n cap : Nat} {l : List Link} (h : Hs w A n cap l) (hg : Good l) (v : Int) : Calls Try.prog 19 #[.slice A n cap, .int .i64 v] w fun e w' => e = .returned (.int .i64 (qualT l v)) ∧ Below w.heap.size w w' := by
  have := qual19 A n cap l v w h.le h.rd
  rwa [tab_of_good hg] at this

set_option maxRecDepth 20000 in
set_option maxHeartbeats 4000000 in
theorem lawSixteen7 (A : Option Addr) (n cap : Nat) (l : List Link) (v : Int) (w : World) (hn : n ≤ cap) (hcap : cap ≤ 9223372036854775807) (hr : Rd w EL A n l) :
    Calls Try.prog 7 #[.slice A n cap, .int .i64 v] w fun e w' => e = .returned (.bool true) ∧ Below w.heap.size w w' := by
  have LV : Hid (∀ w, Calls Try.prog 9 #[] w fun e w' => e = .returned (.bool true) ∧ Below w.heap.size w w') := Lib.hid lives9
  have CK := Lib.hid (check15 A n cap l w (by omega) hr)
  have hH : Hs w A n cap l := ⟨hr, by omega⟩
  by_cases hc : chk l = 0
  · have hg := chk_good.1 hc
    rw [hc] at CK
    by_cases hbad : 23 < n ∨ v < 0 ∨ 250 < v
    · have hcs : 23 < n ∨ (¬ 23 < n ∧ v < 0) ∨ (¬ 23 < n ∧ ¬ v < 0 ∧ 250 < v) := by omega
      clear hbad hc hg hH hr
      rcases hcs with h | ⟨h, h'⟩ | ⟨h, h', h''⟩
      all_goals
        go_enter Try.func7, Try.ntmps7
        go_wp2_with fail
        refine CK.out.mono ?_
        rintro e w1 ⟨rfl, hb1⟩
        go_wp2_with fail
        refine (LV.out _).mono ?_
        rintro e w2 ⟨rfl, hb2⟩
        have hB2 := hb1.trans (hb2.mono hb1.size)
        go_wp2
        go_ret
        exact ⟨rfl, hB2⟩
    · have h23 : ¬ 23 < n := by omega
      have hv0 : ¬ v < 0 := by omega
      have hv1 : ¬ 250 < v := by omega
      have SL := Lib.hid (six_law hg (by rw [hr.1]; omega) (v := v) (by omega) (by omega))
      have HG := Lib.hid (fun ok j => it_good hg v ok j)
      clear hbad hc hg hr
      go_enter Try.func7, Try.ntmps7
      go_wp2_with fail
      refine CK.out.mono ?_
      rintro e w1 ⟨rfl, hb1⟩
      have hH1 := hH.later hb1
      clear hH CK
      go_wp2
      go_loopw [5, 6, 7] (fun g b i wr => ∃ (j ng cg nb cb : Nat) (Ag Ab : Option Addr), j ≤ 16 ∧ i = .int .i64 j ∧ g = .slice Ag ng cg ∧ b = .slice Ab nb cb ∧ Hs wr Ag ng cg (it l v true j) ∧ Hs wr Ab nb cb (it l v false j) ∧ Below w.heap.size w wr) (fun _ _ i _ => 16 - (intOf i).toNat)
      case atStart => exact ⟨0, n, cap, n, cap, A, A, by omega, rfl, rfl, rfl, hH1, hH1, hb1⟩
      case round =>
        clear hH1 hb1
        obtain ⟨j, ng, cg, nb, cb, Ag, Ab, hj, rfl, rfl, rfl, hHg, hHb, hbr⟩ := hrel
        by_cases hlt : j < 16
        · have S1 := Lib.hid (seen_ok hHg (HG.out true j) v true)
          have S2 := Lib.hid (fun (w : World) h => seen_ok (w := w) (A := Ab) (n := nb) (cap := cb) h (HG.out false j) v false)
          clear hHg
          go_wp2_with fail
          refine S1.out.mono ?_
          rintro e w2 ⟨A2, n2, c2, rfl, ho2, hb2⟩
          have hB2 := hbr.trans (hb2.mono hbr.size)
          have hHb2 := hHb.later hb2
          have hHg2 : Hs w2 A2 n2 c2 (it l v true (j + 1)) := Hs.of ho2
          clear hbr ho2 hHb hb2 S1
          go_wp2_with fail
          refine (S2.out _ hHb2).mono ?_
          rintro e w3 ⟨A3, n3, c3, rfl, ho3, hb3⟩
          have hB3 := hB2.trans (hb3.mono hB2.size)
          have hHg3 := hHg2.later hb3
          have hHb3 : Hs w3 A3 n3 c3 (it l v false (j + 1)) := Hs.of ho3
          clear hB2 ho3 hHb2 hHg2 hb3 S2
          go_wp2
          go_roundw
          case rel => exact ⟨j + 1, n2, c2, n3, c3, A2, A3, by omega, by go_num, rfl, rfl, hHg3, hHb3, hB3⟩
          case measure => simp [intOf]; omega
        · obtain rfl : j = 16 := by omega
          obtain ⟨l1, l2, l3, l4⟩ := SL.out
          have Q1 : Hid (Calls Try.prog 19 #[.slice Ag ng cg, .int .i64 v] wr fun e w' => e = .returned (.int .i64 100) ∧ Below wr.heap.size wr w') := Lib.hid (by have := qual_ok hHg (HG.out true 16) v; rwa [l1] at this)
          have C1 : Hid (∀ w', Hs w' Ag ng cg (it l v true 16) → Calls Try.prog 16 #[.slice Ag ng cg, .int .i64 v] w' fun e w'' => e = .returned (.int .i64 10) ∧ Below w'.heap.size w' w'') := Lib.hid (fun w' h => by have := cost_ok h (HG.out true 16) v; rwa [l2] at this)
          have Q2 : Hid (∀ w', Hs w' Ab nb cb (it l v false 16) → Calls Try.prog 19 #[.slice Ab nb cb, .int .i64 v] w' fun e w'' => e = .returned (.int .i64 0) ∧ Below w'.heap.size w' w'') := Lib.hid (fun w' h => by have := qual_ok h (HG.out false 16) v; rwa [l3] at this)
          have C2 : Hid (∀ w', Hs w' Ab nb cb (it l v false 16) → Calls Try.prog 16 #[.slice Ab nb cb, .int .i64 v] w' fun e w'' => e = .returned (.int .i64 255) ∧ Below w'.heap.size w' w'') := Lib.hid (fun w' h => by have := cost_ok h (HG.out false 16) v; rwa [l4] at this)
          clear SL HG l1 l2 l3 l4
          go_wp2_with fail
          refine Q1.out.mono ?_
          rintro e w2 ⟨rfl, hb2⟩
          have hB2 := hbr.trans (hb2.mono hbr.size)
          have hg2 := hHg.later hb2
          have hb2' := hHb.later hb2
          clear Q1 hbr hb2 hHg hHb
          go_wp2_with fail
          refine (C1.out _ hg2).mono ?_
          rintro e w3 ⟨rfl, hb3⟩
          have hB3 := hB2.trans (hb3.mono hB2.size)
          have hb3' := hb2'.later hb3
          clear C1 hB2 hb3 hg2 hb2'
          go_wp2_with fail
          refine (Q2.out _ hb3').mono ?_
          rintro e w4 ⟨rfl, hb4⟩
          have hB4 := hB3.trans (hb4.mono hB3.size)
          have hb4' := hb3'.later hb4
          clear Q2 hB3 hb4 hb3'
          go_wp2_with fail
          refine (C2.out _ hb4').mono ?_
          rintro e w5 ⟨rfl, hb5⟩
          have hB5 := hB4.trans (hb5.mono hB4.size)
          clear C2 hB4 hb5 hb4'
          go_wp2_with fail
          refine (LV.out _).mono ?_
          rintro e w6 ⟨rfl, hb6⟩
          have hB6 := hB5.trans (hb6.mono hB5.size)
          go_wp2
          go_ret
          exact ⟨rfl, hB6⟩
  · have hcb : (chk l == 0) = false := by simpa using hc
    have hcb' : (chk l != 0) = true := by rw [bne_iff_ne]; exact hc
    generalize chk l = ck at *
    clear hc hH hr
    go_enter Try.func7, Try.ntmps7
    go_wp2_with fail
    refine CK.out.mono ?_
    rintro e w1 ⟨rfl, hb1⟩
    go_wp2_with fail
    refine (LV.out _).mono ?_
    rintro e w2 ⟨rfl, hb2⟩
    have hB2 := hb1.trans (hb2.mono hb1.size)
    go_wp2
    go_ret
    exact ⟨rfl, hB2⟩
end Go.Proofs.Ytipghbpkpnkmnaa
