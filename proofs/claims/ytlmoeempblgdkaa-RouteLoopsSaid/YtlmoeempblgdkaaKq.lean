/- kept. -/
import Derived.Test.YtlmoeempblgdkaaKp
import Derived.Deep.DeepCutAuto
namespace Go.Proofs.Ytlmoeempblgdkaa
open Go.RowKit Go.BigFrame
set_option linter.unusedVariables false
set_option linter.unusedSimpArgs false

theorem eql40 (a b : Rt) (w : World) : (binOp .eql 40 (rtV a) (rtV b)).run Try.prog w = .ok (.bool (decide (a = b))) w := by
  by_cases h : a = b
  · subst h
    rw [decide_eq_true rfl]
    exact eql40_same a w
  · rw [run_eql_struct, run_equalIn_struct w 9999 40 _ _ (by kernel_rfl) (by kernel_rfl)]
    rw [decide_eq_false h]
    by_cases h0 : a.d = b.d <;> by_cases h1 : a.s = b.s <;> by_cases h2 : a.c = b.c <;> by_cases h3 : a.n = b.n
    · exact absurd (rt_ext h0 h1 h2 h3) h
    all_goals simp [go_sem, h0, h1, h2, h3]
theorem ge_eq (q r : Rt) : geB q r = (decide (q = r) || (decide (q.d = r.d) && (decide (r.s < q.s) || (decide (q.s = r.s) && decide (q.c < r.c))))) := rfl
set_option maxRecDepth 20000 in
set_option maxHeartbeats 8000000 in
theorem kept28 (A : Option Addr) (n cap : Nat) (t : List Rt) (B : Option Addr) (m c2 : Nat) (u : List Rt) (w : World) (hn : n ≤ 1000) (hm : m ≤ 1000) (hr : Rd w ER A n t) (hs : Rd w ER B m u) (hkept : Kept t u) :
    Calls Try.prog 28 #[.slice A n cap, .slice B m c2] w fun e w' => e = .returned (.bool true) ∧ Below w.heap.size w w' := by
  have hum := hs.1
  go_enter Try.func28, Try.ntmps28
  go_wp2
  go_loopw [5] (fun i wr => ∃ j : Nat, j ≤ n ∧ i = .int .i64 j ∧ Below w.heap.size w wr) (fun i _ => n - (intOf i).toNat)
  case atStart => exact ⟨0, Nat.zero_le _, rfl, Below.refl _ _⟩
  case round =>
    obtain ⟨j, hj, rfl, hbr⟩ := hrel
    by_cases hlt : j < n
    · obtain ⟨b, off, r, rfl, hla, e0, e1, e2, e3⟩ := rt_at (hr.later hbr) hlt
      have HK := Lib.hid (hkept r (List.mem_of_getElem? hla))
      have hs2 := hs.later hbr
      obtain ⟨wo, rfl⟩ : ∃ wo : World, wo = wr := ⟨_, rfl⟩
      have HB := Lib.hid hbr
      clear hla hr hs hbr hkept
      go_wp2
      go_loopw [6, 7] (fun f i wr => ∃ (k : Nat) (z : Bool), k ≤ m ∧ i = .int .i64 k ∧ f = .bool z ∧ (z = true ∨ ∃ q ∈ u.drop k, geB q r = true) ∧ Below wo.heap.size wo wr) (fun _ i _ => m - (intOf i).toNat)
      case atStart => exact ⟨0, false, Nat.zero_le _, rfl, rfl, .inr (by rw [List.drop_zero]; exact HK.out), Below.refl _ _⟩
      case round =>
        obtain ⟨k, z, hk, rfl, rfl, hz, hbr⟩ := hrel
        by_cases hkm : k < m
        · obtain ⟨b', off', q, rfl, hlq, f0, f1, f2, f3⟩ := rt_at (hs2.later hbr) hkm
          have HZ := Lib.hid hz
          have HD := Lib.hid (drop_cons hlq)
          have x0 := keep hbr e0
          have x1 := keep hbr e1
          have x2 := keep hbr e2
          have x3 := keep hbr e3
          have HBR := Lib.hid hbr
          have hx0 : (0 : Int) ≤ (j : Int) := by omega
          have hx1 : (j : Int) < (n : Int) := by omega
          clear hz hlq hs2 hbr e0 e1 e2 e3
          go_upto_region 9 with fail
          obtain ⟨V, hV, hBV, hzV, hkV⟩ := boxeds wr (rtC q) 40
          rw [hV]
          have A0 := After.cell (keep hBV x0)
          have A1 := After.cell (keep hBV x1)
          have A2 := After.cell (keep hBV x2)
          have A3 := After.cell (keep hBV x3)
          have B0 := After.cell (hkV.at 0 (v := .int .i64 q.d) rfl)
          have B1 := After.cell (hkV.at 1 (v := .int .i64 q.s) rfl)
          have B2 := After.cell (hkV.at 2 (v := .int .i64 q.c) rfl)
          have B3 := After.cell (hkV.at 3 (v := .int .i64 q.n) rfl)
          have HBV := Lib.hid (HBR.out.trans (hBV.mono HBR.out.size))
          clear x0 x1 x2 x3 f0 f1 f2 f3 hV hBV hzV hkV
          go_cut [70] (fun y w' => y = .bool (geB q r) ∧ Below V.heap.size V w')
          case first =>
            have HG := Lib.hid (ge_eq q r)
            have he := fun w => eql40 q r w
            cases h1 : decide (q = r)
            · have d1 : decide (q = r) = false := h1
              rw [d1] at he
              cases h2 : decide (q.d = r.d)
              · have c2 : (q.d == r.d) = false := by rw [beq_eq_false_iff_ne]; exact of_decide_eq_false h2
                have HE := Lib.hid (show geB q r = false by rw [HG.out, h1, h2]; rfl)
                clear h1 h2 d1 HG
                refine wp_region_after (by kernel_rfl) (by kernel_rfl) ?_
                repeat (go_big_quiet_step (fail))
                refine wpQuiet_nil ?_
                intro w6 hb6
                clear A0 A1 A2 A3 B0 B1 B2 B3
                go_wp2
                go_meet
                exact ⟨by rw [HE.out], hb6⟩
              · have c2 : (q.d == r.d) = true := by rw [beq_iff_eq]; exact of_decide_eq_true h2
                cases h3 : decide (r.s < q.s)
                · cases h4 : decide (q.s = r.s)
                  · have c4 : (q.s == r.s) = false := by rw [beq_eq_false_iff_ne]; exact of_decide_eq_false h4
                    have HE := Lib.hid (show geB q r = false by rw [HG.out, h1, h2, h3, h4]; rfl)
                    clear h1 h2 h4 d1 HG
                    refine wp_region_after (by kernel_rfl) (by kernel_rfl) ?_
                    repeat (go_big_quiet_step (fail))
                    refine wpQuiet_nil ?_
                    intro w6 hb6
                    clear A0 A1 A2 A3 B0 B1 B2 B3
                    go_wp2
                    go_meet
                    exact ⟨by rw [HE.out], hb6⟩
                  · have c4 : (q.s == r.s) = true := by rw [beq_iff_eq]; exact of_decide_eq_true h4
                    have HE := Lib.hid (show geB q r = decide (q.c < r.c) by rw [HG.out, h1, h2, h3, h4]; rfl)
                    clear h1 h2 h4 d1 HG
                    refine wp_region_after (by kernel_rfl) (by kernel_rfl) ?_
                    repeat (go_big_quiet_step (fail))
                    refine wpQuiet_nil ?_
                    intro w6 hb6
                    clear A0 A1 A2 A3 B0 B1 B2 B3
                    go_wp2
                    go_meet
                    exact ⟨by rw [HE.out], hb6⟩
                · have HE := Lib.hid (show geB q r = true by rw [HG.out, h1, h2, h3]; rfl)
                  clear h1 h2 d1 HG
                  refine wp_region_after (by kernel_rfl) (by kernel_rfl) ?_
                  repeat (go_big_quiet_step (fail))
                  refine wpQuiet_nil ?_
                  intro w6 hb6
                  clear A0 A1 A2 A3 B0 B1 B2 B3
                  go_wp2
                  go_meet
                  exact ⟨by rw [HE.out], hb6⟩
            · rw [h1] at he
              have HE := Lib.hid (show geB q r = true by rw [HG.out, h1]; rfl)
              clear h1 HG
              refine wp_region_after (by kernel_rfl) (by kernel_rfl) ?_
              repeat (go_big_quiet_step (fail))
              refine wpQuiet_nil ?_
              intro w6 hb6
              clear A0 A1 A2 A3 B0 B1 B2 B3
              go_wp2
              go_meet
              exact ⟨by rw [HE.out], hb6⟩
          case rest =>
            clear A0 A1 A2 A3 B0 B1 B2 B3
            obtain ⟨rfl, hb⟩ := hcut
            obtain ⟨w2, rfl⟩ : ∃ x : World, x = wc := ⟨_, rfl⟩
            have b2 := HBV.out.trans (hb.mono HBV.out.size)
            clear hb
            cases hge : geB q r
            · have HN := Lib.hid (show z = true ∨ ∃ p ∈ u.drop (k + 1), geB p r = true by
                rcases HZ.out with h | ⟨p, hp, h⟩
                · exact .inl h
                · rw [HD.out] at hp
                  rcases List.mem_cons.1 hp with rfl | hp
                  · rw [hge] at h; cases h
                  · exact .inr ⟨p, hp, h⟩)
              clear hge
              go_wp2
              go_roundw
              case rel => exact ⟨k + 1, z, by omega, by go_num, rfl, HN.out, b2⟩
              case measure => simp [intOf]; omega
            · clear hge
              go_wp2
              go_roundw
              case rel => exact ⟨k + 1, true, by omega, by go_num, rfl, .inl rfl, b2⟩
              case measure => simp [intOf]; omega
        · obtain rfl : z = true := by
            rcases hz with h | ⟨p, hp, _⟩
            · exact h
            · rw [List.drop_eq_nil_of_le (by omega)] at hp; cases hp
          have b2 := HB.out.trans (hbr.mono HB.out.size)
          clear hz hbr hs2 e0 e1 e2 e3
          go_wp2
          go_roundw
          case rel => exact ⟨j + 1, by omega, by go_num, b2⟩
          case measure => simp [intOf]; omega
    · go_wp2
      go_ret
      exact ⟨rfl, hbr⟩
end Go.Proofs.Ytlmoeempblgdkaa
