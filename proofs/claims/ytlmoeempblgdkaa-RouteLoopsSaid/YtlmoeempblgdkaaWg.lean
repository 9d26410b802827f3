/- Update of the program. -/
import Derived.Test.YtlmoeempblgdkaaPm
namespace Go.Proofs.Ytlmoeempblgdkaa
open Go.RowKit Go.BigFrame
set_option linter.unusedVariables false
set_option linter.unusedSimpArgs false

theorem upd_no {t : List Rt} {self fr cost : Int} {l : List Rt} (h : ¬ updOk self fr cost) : upd t self fr cost l = tab t self := by unfold upd; rw [if_neg h]
theorem upd_yes {t : List Rt} {self fr cost : Int} {l : List Rt} (h : updOk self fr cost) : upd t self fr cost l = l.foldl (step (lim self) fr cost) (tab t self) := by unfold upd; rw [if_pos h]
set_option maxRecDepth 40000 in
set_option maxHeartbeats 16000000 in
theorem upd12 (A : Option Addr) (n cap : Nat) (t : List Rt) (self fr cost : Int) (B : Option Addr) (m c2 : Nat) (l : List Rt) (w : World) (hn : n ≤ 100) (hr : Rd w ER A n t) (hm : m ≤ 100) (hl : Rd w ER B m l) :
    Calls Try.prog 12 #[.slice A n cap, .int .i64 self, .int .i64 fr, .int .i64 cost, .slice B m c2] w (SlEnd w (upd t self fr cost l)) := by
  have S := Lib.hid (sane31 A n cap t self w hn hr)
  have ND := Lib.hid (fun w' => node32 fr w')
  have HTB := Lib.hid (tb_tab t self)
  have hll : l.length = m := hl.1
  clear hr hn
  go_enter Try.func12, Try.ntmps12
  go_wp2_with fail
  refine (limit30 self w).mono ?_
  rintro e w' ⟨rfl, rfl⟩
  go_wp2_with fail
  refine S.out.mono ?_
  rintro e w1 ⟨A1, n1, p1, rfl, ho, hb1⟩
  have HLM := Lib.hid (lim_in self)
  cases hnf : nodeB fr
  · have HU := Lib.hid (upd_no (t := t) (cost := cost) (self := self) (l := l) (fun h => by have := h.1; rw [hnf] at this; cases this))
    rw [hnf] at ND
    clear hnf
    go_wp2_with fail
    refine (ND.out w1).mono ?_
    rintro e w' ⟨rfl, rfl⟩
    go_wp2
    go_ret
    exact ⟨A1, n1, p1, rfl, by rw [HU.out]; exact ho, hb1⟩
  · rw [hnf] at ND
    by_cases hok : updOk self fr cost
    · have HU := Lib.hid (upd_yes (t := t) (l := l) hok)
      obtain ⟨_, k2, k3, k4⟩ := hok
      have e1 : (fr == lim self) = false := by rw [beq_eq_false_iff_ne]; exact k2
      clear hnf k2
      go_wp2_with fail
      refine (ND.out w1).mono ?_
      rintro e w' ⟨rfl, rfl⟩
      go_wp2
      all_goals first | (exfalso; omega) | skip
      go_loopw [0, 38] (fun s i wr => ∃ (j nn cc : Nat) (AA : Option Addr), j ≤ m ∧ i = .int .i64 j ∧ s = .slice AA nn cc ∧ Ow wr w.heap.size 40 ER (.slice AA nn cc) nn ((l.take j).foldl (step (lim self) fr cost) (tab t self)) ∧ Below w.heap.size w wr) (fun _ i _ => m - (intOf i).toNat)
      case atStart => exact ⟨0, n1, p1, A1, Nat.zero_le _, rfl, rfl, ho, hb1⟩
      case round =>
        clear ho hb1
        obtain ⟨j, nn, cc, AA, hj, rfl, rfl, ho, hbr⟩ := hrel
        by_cases hlt : j < m
        · obtain ⟨b, off, a, hA, hla, e0, e1', e2, e3⟩ := rt_at (hl.later hbr) hlt
          rw [hA]
          have HST := Lib.hid (foldl_snoc (step (lim self) fr cost) (tab t self) hla)
          have HTT := Lib.hid (tb_fold (self := lim self) (fr := fr) (cost := cost) (l.take j) HTB.out)
          have hnn : nn ≤ 24 := by rw [← ho.1]; exact HTT.out.le
          generalize (l.take j).foldl (step (lim self) fr cost) (tab t self) = tt at *
          clear hla
          go_upto_region 8 with fail
          obtain ⟨V, hV, hBV, hzV, hkV⟩ := boxeds wr (rtC a) 40
          rw [hV]
          have a0 := hkV.at 0 (v := .int .i64 a.d) rfl
          have a1 := hkV.at 1 (v := .int .i64 a.s) rfl
          have a2 := hkV.at 2 (v := .int .i64 a.c) rfl
          have a3 := hkV.at 3 (v := .int .i64 a.n) rfl
          have U := Lib.hid (usable33 a V)
          have hbV := hbr.trans (hBV.mono hbr.size)
          have oV := ho.later hBV
          clear e0 e1' e2 e3 hBV hzV hkV ho hbr
          cases hu : usB a
          · have HS := Lib.hid (HST.out.trans (show step (lim self) fr cost tt a = tt by unfold step; rw [if_neg (fun h => by rw [hu] at h; cases h.1)]))
            rw [hu] at U
            clear hu
            go_wp2_with fail
            refine U.out.mono ?_
            rintro e w3 ⟨rfl, hb3⟩
            have o3 := oV.later hb3
            have hb4 := hbV.trans (hb3.mono hbV.size)
            clear hb3 oV hbV a0 a1 a2 a3
            go_wp2
            go_roundw
            case rel => exact ⟨j + 1, nn, cc, AA, by omega, by go_num, rfl, by rw [HS.out]; exact o3, hb4⟩
            case measure => simp [intOf]; omega
          · rw [hu] at U
            by_cases hds : a.d = lim self
            · have HS := Lib.hid (HST.out.trans (show step (lim self) fr cost tt a = tt by unfold step; rw [if_neg (fun h => h.2 hds)]))
              have e2 : (a.d == lim self) = true := by simp [hds]
              clear hu hds
              go_wp2_with fail
              refine U.out.mono ?_
              rintro e w3 ⟨rfl, hb3⟩
              have o3 := oV.later hb3
              have b0 := keep hb3 a0
              have hb4 := hbV.trans (hb3.mono hbV.size)
              clear hb3 oV hbV a0 a1 a2 a3
              go_wp2
              all_goals first | (exfalso; simp_all; done) | skip
              go_roundw
              case rel => exact ⟨j + 1, nn, cc, AA, by omega, by go_num, rfl, by rw [HS.out]; exact o3, hb4⟩
              case measure => simp [intOf]; omega
            · have HS0 := Lib.hid (HST.out.trans (show step (lim self) fr cost tt a = lrn tt fr (adv fr cost a) by unfold step; rw [if_pos ⟨hu, hds⟩]))
              have e2 : (a.d == lim self) = false := by rw [beq_eq_false_iff_ne]; exact hds
              have hus := us_node hu
              have HUS := Lib.hid hus
              clear hu hds hus
              go_wp2_with fail
              refine U.out.mono ?_
              rintro e w3 ⟨rfl, hb3⟩
              have o3 := oV.later hb3
              have b0 := keep hb3 a0
              have b1 := keep hb3 a1
              have b2 := keep hb3 a2
              have b3 := keep hb3 a3
              have hb4 := hbV.trans (hb3.mono hbV.size)
              clear hb3 oV hbV a0 a1 a2 a3
              go_upto_region 10 with fail
              all_goals first | (exfalso; simp_all; done) | skip
              obtain ⟨V2, hV2, hBV2, hzV2, hkV2⟩ := boxeds w3 #[.int .i64 a.d, .int .i64 a.s, .int .i64 255, .int .i64 255] 40
              rw [hV2]
              have a0 := keep hBV2 b0
              have a1 := keep hBV2 b1
              have a2 := keep hBV2 b2
              have a3 := keep hBV2 b3
              have oV := o3.later hBV2
              have hbV := hb4.trans (hBV2.mono hb4.size)
              have hg3 : w.heap.size ≤ w3.heap.size := hb4.size
              have hne : ∀ k, (Value.slice AA nn cc).ownBlock = some k → k ≠ w3.heap.size := fun k hk => by have := (o3.lt k hk).2; omega
              have HNE := Lib.hid hne
              have F := Lib.hid (fun w' => finite34 a w')
              clear b0 b1 b2 b3 hb4 o3 hBV2 hzV2 e2 hne
              cases hf : finB a
              · rw [hf] at F
                have HS := Lib.hid (HS0.out.trans (show lrn tt fr (adv fr cost a) = lrn tt fr ⟨a.d, a.s, 255, 255⟩ by unfold adv; rw [if_neg (fun h => by rw [hf] at h; cases h.1)]))
                clear hf
                go_wp2_with fail
                refine (F.out V2).mono ?_
                rintro e w4 ⟨rfl, hb5⟩
                have d0 := keep hb5 a0
                have d1 := keep hb5 a1
                have d2 := keep hb5 a2
                have kz := hkV2.later hb5
                have y0 := kz.at 0 (v := .int .i64 a.d) rfl
                have y1 := kz.at 1 (v := .int .i64 a.s) rfl
                have y2 := kz.at 2 (v := .int .i64 255) rfl
                have y3 := kz.at 3 (v := .int .i64 255) rfl
                have hb6 := hbV.trans (hb5.mono hbV.size)
                have LR := Lib.hid (learn35 AA nn cc w.heap.size tt fr ⟨a.d, a.s, 255, 255⟩ w4 (by omega) (oV.later hb5) hb6.size HTT.out.asc HTT.out.din HUS.out.1 HUS.out.2.1)
                clear a0 a1 a2 a3 hb5 hkV2 kz oV hbV
                go_wp2_with fail
                refine LR.out.mono ?_
                rintro e w5 ⟨A5, n5, p5, rfl, o5, hb8⟩
                have hb9 := hb6.trans hb8
                clear hb6 hb8 y0 y1 y2 y3 d0 d1 d2
                go_wp2
                go_roundw
                case rel => exact ⟨j + 1, n5, p5, A5, by omega, by go_num, rfl, by rw [HS.out]; exact o5, hb9⟩
                case measure => simp [intOf]; omega
              · rw [hf] at F
                have hc : 0 ≤ a.c ∧ a.c ≤ 200 := by unfold finB at hf; simp at hf; omega
                obtain ⟨hc1, hc2⟩ := hc
                by_cases hsum : a.c + cost ≤ 200
                · have HS := Lib.hid (HS0.out.trans (show lrn tt fr (adv fr cost a) = lrn tt fr ⟨a.d, a.s, a.c + cost, fr⟩ by unfold adv; rw [if_pos ⟨hf, hsum⟩]))
                  clear hf
                  go_wp2_with fail
                  refine (F.out V2).mono ?_
                  rintro e w4 ⟨rfl, hb5⟩
                  have d2 := keep hb5 a2
                  obtain ⟨T1, hT1, kT1, gT1, sT1⟩ := stored (hkV2.later hb5) 2 (.int .i64 (a.c + cost)) (cs' := #[.int .i64 a.d, .int .i64 a.s, .int .i64 (a.c + cost), .int .i64 255]) (by simp)
                  obtain ⟨T2, hT2, kT2, gT2, sT2⟩ := stored kT1 3 (.int .i64 fr) (cs' := #[.int .i64 a.d, .int .i64 a.s, .int .i64 (a.c + cost), .int .i64 fr]) (by simp)
                  have x2 := (hkV2.later hb5).at 2 (v := .int .i64 255) rfl
                  have z2 := (hkV2.later hb5).frozen 2
                  have x3 := kT1.at 3 (v := .int .i64 255) rfl
                  have z3 := kT1.frozen 3
                  have y0 := kT2.at 0 (v := .int .i64 a.d) rfl
                  have y1 := kT2.at 1 (v := .int .i64 a.s) rfl
                  have y2 := kT2.at 2 (v := .int .i64 (a.c + cost)) rfl
                  have y3 := kT2.at 3 (v := .int .i64 fr) rfl
                  have hb6 := hbV.trans (hb5.mono hbV.size)
                  have hs4 := hb5.size
                  have hb7 := Below.grow (Below.grow hb6 gT1 hb6.size hg3) gT2 (by have := hb6.size; omega) hg3
                  have oT : Ow T2 w.heap.size 40 ER (.slice AA nn cc) nn tt := by
                    have h1 := oV.later hb5
                    have h2 : Ow T1 w.heap.size 40 ER (.slice AA nn cc) nn tt := h1.kept gT1 (by
                      cases hv : (Value.slice AA nn cc).ownBlock with
                      | none => exact .inl rfl
                      | some k => exact .inr (fun e => HNE.out k hv (by cases e; rfl)))
                    exact h2.kept gT2 (by
                      cases hv : (Value.slice AA nn cc).ownBlock with
                      | none => exact .inl rfl
                      | some k => exact .inr (fun e => HNE.out k hv (by cases e; rfl)))
                  have LR := Lib.hid (learn35 AA nn cc w.heap.size tt fr ⟨a.d, a.s, a.c + cost, fr⟩ T2 (by omega) oT hb7.size HTT.out.asc HTT.out.din HUS.out.1 HUS.out.2.1)
                  clear a0 a1 a2 a3 hb5 hb6 gT1 gT2 sT1 sT2 kT1 kT2 hkV2 oV oT hbV hs4
                  go_wp2_with fail
                  refine LR.out.mono ?_
                  rintro e w5 ⟨A5, n5, p5, rfl, o5, hb8⟩
                  have hb9 := hb7.trans hb8
                  clear hb7 hb8 x2 z2 x3 z3 y0 y1 y2 y3 d2
                  go_wp2
                  go_roundw
                  case rel => exact ⟨j + 1, n5, p5, A5, by omega, by go_num, rfl, by rw [HS.out]; exact o5, hb9⟩
                  case measure => simp [intOf]; omega
                · have HS := Lib.hid (HS0.out.trans (show lrn tt fr (adv fr cost a) = lrn tt fr ⟨a.d, a.s, 255, 255⟩ by unfold adv; rw [if_neg (fun h => hsum h.2)]))
                  clear hf
                  go_wp2_with fail
                  refine (F.out V2).mono ?_
                  rintro e w4 ⟨rfl, hb5⟩
                  have d0 := keep hb5 a0
                  have d1 := keep hb5 a1
                  have d2 := keep hb5 a2
                  have kz := hkV2.later hb5
                  have y0 := kz.at 0 (v := .int .i64 a.d) rfl
                  have y1 := kz.at 1 (v := .int .i64 a.s) rfl
                  have y2 := kz.at 2 (v := .int .i64 255) rfl
                  have y3 := kz.at 3 (v := .int .i64 255) rfl
                  have hb6 := hbV.trans (hb5.mono hbV.size)
                  have LR := Lib.hid (learn35 AA nn cc w.heap.size tt fr ⟨a.d, a.s, 255, 255⟩ w4 (by omega) (oV.later hb5) hb6.size HTT.out.asc HTT.out.din HUS.out.1 HUS.out.2.1)
                  clear a0 a1 a2 a3 hb5 hkV2 kz oV hbV
                  go_wp2_with fail
                  refine LR.out.mono ?_
                  rintro e w5 ⟨A5, n5, p5, rfl, o5, hb8⟩
                  have hb9 := hb6.trans hb8
                  clear hb6 hb8 y0 y1 y2 y3 d0 d1 d2
                  go_wp2
                  go_roundw
                  case rel => exact ⟨j + 1, n5, p5, A5, by omega, by go_num, rfl, by rw [HS.out]; exact o5, hb9⟩
                  case measure => simp [intOf]; omega
        · have hjm : l.take j = l := List.take_of_length_le (by omega)
          rw [hjm] at ho
          clear hjm
          go_wp2
          go_ret
          exact ⟨AA, nn, cc, rfl, by rw [HU.out]; exact ho, hbr⟩
    · have HU := Lib.hid (upd_no (t := t) (l := l) hok)
      have hcs : fr = lim self ∨ (fr ≠ lim self ∧ cost < 1) ∨ (fr ≠ lim self ∧ 1 ≤ cost ∧ 200 < cost) := by
        by_cases h1 : fr = lim self
        · exact .inl h1
        · by_cases h2 : cost < 1
          · exact .inr (.inl ⟨h1, h2⟩)
          · refine .inr (.inr ⟨h1, by omega, ?_⟩)
            by_cases h3 : 200 < cost
            · exact h3
            · exact absurd ⟨hnf, h1, by omega, by omega⟩ hok
      clear hnf hok
      rcases hcs with h1 | ⟨h1, h2⟩ | ⟨h1, h2, h3⟩
      · have e1 : (fr == lim self) = true := by simp [h1]
        clear h1
        go_wp2_with fail
        refine (ND.out w1).mono ?_
        rintro e w' ⟨rfl, rfl⟩
        go_wp2
        all_goals first | (exfalso; simp_all; done) | (exfalso; omega) | skip
        go_ret
        exact ⟨A1, n1, p1, rfl, by rw [HU.out]; exact ho, hb1⟩
      · have e1 : (fr == lim self) = false := by rw [beq_eq_false_iff_ne]; exact h1
        clear h1
        go_wp2_with fail
        refine (ND.out w1).mono ?_
        rintro e w' ⟨rfl, rfl⟩
        go_wp2
        all_goals first | (exfalso; simp_all; done) | (exfalso; omega) | skip
        go_ret
        exact ⟨A1, n1, p1, rfl, by rw [HU.out]; exact ho, hb1⟩
      · have e1 : (fr == lim self) = false := by rw [beq_eq_false_iff_ne]; exact h1
        clear h1
        go_wp2_with fail
        refine (ND.out w1).mono ?_
        rintro e w' ⟨rfl, rfl⟩
        go_wp2
        all_goals first | (exfalso; simp_all; done) | (exfalso; omega) | skip
        go_ret
        exact ⟨A1, n1, p1, rfl, by rw [HU.out]; exact ho, hb1⟩
end Go.Proofs.Ytlmoeempblgdkaa

