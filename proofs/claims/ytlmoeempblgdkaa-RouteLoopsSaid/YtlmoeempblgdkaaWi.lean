/- apply of the document. -/
import Derived.Test.YtlmoeempblgdkaaWh
namespace Go.Proofs.Ytlmoeempblgdkaa
open Go.RowKit Go.BigFrame
set_option linter.unusedVariables false
set_option linter.unusedSimpArgs false

theorem cut_of {t : List Rt} {k : Nat} {q : Rt} (h : Asc t) (hk : t[k]? = some q) : CutAt t q.d k :=
  ⟨fun i r hi hr => asc_lt h hr hk hi, fun i r hi hr => by
    rcases Nat.eq_or_lt_of_le hi with rfl | hl
    · rw [hk] at hr; cases hr; exact Int.le_refl _
    · exact Int.le_of_lt (asc_lt h hk hr hl)⟩
set_option maxRecDepth 40000 in
set_option maxHeartbeats 16000000 in
theorem apply39 (A : Option Addr) (n cap base : Nat) (t : List Rt) (fr cost : Int) (x : Rt) (w : World) (hcap : n ≤ cap) (hcm : cap ≤ 9223372036854775807) (ho : Ow w base 40 ER (.slice A n cap) n t) (hbase : base ≤ w.heap.size) (ht : Tb t) (hx : usB x = true) (hc1 : 1 ≤ cost) (hc2 : cost ≤ 200) :
    Calls Try.prog 39 #[.slice A n cap, .int .i64 fr, .int .i64 cost, rtV x] w (LEnd base w (lrn t fr (adv fr cost x))) := by
  have hlen : t.length = n := ho.1
  have hn : n ≤ 24 := by rw [← hlen]; exact ht.le
  obtain ⟨W, hW, hB, hz, hk⟩ := boxeds w (rtC x) 40
  have a0 := hk.at 0 (v := .int .i64 x.d) rfl
  have a1 := hk.at 1 (v := .int .i64 x.s) rfl
  have a2 := hk.at 2 (v := .int .i64 x.c) rfl
  have a3 := hk.at 3 (v := .int .i64 x.n) rfl
  have hoW := ho.later hB
  have FB := Lib.hid (find40 A n cap t x.d W (by omega) hoW.rd)
  have HBW := Lib.hid (show Below base w W from hB.mono hbase)
  have HBS := Lib.hid (show base ≤ W.heap.size from Nat.le_trans hbase hB.size)
  have HLEN := Lib.hid hlen
  have HT := Lib.hid ht
  have HUS := Lib.hid (us_node hx)
  clear hz hk ho hlen ht hx hB
  go_enter Try.func39, Try.ntmps39
  go_wp2_with fail
  refine FB.out.mono ?_
  rintro e w1 ⟨z, rfl, hf, hb1⟩
  have ho1 := hoW.later hb1
  have hbs1 := Nat.le_trans HBS.out hb1.size
  have HBB := Lib.hid (show Below base w w1 from HBW.out.trans (hb1.mono HBS.out))
  have HFI := Lib.hid hf
  have c0 := keep hb1 a0
  have c1 := keep hb1 a1
  have c2 := keep hb1 a2
  have c3 := keep hb1 a3
  have h11 := Below.refl w1.heap.size w1
  clear FB hf a0 a1 a2 a3 hoW hb1
  have F0 := Lib.hid (fun w' => finite41 x w')
  by_cases hgo : finB x = true ∧ x.c + cost ≤ 200
  · -- a finite route
    obtain ⟨hfx, hsum⟩ := hgo
    have hcx : 0 ≤ x.c ∧ x.c ≤ 200 := by have := hfx; unfold finB at this; simp at this; omega
    obtain ⟨hcx1, hcx2⟩ := hcx
    have HAD := Lib.hid (show adv fr cost x = ⟨x.d, x.s, x.c + cost, fr⟩ by unfold adv; rw [if_pos ⟨hfx, hsum⟩])
    have HFA := Lib.hid (show finB (⟨x.d, x.s, x.c + cost, fr⟩ : Rt) = true by unfold finB; simp; try omega)
    have F : Hid (∀ w', Calls Try.prog 41 #[rtV x] w' fun e w'' => e = .returned (.bool true) ∧ Below w'.heap.size w' w'') := Lib.hid (fun w' => hfx ▸ F0.out w')
    clear hfx
    go_upto_region 2 with fail
    go_wp2_with fail
    refine (F.out w1).mono ?_
    rintro e w2 ⟨rfl, h12'⟩
    have h12 := h11.trans (h12'.mono h11.size)
    clear h12'
    have e0 := keep h12 c0
    have e1 := keep h12 c1
    have e2 := keep h12 c2
    have e3 := keep h12 c3
    go_upto_region 4 with fail
    obtain ⟨V, hV, hBV, hzV, hkV⟩ := boxeds w2 (rtC ⟨x.d, x.s, x.c + cost, fr⟩) 40
    rw [hV]
    have v0 := hkV.at 0 (v := .int .i64 x.d) rfl
    have v1 := hkV.at 1 (v := .int .i64 x.s) rfl
    have v2 := hkV.at 2 (v := .int .i64 (x.c + cost)) rfl
    have v3 := hkV.at 3 (v := .int .i64 fr) rfl
    have h13 := h12.trans (hBV.mono h12.size)
    have hvv := Below.refl V.heap.size V
    clear e0 e1 e2 e3 hBV hzV h12 h11
    rcases HFI.out with ⟨rfl, hno⟩ | ⟨k, q, rfl, hkq, hqd, _⟩
    · skip
      have HLN := Lib.hid (show lrn t fr (adv fr cost x) = if finB (adv fr cost x) = true ∧ t.length < 24 then t.take (lo t x.d) ++ adv fr cost x :: t.drop (lo t x.d) else t by
        obtain ⟨hc, hk⟩ := lo_cut (x := x.d) HT.out.asc
        have h1 : CutAt t (adv fr cost x).d (lo t x.d) := by rw [(adv_d fr cost x).1]; exact hc
        rw [lrn_at hk h1]
        exact lrnAt_no (fun ⟨q, h1, h2⟩ => hno q (List.mem_of_getElem? h1) (h2.trans (adv_d fr cost x).1)))
      clear hno
      by_cases h24 : n < 24
      · have R := Lib.hid (HLN.out.trans ((if_pos ⟨by rw [HAD.out]; exact HFA.out, by have := HLEN.out; omega⟩).trans (by rw [HAD.out])))
        obtain ⟨hlc, hlk⟩ := lo_cut (x := x.d) HT.out.asc
        have AD := Lib.hid (add47 A n cap (lo t x.d) t ⟨x.d, x.s, x.c + cost, fr⟩ V hn hcap hcm (ho1.later h13).rd (by have := HLEN.out; omega) hlc)
        clear hlc hlk
        go_wp2_with fail
        refine AD.out.mono ?_
        rintro e w5 ⟨B, m5, cp, rfl, o5, hb5⟩
        have hbV := HBB.out.trans (h13.mono hbs1)
        have hb6 := hbV.trans (hb5.mono (Nat.le_trans hbs1 h13.size))
        have o6 := o5.rebase (base' := base) (Nat.le_trans hbs1 h13.size)
        clear hb5 o5 hbV ho1 h13 c0 c1 c2 c3 v0 v1 v2 v3 hvv hkV
        go_wp2
        go_ret
        exact ⟨B, m5, cp, rfl, by rw [R.out]; exact o6, hb6⟩
      · have R := Lib.hid (HLN.out.trans (by exact if_neg (by have := HLEN.out; rintro ⟨_, h⟩; omega)))
        go_upto_region 6 with fail
        have A0 := After.cell (keep h13 c0)
        have A1 := After.cell (keep h13 c1)
        have A2 := After.cell (keep h13 c2)
        have A3 := After.cell (keep h13 c3)
        refine wp_region_after (by kernel_rfl) (by kernel_rfl) ?_
        repeat (any_goals (go_big_quiet_step (first | fail)))
        refine wpQuiet_nil ?_
        intro w4 h14'
        have h14 := h13.trans (h14'.mono h13.size)
        clear A0 A1 A2 A3 h14'
        clear v0 v1 v2 v3 hvv hkV
        have o2 := ho1.later h14
        have b2 := HBB.out.trans (h14.mono hbs1)
        clear ho1 c0 c1 c2 c3 h14
        go_wp2
        go_ret
        exact ⟨_, n, cap, rfl, by rw [R.out]; exact o2, b2⟩
    · skip
      have HKQ := Lib.hid hkq
      have hkn : k < n := by rw [← HLEN.out]; exact (List.getElem?_eq_some_iff.1 hkq).1
      obtain ⟨g, rfl, hgb, hgl⟩ := ho1.at0 (by omega)
      have HG := Lib.hid hgb
      obtain ⟨b', off', q', hA', hq', q0, q1, q2, q3⟩ := rt_at ho1.rd hkn
      obtain ⟨rfl, rfl⟩ : g = b' ∧ 0 = off' := by cases hA'; exact ⟨rfl, rfl⟩
      obtain rfl : q = q' := by rw [hkq] at hq'; cases hq'; rfl
      simp only [Nat.zero_add] at q0 q1 q2 q3
      have hx0 : (0 : Int) ≤ (k : Int) := by omega
      have hx1 : (k : Int) < (n : Int) := by omega
      have hx2 : ¬ ((k : Int) < 0) := by omega
      have HLA := Lib.hid (show lrn t fr (adv fr cost x) = lrnAt t fr (adv fr cost x) k from lrn_at (by have := HLEN.out; omega) (by rw [(adv_d fr cost x).1, ← hqd]; exact cut_of HT.out.asc hkq))
      have HLY := Lib.hid (HLA.out.trans (lrnAt_yes hkq (hqd.trans (adv_d fr cost x).1.symm)))
      clear hkq hqd hA' hq' hgb hgl
      have HLZ := Lib.hid (HLY.out.trans (if_pos (by rw [HAD.out]; exact HFA.out)))
      cases hbt : betB ⟨x.d, x.s, x.c + cost, fr⟩ q
      · have R := Lib.hid (HLZ.out.trans (if_neg (by rw [HAD.out, hbt]; simp)))
        have BT : Hid (∀ w', Calls Try.prog 48 #[rtV ⟨x.d, x.s, x.c + cost, fr⟩, rtV q] w' fun e w'' => e = .returned (.bool false) ∧ Below w'.heap.size w' w'') := Lib.hid (fun w' => hbt ▸ better48 ⟨x.d, x.s, x.c + cost, fr⟩ q w')
        clear hbt
        go_upto_region 6 with fail
        have A0 := After.cell (keep h13 c0)
        have A1 := After.cell (keep h13 c1)
        have A2 := After.cell (keep h13 c2)
        have A3 := After.cell (keep h13 c3)
        have Q0 := After.cell (keep h13 q0)
        have Q1 := After.cell (keep h13 q1)
        have Q2 := After.cell (keep h13 q2)
        have Q3 := After.cell (keep h13 q3)
        have X0 := After.cell (keep hvv v0)
        have X1 := After.cell (keep hvv v1)
        have X2 := After.cell (keep hvv v2)
        have X3 := After.cell (keep hvv v3)
        have CB := fun p : After V => p.of (BT.out p.w)
        refine wp_region_after (by kernel_rfl) (by kernel_rfl) ?_
        repeat (any_goals (go_big_quiet_step (first | (with_reducible exact CB _))))
        refine wpQuiet_nil ?_
        intro w4 h14'
        have h14 := h13.trans (h14'.mono h13.size)
        have h14v := hvv.trans (h14'.mono hvv.size)
        clear A0 A1 A2 A3 Q0 Q1 Q2 Q3 X0 X1 X2 X3 CB h14'
        clear q0 q1 q2 q3 v0 v1 v2 v3 hvv hkV h14v
        have o2 := ho1.later h14
        have b2 := HBB.out.trans (h14.mono hbs1)
        clear ho1 c0 c1 c2 c3 h14
        go_wp2
        go_ret
        exact ⟨_, n, cap, rfl, by rw [R.out]; exact o2, b2⟩
      · have R := Lib.hid (HLZ.out.trans ((if_pos (by rw [HAD.out]; exact hbt)).trans (by rw [HAD.out])))
        have BT : Hid (∀ w', Calls Try.prog 48 #[rtV ⟨x.d, x.s, x.c + cost, fr⟩, rtV q] w' fun e w'' => e = .returned (.bool true) ∧ Below w'.heap.size w' w'') := Lib.hid (fun w' => hbt ▸ better48 ⟨x.d, x.s, x.c + cost, fr⟩ q w')
        clear hbt
        go_upto_region 6 with fail
        have A0 := After.cell (keep h13 c0)
        have A1 := After.cell (keep h13 c1)
        have A2 := After.cell (keep h13 c2)
        have A3 := After.cell (keep h13 c3)
        have Q0 := After.cell (keep h13 q0)
        have Q1 := After.cell (keep h13 q1)
        have Q2 := After.cell (keep h13 q2)
        have Q3 := After.cell (keep h13 q3)
        have X0 := After.cell (keep hvv v0)
        have X1 := After.cell (keep hvv v1)
        have X2 := After.cell (keep hvv v2)
        have X3 := After.cell (keep hvv v3)
        have CB := fun p : After V => p.of (BT.out p.w)
        refine wp_region_after (by kernel_rfl) (by kernel_rfl) ?_
        repeat (any_goals (go_big_quiet_step (first | (with_reducible exact CB _))))
        refine wpQuiet_nil ?_
        intro w4 h14'
        have h14 := h13.trans (h14'.mono h13.size)
        have h14v := hvv.trans (h14'.mono hvv.size)
        clear A0 A1 A2 A3 Q0 Q1 Q2 Q3 X0 X1 X2 X3 CB h14'
        obtain ⟨T, hT, oT, gT⟩ := (ho1.later h14).set4 HKQ.out ⟨x.d, x.s, x.c + cost, fr⟩
        have b2 := Below.grow (HBB.out.trans (h14.mono hbs1)) gT (Nat.le_trans hbs1 h14.size) HG.out
        have OT := Lib.hid oT
        have z0 := (ho1.later h14).free (by omega) (k * 4)
        have z1 := (ho1.later h14).free (by omega) (k * 4 + 1)
        have z2 := (ho1.later h14).free (by omega) (k * 4 + 2)
        have z3 := (ho1.later h14).free (by omega) (k * 4 + 3)
        have d0 := keep h14 c0
        have y0 := keep h14 q0
        have d1 := keep h14 c1
        have y1 := keep h14 q1
        have d2 := keep h14 c2
        have y2 := keep h14 q2
        have d3 := keep h14 c3
        have y3 := keep h14 q3
        have u0_ := keep h14v v0
        have u1_ := keep h14v v1
        have u2_ := keep h14v v2
        have u3_ := keep h14v v3
        clear oT gT ho1 c0 c1 c2 c3 q0 q1 q2 q3 h14 v0 v1 v2 v3 hvv h14v hkV
        go_wp2
        go_ret
        exact ⟨_, n, cap, rfl, by rw [R.out]; exact OT.out, b2⟩
  · have HAD := Lib.hid (show adv fr cost x = ⟨x.d, x.s, 255, 255⟩ by unfold adv; rw [if_neg hgo])
    have HFA := Lib.hid (show ¬ finB (⟨x.d, x.s, 255, 255⟩ : Rt) = true by simp [finB])
    have hgo' : finB x = false ∨ (finB x = true ∧ 200 < x.c + cost) := by
      cases hfx : finB x
      · exact .inl rfl
      · exact .inr ⟨rfl, by rcases Int.lt_or_le 200 (x.c + cost) with h | h; exact h; exact absurd ⟨hfx, h⟩ hgo⟩
    clear hgo
    go_upto_region 2 with fail
    go_cut [23] (fun y w' => y = .bool false ∧ Below w1.heap.size w1 w')
    case first =>
      rcases hgo' with hfx | ⟨hfx, hsum⟩
      · skip
        have F : Hid (∀ w', Calls Try.prog 41 #[rtV x] w' fun e w'' => e = .returned (.bool false) ∧ Below w'.heap.size w' w'') := Lib.hid (fun w' => hfx ▸ F0.out w')
        clear hfx
        go_wp2_with fail
        refine (F.out w1).mono ?_
        rintro e w2 ⟨rfl, h12'⟩
        have h12 := h11.trans (h12'.mono h11.size)
        clear h12'
        have e0 := keep h12 c0
        have e1 := keep h12 c1
        have e2 := keep h12 c2
        have e3 := keep h12 c3
        clear c0 c1 c2 c3 h11 e0 e1 e2 e3
        go_wp2
        go_meet
        exact ⟨rfl, h12⟩
      · have hcx : 0 ≤ x.c ∧ x.c ≤ 200 := by have := hfx; unfold finB at this; simp at this; omega
        obtain ⟨hcx1, hcx2⟩ := hcx
        have hs' : ¬ (x.c + cost ≤ 200) := by omega
        have F : Hid (∀ w', Calls Try.prog 41 #[rtV x] w' fun e w'' => e = .returned (.bool true) ∧ Below w'.heap.size w' w'') := Lib.hid (fun w' => hfx ▸ F0.out w')
        clear hfx
        go_wp2_with fail
        refine (F.out w1).mono ?_
        rintro e w2 ⟨rfl, h12'⟩
        have h12 := h11.trans (h12'.mono h11.size)
        clear h12'
        have e0 := keep h12 c0
        have e1 := keep h12 c1
        have e2 := keep h12 c2
        have e3 := keep h12 c3
        clear c0 c1 c2 c3 h11
        go_wp2
        all_goals first | (exfalso; omega) | skip
        go_meet
        exact ⟨by first | rfl | (congr 1; simp; omega), h12⟩
    case rest =>
      obtain ⟨rfl, h12⟩ := hcut
      obtain ⟨w2, rfl⟩ : ∃ y : World, y = wc := ⟨_, rfl⟩
      clear h11 hgo'
      rcases HFI.out with ⟨rfl, hno⟩ | ⟨k, q, rfl, hkq, hqd, _⟩
      · skip
        have HLN := Lib.hid (show lrn t fr (adv fr cost x) = if finB (adv fr cost x) = true ∧ t.length < 24 then t.take (lo t x.d) ++ adv fr cost x :: t.drop (lo t x.d) else t by
          obtain ⟨hc, hk⟩ := lo_cut (x := x.d) HT.out.asc
          have h1 : CutAt t (adv fr cost x).d (lo t x.d) := by rw [(adv_d fr cost x).1]; exact hc
          rw [lrn_at hk h1]
          exact lrnAt_no (fun ⟨q, h1, h2⟩ => hno q (List.mem_of_getElem? h1) (h2.trans (adv_d fr cost x).1)))
        clear hno
        have R := Lib.hid (HLN.out.trans (if_neg (by rw [HAD.out]; exact fun h => HFA.out h.1)))
        go_upto_region 9 with fail
        have A0 := After.cell (keep h12 c0)
        have A1 := After.cell (keep h12 c1)
        have A2 := After.cell (keep h12 c2)
        have A3 := After.cell (keep h12 c3)
        refine wp_region_after (by kernel_rfl) (by kernel_rfl) ?_
        repeat (any_goals (go_big_quiet_step (first | fail)))
        refine wpQuiet_nil ?_
        intro w4 h14'
        have h14 := h12.trans (h14'.mono h12.size)
        clear A0 A1 A2 A3 h14'
        have o2 := ho1.later h14
        have b2 := HBB.out.trans (h14.mono hbs1)
        clear ho1 c0 c1 c2 c3 h14
        go_wp2
        go_ret
        exact ⟨_, n, cap, rfl, by rw [R.out]; exact o2, b2⟩
      · skip
        have HKQ := Lib.hid hkq
        have hkn : k < n := by rw [← HLEN.out]; exact (List.getElem?_eq_some_iff.1 hkq).1
        obtain ⟨g, rfl, hgb, hgl⟩ := ho1.at0 (by omega)
        have HG := Lib.hid hgb
        obtain ⟨b', off', q', hA', hq', q0, q1, q2, q3⟩ := rt_at ho1.rd hkn
        obtain ⟨rfl, rfl⟩ : g = b' ∧ 0 = off' := by cases hA'; exact ⟨rfl, rfl⟩
        obtain rfl : q = q' := by rw [hkq] at hq'; cases hq'; rfl
        simp only [Nat.zero_add] at q0 q1 q2 q3
        have hx0 : (0 : Int) ≤ (k : Int) := by omega
        have hx1 : (k : Int) < (n : Int) := by omega
        have hx2 : ¬ ((k : Int) < 0) := by omega
        have HLA := Lib.hid (show lrn t fr (adv fr cost x) = lrnAt t fr (adv fr cost x) k from lrn_at (by have := HLEN.out; omega) (by rw [(adv_d fr cost x).1, ← hqd]; exact cut_of HT.out.asc hkq))
        have HLY := Lib.hid (HLA.out.trans (lrnAt_yes hkq (hqd.trans (adv_d fr cost x).1.symm)))
        clear hkq hqd hA' hq' hgb hgl
        have HLZ := Lib.hid (HLY.out.trans (if_neg (by rw [HAD.out]; exact HFA.out)))
        by_cases hn1 : q.n = fr
        · have e1 : (q.n == fr) = true := by simp [hn1]
          by_cases hs1 : q.s < x.s
          · have R := Lib.hid (HLZ.out.trans ((if_pos (by rw [HAD.out]; exact ⟨hn1, hs1⟩)).trans (by rw [HAD.out])))
            have e2 : decide (q.s < x.s) = true := decide_eq_true hs1
            clear hn1
            go_upto_region 9 with fail
            have A0 := After.cell (keep h12 c0)
            have A1 := After.cell (keep h12 c1)
            have A2 := After.cell (keep h12 c2)
            have A3 := After.cell (keep h12 c3)
            have Q0 := After.cell (keep h12 q0)
            have Q1 := After.cell (keep h12 q1)
            have Q2 := After.cell (keep h12 q2)
            have Q3 := After.cell (keep h12 q3)
            refine wp_region_after (by kernel_rfl) (by kernel_rfl) ?_
            repeat (any_goals (go_big_quiet_step (first | fail)))
            refine wpQuiet_nil ?_
            intro w4 h14'
            have h14 := h12.trans (h14'.mono h12.size)
            clear A0 A1 A2 A3 Q0 Q1 Q2 Q3 h14'
            obtain ⟨T, hT, oT, gT⟩ := (ho1.later h14).set4 HKQ.out ⟨x.d, x.s, 255, 255⟩
            have b2 := Below.grow (HBB.out.trans (h14.mono hbs1)) gT (Nat.le_trans hbs1 h14.size) HG.out
            have OT := Lib.hid oT
            have z0 := (ho1.later h14).free (by omega) (k * 4)
            have z1 := (ho1.later h14).free (by omega) (k * 4 + 1)
            have z2 := (ho1.later h14).free (by omega) (k * 4 + 2)
            have z3 := (ho1.later h14).free (by omega) (k * 4 + 3)
            have d0 := keep h14 c0
            have y0 := keep h14 q0
            have d1 := keep h14 c1
            have y1 := keep h14 q1
            have d2 := keep h14 c2
            have y2 := keep h14 q2
            have d3 := keep h14 c3
            have y3 := keep h14 q3
            clear oT gT ho1 c0 c1 c2 c3 q0 q1 q2 q3 h14
            go_wp2
            go_ret
            exact ⟨_, n, cap, rfl, by rw [R.out]; exact OT.out, b2⟩
          · have R := Lib.hid (HLZ.out.trans (if_neg (by rw [HAD.out]; exact fun h => hs1 h.2)))
            have e2 : decide (q.s < x.s) = false := decide_eq_false hs1
            clear hn1
            go_upto_region 9 with fail
            have A0 := After.cell (keep h12 c0)
            have A1 := After.cell (keep h12 c1)
            have A2 := After.cell (keep h12 c2)
            have A3 := After.cell (keep h12 c3)
            have Q0 := After.cell (keep h12 q0)
            have Q1 := After.cell (keep h12 q1)
            have Q2 := After.cell (keep h12 q2)
            have Q3 := After.cell (keep h12 q3)
            refine wp_region_after (by kernel_rfl) (by kernel_rfl) ?_
            repeat (any_goals (go_big_quiet_step (first | fail)))
            refine wpQuiet_nil ?_
            intro w4 h14'
            have h14 := h12.trans (h14'.mono h12.size)
            clear A0 A1 A2 A3 Q0 Q1 Q2 Q3 h14'
            clear q0 q1 q2 q3
            have o2 := ho1.later h14
            have b2 := HBB.out.trans (h14.mono hbs1)
            clear ho1 c0 c1 c2 c3 h14
            go_wp2
            go_ret
            exact ⟨_, n, cap, rfl, by rw [R.out]; exact o2, b2⟩
        · have R := Lib.hid (HLZ.out.trans (if_neg (fun h => hn1 h.1)))
          have e1 : (q.n == fr) = false := by simp [hn1]
          clear hn1
          go_upto_region 9 with fail
          have A0 := After.cell (keep h12 c0)
          have A1 := After.cell (keep h12 c1)
          have A2 := After.cell (keep h12 c2)
          have A3 := After.cell (keep h12 c3)
          have Q0 := After.cell (keep h12 q0)
          have Q1 := After.cell (keep h12 q1)
          have Q2 := After.cell (keep h12 q2)
          have Q3 := After.cell (keep h12 q3)
          refine wp_region_after (by kernel_rfl) (by kernel_rfl) ?_
          repeat (any_goals (go_big_quiet_step (first | fail)))
          refine wpQuiet_nil ?_
          intro w4 h14'
          have h14 := h12.trans (h14'.mono h12.size)
          clear A0 A1 A2 A3 Q0 Q1 Q2 Q3 h14'
          clear q0 q1 q2 q3
          have o2 := ho1.later h14
          have b2 := HBB.out.trans (h14.mono hbs1)
          clear ho1 c0 c1 c2 c3 h14
          go_wp2
          go_ret
          exact ⟨_, n, cap, rfl, by rw [R.out]; exact o2, b2⟩
end Go.Proofs.Ytlmoeempblgdkaa

