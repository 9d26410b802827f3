/- The law RouteBack. -/
import Derived.Test.YtlmoeempblgdkaaBk
namespace Go.Proofs.Ytlmoeempblgdkaa
open Go.RowKit Go.BigFrame
set_option linter.unusedVariables false
set_option linter.unusedSimpArgs false

set_option maxRecDepth 20000 in
set_option maxHeartbeats 8000000 in
/-- from the second half on: the table there and back -/
theorem lawBack6 (A : Option Addr) (n cap : Nat) (t : List Rt) (self : Int) (s : ByteArray) (w : World) (hr : Rd w ER A n t) :
    Calls Try.prog 6 #[.slice A n cap, .int .i64 self, .string s] w fun e w' => e = .returned (.bool true) ∧ Below w.heap.size w w' := by
  have LV := Lib.hid awake10
  have hlen := hr.1
  by_cases hn : 60 < n
  · clear hr
    go_enter Try.func6, Try.ntmps6
    go_wp2_with fail
    refine (LV.out w).mono ?_
    rintro e w2 ⟨rfl, hb2⟩
    go_wp2
    go_ret
    exact ⟨rfl, hb2⟩
  · by_cases hs : 200 < s.size
    · clear hr
      go_enter Try.func6, Try.ntmps6
      go_wp2_with fail
      refine (LV.out w).mono ?_
      rintro e w2 ⟨rfl, hb2⟩
      go_wp2
      go_ret
      exact ⟨rfl, hb2⟩
    · go_enter Try.func6, Try.ntmps6
      go_wp2_with fail
      refine (dec18 s w (by omega)).mono ?_
      rintro e w1 ⟨A1, n1, c1, rfl, o1, h1⟩
      have HDE := Lib.hid (dec_enc (s := s))
      have hdl := decs_len s
      have hn1 := o1.1
      go_upto_region 4 with fail
      go_cut [34] (fun y w' => y = .bool false ∧ Below w1.heap.size w1 w')
      case first =>
        cases hz : decide ((decs s).2 = 0)
        · have hz' : ¬ (decs s).2 = 0 := of_decide_eq_false hz
          have d1 : ((decs s).2 == 0) = false := by rw [beq_eq_false_iff_ne]; exact hz'
          generalize (decs s).2 = de at *
          clear hr h1 hz o1 hdl HDE
          go_wp2_with fail
          all_goals first | (exfalso; simp_all; done) | skip
          go_meet
          exact ⟨rfl, Below.refl _ _⟩
        · have hz' : (decs s).2 = 0 := of_decide_eq_true hz
          have HDE := Lib.hid (HDE.out hz')
          have d1 : ((decs s).2 == 0) = true := by rw [beq_iff_eq]; exact hz'
          have E20 := Lib.hid (enc20 A1 n1 c1 (decs s).1 w1 (by omega) o1.rd)
          rw [HDE.out] at E20
          clear hr h1 hz hz' o1 hdl HDE
          go_wp2_with fail
          refine E20.out.mono ?_
          rintro e w2 ⟨rfl, h2⟩
          clear E20
          go_wp2
          all_goals first | (exfalso; simp_all; done) | skip
          go_meet
          exact ⟨rfl, h2⟩
      case rest =>
        obtain ⟨rfl, h2⟩ := hcut
        obtain ⟨w2, rfl⟩ : ∃ x : World, x = wc := ⟨_, rfl⟩
        have b2 := h1.trans (h2.mono h1.size)
        generalize decs s = ds at *
        clear h1 h2 o1 hdl HDE
        have CH := Lib.hid (check22 A n cap t self w2 (by omega) (hr.later b2))
        by_cases hz : chk t self = 0
        · rw [hz] at CH
          have HED := Lib.hid (enc_dec hz)
          obtain ⟨hl24, _⟩ := chk_zero hz
          clear hz
          go_wp2_with fail
          refine CH.out.mono ?_
          rintro e w3 ⟨rfl, h3⟩
          have b3 := b2.trans (h3.mono b2.size)
          have E20 := Lib.hid (enc20 A n cap t w3 (by omega) (hr.later b3))
          have HSZ := Lib.hid (show (strOfNums (ebs t)).size ≤ 1000 by rw [strOfNums_size]; exact Nat.le_trans (ebs_le t [] (by simp)) (by omega))
          generalize strOfNums (ebs t) = str at *
          clear b2 h3 CH
          go_wp2_with fail
          refine E20.out.mono ?_
          rintro e w4 ⟨rfl, h4⟩
          have b4 := b3.trans (h4.mono b3.size)
          have D18 := Lib.hid (dec18 str w4 HSZ.out)
          clear b3 h4 E20
          go_wp2_with fail
          refine D18.out.mono ?_
          rintro e w5 ⟨A5, n5, c5, rfl, o5, h5⟩
          have b5 := b4.trans (h5.mono b4.size)
          rw [HED.out] at o5
          rw [HED.out]
          obtain rfl : n5 = n := by rw [← o5.1, List.length_map]; exact hlen
          have r5 := o5.rd
          clear b4 h5 D18 o5 HED
          go_wp2
          go_loopw [11] (fun i wr => ∃ j : Nat, j ≤ n5 ∧ i = .int .i64 j ∧ Below w5.heap.size w5 wr) (fun i _ => n5 - (intOf i).toNat)
          case atStart => exact ⟨0, Nat.zero_le _, rfl, Below.refl _ _⟩
          case round =>
            obtain ⟨j, hj, rfl, hbr⟩ := hrel
            by_cases hlt : j < n5
            · obtain ⟨b, off, r, rfl, hla, e0, e1, e2, e3⟩ := rt_at (hr.later (b5.trans (hbr.mono b5.size))) hlt
              obtain ⟨b', off', r', rfl, hla', f0, f1, f2, f3⟩ := rt_at (r5.later hbr) hlt
              obtain rfl : r' = bare r := by rw [List.getElem?_map, hla] at hla'; cases hla'; rfl
              have hx0 : (0 : Int) ≤ (j : Int) := by omega
              have hx1 : (j : Int) < (n5 : Int) := by omega
              clear hla hla' hlen hr r5
              go_upto_region 15 with fail
              obtain ⟨V, hV, hBV, hzV, hkV⟩ := boxeds wr (rtC r) 40
              rw [hV]
              have a3 := hkV.at 3 (v := .int .i64 r.n) rfl
              have q3 := hkV.frozen 3
              have g0 := keep hBV f0
              have g1 := keep hBV f1
              have g2 := keep hBV f2
              have g3 := keep hBV f3
              have HF := Lib.hid (And.intro hBV (And.intro f0 (And.intro f1 (And.intro f2 f3))))
              clear e0 e1 e2 e3 f0 f1 f2 f3 hBV g0 g1 g2 g3
              go_upto_region 16 with fail
              obtain ⟨T, hT, kT, gT, zT⟩ := stored hkV 3 (.int .i64 255) (cs' := rtC (bare r)) (by simp [bare])
              rw [hT]
              have A0 := After.cell (kT.at 0 (v := .int .i64 (bare r).d) rfl)
              have A1 := After.cell (kT.at 1 (v := .int .i64 (bare r).s) rfl)
              have A2 := After.cell (kT.at 2 (v := .int .i64 (bare r).c) rfl)
              have A3 := After.cell (kT.at 3 (v := .int .i64 (bare r).n) rfl)
              obtain ⟨hBV, f0, f1, f2, f3⟩ := HF.out
              have hBT := Below.grow hBV gT hBV.size (Nat.le_refl _)
              have B0 := After.cell (keep hBT f0)
              have B1 := After.cell (keep hBT f1)
              have B2 := After.cell (keep hBT f2)
              have B3 := After.cell (keep hBT f3)
              have he := fun w => (neq40 (bare r) (bare r) w).trans (by rw [decide_eq_true rfl])
              clear f0 f1 f2 f3 hBV HF a3 q3 kT gT zT hT hkV hzV
              generalize bare r = q at *
              refine wp_region_after (by kernel_rfl) (by kernel_rfl) ?_
              repeat (go_big_quiet_step (fail))
              refine wpQuiet_nil ?_
              intro w8 hb8
              have hb9 := hbr.trans ((hBT.trans (hb8.mono hBT.size)).mono hbr.size)
              clear A0 A1 A2 A3 B0 B1 B2 B3 hb8 hbr hBT
              go_wp2
              go_roundw
              case rel => exact ⟨j + 1, by omega, by go_num, hb9⟩
              case measure => simp [intOf]; omega
            · clear hr r5
              go_wp2_with fail
              refine (LV.out wr).mono ?_
              rintro e w6 ⟨rfl, h6⟩
              have b6 := b5.trans ((hbr.trans (h6.mono hbr.size)).mono b5.size)
              go_wp2
              go_ret
              exact ⟨rfl, b6⟩
        · clear hr
          generalize chk t self = ch at *
          have d1 : (ch == 0) = false := by rw [beq_eq_false_iff_ne]; exact hz
          go_wp2_with fail
          refine CH.out.mono ?_
          rintro e w3 ⟨rfl, h3⟩
          have b3 := b2.trans (h3.mono b2.size)
          clear CH b2 h3
          go_wp2_with fail
          all_goals first | (exfalso; simp_all; done) | skip
          refine (LV.out w3).mono ?_
          rintro e w4 ⟨rfl, h4⟩
          have b4 := b3.trans (h4.mono b3.size)
          go_wp2
          go_ret
          exact ⟨rfl, b4⟩
end Go.Proofs.Ytlmoeempblgdkaa
