/- Fires of the document's answer. -/
import Derived.Test.YtkdnkieecchobaaHf
namespace Go.Proofs.Ytkdnkieecchobaa
open Go.RowKit Go.BigFrame
set_option linter.unusedVariables false

set_option maxRecDepth 20000 in
set_option maxHeartbeats 16000000 in
theorem fires16 (t : Tg) (r : ByteArray) (c : Hc) (h : Hap) (w : World) (b : Bool) (hr : HRd w c h) (b1 : c.n1 ≤ 200) (b2 : c.n2 ≤ 200) (b3 : c.n3 ≤ 200) (hb : b = true ↔ fireP t r (norm h)) :
    Calls Try.prog 16 #[tgV t, .string r, hpV c h] w fun e w' => e = .returned (.bool b) ∧ Below w.heap.size w w' := by
  obtain ⟨W, hW, hB, hz, hk⟩ := boxeds w (tgC t) 36
  obtain ⟨W2, hW2, hB2, hz2, hk2⟩ := boxeds W (hpC c h) 26
  have hkp := hk.later hB2
  have hBx := hB.trans (hB2.mono (by omega))
  have N := Lib.hid (norm14 c h W2 (hr.later hBx) b1 b2 b3)
  have L1 : h.ch.length ≤ 200 := by rw [hr.r1.1]; exact b1
  have L2 : h.ev.length ≤ 200 := by rw [hr.r2.1]; exact b2
  have L3 : h.held.length ≤ 200 := by rw [hr.r3.1]; exact b3
  have J0 := hk2.at 0 (v := .slice c.A1 c.n1 c.c1) rfl
  have J1 := hk2.at 1 (v := .slice c.A2 c.n2 c.c2) rfl
  have J2 := hk2.at 2 (v := .int .i64 h.fr) rfl
  have J3 := hk2.at 3 (v := .int .i64 h.til) rfl
  have J4 := hk2.at 4 (v := .string h.mode) rfl
  have J5 := hk2.at 5 (v := .bool h.st) rfl
  have J6 := hk2.at 6 (v := .slice c.A3 c.n3 c.c3) rfl
  have Z := Lib.hid (show w.heap.size ≤ W2.heap.size by omega)
  have HB := Lib.hid hb
  have HW := winOk_norm h
  clear hz hz2 hk hk2 hb hr hB hB2
  go_enter Try.func16, Try.ntmps16
  go_wp2_with fail
  refine N.out.mono ?_
  rintro e wN ⟨⟨A1, n1, c1, A2, n2, c2, A3, n3, c3⟩, rfl, hoN, hbN⟩
  have hrN := hoN.rd
  clear hoN
  have hlN := hrN.len L1 L2 L3
  simp only at hlN
  obtain ⟨l1, l2, l3⟩ := hlN
  clear J0 J1 J2 J3 J4 J5 J6 N L1 L2 L3 b1 b2 b3 hW hW2
  have hkp := hkp.later hbN
  generalize norm h = H at *
  obtain ⟨kd, key, ev, nm, tn, tm⟩ := t
  have t0 := hkp.at 0 (v := .int .i64 kd) rfl
  have hlw : w.heap.size < wN.heap.size := hkp.lt
  have hBN := hBx.trans (hbN.mono Z.out)
  clear hBx hbN
  go_upto_region 2 with fail
  obtain ⟨W3, hW3, hB3, hz3, hk3⟩ := boxeds wN (hpC ⟨A1, n1, c1, A2, n2, c2, A3, n3, c3⟩ H) 26
  rw [hW3]
  have r1 : Rd W3 EK A1 n1 H.ch := hrN.r1.later hB3
  have r2 : Rd W3 EK A2 n2 H.ev := hrN.r2.later hB3
  have r3 : Rd W3 ET A3 n3 H.held := hrN.r3.later hB3
  have hkp := hkp.later hB3
  have t0 := hkp.at 0 (v := .int .i64 kd) rfl
  have hBN := hBN.trans (hB3.mono hBN.size)
  have hlw3 : wN.heap.size < W3.heap.size := hk3.lt
  clear hB3 hz3 hrN hW3
  by_cases k1 : kd = 1
  · have HM := Lib.hid (show b = true ↔ key ∈ H.ch by rw [HB.out]; unfold fireP; simp [k1])
    subst k1
    clear HB
    have hkp0 := hkp
    have hk30 := hk3
    go_wp2
    go_loopw [8] (fun i wr => ∃ j : Nat, j ≤ n1 ∧ i = .int .i64 j ∧ key ∉ H.ch.take j ∧ Blk wr w.heap.size 36 (tgC ⟨1, key, ev, nm, tn, tm⟩) ∧ Blk wr wN.heap.size 26 (hpC ⟨A1, n1, c1, A2, n2, c2, A3, n3, c3⟩ H) ∧ Below W3.heap.size W3 wr) (fun i _ => n1 - (intOf i).toNat)
    case atStart => exact ⟨0, by omega, rfl, by simp, hkp0, hk30, Below.refl _ _⟩
    case round =>
      clear hkp hk3 t0 hkp0 hk30
      obtain ⟨j, hj, rfl, hnot, hkp, hk3, hbr⟩ := hrel
      have q0 := hk3.at 0 (v := .slice A1 n1 c1) rfl
      by_cases hlt : j < n1
      · obtain ⟨gb, off, a, rfl, hla, x0, x1, x2⟩ := ky_at (r1.later hbr) hlt
        have Q := After.cell q0
        have Q0 := After.cell x0
        have Q1 := After.cell x1
        have Q2 := After.cell x2
        have P0 := After.cell (hkp.at 1 (v := .int .i64 key.dev) rfl)
        have P1 := After.cell (hkp.at 2 (v := .string key.a) rfl)
        have P2 := After.cell (hkp.at 3 (v := .string key.b) rfl)
        clear x0 x1 x2
        by_cases hax : a = key
        · have he := fun w => eql32_same hax w
          have HL := Lib.hid (HM.out.2 (List.mem_of_getElem? (by rw [hla, hax])))
          clear hax hla hnot
          go_wp2
          refine wp_region_after (by kernel_rfl) (by kernel_rfl) ?_
          repeat (go_big_quiet_step (fail))
          refine wpQuiet_nil ?_
          intro w1 hb1
          have hB1 := hBN.trans ((hbr.trans (hb1.mono hbr.size)).mono hBN.size)
          clear Q Q0 Q1 Q2 P0 P1 P2 hb1 hbr he hkp hk3 q0
          go_wp2
          go_ret
          exact ⟨ret_bool HL.out.symm, hB1⟩
        · have he := fun w => eql32_diff hax w
          have HN := Lib.hid (show key ∉ H.ch.take (j + 1) by rw [take_snoc hla]; simp [hnot]; exact fun e => hax e.symm)
          clear hax hla hnot
          go_wp2
          refine wp_region_after (by kernel_rfl) (by kernel_rfl) ?_
          repeat (go_big_quiet_step (fail))
          refine wpQuiet_nil ?_
          intro w1 hb1
          have hB1 := hbr.trans (hb1.mono hbr.size)
          have hkp := hkp.later hb1
          have hk3 := hk3.later hb1
          clear Q Q0 Q1 Q2 P0 P1 P2 hb1 hbr he q0
          go_wp2
          go_roundw
          case rel => exact ⟨j + 1, by omega, by go_num, HN.out, hkp, hk3, hB1⟩
          case measure => simp [intOf]; omega
      · have HN := Lib.hid (show false = b by
          cases b with
          | false => rfl
          | true => exact absurd (HM.out.1 rfl) (by rwa [List.take_of_length_le (by rw [r1.1]; omega)] at hnot))
        have hB1 := hBN.trans (hbr.mono hBN.size)
        clear hnot hkp hk3 hbr
        go_wp2
        go_ret
        exact ⟨ret_bool HN.out, hB1⟩
  by_cases k2 : kd = 2
  · have HM := Lib.hid (show b = true ↔ ev ∈ H.ev by rw [HB.out]; unfold fireP; simp [k2])
    subst k2
    clear HB
    have hkp0 := hkp
    have hk30 := hk3
    go_wp2
    go_loopw [9] (fun i wr => ∃ j : Nat, j ≤ n2 ∧ i = .int .i64 j ∧ ev ∉ H.ev.take j ∧ Blk wr w.heap.size 36 (tgC ⟨2, key, ev, nm, tn, tm⟩) ∧ Blk wr wN.heap.size 26 (hpC ⟨A1, n1, c1, A2, n2, c2, A3, n3, c3⟩ H) ∧ Below W3.heap.size W3 wr) (fun i _ => n2 - (intOf i).toNat)
    case atStart => exact ⟨0, by omega, rfl, by simp, hkp0, hk30, Below.refl _ _⟩
    case round =>
      clear hkp hk3 t0 hkp0 hk30
      obtain ⟨j, hj, rfl, hnot, hkp, hk3, hbr⟩ := hrel
      have q0 := hk3.at 1 (v := .slice A2 n2 c2) rfl
      by_cases hlt : j < n2
      · obtain ⟨gb, off, a, rfl, hla, x0, x1, x2⟩ := ky_at (r2.later hbr) hlt
        have Q := After.cell q0
        have Q0 := After.cell x0
        have Q1 := After.cell x1
        have Q2 := After.cell x2
        have P0 := After.cell (hkp.at 4 (v := .int .i64 ev.dev) rfl)
        have P1 := After.cell (hkp.at 5 (v := .string ev.a) rfl)
        have P2 := After.cell (hkp.at 6 (v := .string ev.b) rfl)
        clear x0 x1 x2
        by_cases hax : a = ev
        · have he := fun w => eql34_same hax w
          have HL := Lib.hid (HM.out.2 (List.mem_of_getElem? (by rw [hla, hax])))
          clear hax hla hnot
          go_wp2
          refine wp_region_after (by kernel_rfl) (by kernel_rfl) ?_
          repeat (go_big_quiet_step (fail))
          refine wpQuiet_nil ?_
          intro w1 hb1
          have hB1 := hBN.trans ((hbr.trans (hb1.mono hbr.size)).mono hBN.size)
          clear Q Q0 Q1 Q2 P0 P1 P2 hb1 hbr he hkp hk3 q0
          go_wp2
          go_ret
          exact ⟨ret_bool HL.out.symm, hB1⟩
        · have he := fun w => eql34_diff hax w
          have HN := Lib.hid (show ev ∉ H.ev.take (j + 1) by rw [take_snoc hla]; simp [hnot]; exact fun e => hax e.symm)
          clear hax hla hnot
          go_wp2
          refine wp_region_after (by kernel_rfl) (by kernel_rfl) ?_
          repeat (go_big_quiet_step (fail))
          refine wpQuiet_nil ?_
          intro w1 hb1
          have hB1 := hbr.trans (hb1.mono hbr.size)
          have hkp := hkp.later hb1
          have hk3 := hk3.later hb1
          clear Q Q0 Q1 Q2 P0 P1 P2 hb1 hbr he q0
          go_wp2
          go_roundw
          case rel => exact ⟨j + 1, by omega, by go_num, HN.out, hkp, hk3, hB1⟩
          case measure => simp [intOf]; omega
      · have HN := Lib.hid (show false = b by
          cases b with
          | false => rfl
          | true => exact absurd (HM.out.1 rfl) (by rwa [List.take_of_length_le (by rw [r2.1]; omega)] at hnot))
        have hB1 := hBN.trans (hbr.mono hBN.size)
        clear hnot hkp hk3 hbr
        go_wp2
        go_ret
        exact ⟨ret_bool HN.out, hB1⟩
  by_cases k3 : kd = 3
  · have HM := Lib.hid (show b = true ↔ strk H.fr H.til tn tm by rw [HB.out]; unfold fireP; simp [k3])
    subst k3
    have hft : -1 ≤ H.fr ∧ H.fr ≤ H.til ∧ H.til ≤ 1073741824 ∧ (H.fr = -1 → H.til = -1) := by rcases HW with ⟨_, _, _⟩ | ⟨_, _⟩ <;> omega
    obtain ⟨hf0, hf1, hf2, hf3⟩ := hft
    have HF3 := Lib.hid hf3
    clear HB k1 k2 HW hf3
    have q2 := hk3.at 2 (v := .int .i64 H.fr) rfl
    have hwr : wrap64 (H.fr + 1) = H.fr + 1 := by unfold wrap64; omega
    have hkp0 := hkp
    have hk30 := hk3
    go_wp2
    clear hwr
    go_loopw [10] (fun i wr => ∃ m : Int, H.fr < m ∧ m ≤ H.til + 1 ∧ i = .int .i64 m ∧ (∀ m', H.fr < m' → m' < m → ¬ hit tn tm m') ∧ Blk wr w.heap.size 36 (tgC ⟨3, key, ev, nm, tn, tm⟩) ∧ Blk wr wN.heap.size 26 (hpC ⟨A1, n1, c1, A2, n2, c2, A3, n3, c3⟩ H) ∧ Below W3.heap.size W3 wr) (fun i _ => (H.til + 1 - intOf i).toNat)
    case atStart => exact ⟨H.fr + 1, by omega, by omega, by go_num, fun m' _ _ => by omega, hkp0, hk30, Below.refl _ _⟩
    case round =>
      clear hkp hk3 t0 hkp0 hk30 q2
      obtain ⟨m, hm1, hm2, rfl, hno, hkp, hk3, hbr⟩ := hrel
      have q3 := hk3.at 3 (v := .int .i64 H.til) rfl
      have q9 := hkp.at 9 (v := .int .i64 tm) rfl
      have hBr := hBN.trans (hbr.mono hBN.size)
      by_cases hlt : m ≤ H.til
      · by_cases hm : 1 ≤ tm ∧ tm ≤ 127
        · obtain ⟨g3, g4⟩ := hm
          have hm0 : 0 ≤ m := by have := HF3.out; omega
          have H1 : ∀ p : After wr, Calls Try.prog 37 #[.int .i64 m] p.w fun e w' => e = .returned (.int .i64 (m % 1440)) ∧ ∃ q : After wr, w' = q.w := fun p => p.same (ofday37 m p.w hm0 (by omega))
          have H2 : ∀ p : After wr, Calls Try.prog 38 #[.int .i64 m] p.w fun e w' => e = .returned (.int .i64 ((m / 1440 + 5) % 7)) ∧ ∃ q : After wr, w' = q.w := fun p => p.same (wday38 m p.w hm0 (by omega))
          have Q9 := After.cell q9
          have Q8 := After.cell (hkp.at 8 (v := .int .i64 tn) rfl)
          by_cases hd : m % 1440 = tn
          · have hd' : (m % 1440 == tn) = true := by rw [hd]; simp
            have hk : 0 ≤ (m / 1440 + 5) % 7 := by omega
            cases hbit : bitB tm m with
            | true =>
              have HF := Lib.hid (HM.out.2 ⟨by omega, by omega, m, hm1, hlt, hd, hbit⟩)
              have hbit' : (bits BinOp.and IntKind.i64 (tm / 2 ^ ((m / 1440 + 5) % 7).toNat) 1 == 1) = true := hbit
              clear hno hd hbit
              generalize hx : (m / 1440 + 5) % 7 = x at *
              go_wp2
              refine wp_region_after (by kernel_rfl) (by kernel_rfl) ?_
              repeat (go_big_quiet_step (first | (with_reducible exact H1 _) | (with_reducible exact H2 _)))
              refine wpQuiet_nil ?_
              intro w1 hb1
              have hB1 := hBr.trans (hb1.mono hBr.size)
              clear H1 H2 Q8 Q9 hb1 q3 q9 hkp hk3 hbr hBr
              go_wp2
              go_ret
              exact ⟨ret_bool HF.out.symm, hB1⟩
            | false =>
              have HN : Hid (∀ m', H.fr < m' → m' < m + 1 → ¬ hit tn tm m') := Lib.hid (fun m' h1 h2 h3 => by
                rcases Int.lt_or_le m' m with h | h
                · exact hno m' h1 h h3
                · obtain rfl : m' = m := by omega
                  have := h3.2; rw [hbit] at this; cases this)
              have hbit' : (bits BinOp.and IntKind.i64 (tm / 2 ^ ((m / 1440 + 5) % 7).toNat) 1 == 1) = false := hbit
              clear hno hd hbit
              generalize hx : (m / 1440 + 5) % 7 = x at *
              go_wp2
              refine wp_region_after (by kernel_rfl) (by kernel_rfl) ?_
              repeat (go_big_quiet_step (first | (with_reducible exact H1 _) | (with_reducible exact H2 _)))
              refine wpQuiet_nil ?_
              intro w1 hb1
              have hB1 := hbr.trans (hb1.mono hbr.size)
              have hkp := hkp.later hb1
              have hk3 := hk3.later hb1
              clear H1 H2 Q8 Q9 hb1 q3 q9 hbr hBr
              go_wp2
              go_roundw
              case rel => exact ⟨m + 1, by omega, by omega, by go_num, HN.out, hkp, hk3, hB1⟩
              case measure => simp [intOf]; omega
          · have hd' : (m % 1440 == tn) = false := by rw [beq_eq_false_iff_ne]; exact hd
            have HN : Hid (∀ m', H.fr < m' → m' < m + 1 → ¬ hit tn tm m') := Lib.hid (fun m' h1 h2 h3 => by
                rcases Int.lt_or_le m' m with h | h
                · exact hno m' h1 h h3
                · obtain rfl : m' = m := by omega
                  exact hd h3.1)
            clear hno hd
            go_wp2
            refine wp_region_after (by kernel_rfl) (by kernel_rfl) ?_
            repeat (go_big_quiet_step (first | (with_reducible exact H1 _) | (with_reducible exact H2 _)))
            refine wpQuiet_nil ?_
            intro w1 hb1
            have hB1 := hbr.trans (hb1.mono hbr.size)
            have hkp := hkp.later hb1
            have hk3 := hk3.later hb1
            clear H1 H2 Q8 Q9 hb1 q3 q9 hbr hBr
            go_wp2
            go_roundw
            case rel => exact ⟨m + 1, by omega, by omega, by go_num, HN.out, hkp, hk3, hB1⟩
            case measure => simp [intOf]; omega
        · have HF := Lib.hid (show false = b by
            cases b with
            | false => rfl
            | true =>
              obtain ⟨k1, k2, _⟩ := HM.out.1 rfl
              exact absurd ⟨k1, k2⟩ hm)
          clear hno
          rcases (show tm < 1 ∨ (¬ tm < 1 ∧ 127 < tm) by omega) with g1 | ⟨g1, g2⟩
          all_goals
            clear hm
            go_wp2
            go_ret
            exact ⟨ret_bool HF.out, hBr⟩
      · have HF := Lib.hid (show false = b by
          cases b with
          | false => rfl
          | true =>
            obtain ⟨k1, k2, m', m1, m2, hm⟩ := HM.out.1 rfl
            exact absurd hm (hno m' m1 (by omega)))
        clear hno
        go_wp2
        go_ret
        exact ⟨ret_bool HF.out, hBr⟩
  by_cases k4 : kd = 4
  · have HM := Lib.hid (show b = true ↔ (H.mode ≠ noText ∧ (nm = noText ∨ nm = H.mode)) by rw [HB.out]; unfold fireP; simp [k4])
    subst k4
    have p4 := hk3.at 4 (v := .string H.mode) rfl
    have t1 := hkp.at 7 (v := .string nm) rfl
    clear hkp hk3 HB k1 k2 k3 HW
    by_cases m0 : H.mode = noText
    · have hm := isEmpty_yes m0
      have HE := Lib.hid (show false = b by cases b with
        | false => rfl
        | true => exact absurd m0 (HM.out.1 rfl).1)
      clear m0 HM
      go_wp2
      go_ret
      exact ⟨ret_bool HE.out, hBN⟩
    · have hm := isEmpty_no m0
      by_cases m1 : nm = noText
      · have hm1 := isEmpty_yes m1
        have HE := Lib.hid (show true = b from (HM.out.2 ⟨m0, .inl m1⟩).symm)
        clear m0 m1 HM
        go_wp2
        go_ret
        exact ⟨ret_bool HE.out, hBN⟩
      · have hm1 := isEmpty_no m1
        by_cases m2 : nm = H.mode
        · have hm2 : (nm.toList == H.mode.toList) = true := by rw [m2]; simp
          have HE := Lib.hid (show true = b from (HM.out.2 ⟨m0, .inr m2⟩).symm)
          clear m0 m1 m2 HM
          go_wp2
          go_ret
          exact ⟨ret_bool HE.out, hBN⟩
        · have hm2 : (nm.toList == H.mode.toList) = false := by rw [beq_eq_false_iff_ne]; exact fun e => m2 (bytes_toList e)
          have HE := Lib.hid (show false = b by cases b with
            | false => rfl
            | true => exact ((HM.out.1 rfl).2.elim m1 m2).elim)
          clear m0 m1 m2 HM
          go_wp2
          go_ret
          exact ⟨ret_bool HE.out, hBN⟩
  by_cases k5 : kd = 5
  · have HM := Lib.hid (show H.st = b by
      have : b = true ↔ H.st = true := by rw [HB.out]; unfold fireP; simp [k5]
      cases b <;> cases hs : H.st <;> simp_all)
    subst k5
    have p5 := hk3.at 5 (v := .bool H.st) rfl
    clear hkp hk3 HB k1 k2 k3 k4 HW
    go_wp2
    go_ret
    exact ⟨ret_bool HM.out, hBN⟩
  by_cases k6 : kd = 6
  · have HM := Lib.hid (show b = true ↔ r ∈ H.held by rw [HB.out]; unfold fireP; simp [k6])
    subst k6
    have C := Lib.hid (index39 A3 n3 c3 H.held r W3 (by omega) r3)
    have p6 := hk3.at 6 (v := .slice A3 n3 c3) rfl
    clear hkp hk3 HB k1 k2 k3 k4 k5 HW
    go_wp2_with fail
    refine C.out.mono ?_
    rintro e w1 ⟨⟨i, rfl, hi⟩, rfl⟩
    clear p6 C
    rcases hi with ⟨rfl, hn⟩ | ⟨j, rfl, hj, _⟩
    · have HE := Lib.hid (show false = b by cases b with
        | false => rfl
        | true => exact absurd (HM.out.1 rfl) hn)
      clear hn HM
      go_wp2
      go_ret
      exact ⟨ret_bool HE.out, hBN⟩
    · have HE := Lib.hid (show true = b from (HM.out.2 (List.mem_of_getElem? hj)).symm)
      clear hj HM
      have hd : (0 : Int) ≤ (j : Int) := by omega
      go_wp2
      go_ret
      exact ⟨ret_bool HE.out, hBN⟩
  · have HM := Lib.hid (show false = b by
      cases b with
      | false => rfl
      | true => have := HB.out.1 rfl; unfold fireP at this; simp [k1, k2, k3, k4, k5, k6] at this)
    have d1 : (kd == 1) = false := by rw [beq_eq_false_iff_ne]; exact k1
    have d2 : (kd == 2) = false := by rw [beq_eq_false_iff_ne]; exact k2
    have d3 : (kd == 3) = false := by rw [beq_eq_false_iff_ne]; exact k3
    have d4 : (kd == 4) = false := by rw [beq_eq_false_iff_ne]; exact k4
    have d5 : (kd == 5) = false := by rw [beq_eq_false_iff_ne]; exact k5
    have d6 : (kd == 6) = false := by rw [beq_eq_false_iff_ne]; exact k6
    clear hkp hk3 HB k1 k2 k3 k4 k5 k6 HW
    go_wp2
    go_ret
    exact ⟨ret_bool HM.out, hBN⟩
end Go.Proofs.Ytkdnkieecchobaa
