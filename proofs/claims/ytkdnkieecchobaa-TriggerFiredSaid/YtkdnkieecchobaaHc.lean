/- Same of happenings; the examples; the law Norms. -/
import Derived.Test.YtkdnkieecchobaaHb
import Derived.Test.YtkdnkieecchobaaWe
namespace Go.Proofs.Ytkdnkieecchobaa
open Go.RowKit Go.BigFrame
set_option linter.unusedVariables false

set_option maxRecDepth 20000 in
set_option maxHeartbeats 8000000 in
theorem same13 (c d : Hc) (h : Hap) (w : World) (hc : HRd w c h) (hd : HRd w d h) (b1 : c.n1 ≤ 200) (b2 : c.n2 ≤ 200) (b3 : c.n3 ≤ 200) :
    Calls Try.prog 13 #[hpV c h, hpV d h] w fun e w' => e = .returned (.bool true) ∧ Below w.heap.size w w' := by
  obtain ⟨A1, n1, c1, A2, n2, c2, A3, n3, c3⟩ := c
  obtain ⟨B1, m1, d1, B2, m2, d2, B3, m3, d3⟩ := d
  have e1 : m1 = n1 := by have h1 : h.ch.length = n1 := hc.r1.1; have h2 : h.ch.length = m1 := hd.r1.1; omega
  have e2 : m2 = n2 := by have h1 : h.ev.length = n2 := hc.r2.1; have h2 : h.ev.length = m2 := hd.r2.1; omega
  have e3 : m3 = n3 := by have h1 : h.held.length = n3 := hc.r3.1; have h2 : h.held.length = m3 := hd.r3.1; omega
  subst e1 e2 e3
  obtain ⟨r1, r2, r3⟩ := hc
  obtain ⟨s1, s2, s3⟩ := hd
  simp only at r1 r2 r3 s1 s2 s3 b1 b2 b3
  obtain ⟨W, hW, hB, hz, hk⟩ := boxeds w #[.slice A1 m1 c1, .slice A2 m2 c2, .int .i64 h.fr, .int .i64 h.til, .string h.mode, .bool h.st, .slice A3 m3 c3] 26
  obtain ⟨W2, hW2, hB2, hz2, hk2⟩ := boxeds W #[.slice B1 m1 d1, .slice B2 m2 d2, .int .i64 h.fr, .int .i64 h.til, .string h.mode, .bool h.st, .slice B3 m3 d3] 26
  have hkp := hk.later hB2
  have hBx := hB.trans (hB2.mono (by omega))
  have p0 := hkp.at 0 (v := .slice A1 m1 c1) rfl
  have p2 := hkp.at 2 (v := .int .i64 h.fr) rfl
  have p3 := hkp.at 3 (v := .int .i64 h.til) rfl
  have p4 := hkp.at 4 (v := .string h.mode) rfl
  have p5 := hkp.at 5 (v := .bool h.st) rfl
  have q0 := hk2.at 0 (v := .slice B1 m1 d1) rfl
  have q2 := hk2.at 2 (v := .int .i64 h.fr) rfl
  have q3 := hk2.at 3 (v := .int .i64 h.til) rfl
  have q4 := hk2.at 4 (v := .string h.mode) rfl
  have q5 := hk2.at 5 (v := .bool h.st) rfl
  have KE := Lib.hid (keys_eq A1 B1 m1 c1 d1 h.ch W2 (by omega) (r1.later hBx) (s1.later hBx))
  have Z := Lib.hid (show W2.heap.size = w.heap.size + 2 by omega)
  have Z1 := Lib.hid hz
  clear hz hz2
  go_enter Try.func13, Try.ntmps13
  go_wp2_with fail
  refine KE.out.mono ?_
  rintro e w1 ⟨rfl, hb1⟩
  clear p0 p2 p3 p4 p5 q0 q2 q3 q4 q5 KE
  have z := Z.out
  have hB1 := hBx.trans (hb1.mono (by omega))
  have hkp := hkp.later hb1
  have hkq := hk2.later hb1
  have p6 := hkp.at 6 (v := .slice A3 m3 c3) rfl
  have q6 := hkq.at 6 (v := .slice B3 m3 d3) rfl
  have TE := Lib.hid (texts_eq A3 B3 m3 c3 d3 h.held w1 (by omega) (r3.later hB1) (s3.later hB1))
  clear z hk2 hb1
  go_wp2_with fail
  refine TE.out.mono ?_
  rintro e w2 ⟨rfl, hb2⟩
  have z := Z.out
  have hBy := hB1.trans (hb2.mono hB1.size)
  have hkp := hkp.later hb2
  have hkq := hkq.later hb2
  have p1 := hkp.at 1 (v := .slice A2 m2 c2) rfl
  have q1 := hkq.at 1 (v := .slice B2 m2 d2) rfl
  have hb0 := hBy
  clear z p6 q6 TE hb2
  go_wp2
  clear p1 q1
  go_loopw [5] (fun i wr => ∃ j : Nat, j ≤ m2 ∧ i = .int .i64 j ∧ Blk wr w.heap.size 26 #[.slice A1 m1 c1, .slice A2 m2 c2, .int .i64 h.fr, .int .i64 h.til, .string h.mode, .bool h.st, .slice A3 m3 c3] ∧ Blk wr W.heap.size 26 #[.slice B1 m1 d1, .slice B2 m2 d2, .int .i64 h.fr, .int .i64 h.til, .string h.mode, .bool h.st, .slice B3 m3 d3] ∧ Below w.heap.size w wr) (fun i _ => m2 - (intOf i).toNat)
  case atStart => exact ⟨0, by omega, rfl, hkp, hkq, hBy⟩
  case round =>
    clear hkp hkq hBy hb0
    obtain ⟨j, hj, rfl, hkp, hkq, hbr⟩ := hrel
    have p1 := hkp.at 1 (v := .slice A2 m2 c2) rfl
    have q1 := hkq.at 1 (v := .slice B2 m2 d2) rfl
    by_cases hlt : j < m2
    · obtain ⟨b, off, a, hA, hla, x0, x1, x2⟩ := ky_at (r2.later hbr) hlt
      obtain ⟨b', off', a', hA', hla', y0, y1, y2⟩ := ky_at (s2.later hbr) hlt
      obtain rfl : a = a' := by rw [hla] at hla'; exact Option.some.inj hla'
      subst hA hA'
      have P := After.cell p1
      have Q := After.cell q1
      have Q0 := After.cell x0
      have Q1 := After.cell x1
      have Q2 := After.cell x2
      have P0 := After.cell y0
      have P1 := After.cell y1
      have P2 := After.cell y2
      have he := fun w => neq34_same (a := a) rfl w
      clear x0 x1 x2 y0 y1 y2 hla hla' r1 r2 r3 s1 s2 s3
      go_wp2
      refine wp_region_after (by kernel_rfl) (by kernel_rfl) ?_
      repeat (go_big_quiet_step (fail))
      refine wpQuiet_nil ?_
      intro w3 hb3
      have hB3 := hbr.trans (hb3.mono hbr.size)
      have hkp := hkp.later hb3
      have hkq := hkq.later hb3
      clear P Q Q0 Q1 Q2 P0 P1 P2 hb3 p1 q1 hbr
      go_wp2
      go_roundw
      case rel => exact ⟨j + 1, by omega, by go_num, hkp, hkq, hB3⟩
      case measure => simp [intOf]; omega
    · go_wp2
      go_ret
      exact ⟨rfl, hbr⟩
end Go.Proofs.Ytkdnkieecchobaa
