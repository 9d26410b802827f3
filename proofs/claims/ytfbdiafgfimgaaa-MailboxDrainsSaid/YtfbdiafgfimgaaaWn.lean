/- The walk of MailboxOrders. -/
import Derived.Test.YtfbdiafgfimgaaaWi
import Derived.Test.YtfbdiafgfimgaaaOrd
namespace Go.Proofs.Ytfbdiafgfimgaaa
open Go.RowKit Go.BigFrame
set_option linter.unusedVariables false

/-- The nine cells of a frame that is read. -/
theorem frame_at {w : World} {A : Option Addr} {n : Nat} {l : List Fr} (h : Rd w EF A n l) {k : Nat} (hk : k < n) :
    ∃ (b off : Nat) (a : Fr), A = some ⟨b, off, none⟩ ∧ l[k]? = some a ∧
      w.cell? ⟨b, off + k * 9, none⟩ = some (.int .i64 a.kind) ∧ w.cell? ⟨b, off + k * 9 + 1, none⟩ = some (.int .i64 a.src) ∧ w.cell? ⟨b, off + k * 9 + 2, none⟩ = some (.int .i64 a.to) ∧
      w.cell? ⟨b, off + k * 9 + 3, none⟩ = some (.int .i64 a.source) ∧ w.cell? ⟨b, off + k * 9 + 4, none⟩ = some (.int .i64 a.target) ∧ w.cell? ⟨b, off + k * 9 + 5, none⟩ = some (.int .i64 a.seq) ∧
      w.cell? ⟨b, off + k * 9 + 6, none⟩ = some (.int .i64 a.hops) ∧ w.cell? ⟨b, off + k * 9 + 7, none⟩ = some (.bool a.urgent) ∧ w.cell? ⟨b, off + k * 9 + 8, none⟩ = some (.string a.data) := by
  obtain ⟨b, off, a, e1, e2, hc⟩ := h.elem hk
  exact ⟨b, off, a, e1, e2, hc 0 _ rfl, hc 1 _ rfl, hc 2 _ rfl, hc 3 _ rfl, hc 4 _ rfl, hc 5 _ rfl, hc 6 _ rfl, hc 7 _ rfl, hc 8 _ rfl⟩

set_option maxHeartbeats 1000000 in
theorem ordered13 (A : Option Addr) (n cap : Nat) (l : List Mail) (w : World) (hn : n ≤ 100) (hr : Rd w EM A n l) (ho : ∀ (j : Nat) (a b : Mail), l[j]? = some a → l[j + 1]? = some b → b.f.urgent = true → a.f.urgent = true) :
    Calls Try.prog 13 #[.slice A n cap] w fun e w' => e = .returned (.bool true) ∧ Below w.heap.size w w' := by
  have HO := Lib.hid ho
  have hw0 := Below.refl w.heap.size w
  clear ho
  go_enter Try.func13, Try.ntmps13
  go_wp2
  go_loop [3] (fun i => ∃ p q : Nat, q = p + 1 ∧ i = .int .i64 q ∧ p ≤ n) (fun i => n + 1 - (intOf i).toNat)
  case atStart => exact ⟨0, 1, rfl, rfl, by omega⟩
  case round =>
    obtain ⟨p, q, hpq, rfl, hp⟩ := hrel
    have HQ := Lib.hid hpq
    have hip : (q : Int) - 1 = p := by omega
    by_cases hlt : q < n
    · obtain ⟨b, off, a, rfl, hla, q0, q1, q2, q3, q4, q5, q6, q7, q8, q9⟩ := mail_at hr hlt
      obtain ⟨b', off', a', hA, hla', p0, p1, p2, p3, p4, p5, p6, p7, p8, p9⟩ := mail_at hr (k := p) (by omega)
      cases hA
      have hu := HO.out p a' a hla' (by rw [← hpq]; exact hla)
      clear q0 q1 q2 q3 q4 q5 q6 q8 q9 p0 p1 p2 p3 p4 p5 p6 p8 p9 hla hla' hpq
      cases hau : a.f.urgent with
      | true =>
        rw [hu hau] at p7
        rw [hau] at q7
        clear hu hau
        go_wp2
        go_round
        case rel => exact ⟨p + 1, q + 1, by rw [HQ.out], by go_num, by have := HQ.out; omega⟩
        case measure => simp [intOf]; omega
      | false =>
        rw [hau] at q7
        clear hu hau
        go_wp2
        go_round
        case rel => exact ⟨p + 1, q + 1, by rw [HQ.out], by go_num, by have := HQ.out; omega⟩
        case measure => simp [intOf]; omega
    · clear hpq
      go_wp2
      go_ret
      exact ⟨rfl, hw0⟩

theorem lim_id {j : Nat} (h : j ≤ 1000) : lim (j : Int) = j := by
  unfold lim
  rw [if_neg (by omega), if_neg (by omega)]

set_option maxHeartbeats 4000000 in
theorem lawOrders4 (A : Option Addr) (n cap : Nat) (l : List Fr) (w : World) (hn : n ≤ cap) (hcap : cap ≤ 9223372036854775807) (hr : Rd w EF A n l) :
    Calls Try.prog 4 #[.slice A n cap] w fun e w' => e = .returned (.bool true) ∧ Below w.heap.size w w' := by
  have LV : Hid (∀ w, Calls Try.prog 9 #[] w fun e w' => e = .returned (.bool true) ∧ Below w.heap.size w w') := Lib.hid lives9
  by_cases h : 60 < n
  · go_enter Try.func4, Try.ntmps4
    go_wp2_with fail
    refine (LV.out _).mono ?_
    rintro e w1 ⟨rfl, hb⟩
    go_wp2
    go_ret
    exact ⟨rfl, hb⟩
  · go_enter Try.func4, Try.ntmps4
    go_wp2
    go_loopw [3, 4] (fun m i wr => ∃ (j m' cap' : Nat) (A' : Option Addr) (M : List Mail), j ≤ n ∧ i = .int .i64 j ∧ m = .slice A' m' cap' ∧ m' ≤ cap' ∧ cap' ≤ 9223372036854775807 ∧ Rd wr EM A' m' M ∧ Inv l j M ∧ Below w.heap.size w wr) (fun _ i _ => n - (intOf i).toNat)
    case atStart => exact ⟨0, 0, 0, none, [], by omega, rfl, rfl, by omega, by omega, Rd.none_ _ _ _, Inv.nil l, Below.refl _ _⟩
    case round =>
      obtain ⟨j, m', cap', A', M, hj, rfl, rfl, hmc, hc', hM, hI, hbr⟩ := hrel
      have HI := Lib.hid hI
      have hm16 : m' ≤ 16 := by rw [← hM.1]; exact hI.1
      clear hI
      by_cases hlt : j < n
      · obtain ⟨b, off, f, rfl, hlf, q0, q1, q2, q3, q4, q5, q6, q7, q8⟩ := frame_at (hr.later hbr) hlt
        have P : Hid (Calls Try.prog 10 #[.slice A' m' cap', frV f, .int .i64 j] wr (PtEnd wr (putM M ⟨f, j⟩))) := Lib.hid (by
          have := put10 A' m' cap' M f j wr hmc hc' hM
          rw [List.take_of_length_le HI.out.1, lim_id (by omega)] at this
          exact this)
        have HN := Lib.hid (inv_put HI.out hlf)
        generalize putM M ⟨f, j⟩ = r at *
        obtain ⟨r1, r2⟩ := r
        clear HI hlf hM hmc hc'
        go_wp2_with fail
        refine P.out.mono ?_
        rintro e w1 ⟨A1, n1, c1, he, ho1, hb1⟩
        obtain rfl : e = .returned (.tuple #[.slice A1 n1 c1, .bool r2]) := he
        have hn1 : n1 ≤ 16 := by rw [← ho1.1]; exact HN.out.1
        have hr1 := ho1.rd
        have hc1 := ho1.cap
        have OD := Lib.hid (ordered13 A1 n1 c1 r1 w1 (by omega) hr1 (fun j a b h1 h2 => (HN.out.two h1 h2).1))
        have hB1 := hbr.trans (hb1.mono hbr.size)
        clear P ho1 hb1 hbr q0 q1 q2 q3 q4 q5 q6 q7 q8
        go_wp2_with fail
        refine OD.out.mono ?_
        rintro e w2 ⟨rfl, hb2⟩
        have hr2 := hr1.later hb2
        have hB2 := hB1.trans (hb2.mono hB1.size)
        clear OD hb2 hr1 hB1
        go_wp2
        go_roundw
        case rel => exact ⟨j + 1, n1, c1, A1, r1, by omega, by go_num, rfl, hc1.1, hc1.2, hr2, HN.out, hB2⟩
        case measure => simp [intOf]; omega
      · obtain rfl : j = n := by omega
        clear hlt hj
        obtain ⟨wo, rfl⟩ : ∃ wo : World, wo = wr := ⟨_, rfl⟩
        go_wp2
        go_loopw [5] (fun i wq => ∃ k : Nat, k ≤ m' ∧ i = .int .i64 k ∧ Below wo.heap.size wo wq) (fun i _ => m' - (intOf i).toNat)
        case atStart => exact ⟨0, by omega, rfl, Below.refl _ _⟩
        case round =>
          obtain ⟨k, hk, rfl, hbq⟩ := hrel
          by_cases hkm : k < m'
          · obtain ⟨b, off, a, rfl, hla, q0, q1, q2, q3, q4, q5, q6, q7, q8, q9⟩ := mail_at (hM.later hbq) hkm
            obtain ⟨p, hp, hlp, hs⟩ := HI.out.at hla
            obtain ⟨b', off', f, hA, hlf, r0, r1, r2, r3, r4, r5, r6, r7, r8⟩ := frame_at (hr.later (hbr.trans (hbq.mono hbr.size))) hp
            subst hA
            obtain rfl : a.f = f := by rw [hlp] at hlf; exact Option.some.inj hlf
            rw [hs] at q9
            have Q0 := After.cell q0
            have Q1 := After.cell q1
            have Q2 := After.cell q2
            have Q3 := After.cell q3
            have Q4 := After.cell q4
            have Q5 := After.cell q5
            have Q6 := After.cell q6
            have Q7 := After.cell q7
            have Q8 := After.cell q8
            have R0 := After.cell r0
            have R1 := After.cell r1
            have R2 := After.cell r2
            have R3 := After.cell r3
            have R4 := After.cell r4
            have R5 := After.cell r5
            have R6 := After.cell r6
            have R7 := After.cell r7
            have R8 := After.cell r8
            have hne := fun w => neq24_same (a := a.f) rfl w
            have hge : decide ((p : Int) < 0) = false := decide_eq_false (by omega)
            have hgl : decide (j ≤ p) = false := decide_eq_false (by omega)
            by_cases hk0 : k = 0
            · have HK0 := Lib.hid hk0
              have hz : decide (0 < k) = false := decide_eq_false (by omega)
              clear hk0
              clear q0 q1 q2 q3 q4 q5 q6 q7 q8 r0 r1 r2 r3 r4 r5 r6 r7 r8 hla hlp hs hlf
              go_wp2
              refine wp_region_after (by kernel_rfl) (by kernel_rfl) ?_
              repeat (go_big_quiet_step (fail))
              refine wpQuiet_nil ?_
              intro w2 hb2
              have hB2 := hbq.trans (hb2.mono hbq.size)
              clear Q0 Q1 Q2 Q3 Q4 Q5 Q6 Q7 Q8 R0 R1 R2 R3 R4 R5 R6 R7 R8
              go_wp2
              go_roundw
              case rel => exact ⟨k + 1, by omega, by go_num, hB2⟩
              case measure => simp [intOf]; omega
            · obtain ⟨k', hq⟩ : ∃ k', k = k' + 1 := ⟨k - 1, by omega⟩
              obtain ⟨b2, off2, c, hA, hlc, s0, s1, s2, s3, s4, s5, s6, s7, s8, s9⟩ := mail_at (hM.later hbq) (k := k') (by omega)
              cases hA
              obtain ⟨p', hp', hlp', hs'⟩ := HI.out.at hlc
              have HR := Lib.hid (HI.out.two hlc (by rw [← hq]; exact hla))
              rw [hs'] at s9
              have S7 := After.cell s7
              have S9 := After.cell s9
              have hip : (k : Int) - 1 = k' := by omega
              have hz : decide (0 < k) = true := decide_eq_true (by omega)
              by_cases hu : c.f.urgent = a.f.urgent
              · have hub : (c.f.urgent == a.f.urgent) = true := by rw [hu]; cases a.f.urgent <;> rfl
                have hlt2 : decide (p ≤ p') = false := decide_eq_false (by have := HR.out.2 hu; rw [hs, hs'] at this; omega)
                clear q0 q1 q2 q3 q4 q5 q6 q7 q8 r0 r1 r2 r3 r4 r5 r6 r7 r8 s0 s1 s2 s3 s4 s5 s6 s7 s8 s9 hla hlp hs hs' hlf hlc hlp' hu hq
                go_wp2
                refine wp_region_after (by kernel_rfl) (by kernel_rfl) ?_
                repeat (go_big_quiet_step (fail))
                refine wpQuiet_nil ?_
                intro w2 hb2
                have hB2 := hbq.trans (hb2.mono hbq.size)
                clear Q0 Q1 Q2 Q3 Q4 Q5 Q6 Q7 Q8 R0 R1 R2 R3 R4 R5 R6 R7 R8 S7 S9
                go_wp2
                go_roundw
                case rel => exact ⟨k + 1, by omega, by go_num, hB2⟩
                case measure => simp [intOf]; omega
              · have hub : (c.f.urgent == a.f.urgent) = false := by simpa using hu
                clear q0 q1 q2 q3 q4 q5 q6 q7 q8 r0 r1 r2 r3 r4 r5 r6 r7 r8 s0 s1 s2 s3 s4 s5 s6 s7 s8 s9 hla hlp hs hs' hlf hlc hlp' hu hq
                go_wp2
                refine wp_region_after (by kernel_rfl) (by kernel_rfl) ?_
                repeat (go_big_quiet_step (fail))
                refine wpQuiet_nil ?_
                intro w2 hb2
                have hB2 := hbq.trans (hb2.mono hbq.size)
                clear Q0 Q1 Q2 Q3 Q4 Q5 Q6 Q7 Q8 R0 R1 R2 R3 R4 R5 R6 R7 R8 S7 S9
                go_wp2
                go_roundw
                case rel => exact ⟨k + 1, by omega, by go_num, hB2⟩
                case measure => simp [intOf]; omega
          · go_wp2_with fail
            refine (LV.out _).mono ?_
            rintro e w3 ⟨rfl, hb3⟩
            have hB3 := hbr.trans ((hbq.trans (hb3.mono hbq.size)).mono hbr.size)
            go_wp2
            go_ret
            exact ⟨rfl, hB3⟩
end Go.Proofs.Ytfbdiafgfimgaaa
