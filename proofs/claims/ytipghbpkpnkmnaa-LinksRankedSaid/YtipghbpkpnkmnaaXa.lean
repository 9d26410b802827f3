/- Quotients, costs and qualities of the document's answer. -/
import Derived.Test.YtipghbpkpnkmnaaMo
namespace Go.Proofs.Ytipghbpkpnkmnaa
open Go.RowKit Go.BigFrame
set_option linter.unusedVariables false

theorem sat42 (x : Int) (w : World) (h0 : -100000 ≤ x) (h1 : x ≤ 100000) : Calls Try.prog 42 #[.int .i64 x] w fun e w' => e = .returned (.int .i64 x) ∧ w = w' := by
  have d1 : decide (1099511627776 < x) = false := decide_eq_false (by omega)
  have d2 : decide (x < -1099511627776) = false := decide_eq_false (by omega)
  go_enter Try.func42, Try.ntmps42
  go_wp2
  go_ret
  exact ⟨rfl, rfl⟩
set_option maxHeartbeats 1000000 in
theorem floor36 (x y : Int) (w : World) (h0 : 0 ≤ x) (h1 : x ≤ 100000) (h2 : 0 ≤ y) (h3 : y ≤ 1000) : Calls Try.prog 36 #[.int .i64 x, .int .i64 y] w fun e w' => e = .returned (.int .i64 (floorD x y)) ∧ w = w' := by
  have S1 := Lib.hid (fun w => sat42 x w (by omega) h1)
  have S2 := Lib.hid (fun w => sat42 y w (by omega) (by omega))
  by_cases hy : y = 0
  · have HF := Lib.hid (show floorD x y = 0 by unfold floorD; rw [if_pos hy])
    subst hy
    go_enter Try.func36, Try.ntmps36
    go_wp2_with fail
    refine (S1.out _).mono ?_
    rintro e w1 ⟨rfl, rfl⟩
    go_wp2_with fail
    refine (S2.out _).mono ?_
    rintro e w1 ⟨rfl, rfl⟩
    go_wp2
    go_ret
    exact ⟨ret_int HF.out.symm, rfl⟩
  · have HF := Lib.hid (show floorD x y = x / y by unfold floorD; rw [if_neg hy])
    have hyp : 0 < y := by omega
    have hyb : (y == 0) = false := by simpa using hy
    have hdx : decide (x < 0) = false := decide_eq_false (by omega)
    have hdy : decide (y < 0) = false := decide_eq_false (by omega)
    go_enter Try.func36, Try.ntmps36
    go_wp2_with fail
    refine (S1.out _).mono ?_
    rintro e w1 ⟨rfl, rfl⟩
    go_wp2_with fail
    refine (S2.out _).mono ?_
    rintro e w1 ⟨rfl, rfl⟩
    go_wp2
    all_goals (go_ret; exact ⟨ret_int HF.out.symm, rfl⟩)
theorem tdiv_neg' (x y : Int) (h0 : 0 ≤ x) : (-x).tdiv y = -(x / y) := by rw [Int.neg_tdiv, Int.tdiv_eq_ediv_of_nonneg h0]
theorem tmod_neg' (x y : Int) (h0 : 0 ≤ x) : (-x).tmod y = -(x % y) := by rw [Int.neg_tmod, Int.tmod_eq_emod_of_nonneg h0]
set_option maxHeartbeats 1000000 in
theorem floor36n (x y : Int) (w : World) (h0 : 0 ≤ x) (h1 : x ≤ 100000) (h2 : 0 < y) (h3 : y ≤ 1000) : Calls Try.prog 36 #[.int .i64 (-x), .int .i64 y] w fun e w' => e = .returned (.int .i64 (-(ceilD x y))) ∧ w = w' := by
  have S1 := Lib.hid (fun w => sat42 (-x) w (by omega) (by omega))
  have S2 := Lib.hid (fun w => sat42 y w (by omega) (by omega))
  have hq0 : 0 ≤ x / y := Int.ediv_nonneg h0 (by omega)
  have hq1 : x / y ≤ x := Int.ediv_le_self y h0
  have e1 := tdiv_neg' x y h0
  have e2 := tmod_neg' x y h0
  have hyb : (y == 0) = false := by simp; omega
  have hdy : decide (y < 0) = false := decide_eq_false (by omega)
  by_cases hm : x % y = 0
  · have HF := Lib.hid (show ceilD x y = x / y by unfold ceilD; rw [if_pos hm])
    go_enter Try.func36, Try.ntmps36
    go_wp2_with fail
    refine (S1.out _).mono ?_
    rintro e w1 ⟨rfl, rfl⟩
    go_wp2_with fail
    refine (S2.out _).mono ?_
    rintro e w1 ⟨rfl, rfl⟩
    go_wp2
    go_ret
    exact ⟨ret_int (by rw [HF.out]), rfl⟩
  · have HF := Lib.hid (show ceilD x y = x / y + 1 by unfold ceilD; rw [if_neg hm])
    have hx0 : 0 < x := by
      rcases Int.lt_or_eq_of_le h0 with h | h
      · exact h
      · exact absurd (by rw [← h]; exact Int.zero_emod y) hm
    have hdx : decide (-x < 0) = true := decide_eq_true (by omega)
    have hmb : (x % y != 0) = true := by rw [bne_iff_ne]; exact hm
    have hmn : (-(x % y) != 0) = true := by rw [bne_iff_ne]; omega
    go_enter Try.func36, Try.ntmps36
    go_wp2_with fail
    refine (S1.out _).mono ?_
    rintro e w1 ⟨rfl, rfl⟩
    go_wp2_with fail
    refine (S2.out _).mono ?_
    rintro e w1 ⟨rfl, rfl⟩
    go_wp2
    go_ret
    exact ⟨ret_int (by rw [HF.out]; omega), rfl⟩
theorem ceil34 (x y : Int) (w : World) (h0 : 0 ≤ x) (h1 : x ≤ 100000) (h2 : 0 < y) (h3 : y ≤ 1000) : Calls Try.prog 34 #[.int .i64 x, .int .i64 y] w fun e w' => e = .returned (.int .i64 (ceilD x y)) ∧ w = w' := by
  have S1 := Lib.hid (fun w => sat42 x w (by omega) h1)
  have S2 := Lib.hid (fun w => floor36n x y w h0 h1 h2 h3)
  have hq0 : 0 ≤ x / y := Int.ediv_nonneg h0 (by omega)
  have hq1 : x / y ≤ x := Int.ediv_le_self y h0
  have hc : 0 ≤ ceilD x y ∧ ceilD x y ≤ 100001 := by unfold ceilD; split <;> omega
  obtain ⟨c0, c1⟩ := hc
  generalize ceilD x y = c at *
  clear hq0 hq1
  go_enter Try.func34, Try.ntmps34
  go_wp2_with fail
  refine (S1.out _).mono ?_
  rintro e w1 ⟨rfl, rfl⟩
  go_wp2_with fail
  refine (S2.out _).mono ?_
  rintro e w1 ⟨rfl, rfl⟩
  go_wp2
  go_ret
  exact ⟨ret_int (by omega), rfl⟩

set_option maxHeartbeats 2000000 in
theorem succ33 (a : Link) (w : World) (h0 : 0 ≤ a.bits) (h1 : a.bits < 65536) : Calls Try.prog 33 #[lkV a] w fun e w' => e = .returned (.int .i64 (pc a.bits)) ∧ Below w.heap.size w w' := by
  obtain ⟨W, hW, hB, hz, hk⟩ := boxed w #[.int .i64 a.node, .int .i64 a.bits, .int .i64 a.count] 38
  obtain ⟨K, hK⟩ : ∃ K : Nat, a.bits = K := ⟨a.bits.toNat, by omega⟩
  have hK65 : K < 65536 := by omega
  have q1 := hk.at 1 (v := .int .i64 a.bits) rfl
  rw [hK] at q1 ⊢
  have HP := Lib.hid (pc_le (K : Int))
  have HK := Lib.hid hK
  clear h0 h1
  clear hK
  go_enter Try.func33, Try.ntmps33
  go_wp2
  go_loop [3, 4] (fun n x => ∃ c k : Nat, k < 65536 ∧ c ≤ 16 ∧ n = .int .i64 c ∧ x = .int .i64 k ∧ Hid (c + pc (k : Int) = pc (K : Int))) (fun _ x => (intOf x).toNat)
  case atStart => exact ⟨0, K, hK65, by omega, rfl, rfl, Lib.hid (by omega)⟩
  case round =>
    obtain ⟨c, k, hk, hc, rfl, rfl, hp⟩ := hrel
    by_cases hk0 : 0 < k
    · have HN : Hid (c + k % 2 + pc ((k / 2 : Nat) : Int) = pc (K : Int)) := Lib.hid (by rw [← hp.out, pc_step hk]; omega)
      have hc2 : c + k % 2 ≤ 16 := by have := HN.out; have := HP.out; omega
      clear hp
      go_wp2
      go_round
      case rel => exact ⟨c + k % 2, k / 2, by omega, hc2, by go_num, by go_num, HN⟩
      case measure => simp [intOf]; omega
    · obtain rfl : k = 0 := by omega
      have HC : Hid (c = pc (K : Int)) := Lib.hid (by have h := hp.out; have h0 := pc_zero; simp only [Int.natCast_zero] at h; omega)
      clear hp
      go_wp2
      go_ret
      exact ⟨ret_int (by rw [HC.out]), hB⟩

set_option maxRecDepth 20000 in
set_option maxHeartbeats 4000000 in
theorem cost18 (A : Option Addr) (n cap : Nat) (l : List Link) (v : Int) (w : World) (hn : n ≤ 9223372036854775807) (hr : Rd w EL A n l) :
    Calls Try.prog 18 #[.slice A n cap, .int .i64 v] w fun e w' => e = .returned (.int .i64 (costT (tab l) v)) ∧ Below w.heap.size w w' := by
  have AT := Lib.hid (at28 A n cap l v w hn hr)
  have HC := Lib.hid (costT_at (tab_good l).2.1 v)
  have HG : ∀ a, atR (tab l) v = some a → ¬ bad a := fun a h => (tab_good l).2.2 a (List.mem_of_find?_eq_some h)
  generalize costT (tab l) v = r at *
  generalize atR (tab l) v = o at *
  clear hr
  cases o with
  | none =>
    have HR : Hid (r = 255) := Lib.hid HC.out
    clear HC HG
    go_enter Try.func18, Try.ntmps18
    go_wp2_with fail
    refine AT.out.mono ?_
    rintro e w1 ⟨rfl, hb1⟩
    obtain ⟨x, hx⟩ : ∃ x, (none : Option Link).getD l0 = x := ⟨_, rfl⟩
    rw [hx]
    obtain ⟨V, hV, hBV, hzV, hkV⟩ := boxed w1 #[.int .i64 x.node, .int .i64 x.bits, .int .i64 x.count] 38
    have hBV1 := hb1.trans (hBV.mono hb1.size)
    clear AT hb1 hx
    simp only [Option.isSome_none]
    go_wp2
    go_ret
    exact ⟨ret_int HR.out.symm, hBV1⟩
  | some a =>
    obtain ⟨_, _, b3, b4, b5, _, b7⟩ := good_bits (HG a rfl)
    have HP := Lib.hid (pc_le a.bits)
    have SU := Lib.hid (fun w => succ33 a w b5 b7)
    have HR : Hid (r = if (pc a.bits : Int) = 0 then 255 else ceilD (10 * a.count) (pc a.bits)) := Lib.hid HC.out
    clear HC HG
    generalize pc a.bits = c at *
    go_enter Try.func18, Try.ntmps18
    go_wp2_with fail
    refine AT.out.mono ?_
    rintro e w1 ⟨rfl, hb1⟩
    obtain ⟨V, hV, hBV, hzV, hkV⟩ := boxed w1 #[.int .i64 a.node, .int .i64 a.bits, .int .i64 a.count] 38
    have hBV1 := hb1.trans (hBV.mono hb1.size)
    have q0 := hkV.at 0 (v := .int .i64 a.node) rfl
    have q1 := hkV.at 1 (v := .int .i64 a.bits) rfl
    have q2 := hkV.at 2 (v := .int .i64 a.count) rfl
    clear AT hb1 hkV
    simp only [Option.getD_some, Option.isSome_some]
    by_cases hc : c = 0
    · have HR2 := Lib.hid (show r = 255 by rw [HR.out, hc]; rfl)
      subst hc
      clear HR
      go_wp2_with fail
      refine (SU.out _).mono ?_
      rintro e w2 ⟨rfl, hb2⟩
      go_wp2
      go_ret
      exact ⟨ret_int HR2.out.symm, hBV1.trans (hb2.mono hBV1.size)⟩
    · have HR2 := Lib.hid (show r = ceilD (10 * a.count) c by rw [HR.out, if_neg (by omega)])
      have hcb : ((c : Int) == 0) = false := by simp; omega
      have hc16 : c ≤ 16 := HP.out
      have CE := Lib.hid (fun w => ceil34 (10 * a.count) c w (by omega) (by omega) (by omega) (by omega))
      clear HR hc HP
      go_wp2_with fail
      refine (SU.out _).mono ?_
      rintro e w2 ⟨rfl, hb2⟩
      have hB2 := hBV1.trans (hb2.mono hBV1.size)
      have q0 := keep hb2 q0
      have q1 := keep hb2 q1
      have q2 := keep hb2 q2
      have Q0 := After.cell q0
      have Q1 := After.cell q1
      have Q2 := After.cell q2
      have C1 := fun q : After w2 => q.of (SU.out q.w)
      have C2 := fun q : After w2 => q.same (CE.out q.w)
      clear SU CE q0 q1 q2
      go_wp2
      refine wp_region_after_tail 6 (by kernel_rfl) (by kernel_rfl) ?_
      simp only [List.take_succ_cons, List.take_zero, List.drop_succ_cons, List.drop_zero]
      repeat (go_big_quiet_step (first | (with_reducible exact C1 _) | (with_reducible exact C2 _)))
      refine wpQuiet_nil ?_
      intro w3 hb3
      have hB3 := hB2.trans (hb3.mono hB2.size)
      clear C1 C2 Q0 Q1 Q2
      go_wp2
      go_ret
      exact ⟨ret_int HR2.out.symm, hB3⟩
end Go.Proofs.Ytipghbpkpnkmnaa
