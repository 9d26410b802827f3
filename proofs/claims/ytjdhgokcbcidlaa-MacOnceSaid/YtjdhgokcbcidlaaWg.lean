/- The chapter's examples hold. -/
import Derived.Test.YtjdhgokcbcidlaaWf
namespace Go.Proofs.Ytjdhgokcbcidlaa
open Go.RowKit Go.BigFrame
set_option linter.unusedVariables false

def fA : Fr := ⟨2, 0, 1, 0, 0, 0, 0, false, ⟨#[]⟩⟩
def fB : Fr := ⟨2, 0, 2, 0, 0, 0, 0, true, ⟨#[]⟩⟩
theorem e1 : putS (List.take 16 []) fA = ([⟨fA, 0, 0⟩], true) := by rfl
theorem e2 : putS (List.take 16 [⟨fA, 0, 0⟩]) fB = ([⟨fB, 0, 0⟩, ⟨fA, 0, 0⟩], true) := by rfl
theorem e3 : resS (List.take 16 [⟨fB, 0, 0⟩, ⟨fA, 0, 0⟩]) 1 false = ([⟨fB, 0, 0⟩, ⟨fA, 1, 1⟩], false) := by rfl
theorem e4 : nextS (List.take 16 [⟨fB, 0, 0⟩, ⟨fA, 1, 1⟩]) = 0 := by rfl
theorem e5 : resS (List.take 16 [⟨fB, 0, 0⟩, ⟨fA, 1, 1⟩]) 0 true = ([⟨fA, 1, 1⟩], false) := by rfl
theorem e6 : nextS (List.take 16 [⟨fA, 1, 1⟩]) = -1 := by rfl
theorem w0 : wrap64 (1 - 1) = 0 := by decide +kernel
theorem e7 : (List.take 16 [⟨fA, 1, 1⟩]).map tick1 = [⟨fA, 1, 0⟩] := by
  show [tick1 ⟨fA, 1, 1⟩] = _
  unfold tick1
  rw [if_pos (by decide)]
  simp only [w0]
theorem e8 : nextS (List.take 16 [⟨fA, 1, 0⟩]) = 0 := by rfl

set_option maxHeartbeats 4000000 in
theorem lives9 (w : World) : Calls Try.prog 9 #[] w fun e w' => e = .returned (.bool true) ∧ Below w.heap.size w w' := by
  obtain ⟨W1, hW1, hBa, hza, hka⟩ := boxed w #[.int .i64 2, .int .i64 0, .int .i64 1, .int .i64 0, .int .i64 0, .int .i64 0, .int .i64 0, .bool false, .string ⟨#[]⟩] 24
  obtain ⟨W2, hW2, hBb, hzb, hkb⟩ := boxed W1 #[.int .i64 2, .int .i64 0, .int .i64 2, .int .i64 0, .int .i64 0, .int .i64 0, .int .i64 0, .bool true, .string ⟨#[]⟩] 24
  have hB2 : Below w.heap.size w W2 := hBa.trans (hBb.mono hBa.size)
  have ka := hka.later hBb
  have s1 : W1.heap.size = w.heap.size + 1 := by rw [← hW1]; simp
  rw [s1] at hkb
  have a0 := ka.at 0 (v := .int .i64 2) rfl
  have a1 := ka.at 1 (v := .int .i64 0) rfl
  have a2 := ka.at 2 (v := .int .i64 1) rfl
  have a3 := ka.at 3 (v := .int .i64 0) rfl
  have a4 := ka.at 4 (v := .int .i64 0) rfl
  have a5 := ka.at 5 (v := .int .i64 0) rfl
  have a6 := ka.at 6 (v := .int .i64 0) rfl
  have a7 := ka.at 7 (v := .bool false) rfl
  have a8 := ka.at 8 (v := .string ⟨#[]⟩) rfl
  have P1 : Hid (Calls Try.prog 10 #[.slice none 0 0, .agg #[.int .i64 2, .int .i64 0, .int .i64 1, .int .i64 0, .int .i64 0, .int .i64 0, .int .i64 0, .bool false, .string ⟨#[]⟩]] W2 (PtEnd W2 ([⟨fA, 0, 0⟩], true))) := Lib.hid (by have := put10 none 0 0 [] fA W2 (Nat.le_refl _) (by omega) (Rd.none_ _ _ _); rwa [e1] at this)
  have H1 := Lib.hid hW1
  have H2 := Lib.hid hW2
  clear hW1 hW2 hka hBa hBb hza hzb ka
  go_enter Try.func9, Try.ntmps9
  go_wp2_with fail
  rw [H1.out, H2.out]
  refine P1.out.mono ?_
  rintro e w3 ⟨A3, n3, p3, he, ho3, hb3⟩
  obtain rfl : e = .returned (.tuple #[.slice A3 n3 p3, .bool true]) := he
  obtain rfl : n3 = 1 := ho3.1.symm
  have hB3 := hB2.trans (hb3.mono hB2.size)
  have hk3 := hkb.later hb3
  have b0 := hk3.at 0 (v := .int .i64 2) rfl
  have b1 := hk3.at 1 (v := .int .i64 0) rfl
  have b2 := hk3.at 2 (v := .int .i64 2) rfl
  have b3 := hk3.at 3 (v := .int .i64 0) rfl
  have b4 := hk3.at 4 (v := .int .i64 0) rfl
  have b5 := hk3.at 5 (v := .int .i64 0) rfl
  have b6 := hk3.at 6 (v := .int .i64 0) rfl
  have b7 := hk3.at 7 (v := .bool true) rfl
  have b8 := hk3.at 8 (v := .string ⟨#[]⟩) rfl
  have P2 : Hid (Calls Try.prog 10 #[.slice A3 1 p3, .agg #[.int .i64 2, .int .i64 0, .int .i64 2, .int .i64 0, .int .i64 0, .int .i64 0, .int .i64 0, .bool true, .string ⟨#[]⟩]] w3 (PtEnd w3 ([⟨fB, 0, 0⟩, ⟨fA, 0, 0⟩], true))) := Lib.hid (by have := put10 A3 1 p3 [⟨fA, 0, 0⟩] fB w3 ho3.cap.1 ho3.cap.2 ho3.rd; rwa [e2] at this)
  clear P1 a0 a1 a2 a3 a4 a5 a6 a7 a8 hB2 hkb hb3 ho3 H1 H2
  go_wp2_with fail
  refine P2.out.mono ?_
  rintro e w4 ⟨A4, n4, p4, he, ho4, hb4⟩
  obtain rfl : e = .returned (.tuple #[.slice A4 n4 p4, .bool true]) := he
  obtain rfl : n4 = 2 := ho4.1.symm
  have hB4 := hB3.trans (hb4.mono hB3.size)
  have hk4 := hk3.later hb4
  have c0 := After.cell (hk4.at 0 (v := .int .i64 2) rfl)
  have c1 := After.cell (hk4.at 1 (v := .int .i64 0) rfl)
  have c2 := After.cell (hk4.at 2 (v := .int .i64 2) rfl)
  have c3 := After.cell (hk4.at 3 (v := .int .i64 0) rfl)
  have c4 := After.cell (hk4.at 4 (v := .int .i64 0) rfl)
  have c5 := After.cell (hk4.at 5 (v := .int .i64 0) rfl)
  have c6 := After.cell (hk4.at 6 (v := .int .i64 0) rfl)
  have c7 := After.cell (hk4.at 7 (v := .bool true) rfl)
  have c8 := After.cell (hk4.at 8 (v := .string ⟨#[]⟩) rfl)
  have hr4 := ho4.rd
  have hc4 := ho4.cap
  obtain ⟨b, off, x, hA4, hx, q0, q1, q2, q3, q4, q5, q6, q7, q8, q9, q10⟩ := snd_at hr4 (k := 0) (by omega)
  cases hx
  subst hA4
  simp only [Nat.zero_mul, Nat.add_zero] at q0 q1 q2 q3 q4 q5 q6 q7 q8
  have Q0 : ∀ p : After w4, p.w.cell? ⟨b, off, none⟩ = some (.int .i64 2) := After.cell q0
  have Q1 : ∀ p : After w4, p.w.cell? ⟨b, off + 1, none⟩ = some (.int .i64 0) := After.cell q1
  have Q2 : ∀ p : After w4, p.w.cell? ⟨b, off + 2, none⟩ = some (.int .i64 2) := After.cell q2
  have Q3 : ∀ p : After w4, p.w.cell? ⟨b, off + 3, none⟩ = some (.int .i64 0) := After.cell q3
  have Q4 : ∀ p : After w4, p.w.cell? ⟨b, off + 4, none⟩ = some (.int .i64 0) := After.cell q4
  have Q5 : ∀ p : After w4, p.w.cell? ⟨b, off + 5, none⟩ = some (.int .i64 0) := After.cell q5
  have Q6 : ∀ p : After w4, p.w.cell? ⟨b, off + 6, none⟩ = some (.int .i64 0) := After.cell q6
  have Q7 : ∀ p : After w4, p.w.cell? ⟨b, off + 7, none⟩ = some (.bool true) := After.cell q7
  have Q8 : ∀ p : After w4, p.w.cell? ⟨b, off + 8, none⟩ = some (.string ⟨#[]⟩) := After.cell q8
  have hne : ∀ w, (binOp .neq 24 (.agg #[.int .i64 2, .int .i64 0, .int .i64 2, .int .i64 0, .int .i64 0, .int .i64 0, .int .i64 0, .bool true, .string ⟨#[]⟩]) (.agg #[.int .i64 2, .int .i64 0, .int .i64 2, .int .i64 0, .int .i64 0, .int .i64 0, .int .i64 0, .bool true, .string ⟨#[]⟩])).run Try.prog w = .ok (.bool false) w := fun w => neq24_same (a := fB) rfl w
  clear P2 b0 b1 b2 b3 b4 b5 b6 b7 b8 hk3 hk4 hb4 ho4 hB3 q0 q1 q2 q3 q4 q5 q6 q7 q8 q9 q10
  go_wp2_with fail
  refine wp_region_after (by kernel_rfl) (by kernel_rfl) ?_
  repeat (go_big_quiet_step (fail))
  refine wpQuiet_nil ?_
  intro w5 hb5
  have hB5 := hB4.trans (hb5.mono hB4.size)
  have hr5 := hr4.later hb5
  have R1 : Hid (Calls Try.prog 13 #[.slice (some ⟨b, off, none⟩) 2 p4, .int .i64 1, .bool false] w5 (PtEnd w5 ([⟨fB, 0, 0⟩, ⟨fA, 1, 1⟩], false))) := Lib.hid (by have := result13 (some ⟨b, off, none⟩) 2 p4 _ 1 false w5 hc4.1 hc4.2 hr5; rwa [e3] at this)
  clear c0 c1 c2 c3 c4 c5 c6 c7 c8 Q0 Q1 Q2 Q3 Q4 Q5 Q6 Q7 Q8 hne hr4 hc4 hb5 hB4
  go_wp2_with fail
  refine R1.out.mono ?_
  rintro e w6 ⟨A6, n6, p6, he, ho6, hb6⟩
  obtain rfl : e = .returned (.tuple #[.slice A6 n6 p6, .bool false]) := he
  obtain rfl : n6 = 2 := ho6.1.symm
  have hB6 := hB5.trans (hb6.mono hB5.size)
  have hc6 := ho6.cap
  have X1 : Hid (Calls Try.prog 15 #[.slice A6 2 p6] w6 fun e w' => e = .returned (.int .i64 0) ∧ Below w6.heap.size w6 w') := Lib.hid (by have := next15 A6 2 p6 _ w6 hc6.1 hc6.2 ho6.rd; rwa [e4] at this)
  have hr6 := ho6.rd
  clear R1 ho6 hb6 hr5 hB5
  go_wp2_with fail
  refine X1.out.mono ?_
  rintro e w7 ⟨rfl, hb7⟩
  have hB7 := hB6.trans (hb7.mono hB6.size)
  have hr7 := hr6.later hb7
  have R2 : Hid (Calls Try.prog 13 #[.slice A6 2 p6, .int .i64 0, .bool true] w7 (PtEnd w7 ([⟨fA, 1, 1⟩], false))) := Lib.hid (by have := result13 A6 2 p6 _ 0 true w7 hc6.1 hc6.2 hr7; rwa [e5] at this)
  clear X1 hr6 hb7 hB6 hc6
  go_wp2_with fail
  refine R2.out.mono ?_
  rintro e w8 ⟨A8, n8, p8, he, ho8, hb8⟩
  obtain rfl : e = .returned (.tuple #[.slice A8 n8 p8, .bool false]) := he
  obtain rfl : n8 = 1 := ho8.1.symm
  have hB8 := hB7.trans (hb8.mono hB7.size)
  have hc8 := ho8.cap
  have hr8 := ho8.rd
  have X2 : Hid (Calls Try.prog 15 #[.slice A8 1 p8] w8 fun e w' => e = .returned (.int .i64 (-1)) ∧ Below w8.heap.size w8 w') := Lib.hid (by have := next15 A8 1 p8 _ w8 hc8.1 hc8.2 hr8; rwa [e6] at this)
  obtain ⟨b', off', y, hA8, hy, r0, r1, r2, r3, r4, r5, r6, r7, r8, r9, r10⟩ := snd_at hr8 (k := 0) (by omega)
  cases hy
  subst hA8
  simp only [Nat.zero_mul, Nat.add_zero] at r9 r10
  clear R2 ho8 hb8 hr7 hB7 r0 r1 r2 r3 r4 r5 r6 r7 r8
  go_wp2_with fail
  refine X2.out.mono ?_
  rintro e w9 ⟨rfl, hb9⟩
  have hB9 := hB8.trans (hb9.mono hB8.size)
  have hr9 := hr8.later hb9
  have T1 : Hid (Calls Try.prog 17 #[.slice (some ⟨b', off', none⟩) 1 p8] w9 (SlEnd w9 [⟨fA, 1, 0⟩])) := Lib.hid (by have := tick17 (some ⟨b', off', none⟩) 1 p8 _ w9 hc8.1 hc8.2 hr9; rwa [e7] at this)
  clear X2 hr8 hb9 hB8 r9 r10
  go_wp2_with fail
  refine T1.out.mono ?_
  rintro e w10 ⟨A10, n10, p10, rfl, ho10, hb10⟩
  obtain rfl : n10 = 1 := ho10.1.symm
  have hB10 := hB9.trans (hb10.mono hB9.size)
  have X3 : Hid (Calls Try.prog 15 #[.slice A10 1 p10] w10 fun e w' => e = .returned (.int .i64 0) ∧ Below w10.heap.size w10 w') := Lib.hid (by have := next15 A10 1 p10 _ w10 ho10.cap.1 ho10.cap.2 ho10.rd; rwa [e8] at this)
  clear T1 ho10 hb10 hr9 hB9 hc8
  go_wp2_with fail
  refine X3.out.mono ?_
  rintro e w11 ⟨rfl, hb11⟩
  have hB11 := hB10.trans (hb11.mono hB10.size)
  go_wp2
  go_ret
  exact ⟨rfl, hB11⟩
end Go.Proofs.Ytjdhgokcbcidlaa
