/- The chapter's examples hold. -/
import Derived.Test.YtipghbpkpnkmnaaWi
namespace Go.Proofs.Ytipghbpkpnkmnaa
open Go.RowKit Go.BigFrame
set_option linter.unusedVariables false

theorem t0 : tab [] = [] := by rfl
theorem t1 : tab [⟨5, 1, 1⟩] = [⟨5, 1, 1⟩] := tab_ok (by decide +kernel)
theorem t2 : tab [⟨5, 2, 2⟩] = [⟨5, 2, 2⟩] := tab_ok (by decide +kernel)
theorem t3 : tab [⟨5, 5, 3⟩] = [⟨5, 5, 3⟩] := tab_ok (by decide +kernel)
theorem t4 : tab [⟨2, 0, 1⟩, ⟨5, 5, 3⟩] = [⟨2, 0, 1⟩, ⟨5, 5, 3⟩] := tab_ok (by decide +kernel)
theorem u1 : seenT [] 5 true = [⟨5, 1, 1⟩] := by rfl
theorem u2 : seenT [⟨5, 1, 1⟩] 5 false = [⟨5, 2, 2⟩] := by rfl
theorem u3 : seenT [⟨5, 2, 2⟩] 5 true = [⟨5, 5, 3⟩] := by rfl
theorem u4 : seenT [⟨5, 5, 3⟩] 2 false = [⟨2, 0, 1⟩, ⟨5, 5, 3⟩] := by rfl
theorem u5 : costT [⟨5, 5, 3⟩] 5 = 15 := by rfl
theorem u6 : qualT [⟨5, 5, 3⟩] 5 = 66 := by rfl
theorem u7 : costT [⟨2, 0, 1⟩, ⟨5, 5, 3⟩] 2 = 255 := by rfl
theorem u8 : bestU [⟨2, 0, 1⟩, ⟨5, 5, 3⟩] [⟨2, 0, 1⟩, ⟨5, 5, 3⟩] = [5] := by rfl

set_option maxHeartbeats 4000000 in
theorem lives9 (w : World) : Calls Try.prog 9 #[] w fun e w' => e = .returned (.bool true) ∧ Below w.heap.size w w' := by
  have S1 : Hid (Calls Try.prog 11 #[.slice none 0 0, .int .i64 5, .bool true] w (SlEnd w [⟨5, 1, 1⟩])) := Lib.hid (by have := seen11 none 0 0 [] 5 true w (by omega) (Rd.none_ _ _ _); rwa [t0, u1] at this)
  go_enter Try.func9, Try.ntmps9
  go_wp2_with fail
  refine S1.out.mono ?_
  rintro e w1 ⟨A1, n1, c1, rfl, ho1, hb1⟩
  obtain rfl : n1 = 1 := ho1.1.symm
  have S2 : Hid (Calls Try.prog 11 #[.slice A1 1 c1, .int .i64 5, .bool false] w1 (SlEnd w1 [⟨5, 2, 2⟩])) := Lib.hid (by have := seen11 A1 1 c1 _ 5 false w1 (by omega) ho1.rd; rwa [t1, u2] at this)
  clear ho1 S1
  go_wp2_with fail
  refine S2.out.mono ?_
  rintro e w2 ⟨A2, n2, c2, rfl, ho2, hb2⟩
  obtain rfl : n2 = 1 := ho2.1.symm
  have hB2 := hb1.trans (hb2.mono hb1.size)
  have S3 : Hid (Calls Try.prog 11 #[.slice A2 1 c2, .int .i64 5, .bool true] w2 (SlEnd w2 [⟨5, 5, 3⟩])) := Lib.hid (by have := seen11 A2 1 c2 _ 5 true w2 (by omega) ho2.rd; rwa [t2, u3] at this)
  clear ho2 S2 hb1 hb2
  go_wp2_with fail
  refine S3.out.mono ?_
  rintro e w3 ⟨A3, n3, c3, rfl, ho3, hb3⟩
  obtain rfl : n3 = 1 := ho3.1.symm
  have hB3 := hB2.trans (hb3.mono hB2.size)
  have hr3 := ho3.rd
  have S4 : Hid (Calls Try.prog 11 #[.slice A3 1 c3, .int .i64 2, .bool false] w3 (SlEnd w3 [⟨2, 0, 1⟩, ⟨5, 5, 3⟩])) := Lib.hid (by have := seen11 A3 1 c3 _ 2 false w3 (by omega) hr3; rwa [t3, u4] at this)
  clear ho3 S3 hb3 hB2
  go_wp2_with fail
  refine S4.out.mono ?_
  rintro e w4 ⟨A4, n4, c4, rfl, ho4, hb4⟩
  obtain rfl : n4 = 2 := ho4.1.symm
  have hB4 := hB3.trans (hb4.mono hB3.size)
  have hr34 := hr3.later hb4
  have hr4 := ho4.rd
  obtain ⟨V, hV, hBV, hzV, hkV⟩ := boxed w4 #[.int .i64 5, .int .i64 5, .int .i64 3] 38
  have hrN : Rd V EL (some ⟨w4.heap.size, 0, none⟩) 1 [⟨5, 5, 3⟩] := by rw [← hV]; exact link_one ⟨5, 5, 3⟩ w4 38
  have hBV4 := hB4.trans (hBV.mono hB4.size)
  have X1 := Lib.hid (same_eq A3 (some ⟨w4.heap.size, 0, none⟩) 1 c3 1 [⟨5, 5, 3⟩] V (by omega) (hr34.later hBV) hrN)
  have hr3V := hr34.later hBV
  have hr4V := hr4.later hBV
  clear S4 ho4 hb4 hB3 hr3 hr34 hr4 hkV hrN
  go_wp2_with fail
  refine X1.out.mono ?_
  rintro e w5 ⟨rfl, hb5⟩
  have hB5 := hBV4.trans (hb5.mono hBV4.size)
  have hr35 := hr3V.later hb5
  have hr45 := hr4V.later hb5
  have X2 : Hid (Calls Try.prog 16 #[.slice A3 1 c3, .int .i64 5] w5 fun e w' => e = .returned (.int .i64 15) ∧ Below w5.heap.size w5 w') := Lib.hid (by have := cost16 A3 1 c3 _ 5 w5 (by omega) hr35; rwa [t3, u5] at this)
  clear X1 hb5 hBV4 hr3V hr4V hBV hV hB4
  go_wp2_with fail
  refine X2.out.mono ?_
  rintro e w6 ⟨rfl, hb6⟩
  have hB6 := hB5.trans (hb6.mono hB5.size)
  have hr36 := hr35.later hb6
  have hr46 := hr45.later hb6
  have X3 : Hid (Calls Try.prog 19 #[.slice A3 1 c3, .int .i64 5] w6 fun e w' => e = .returned (.int .i64 66) ∧ Below w6.heap.size w6 w') := Lib.hid (by have := qual19 A3 1 c3 _ 5 w6 (by omega) hr36; rwa [t3, u6] at this)
  clear X2 hb6 hB5 hr35 hr45
  go_wp2_with fail
  refine X3.out.mono ?_
  rintro e w7 ⟨rfl, hb7⟩
  have hB7 := hB6.trans (hb7.mono hB6.size)
  have hr47 := hr46.later hb7
  have X4 : Hid (Calls Try.prog 16 #[.slice A4 2 c4, .int .i64 2] w7 fun e w' => e = .returned (.int .i64 255) ∧ Below w7.heap.size w7 w') := Lib.hid (by have := cost16 A4 2 c4 _ 2 w7 (by omega) hr47; rwa [t4, u7] at this)
  clear X3 hb7 hB6 hr36 hr46
  go_wp2_with fail
  refine X4.out.mono ?_
  rintro e w8 ⟨rfl, hb8⟩
  have hB8 := hB7.trans (hb8.mono hB7.size)
  have hr48 := hr47.later hb8
  have X5 : Hid (Calls Try.prog 22 #[.slice A4 2 c4] w8 (IlEnd w8 [5])) := Lib.hid (best22 A4 2 c4 _ [5] w8 (by omega) hr48 (by rw [t4, u8]; exact sortOk_tiny _ _ _ _ _ (by simp)))
  clear X4 hb8 hB7 hr47
  go_wp2_with fail
  refine X5.out.mono ?_
  rintro e w9 ⟨A9, n9, c9, rfl, ho9, hb9⟩
  obtain rfl : n9 = 1 := ho9.1.symm
  have hB9 := hB8.trans (hb9.mono hB8.size)
  obtain ⟨U, hU, hBU, hzU, hkU⟩ := boxed w9 #[.int .i64 5] 3
  have hrU : Rd U EI (some ⟨w9.heap.size, 0, none⟩) 1 [5] := by rw [← hU]; exact int_one 5 w9 3
  have hBU9 := hB9.trans (hBU.mono hB9.size)
  have X6 := Lib.hid (same21 A9 (some ⟨w9.heap.size, 0, none⟩) 1 c9 1 [5] U (by omega) (ho9.rd.later hBU) hrU)
  clear X5 hb9 hB8 ho9 hkU hrU
  go_wp2_with fail
  refine X6.out.mono ?_
  rintro e w10 ⟨rfl, hb10⟩
  have hB10 := hBU9.trans (hb10.mono hBU9.size)
  go_wp2
  go_ret
  exact ⟨rfl, hB10⟩
end Go.Proofs.Ytipghbpkpnkmnaa
