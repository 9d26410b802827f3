/- The chapter's examples hold. -/
import Derived.Test.YtfbdiafgfimgaaaWg
namespace Go.Proofs.Ytfbdiafgfimgaaa
open Go.RowKit Go.BigFrame
set_option linter.unusedVariables false

def mkF (dst : Int) (u : Bool) (d : ByteArray) : Fr := ⟨2, 0, dst, 0, 0, 0, 0, u, d⟩
theorem frame20 (dst : Int) (u : Bool) (d : ByteArray) (w : World) : Calls Try.prog 20 #[.int .i64 dst, .bool u, .string d] w fun e w' => e = .returned (frV (mkF dst u d)) ∧ Below w.heap.size w w' := by
  obtain ⟨W, hW, hB, hz, hk⟩ := boxed w #[.int .i64 2, .int .i64 0, .int .i64 dst, .int .i64 0, .int .i64 0, .int .i64 0, .int .i64 0, .bool u, .string d] 24
  have a0 := hk.at 0 (v := .int .i64 2) rfl
  have a1 := hk.at 1 (v := .int .i64 0) rfl
  have a2 := hk.at 2 (v := .int .i64 dst) rfl
  have a3 := hk.at 3 (v := .int .i64 0) rfl
  have a4 := hk.at 4 (v := .int .i64 0) rfl
  have a5 := hk.at 5 (v := .int .i64 0) rfl
  have a6 := hk.at 6 (v := .int .i64 0) rfl
  have a7 := hk.at 7 (v := .bool u) rfl
  have a8 := hk.at 8 (v := .string d) rfl
  go_enter Try.func20, Try.ntmps20
  go_wp2
  refine bodyPost_ret (v := frV (mkF dst u d)) (by simp [results, Try.results20, go_sem, a0, a1, a2, a3, a4, a5, a6, a7, a8, mkF]) rfl ?_
  exact ⟨rfl, hB⟩
def fA : Fr := mkF 1 false ⟨#[97]⟩
def fB : Fr := mkF 2 true ⟨#[98]⟩
def fC : Fr := mkF 2 false ⟨#[99]⟩
theorem e1 : putM (List.take 16 []) ⟨fA, lim 5⟩ = ([⟨fA, 5⟩], true) := by rfl
theorem e2 : putM (List.take 16 [⟨fA, 5⟩]) ⟨fB, lim 5⟩ = ([⟨fB, 5⟩, ⟨fA, 5⟩], true) := by rfl
theorem e3 : putM (List.take 16 [⟨fB, 5⟩, ⟨fA, 5⟩]) ⟨fC, lim 5⟩ = ([⟨fB, 5⟩, ⟨fA, 5⟩, ⟨fC, 5⟩], true) := by rfl
theorem e4 : takeL 1 ((List.take 16 [⟨fB, 5⟩, ⟨fA, 5⟩, ⟨fC, 5⟩]).filter (live 7 2)) = (some fA, [⟨fB, 5⟩, ⟨fC, 5⟩]) := by rfl
theorem e5 : takeL 1 ((List.take 16 [⟨fB, 5⟩, ⟨fA, 5⟩, ⟨fC, 5⟩]).filter (live 8 2)) = (none, []) := by rfl
theorem e6 : cnt 2 (List.take 16 [⟨fB, 5⟩, ⟨fA, 5⟩, ⟨fC, 5⟩]) = 2 := by rfl

set_option maxHeartbeats 4000000 in
theorem lives9 (w : World) : Calls Try.prog 9 #[] w fun e w' => e = .returned (.bool true) ∧ Below w.heap.size w w' := by
  have FA : Hid (∀ w, Calls Try.prog 20 #[.int .i64 1, .bool false, .string ⟨#[97]⟩] w fun e w' => e = .returned (frV fA) ∧ Below w.heap.size w w') := Lib.hid (fun w => frame20 1 false ⟨#[97]⟩ w)
  have FB : Hid (∀ w, Calls Try.prog 20 #[.int .i64 2, .bool true, .string ⟨#[98]⟩] w fun e w' => e = .returned (frV fB) ∧ Below w.heap.size w w') := Lib.hid (fun w => frame20 2 true ⟨#[98]⟩ w)
  have FC : Hid (∀ w, Calls Try.prog 20 #[.int .i64 2, .bool false, .string ⟨#[99]⟩] w fun e w' => e = .returned (frV fC) ∧ Below w.heap.size w w') := Lib.hid (fun w => frame20 2 false ⟨#[99]⟩ w)
  have hw0 := Below.refl w.heap.size w
  go_enter Try.func9, Try.ntmps9
  go_wp2_with fail
  refine (FA.out _).mono ?_
  rintro e w1 ⟨rfl, hb1⟩
  go_wp2_with fail
  refine (FB.out _).mono ?_
  rintro e w2 ⟨rfl, hb2⟩
  go_wp2_with fail
  refine (FC.out _).mono ?_
  rintro e w3 ⟨rfl, hb3⟩
  have hB3 := (hb1.trans (hb2.mono hb1.size)).trans (hb3.mono (Nat.le_trans hb1.size hb2.size))
  clear hb1 hb2 hb3 FA FB FC
  obtain ⟨W1, hW1, hBa, hza, hka⟩ := boxed w3 #[.int .i64 fA.kind, .int .i64 fA.src, .int .i64 fA.to, .int .i64 fA.source, .int .i64 fA.target, .int .i64 fA.seq, .int .i64 fA.hops, .bool fA.urgent, .string fA.data] 24
  obtain ⟨W2, hW2, hBb, hzb, hkb⟩ := boxed W1 #[.int .i64 fB.kind, .int .i64 fB.src, .int .i64 fB.to, .int .i64 fB.source, .int .i64 fB.target, .int .i64 fB.seq, .int .i64 fB.hops, .bool fB.urgent, .string fB.data] 24
  obtain ⟨W3, hW3, hBc, hzc, hkc⟩ := boxed W2 #[.int .i64 fC.kind, .int .i64 fC.src, .int .i64 fC.to, .int .i64 fC.source, .int .i64 fC.target, .int .i64 fC.seq, .int .i64 fC.hops, .bool fC.urgent, .string fC.data] 24
  have hB4 : Below w.heap.size w W3 := ((hB3.trans (hBa.mono hB3.size)).trans (hBb.mono (Nat.le_trans hB3.size hBa.size))).trans (hBc.mono (Nat.le_trans (Nat.le_trans hB3.size hBa.size) hBb.size))
  have s1 : W1.heap.size = w3.heap.size + 1 := by rw [← hW1]; simp
  have s2 : W2.heap.size = w3.heap.size + 1 + 1 := by rw [← hW2]; simp [s1]
  have H1 := Lib.hid hW1
  have H2 := Lib.hid hW2
  have H3 := Lib.hid hW3
  have ka := (hka.later hBb).later hBc
  have kb := hkb.later hBc
  have kc := hkc
  rw [s1] at kb
  rw [s2] at kc
  have a0 := ka.at 0 (v := .int .i64 fA.kind) rfl
  have a1 := ka.at 1 (v := .int .i64 fA.src) rfl
  have a2 := ka.at 2 (v := .int .i64 fA.to) rfl
  have a3 := ka.at 3 (v := .int .i64 fA.source) rfl
  have a4 := ka.at 4 (v := .int .i64 fA.target) rfl
  have a5 := ka.at 5 (v := .int .i64 fA.seq) rfl
  have a6 := ka.at 6 (v := .int .i64 fA.hops) rfl
  have a7 := ka.at 7 (v := .bool fA.urgent) rfl
  have a8 := ka.at 8 (v := .string fA.data) rfl
  have b0 := kb.at 0 (v := .int .i64 fB.kind) rfl
  have b1 := kb.at 1 (v := .int .i64 fB.src) rfl
  have b2 := kb.at 2 (v := .int .i64 fB.to) rfl
  have b3 := kb.at 3 (v := .int .i64 fB.source) rfl
  have b4 := kb.at 4 (v := .int .i64 fB.target) rfl
  have b5 := kb.at 5 (v := .int .i64 fB.seq) rfl
  have b6 := kb.at 6 (v := .int .i64 fB.hops) rfl
  have b7 := kb.at 7 (v := .bool fB.urgent) rfl
  have b8 := kb.at 8 (v := .string fB.data) rfl
  have c0 := kc.at 0 (v := .int .i64 fC.kind) rfl
  have c1 := kc.at 1 (v := .int .i64 fC.src) rfl
  have c2 := kc.at 2 (v := .int .i64 fC.to) rfl
  have c3 := kc.at 3 (v := .int .i64 fC.source) rfl
  have c4 := kc.at 4 (v := .int .i64 fC.target) rfl
  have c5 := kc.at 5 (v := .int .i64 fC.seq) rfl
  have c6 := kc.at 6 (v := .int .i64 fC.hops) rfl
  have c7 := kc.at 7 (v := .bool fC.urgent) rfl
  have c8 := kc.at 8 (v := .string fC.data) rfl
  have P1 : Hid (Calls Try.prog 10 #[.slice none 0 0, frV fA, .int .i64 5] W3 (PtEnd W3 ([⟨fA, 5⟩], true))) := Lib.hid (by have := put10 none 0 0 [] fA 5 W3 (Nat.le_refl _) (by omega) (Rd.none_ _ _ _); rwa [e1] at this)
  clear hka hkb hkc hBa hBb hBc hza hzb hzc ka kb kc hW1 hW2 hW3 s1 s2
  go_wp2_with fail
  rw [H1.out, H2.out, H3.out]
  refine P1.out.mono ?_
  rintro e w4 ⟨A4, n4, p4, rfl, ho4, hb4⟩
  obtain rfl : n4 = 1 := ho4.1.symm
  have hB5 := hB4.trans (hb4.mono hB4.size)
  have b0' := keep hb4 b0
  have b1' := keep hb4 b1
  have b2' := keep hb4 b2
  have b3' := keep hb4 b3
  have b4' := keep hb4 b4
  have b5' := keep hb4 b5
  have b6' := keep hb4 b6
  have b7' := keep hb4 b7
  have b8' := keep hb4 b8
  have c0' := keep hb4 c0
  have c1' := keep hb4 c1
  have c2' := keep hb4 c2
  have c3' := keep hb4 c3
  have c4' := keep hb4 c4
  have c5' := keep hb4 c5
  have c6' := keep hb4 c6
  have c7' := keep hb4 c7
  have c8' := keep hb4 c8
  have P2 : Hid (Calls Try.prog 10 #[.slice A4 1 p4, frV fB, .int .i64 5] w4 (PtEnd w4 ([⟨fB, 5⟩, ⟨fA, 5⟩], true))) := Lib.hid (by have := put10 A4 1 p4 [⟨fA, 5⟩] fB 5 w4 ho4.cap.1 ho4.cap.2 ho4.rd; rwa [e2] at this)
  clear P1 H1 H2 H3
  go_wp2_with fail
  refine P2.out.mono ?_
  rintro e w5 ⟨A5, n5, p5, rfl, ho5, hb5⟩
  obtain rfl : n5 = 2 := ho5.1.symm
  have hB6 := hB5.trans (hb5.mono hB5.size)
  have c0'' := keep hb5 c0'
  have c1'' := keep hb5 c1'
  have c2'' := keep hb5 c2'
  have c3'' := keep hb5 c3'
  have c4'' := keep hb5 c4'
  have c5'' := keep hb5 c5'
  have c6'' := keep hb5 c6'
  have c7'' := keep hb5 c7'
  have c8'' := keep hb5 c8'
  have P3 : Hid (Calls Try.prog 10 #[.slice A5 2 p5, frV fC, .int .i64 5] w5 (PtEnd w5 ([⟨fB, 5⟩, ⟨fA, 5⟩, ⟨fC, 5⟩], true))) := Lib.hid (by have := put10 A5 2 p5 [⟨fB, 5⟩, ⟨fA, 5⟩] fC 5 w5 ho5.cap.1 ho5.cap.2 ho5.rd; rwa [e3] at this)
  clear P2
  go_wp2_with fail
  refine P3.out.mono ?_
  rintro e w6 ⟨A6, n6, p6, rfl, ho6, hb6⟩
  obtain rfl : n6 = 3 := ho6.1.symm
  have hB7 := hB6.trans (hb6.mono hB6.size)
  have hcap6 := ho6.cap
  have hr6 := ho6.rd
  have T1 : Hid (Calls Try.prog 14 #[.slice A6 3 p6, .int .i64 1, .int .i64 7, .int .i64 2] w6 (TkEnd w6 (some fA, [⟨fB, 5⟩, ⟨fC, 5⟩]))) := Lib.hid (by have := take14 A6 3 p6 _ 1 7 2 w6 hcap6.1 hcap6.2 hr6; rwa [e4] at this)
  clear P3 ho6 ho5 ho4
  go_wp2_with fail
  refine T1.out.mono ?_
  rintro e w7 ⟨A7, n7, p7, he, ho7, hb7⟩
  obtain rfl : e = .returned (.tuple #[frV fA, .slice A7 n7 p7, .bool true]) := he
  obtain rfl : n7 = 2 := ho7.1.symm
  have hB8 := hB7.trans (hb7.mono hB7.size)
  obtain ⟨V7, hV7, hBd, hzd, hkd⟩ := boxed w7 #[.int .i64 fA.kind, .int .i64 fA.src, .int .i64 fA.to, .int .i64 fA.source, .int .i64 fA.target, .int .i64 fA.seq, .int .i64 fA.hops, .bool fA.urgent, .string fA.data] 24
  have hr7 := ho7.rd.later hBd
  have hr6' := (hr6.later hb7).later hBd
  have hB9 := hB8.trans (hBd.mono hB8.size)
  have T2 : Hid (Calls Try.prog 14 #[.slice A6 3 p6, .int .i64 1, .int .i64 8, .int .i64 2] V7 (TkEnd V7 (none, []))) := Lib.hid (by have := take14 A6 3 p6 _ 1 8 2 V7 hcap6.1 hcap6.2 hr6'; rwa [e5] at this)
  clear T1 ho7 hr6
  go_wp2_with fail
  refine T2.out.mono ?_
  rintro e w8 ⟨A8, n8, p8, he, ho8, hb8⟩
  obtain rfl : e = .returned (.tuple #[frV f0, .slice A8 n8 p8, .bool false]) := he
  obtain rfl : n8 = 0 := ho8.1.symm
  obtain ⟨V8, hV8, hBe, hze, hke⟩ := boxed w8 #[.int .i64 f0.kind, .int .i64 f0.src, .int .i64 f0.to, .int .i64 f0.source, .int .i64 f0.target, .int .i64 f0.seq, .int .i64 f0.hops, .bool f0.urgent, .string f0.data] 24
  have hBx := hb8.trans (hBe.mono hb8.size)
  have hB10 := hB9.trans (hBx.mono hB9.size)
  have hr6'' := hr6'.later hBx
  have hr7' := hr7.later hBx
  obtain ⟨b, off, x, hA6, hx, q0, q1, q2, q3, q4, q5, q6, q7, q8, q9⟩ := mail_at hr6'' (k := 0) (by omega)
  obtain ⟨b', off', y, hA7, hy, r0, r1, r2, r3, r4, r5, r6, r7, r8, r9⟩ := mail_at hr7' (k := 1) (by omega)
  cases hx
  cases hy
  subst hA6 hA7
  simp only [Nat.zero_mul, Nat.add_zero, Nat.one_mul] at q0 q1 q2 q3 q4 q5 q6 q7 q8 r0 r1 r2 r3 r4 r5 r6 r7 r8
  have Q0 := After.cell q0
  have R0 := After.cell r0
  have A0 := After.cell (keep hBx (keep hBd (keep hb7 (keep hb6 (keep hb5 (keep hb4 a0))))))
  have B0 := After.cell (keep hBx (keep hBd (keep hb7 (keep hb6 (keep hb5 b0')))))
  have C0 := After.cell (keep hBx (keep hBd (keep hb7 (keep hb6 c0''))))
  have F0 := After.cell (keep hBx (hkd.at 0 (v := .int .i64 fA.kind) rfl))
  have Q1 := After.cell q1
  have R1 := After.cell r1
  have A1 := After.cell (keep hBx (keep hBd (keep hb7 (keep hb6 (keep hb5 (keep hb4 a1))))))
  have B1 := After.cell (keep hBx (keep hBd (keep hb7 (keep hb6 (keep hb5 b1')))))
  have C1 := After.cell (keep hBx (keep hBd (keep hb7 (keep hb6 c1''))))
  have F1 := After.cell (keep hBx (hkd.at 1 (v := .int .i64 fA.src) rfl))
  have Q2 := After.cell q2
  have R2 := After.cell r2
  have A2 := After.cell (keep hBx (keep hBd (keep hb7 (keep hb6 (keep hb5 (keep hb4 a2))))))
  have B2 := After.cell (keep hBx (keep hBd (keep hb7 (keep hb6 (keep hb5 b2')))))
  have C2 := After.cell (keep hBx (keep hBd (keep hb7 (keep hb6 c2''))))
  have F2 := After.cell (keep hBx (hkd.at 2 (v := .int .i64 fA.to) rfl))
  have Q3 := After.cell q3
  have R3 := After.cell r3
  have A3 := After.cell (keep hBx (keep hBd (keep hb7 (keep hb6 (keep hb5 (keep hb4 a3))))))
  have B3 := After.cell (keep hBx (keep hBd (keep hb7 (keep hb6 (keep hb5 b3')))))
  have C3 := After.cell (keep hBx (keep hBd (keep hb7 (keep hb6 c3''))))
  have F3 := After.cell (keep hBx (hkd.at 3 (v := .int .i64 fA.source) rfl))
  have Q4 := After.cell q4
  have R4 := After.cell r4
  have A4 := After.cell (keep hBx (keep hBd (keep hb7 (keep hb6 (keep hb5 (keep hb4 a4))))))
  have B4 := After.cell (keep hBx (keep hBd (keep hb7 (keep hb6 (keep hb5 b4')))))
  have C4 := After.cell (keep hBx (keep hBd (keep hb7 (keep hb6 c4''))))
  have F4 := After.cell (keep hBx (hkd.at 4 (v := .int .i64 fA.target) rfl))
  have Q5 := After.cell q5
  have R5 := After.cell r5
  have A5 := After.cell (keep hBx (keep hBd (keep hb7 (keep hb6 (keep hb5 (keep hb4 a5))))))
  have B5 := After.cell (keep hBx (keep hBd (keep hb7 (keep hb6 (keep hb5 b5')))))
  have C5 := After.cell (keep hBx (keep hBd (keep hb7 (keep hb6 c5''))))
  have F5 := After.cell (keep hBx (hkd.at 5 (v := .int .i64 fA.seq) rfl))
  have Q6 := After.cell q6
  have R6 := After.cell r6
  have A6 := After.cell (keep hBx (keep hBd (keep hb7 (keep hb6 (keep hb5 (keep hb4 a6))))))
  have B6 := After.cell (keep hBx (keep hBd (keep hb7 (keep hb6 (keep hb5 b6')))))
  have C6 := After.cell (keep hBx (keep hBd (keep hb7 (keep hb6 c6''))))
  have F6 := After.cell (keep hBx (hkd.at 6 (v := .int .i64 fA.hops) rfl))
  have Q7 := After.cell q7
  have R7 := After.cell r7
  have A7 := After.cell (keep hBx (keep hBd (keep hb7 (keep hb6 (keep hb5 (keep hb4 a7))))))
  have B7 := After.cell (keep hBx (keep hBd (keep hb7 (keep hb6 (keep hb5 b7')))))
  have C7 := After.cell (keep hBx (keep hBd (keep hb7 (keep hb6 c7''))))
  have F7 := After.cell (keep hBx (hkd.at 7 (v := .bool fA.urgent) rfl))
  have Q8 := After.cell q8
  have R8 := After.cell r8
  have A8 := After.cell (keep hBx (keep hBd (keep hb7 (keep hb6 (keep hb5 (keep hb4 a8))))))
  have B8 := After.cell (keep hBx (keep hBd (keep hb7 (keep hb6 (keep hb5 b8')))))
  have C8 := After.cell (keep hBx (keep hBd (keep hb7 (keep hb6 c8''))))
  have F8 := After.cell (keep hBx (hkd.at 8 (v := .string fA.data) rfl))
  have CN : ∀ p : After V8, Calls Try.prog 18 #[.slice (some ⟨b, off, none⟩) 3 p6, .int .i64 2] p.w fun e w'' => e = .returned (.int .i64 2) ∧ ∃ q : After V8, w'' = q.w := fun p => p.of (by have := count18 (some ⟨b, off, none⟩) 3 p6 _ 2 p.w hcap6.1 hcap6.2 (hr6''.later p.hb); rwa [e6] at this)
  have qA := fun w => eql24_same (a := fA) rfl w
  have qB := fun w => eql24_same (a := fB) rfl w
  have qC := fun w => eql24_same (a := fC) rfl w
  clear q0 r0 a0 b0 b0' c0 c0' c0'' q1 r1 a1 b1 b1' c1 c1' c1'' q2 r2 a2 b2 b2' c2 c2' c2'' q3 r3 a3 b3 b3' c3 c3' c3'' q4 r4 a4 b4 b4' c4 c4' c4'' q5 r5 a5 b5 b5' c5 c5' c5'' q6 r6 a6 b6 b6' c6 c6' c6'' q7 r7 a7 b7 b7' c7 c7' c7'' q8 r8 a8 b8 b8' c8 c8' c8''
  clear T2 ho8 hr6' hr6'' hr7 hr7' hke hkd hb4 hb5 hb6 hb7 hb8 q9 r9 hB3 hB4 hB5 hB6 hB7 hB8 hB9 hBx hBd hBe
  go_wp2_with fail
  refine wp_region_after (by kernel_rfl) (by kernel_rfl) ?_
  repeat (go_big_quiet_step (with_reducible exact CN _))
  refine wpQuiet_nil ?_
  intro w9 hb9
  have hB11 := hB10.trans (hb9.mono hB10.size)
  go_wp2
  go_ret
  exact ⟨rfl, hB11⟩
end Go.Proofs.Ytfbdiafgfimgaaa
