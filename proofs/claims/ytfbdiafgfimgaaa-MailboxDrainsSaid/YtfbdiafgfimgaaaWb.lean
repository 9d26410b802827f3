/- The walks of Expire and Take. -/
import Derived.Test.YtfbdiafgfimgaaaWa
namespace Go.Proofs.Ytfbdiafgfimgaaa
open Go.RowKit Go.BigFrame
set_option linter.unusedVariables false

theorem exp_yes {m : Mail} {now life : Int} (w : World) (h : live now life m = true) : Calls Try.prog 31 #[maV m, .int .i64 now, .int .i64 life] w fun e w' => e = .returned (.bool false) ∧ Below w.heap.size w w' := by
  have := expired31 m now life w; rwa [h] at this
theorem exp_no {m : Mail} {now life : Int} (w : World) (h : live now life m = false) : Calls Try.prog 31 #[maV m, .int .i64 now, .int .i64 life] w fun e w' => e = .returned (.bool true) ∧ Below w.heap.size w w' := by
  have := expired31 m now life w; rwa [h] at this
theorem filter_yes {p : Mail → Bool} {k : List Mail} {j : Nat} {a : Mail} (h : k[j]? = some a) (hp : p a = true) : (k.take (j + 1)).filter p = (k.take j).filter p ++ [a] := by
  rw [take_snoc h, List.filter_append]; simp [hp]
theorem filter_no {p : Mail → Bool} {k : List Mail} {j : Nat} {a : Mail} (h : k[j]? = some a) (hp : p a = false) : (k.take (j + 1)).filter p = (k.take j).filter p := by
  rw [take_snoc h, List.filter_append]; simp [hp]

set_option maxHeartbeats 1000000 in
theorem expire16 (A : Option Addr) (n cap : Nat) (l : List Mail) (now life : Int) (w : World) (hn : n ≤ cap) (hcap : cap ≤ 9223372036854775807) (hr : Rd w EM A n l) :
    Calls Try.prog 16 #[.slice A n cap, .int .i64 now, .int .i64 life] w (SlEnd w ((l.take 16).filter (live now life))) := by
  obtain ⟨i0, hi0, hz0, hz1, hz2⟩ := info_parts info33
  have hb := hr.box
  generalize hm : min n 16 = m at hb
  have hm16 : m ≤ 16 := by omega
  have HX : Hid (∀ w, Calls Try.prog 23 #[.slice A n cap] w fun e w' => e = .returned (.slice A m m) ∧ w = w') := Lib.hid (fun w => by have := box23 A n cap w hn hcap; rwa [hm] at this)
  clear hm hr
  generalize l.take 16 = k at *
  go_enter Try.func16, Try.ntmps16
  go_wp2_with (go_at_call 23; refine (HX.out _).mono ?_; rintro e w' ⟨rfl, rfl⟩)
  go_loopw [7, 13] (fun v i wr => ∃ (j m' cap' : Nat) (A' : Option Addr), j ≤ m ∧ m' ≤ j ∧ i = .int .i64 j ∧ v = .slice A' m' cap' ∧ Ow wr w.heap.size 33 EM (.slice A' m' cap') m' ((k.take j).filter (live now life)) ∧ Below w.heap.size w wr) (fun _ i _ => m - (intOf i).toNat)
  case atStart => exact ⟨0, 0, 0, none, by omega, by omega, rfl, rfl, by simpa using Ow.nil w w.heap.size 33 EM, Below.refl _ _⟩
  case round =>
    obtain ⟨j, m', cap', A', hj, hmj, rfl, rfl, hown, hbr⟩ := hrel
    by_cases hlt : j < m
    · obtain ⟨b, off, a, rfl, hla, q0, q1, q2, q3, q4, q5, q6, q7, q8, q9⟩ := mail_at (hb.later hbr) hlt
      obtain ⟨V, hV, hBV, hzV, hkV⟩ := boxed wr #[.int .i64 a.f.kind, .int .i64 a.f.src, .int .i64 a.f.to, .int .i64 a.f.source, .int .i64 a.f.target, .int .i64 a.f.seq, .int .i64 a.f.hops, .bool a.f.urgent, .string a.f.data, .int .i64 a.since] 33
      have p0 := hkV.at 0 (v := .int .i64 a.f.kind) rfl
      have p1 := hkV.at 1 (v := .int .i64 a.f.src) rfl
      have p2 := hkV.at 2 (v := .int .i64 a.f.to) rfl
      have p3 := hkV.at 3 (v := .int .i64 a.f.source) rfl
      have p4 := hkV.at 4 (v := .int .i64 a.f.target) rfl
      have p5 := hkV.at 5 (v := .int .i64 a.f.seq) rfl
      have p6 := hkV.at 6 (v := .int .i64 a.f.hops) rfl
      have p7 := hkV.at 7 (v := .bool a.f.urgent) rfl
      have p8 := hkV.at 8 (v := .string a.f.data) rfl
      have p9 := hkV.at 9 (v := .int .i64 a.since) rfl
      have hB1 := hbr.trans (hBV.mono hbr.size)
      have hownV := hown.later hBV
      clear hkV hb hown hbr
      cases hlv : live now life a with
      | true =>
        have HC := Lib.hid (filter_yes hla hlv)
        have HE := Lib.hid (fun w => exp_yes (now := now) (life := life) w hlv)
        clear hlv hla
        go_wp2_with fail
        refine (HE.out _).mono ?_
        rintro e w1 ⟨rfl, hb1⟩
        have r0 := keep hb1 p0
        have r1 := keep hb1 p1
        have r2 := keep hb1 p2
        have r3 := keep hb1 p3
        have r4 := keep hb1 p4
        have r5 := keep hb1 p5
        have r6 := keep hb1 p6
        have r7 := keep hb1 p7
        have r8 := keep hb1 p8
        have r9 := keep hb1 p9
        have hB2 := hB1.trans (hb1.mono hB1.size)
        have hown1 := hownV.later hb1
        clear p0 p1 p2 p3 p4 p5 p6 p7 p8 p9 hb1 hB1 hownV q0 q1 q2 q3 q4 q5 q6 q7 q8 q9 hV hBV
        go_wp2_with (at_builtin; refine wpList_append_rd _ rfl (.tmp 22) (.tmp 24) 22 rfl w.heap.size 33 i0 _ EM Try.underlying22 hi0 hz0 hz1 rfl (.slice A' m' cap') m' ((k.take j).filter (live now life)) rfl (hown1.later ((Below.refl _ _).alloc (Nat.le_refl _) _)) (some ⟨w1.heap.size, 0, none⟩) 1 1 [a] rfl (mail_one a w1 33) (by unfold maxLen; omega) (by rw [hz2]; omega) (by have := hB2.size; simp; omega) ?_; intro A1 cap1 w2 hown2 hg)
        have hB3 : Below w.heap.size w w2 := Below.row (hB2.alloc hB2.size _) hg (by have := hB2.size; simp; omega) (Nat.le_refl _) (hown1.later ((Below.refl _ _).alloc (Nat.le_refl _) _)).lt
        rw [← HC.out] at hown2
        clear hg hown1 hB2
        go_wp2
        go_roundw
        case rel => exact ⟨j + 1, m' + 1, cap1, A1, by omega, by omega, by go_num, rfl, hown2, hB3⟩
        case measure => simp [intOf]; omega
      | false =>
        have HC := Lib.hid (filter_no hla hlv)
        have HE := Lib.hid (fun w => exp_no (now := now) (life := life) w hlv)
        clear hlv hla
        go_wp2_with fail
        refine (HE.out _).mono ?_
        rintro e w1 ⟨rfl, hb1⟩
        have hB2 := hB1.trans (hb1.mono hB1.size)
        have hown1 := hownV.later hb1
        rw [← HC.out] at hown1
        clear hownV p0 p1 p2 p3 p4 p5 p6 p7 p8 p9 hb1 hB1 q0 q1 q2 q3 q4 q5 q6 q7 q8 q9 hV hBV
        go_wp2
        go_roundw
        case rel => exact ⟨j + 1, m', cap', A', by omega, by omega, by go_num, rfl, hown1, hB2⟩
        case measure => simp [intOf]; omega
    · have HE := Lib.hid (show k.take j = k by rw [List.take_of_length_le (by rw [hb.1]; omega)])
      go_wp2
      go_ret
      exact ⟨A', m', cap', rfl, by rw [HE.out] at hown; exact hown, hbr⟩

set_option maxHeartbeats 1000000 in
theorem expire17 (A : Option Addr) (n cap : Nat) (l : List Mail) (now life : Int) (w : World) (hn : n ≤ 9223372036854775807) (hr : Rd w EM A n l) :
    Calls Try.prog 17 #[.slice A n cap, .int .i64 now, .int .i64 life] w (SlEnd w ((l.take 16).filter (live now life))) := by
  obtain ⟨i0, hi0, hz0, hz1, hz2⟩ := info_parts info33
  have h16 : (l.take 16).length ≤ 16 := by rw [List.length_take]; omega
  have HF := Lib.hid (first28 A n cap l w hn hr)
  clear hr
  generalize l.take 16 = k at *
  go_enter Try.func17, Try.ntmps17
  go_wp2_with fail
  refine HF.out.mono ?_
  rintro e w0 ⟨B, m, capm, rfl, hown0, hb0⟩
  have hm16 : m ≤ 16 := by rw [← hown0.1]; exact h16
  have hb := hown0.rd
  clear hown0 h16 HF
  go_wp2
  go_loopw [8, 9] (fun v i wr => ∃ (j m' cap' : Nat) (A' : Option Addr), j ≤ m ∧ m' ≤ j ∧ i = .int .i64 j ∧ v = .slice A' m' cap' ∧ Ow wr w0.heap.size 33 EM (.slice A' m' cap') m' ((k.take j).filter (live now life)) ∧ Below w0.heap.size w0 wr) (fun _ i _ => m - (intOf i).toNat)
  case atStart => exact ⟨0, 0, 0, none, by omega, by omega, rfl, rfl, by simpa using Ow.nil w0 w0.heap.size 33 EM, Below.refl _ _⟩
  case round =>
    obtain ⟨j, m', cap', A', hj, hmj, rfl, rfl, hown, hbr⟩ := hrel
    by_cases hlt : j < m
    · obtain ⟨b, off, a, rfl, hla, q0, q1, q2, q3, q4, q5, q6, q7, q8, q9⟩ := mail_at (hb.later hbr) hlt
      have b1 := lim_bd now
      have b2 := lim_bd a.since
      have b3 := lim_bd life
      have C9 := After.cell q9
      have L1 : ∀ p : After wr, Calls Try.prog 30 #[.int .i64 now] p.w fun e w'' => e = .returned (.int .i64 (lim now)) ∧ ∃ q : After wr, w'' = q.w := fun p => p.same (limit30 _ p.w)
      have L2 : ∀ p : After wr, Calls Try.prog 30 #[.int .i64 a.since] p.w fun e w'' => e = .returned (.int .i64 (lim a.since)) ∧ ∃ q : After wr, w'' = q.w := fun p => p.same (limit30 _ p.w)
      have L3 : ∀ p : After wr, Calls Try.prog 30 #[.int .i64 life] p.w fun e w'' => e = .returned (.int .i64 (lim life)) ∧ ∃ q : After wr, w'' = q.w := fun p => p.same (limit30 _ p.w)
      go_wp2
      refine wp_region_after (by kernel_rfl) (by kernel_rfl) ?_
      repeat (go_big_quiet_step (first | (with_reducible exact L1 _) | (with_reducible exact L2 _) | (with_reducible exact L3 _)))
      refine wpQuiet_nil ?_
      intro w1 hb1
      have r0 := keep hb1 q0
      have r1 := keep hb1 q1
      have r2 := keep hb1 q2
      have r3 := keep hb1 q3
      have r4 := keep hb1 q4
      have r5 := keep hb1 q5
      have r6 := keep hb1 q6
      have r7 := keep hb1 q7
      have r8 := keep hb1 q8
      have r9 := keep hb1 q9
      have hB2 := hbr.trans (hb1.mono hbr.size)
      have hown1 := hown.later hb1
      clear q0 q1 q2 q3 q4 q5 q6 q7 q8 q9 hb1 hbr hown L1 L2 L3 C9 hb
      cases hlv : live now life a with
      | true =>
        have HC := Lib.hid (filter_yes hla hlv)
        have hle : lim now - lim a.since ≤ lim life := by unfold live at hlv; exact of_decide_eq_true hlv
        clear hlv hla
        go_wp2_with (at_builtin; refine wpList_append_rd _ rfl (.tmp 30) (.tmp 35) 22 rfl w0.heap.size 33 i0 _ EM Try.underlying22 hi0 hz0 hz1 rfl (.slice A' m' cap') m' ((k.take j).filter (live now life)) rfl (hown1.later ((Below.refl _ _).alloc (Nat.le_refl _) _)) (some ⟨w1.heap.size, 0, none⟩) 1 1 [a] rfl (mail_one a w1 33) (by unfold maxLen; omega) (by rw [hz2]; omega) (by have := hB2.size; simp; omega) ?_; intro A1 cap1 w2 hown2 hg)
        have hB3 : Below w0.heap.size w0 w2 := Below.row (hB2.alloc hB2.size _) hg (by have := hB2.size; simp; omega) (Nat.le_refl _) (hown1.later ((Below.refl _ _).alloc (Nat.le_refl _) _)).lt
        rw [← HC.out] at hown2
        clear hg hown1 hB2
        go_wp2
        go_roundw
        case rel => exact ⟨j + 1, m' + 1, cap1, A1, by omega, by omega, by go_num, rfl, hown2, hB3⟩
        case measure => simp [intOf]; omega
      | false =>
        have HC := Lib.hid (filter_no hla hlv)
        have hle : ¬ lim now - lim a.since ≤ lim life := by unfold live at hlv; exact of_decide_eq_false hlv
        rw [← HC.out] at hown1
        clear hlv hla
        go_wp2
        go_roundw
        case rel => exact ⟨j + 1, m', cap', A', by omega, by omega, by go_num, rfl, hown1, hB2⟩
        case measure => simp [intOf]; omega
    · have HE := Lib.hid (show k.take j = k by rw [List.take_of_length_le (by rw [hb.1]; omega)])
      go_wp2
      go_ret
      exact ⟨A', m', cap', rfl, by rw [HE.out] at hown; exact hown.rebase hb0.size, hb0.trans (hbr.mono hb0.size)⟩
end Go.Proofs.Ytfbdiafgfimgaaa
