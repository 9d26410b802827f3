/- The walk of the reference's Take. -/
import Derived.Test.YtfbdiafgfimgaaaWc
import Derived.Deep.RegionHeld3
namespace Go.Proofs.Ytfbdiafgfimgaaa
open Go.RowKit Go.BigFrame
set_option linter.unusedVariables false

set_option maxHeartbeats 4000000 in
theorem take15 (A : Option Addr) (n cap : Nat) (l : List Mail) (to now life : Int) (w : World) (hn : n ≤ 9223372036854775807) (hr : Rd w EM A n l) :
    Calls Try.prog 15 #[.slice A n cap, .int .i64 to, .int .i64 now, .int .i64 life] w (TkEnd w (takeL to ((l.take 16).filter (live now life)))) := by
  have h16 : ((l.take 16).filter (live now life)).length ≤ 16 := Nat.le_trans (List.length_filter_le _ _) (by rw [List.length_take]; omega)
  have HF : Hid (∀ w, Rd w EM A n l → Calls Try.prog 17 #[.slice A n cap, .int .i64 now, .int .i64 life] w (SlEnd w ((l.take 16).filter (live now life)))) := Lib.hid (fun w hr => expire17 A n cap l now life w hn hr)
  obtain ⟨W, hW, hB, hz, hk⟩ := boxed w #[.int .i64 0, .int .i64 0, .int .i64 0, .int .i64 0, .int .i64 0, .int .i64 0, .int .i64 0, .bool false, .string ⟨#[]⟩] 24
  have hr' := hr.later hB
  generalize (l.take 16).filter (live now life) = k at *
  go_enter Try.func15, Try.ntmps15
  go_wp2_with fail
  refine (HF.out _ hr').mono ?_
  rintro e w0 ⟨B, m, capm, rfl, hown, hb0⟩
  have hm16 : m ≤ 16 := by rw [← hown.1]; exact h16
  have hk0 := hk.later hb0
  have hB0 := hB.trans (hb0.mono (Nat.le_of_lt hz))
  have hb := hown.rd
  clear hr hr' hk hW h16 HF
  go_wp2
  go_loop [12] (fun i => ∃ j : Nat, j ≤ m ∧ i = .int .i64 j ∧ (∀ i b, i < j → k[i]? = some b → ¬ b.f.to = to)) (fun i => m - (intOf i).toNat)
  case atStart => exact ⟨0, by omega, rfl, fun i b h => by omega⟩
  case round =>
    obtain ⟨j, hj, rfl, hno⟩ := hrel
    have HN := Lib.hid hno
    clear hno
    by_cases hlt : j < m
    · obtain ⟨b, off, a, rfl, hla, q0, q1, q2, q3, q4, q5, q6, q7, q8, q9⟩ := mail_at hb hlt
      by_cases hto : a.f.to = to
      · have HR := Lib.hid (takeL_at to k j a HN.out hla hto)
        have hbq : (a.f.to == to) = true := by simpa using hto
        have CW : Hid (∀ w, Rd w EM (some ⟨b, off, none⟩) m k → Calls Try.prog 29 #[.slice (some ⟨b, off, none⟩) m capm, .int .i64 j] w (SlEnd w (k.eraseIdx j))) := Lib.hid (fun w hr => without29 _ m capm k j w (by omega) hr hlt)
        clear hto hla HN
        go_wp2
        have a0 := hk0.at 0 (v := .int .i64 0) rfl
        have e0 := hk0.frozen 0
        have a1 := hk0.at 1 (v := .int .i64 0) rfl
        have e1 := hk0.frozen 1
        have a2 := hk0.at 2 (v := .int .i64 0) rfl
        have e2 := hk0.frozen 2
        have a3 := hk0.at 3 (v := .int .i64 0) rfl
        have e3 := hk0.frozen 3
        have a4 := hk0.at 4 (v := .int .i64 0) rfl
        have e4 := hk0.frozen 4
        have a5 := hk0.at 5 (v := .int .i64 0) rfl
        have e5 := hk0.frozen 5
        have a6 := hk0.at 6 (v := .int .i64 0) rfl
        have e6 := hk0.frozen 6
        have a7 := hk0.at 7 (v := .bool false) rfl
        have e7 := hk0.frozen 7
        have a8 := hk0.at 8 (v := .string ⟨#[]⟩) rfl
        have e8 := hk0.frozen 8
        have hlw := hk0.lt
        have hbd : Rd w0.drew EM (some ⟨b, off, none⟩) m k := hb
        have hownd : Ow w0.drew W.heap.size 33 EM (.slice (some ⟨b, off, none⟩) m capm) m k := hown
        have hk0d : Blk w0.drew w.heap.size 24 (encF f0).toArray := hk0
        have q0d : w0.drew.cell? _ = _ := q0
        have a0d : w0.drew.cell? _ = _ := a0
        have e0d : w0.drew.frozen? _ = _ := e0
        have q1d : w0.drew.cell? _ = _ := q1
        have a1d : w0.drew.cell? _ = _ := a1
        have e1d : w0.drew.frozen? _ = _ := e1
        have q2d : w0.drew.cell? _ = _ := q2
        have a2d : w0.drew.cell? _ = _ := a2
        have e2d : w0.drew.frozen? _ = _ := e2
        have q3d : w0.drew.cell? _ = _ := q3
        have a3d : w0.drew.cell? _ = _ := a3
        have e3d : w0.drew.frozen? _ = _ := e3
        have q4d : w0.drew.cell? _ = _ := q4
        have a4d : w0.drew.cell? _ = _ := a4
        have e4d : w0.drew.frozen? _ = _ := e4
        have q5d : w0.drew.cell? _ = _ := q5
        have a5d : w0.drew.cell? _ = _ := a5
        have e5d : w0.drew.frozen? _ = _ := e5
        have q6d : w0.drew.cell? _ = _ := q6
        have a6d : w0.drew.cell? _ = _ := a6
        have e6d : w0.drew.frozen? _ = _ := e6
        have q7d : w0.drew.cell? _ = _ := q7
        have a7d : w0.drew.cell? _ = _ := a7
        have e7d : w0.drew.frozen? _ = _ := e7
        have q8d : w0.drew.cell? _ = _ := q8
        have a8d : w0.drew.cell? _ = _ := a8
        have e8d : w0.drew.frozen? _ = _ := e8
        have mixed : Try.prog.follows .mixedOrders = true := by kernel_rfl
        clear hk0 hown hb
        go_region_with (first
          | (go_at_call 29; refine (CW.out _ ?_).mono ?_; (· with_reducible exact hbd); rintro e w1 ⟨B1, m1, c1, rfl, ho1, hb1⟩; have u0 := keep hb1 q0d; have u1 := keep hb1 q1d; have u2 := keep hb1 q2d; have u3 := keep hb1 q3d; have u4 := keep hb1 q4d; have u5 := keep hb1 q5d; have u6 := keep hb1 q6d; have u7 := keep hb1 q7d; have u8 := keep hb1 q8d; have hk1 := hk0d.later hb1; have s0 := hk1.at 0 (v := .int .i64 0) rfl; have t0 := hk1.frozen 0; have s1 := hk1.at 1 (v := .int .i64 0) rfl; have t1 := hk1.frozen 1; have s2 := hk1.at 2 (v := .int .i64 0) rfl; have t2 := hk1.frozen 2; have s3 := hk1.at 3 (v := .int .i64 0) rfl; have t3 := hk1.frozen 3; have s4 := hk1.at 4 (v := .int .i64 0) rfl; have t4 := hk1.frozen 4; have s5 := hk1.at 5 (v := .int .i64 0) rfl; have t5 := hk1.frozen 5; have s6 := hk1.at 6 (v := .int .i64 0) rfl; have t6 := hk1.frozen 6; have s7 := hk1.at 7 (v := .bool false) rfl; have t7 := hk1.frozen 7; have s8 := hk1.at 8 (v := .string ⟨#[]⟩) rfl; have t8 := hk1.frozen 8; have hlw1 := hk1.lt)
          | (go_at_call 29; refine (CW.out _ ?_).mono ?_; (· exact (((((((((hownd.setBelow (p := ⟨w.heap.size, 0, none⟩) hz _).setBelow (p := ⟨w.heap.size, 1, none⟩) hz _).setBelow (p := ⟨w.heap.size, 2, none⟩) hz _).setBelow (p := ⟨w.heap.size, 3, none⟩) hz _).setBelow (p := ⟨w.heap.size, 4, none⟩) hz _).setBelow (p := ⟨w.heap.size, 5, none⟩) hz _).setBelow (p := ⟨w.heap.size, 6, none⟩) hz _).setBelow (p := ⟨w.heap.size, 7, none⟩) hz _).setBelow (p := ⟨w.heap.size, 8, none⟩) hz _).rd); rintro e w1 ⟨B1, m1, c1, rfl, ho1, hb1⟩))
        all_goals
          have hB1 : Below w.heap.size w w1 := Below.trans hB0 (Below.mono (w' := w1) (show Below w0.heap.size w0 w1 from ⟨hb1.os, hb1.tape, hb1.output, hb1.size, hb1.block⟩) hB0.size)
          go_wp2
          refine bodyPost_ret (v := .tuple #[frV a.f, .slice B1 m1 c1, .bool true]) (by simp [results, Try.results15, go_sem, Act.put, s0, s1, s2, s3, s4, s5, s6, s7, s8]) rfl ?_
          refine ⟨B1, m1, c1, by rw [HR.out]; rfl, ?_, ?_⟩
          · rw [HR.out]
            exact (((((((((ho1.setBelow (p := ⟨w.heap.size, 0, none⟩) hlw _).setBelow (p := ⟨w.heap.size, 1, none⟩) hlw _).setBelow (p := ⟨w.heap.size, 2, none⟩) hlw _).setBelow (p := ⟨w.heap.size, 3, none⟩) hlw _).setBelow (p := ⟨w.heap.size, 4, none⟩) hlw _).setBelow (p := ⟨w.heap.size, 5, none⟩) hlw _).setBelow (p := ⟨w.heap.size, 6, none⟩) hlw _).setBelow (p := ⟨w.heap.size, 7, none⟩) hlw _).setBelow (p := ⟨w.heap.size, 8, none⟩) hlw _).rebase (Nat.le_of_lt hlw)
          · exact (((((((((hB1.setCell (p := ⟨w.heap.size, 0, none⟩) (Nat.le_refl _) _).setCell (p := ⟨w.heap.size, 1, none⟩) (Nat.le_refl _) _).setCell (p := ⟨w.heap.size, 2, none⟩) (Nat.le_refl _) _).setCell (p := ⟨w.heap.size, 3, none⟩) (Nat.le_refl _) _).setCell (p := ⟨w.heap.size, 4, none⟩) (Nat.le_refl _) _).setCell (p := ⟨w.heap.size, 5, none⟩) (Nat.le_refl _) _).setCell (p := ⟨w.heap.size, 6, none⟩) (Nat.le_refl _) _).setCell (p := ⟨w.heap.size, 7, none⟩) (Nat.le_refl _) _).setCell (p := ⟨w.heap.size, 8, none⟩) (Nat.le_refl _) _)
      · have HM := Lib.hid (show ∀ i c, i < j + 1 → k[i]? = some c → ¬ c.f.to = to by
          intro i c hi hc
          rcases Nat.lt_or_ge i j with d | d
          · exact HN.out i c d hc
          · obtain rfl : i = j := by omega
            rw [hla] at hc; cases hc; exact hto)
        have hbq : (a.f.to == to) = false := by simpa using hto
        clear hto hla HN
        go_wp2
        go_round
        case rel => exact ⟨j + 1, by omega, by go_num, HM.out⟩
        case measure => simp [intOf]; omega
    · have HR := Lib.hid (takeL_none to k (by
        intro c hc
        obtain ⟨i, hi, rfl⟩ := List.getElem_of_mem hc
        exact HN.out i _ (by have := hb.1; omega) (List.getElem?_eq_getElem hi)))
      have a0 := hk0.at 0 (v := .int .i64 0) rfl
      have a1 := hk0.at 1 (v := .int .i64 0) rfl
      have a2 := hk0.at 2 (v := .int .i64 0) rfl
      have a3 := hk0.at 3 (v := .int .i64 0) rfl
      have a4 := hk0.at 4 (v := .int .i64 0) rfl
      have a5 := hk0.at 5 (v := .int .i64 0) rfl
      have a6 := hk0.at 6 (v := .int .i64 0) rfl
      have a7 := hk0.at 7 (v := .bool false) rfl
      have a8 := hk0.at 8 (v := .string ⟨#[]⟩) rfl
      have e0 := hk0.frozen 0
      have e1 := hk0.frozen 1
      have e2 := hk0.frozen 2
      have e3 := hk0.frozen 3
      have e4 := hk0.frozen 4
      have e5 := hk0.frozen 5
      have e6 := hk0.frozen 6
      have e7 := hk0.frozen 7
      have e8 := hk0.frozen 8
      have hlw := hk0.lt
      clear HN
      go_wp2
      refine bodyPost_ret (v := .tuple #[frV f0, .slice B m capm, .bool false]) (by simp [results, Try.results15, go_sem, a0, a1, a2, a3, a4, a5, a6, a7, a8, f0]) rfl ?_
      refine ⟨B, m, capm, by rw [HR.out]; rfl, ?_, ?_⟩
      · rw [HR.out]
        exact (((((((((hown.setBelow (p := ⟨w.heap.size, 0, none⟩) hz _).setBelow (p := ⟨w.heap.size, 1, none⟩) hz _).setBelow (p := ⟨w.heap.size, 2, none⟩) hz _).setBelow (p := ⟨w.heap.size, 3, none⟩) hz _).setBelow (p := ⟨w.heap.size, 4, none⟩) hz _).setBelow (p := ⟨w.heap.size, 5, none⟩) hz _).setBelow (p := ⟨w.heap.size, 6, none⟩) hz _).setBelow (p := ⟨w.heap.size, 7, none⟩) hz _).setBelow (p := ⟨w.heap.size, 8, none⟩) hz _).rebase (Nat.le_of_lt hz)
      · exact ((((((((hB0.setCell (p := ⟨w.heap.size, 0, none⟩) (Nat.le_refl _) _).setCell (p := ⟨w.heap.size, 1, none⟩) (Nat.le_refl _) _).setCell (p := ⟨w.heap.size, 2, none⟩) (Nat.le_refl _) _).setCell (p := ⟨w.heap.size, 3, none⟩) (Nat.le_refl _) _).setCell (p := ⟨w.heap.size, 4, none⟩) (Nat.le_refl _) _).setCell (p := ⟨w.heap.size, 5, none⟩) (Nat.le_refl _) _).setCell (p := ⟨w.heap.size, 6, none⟩) (Nat.le_refl _) _).setCell (p := ⟨w.heap.size, 7, none⟩) (Nat.le_refl _) _).setCell (p := ⟨w.heap.size, 8, none⟩) (Nat.le_refl _) _
end Go.Proofs.Ytfbdiafgfimgaaa
