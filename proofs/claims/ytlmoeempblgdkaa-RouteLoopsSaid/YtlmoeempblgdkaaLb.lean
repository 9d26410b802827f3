/- Break of the document; the law RouteBreaks. -/
import Derived.Test.YtlmoeempblgdkaaLa
namespace Go.Proofs.Ytlmoeempblgdkaa
open Go.RowKit Go.BigFrame
set_option linter.unusedVariables false
set_option linter.unusedSimpArgs false

set_option maxRecDepth 40000 in
set_option maxHeartbeats 16000000 in
theorem brk17 (A : Option Addr) (n cap : Nat) (t : List Rt) (self next : Int) (w : World) (hn : n ≤ 100) (hr : Rd w ER A n t) :
    Calls Try.prog 17 #[.slice A n cap, .int .i64 self, .int .i64 next] w (SlEnd w (brk t self next)) := by
  have S := Lib.hid (table36 A n cap t self w hn hr)
  have HSI := Lib.hid (sin_tab t self)
  have HTB := Lib.hid (tb_tab t self)
  clear hr hn
  obtain ⟨F, hF⟩ : ∃ F : Rt → Rt, F = fun r => if nodeB next = true then brk1 (lim self) next r else r := ⟨_, rfl⟩
  have HFF := Lib.hid hF
  have HU := Lib.hid (show brk t self next = (tab t self).map F by
    rw [hF]; unfold brk
    cases nodeB next
    · simp
    · simp)
  clear hF
  go_enter Try.func17, Try.ntmps17
  go_wp2_with fail
  refine S.out.mono ?_
  rintro e w1 ⟨A1, n1, p1, rfl, ho, hb1⟩
  have hn1 : n1 ≤ 24 := by rw [← ho.1]; exact HTB.out.le
  have HLN := Lib.hid ho.1
  generalize tab t self = tt at *
  go_wp2
  go_loopw [8] (fun i wr => ∃ j : Nat, j ≤ n1 ∧ i = .int .i64 j ∧ Ow wr w.heap.size 40 ER (.slice A1 n1 p1) n1 (mx F tt j) ∧ Below w.heap.size w wr) (fun i _ => n1 - (intOf i).toNat)
  case atStart => exact ⟨0, Nat.zero_le _, rfl, by rw [mx_zero]; exact ho, hb1⟩
  case round =>
    clear ho hb1
    obtain ⟨j, hj, rfl, ho, hbr⟩ := hrel
    by_cases hlt : j < n1
    · obtain ⟨g, rfl, hgb, hgl⟩ := ho.at0 (by omega)
      obtain ⟨r, hrj⟩ : ∃ r, tt[j]? = some r := ⟨_, List.getElem?_eq_getElem (by have := HLN.out; omega)⟩
      obtain ⟨b', off', r', hA', hr', e0, e1, e2, e3⟩ := rt_at ho.rd hlt
      obtain ⟨rfl, rfl⟩ : g = b' ∧ 0 = off' := by cases hA'; exact ⟨rfl, rfl⟩
      obtain rfl : r = r' := by rw [mx_get hrj] at hr'; cases hr'; rfl
      simp only [Nat.zero_add] at e0 e1 e2 e3
      have hs := HSI.out r (List.mem_of_getElem? hrj)
      obtain ⟨hs1, hs2⟩ := hs
      have HRJ := Lib.hid hrj
      have HGB := Lib.hid hgb
      have A0 := After.cell e0
      have A1' := After.cell e1
      have A2' := After.cell e2
      have A3 := After.cell e3
      have CN := fun p : After wr => p.same (limit37 next p.w)
      have CS := fun p : After wr => p.same (limit37 self p.w)
      have hx0 : (0 : Int) ≤ (j : Int) := by omega
      have hx1 : (j : Int) < (n1 : Int) := by omega
      clear hA' hr' hrj hgb hgl
      go_upto_region 5 with fail
      cases hnf : nodeB next
      · have HF := Lib.hid (show F r = r by rw [HFF.out, hnf]; rfl)
        rw [node_lim] at hnf
        have d1 : (next == lim next) = false := by rw [beq_eq_false_iff_ne]; exact of_decide_eq_false hnf
        clear hnf
        refine wp_region_after (by kernel_rfl) (by kernel_rfl) ?_
        repeat (any_goals (go_big_quiet_step (first | (with_reducible exact CN _) | (with_reducible exact CS _))))
        refine wpQuiet_nil ?_
        intro w2 hb2
        have o2 := ho.later hb2
        have hb3 := hbr.trans (hb2.mono hbr.size)
        have OT := Lib.hid (show Ow w2 w.heap.size 40 ER (.slice (some ⟨g, 0, none⟩) n1 p1) n1 (mx F tt (j + 1)) from by rw [mx_same HRJ.out HF.out]; exact o2)
        clear o2 hb2 ho hbr A0 A1' A2' A3 CN CS e0 e1 e2 e3 d1
        go_wp2
        go_roundw
        case rel => exact ⟨j + 1, by omega, by go_num, OT.out, hb3⟩
        case measure => simp [intOf]; omega
      · by_cases hcond : r.n = next ∧ r.d ≠ lim self
        · have HF := Lib.hid (show F r = ⟨r.d, r.s + 1, 255, 255⟩ by rw [HFF.out, hnf]; unfold brk1; simp only [if_true]; rw [if_pos hcond])
          obtain ⟨h1, h2⟩ := hcond
          rw [node_lim] at hnf
          have d1 : (next == lim next) = true := by rw [beq_iff_eq]; exact of_decide_eq_true hnf
          have c1 : (r.n == next) = true := by simp [h1]
          have c2 : (r.d == lim self) = false := by rw [beq_eq_false_iff_ne]; exact h2
          have c3 : (r.d != lim self) = true := by rw [bne, c2]; rfl
          clear hnf h1 h2
          refine wp_region_after (by kernel_rfl) (by kernel_rfl) ?_
          repeat (any_goals (go_big_quiet_step (first | (with_reducible exact CN _) | (with_reducible exact CS _))))
          refine wpQuiet_nil ?_
          intro w2 hb2
          have o2 := ho.later hb2
          have hb3 := hbr.trans (hb2.mono hbr.size)
          have f0 := keep hb2 e0
          have f1 := keep hb2 e1
          have f2 := keep hb2 e2
          have f3 := keep hb2 e3
          clear hb2 ho hbr A0 A1' A2' A3 CN CS e0 e1 e2 e3 d1 c1 c2 c3
          go_upto_region 6 with fail
          have A0 := After.cell f0
          have A1' := After.cell f1
          have hw1 : IntKind.i64.wrap (r.s + 1) = r.s + 1 := IntWalk.i64_in _ (by omega)
          refine wp_region_after_tail 15 (by kernel_rfl) (by kernel_rfl) ?_
          simp only [List.take_succ_cons, List.take_zero, List.drop_succ_cons, List.drop_zero]
          repeat (go_big_quiet_step (fail))
          refine wpQuiet_nil ?_
          intro w4 hb4
          have o4 := o2.later hb4
          have hb5 := hb3.trans (hb4.mono hb3.size)
          have q0 := keep hb4 f0
          have q1 := keep hb4 f1
          have q2 := keep hb4 f2
          have q3 := keep hb4 f3
          obtain ⟨T, hT, oT, gT⟩ := o4.set4 (mx_get HRJ.out) ⟨r.d, r.s + 1, 255, 255⟩
          have OT := Lib.hid (show Ow T w.heap.size 40 ER (.slice (some ⟨g, 0, none⟩) n1 p1) n1 (mx F tt (j + 1)) from by rw [← mx_set HRJ.out, HF.out]; exact oT)
          have b2 := Below.grow hb5 gT hb5.size HGB.out
          have z0 := o4.free (by omega) (j * 4)
          have z1 := o4.free (by omega) (j * 4 + 1)
          have z2 := o4.free (by omega) (j * 4 + 2)
          have z3 := o4.free (by omega) (j * 4 + 3)
          clear oT gT o4 hb5 o2 hb4 A0 A1' hw1 f0 f1 f2 f3
          go_wp2
          go_roundw
          case rel => exact ⟨j + 1, by omega, by go_num, OT.out, b2⟩
          case measure => simp [intOf]; omega
        · have HF := Lib.hid (show F r = r by rw [HFF.out, hnf]; unfold brk1; simp only [if_true]; rw [if_neg hcond])
          have hc' : ¬ r.n = next ∨ (r.n = next ∧ r.d = lim self) := by
            by_cases h1 : r.n = next
            · exact .inr ⟨h1, by rcases Classical.em (r.d = lim self) with h2 | h2; exact h2; exact absurd ⟨h1, h2⟩ hcond⟩
            · exact .inl h1
          rw [node_lim] at hnf
          have d1 : (next == lim next) = true := by rw [beq_iff_eq]; exact of_decide_eq_true hnf
          clear hnf hcond
          rcases hc' with h1 | ⟨h1, h2⟩
          · have c1 : (r.n == next) = false := by rw [beq_eq_false_iff_ne]; exact h1
            clear h1
            refine wp_region_after (by kernel_rfl) (by kernel_rfl) ?_
            repeat (any_goals (go_big_quiet_step (first | (with_reducible exact CN _) | (with_reducible exact CS _))))
            refine wpQuiet_nil ?_
            intro w2 hb2
            have o2 := ho.later hb2
            have hb3 := hbr.trans (hb2.mono hbr.size)
            have OT := Lib.hid (show Ow w2 w.heap.size 40 ER (.slice (some ⟨g, 0, none⟩) n1 p1) n1 (mx F tt (j + 1)) from by rw [mx_same HRJ.out HF.out]; exact o2)
            clear o2 hb2 ho hbr A0 A1' A2' A3 CN CS e0 e1 e2 e3 d1 c1
            go_wp2
            go_roundw
            case rel => exact ⟨j + 1, by omega, by go_num, OT.out, hb3⟩
            case measure => simp [intOf]; omega
          · have c1 : (r.n == next) = true := by simp [h1]
            have c2 : (r.d == lim self) = true := by simp [h2]
            have c3 : (r.d != lim self) = false := by simp [h2]
            clear h1 h2
            refine wp_region_after (by kernel_rfl) (by kernel_rfl) ?_
            repeat (any_goals (go_big_quiet_step (first | (with_reducible exact CN _) | (with_reducible exact CS _))))
            refine wpQuiet_nil ?_
            intro w2 hb2
            have o2 := ho.later hb2
            have hb3 := hbr.trans (hb2.mono hbr.size)
            have OT := Lib.hid (show Ow w2 w.heap.size 40 ER (.slice (some ⟨g, 0, none⟩) n1 p1) n1 (mx F tt (j + 1)) from by rw [mx_same HRJ.out HF.out]; exact o2)
            clear o2 hb2 ho hbr A0 A1' A2' A3 CN CS e0 e1 e2 e3 d1 c1 c2 c3
            go_wp2
            go_roundw
            case rel => exact ⟨j + 1, by omega, by go_num, OT.out, hb3⟩
            case measure => simp [intOf]; omega
    · rw [mx_all _ (by have := HLN.out; omega)] at ho
      go_wp2
      go_ret
      exact ⟨A1, n1, p1, rfl, by rw [HU.out]; exact ho, hbr⟩
theorem len_brk (t : List Rt) (self next : Int) : (brk t self next).length ≤ 24 := by
  unfold brk
  split
  · rw [List.length_map]; exact (tb_tab t self).le
  · exact (tb_tab t self).le
set_option maxRecDepth 20000 in
set_option maxHeartbeats 8000000 in
theorem lawBreaks4 (A : Option Addr) (n cap : Nat) (t : List Rt) (self next : Int) (w : World) (hr : Rd w ER A n t) :
    Calls Try.prog 4 #[.slice A n cap, .int .i64 self, .int .i64 next] w fun e w' => e = .returned (.bool true) ∧ Below w.heap.size w w' := by
  have LV := Lib.hid awake10
  by_cases hn : 60 < n
  · clear hr
    go_enter Try.func4, Try.ntmps4
    go_wp2_with fail
    refine (LV.out w).mono ?_
    rintro e w2 ⟨rfl, hb2⟩
    go_wp2
    go_ret
    exact ⟨rfl, hb2⟩
  · obtain ⟨a, q, hh⟩ : ∃ a q, hop t next = (a, q) := ⟨_, _, rfl⟩
    have H14 := Lib.hid (show HopEnd w (hop t next) = HopEnd w (a, q) by rw [hh])
    go_enter Try.func4, Try.ntmps4
    go_wp2_with fail
    refine (hop14 A n cap t next w (by omega) hr).mono ?_
    rintro e w1 ⟨rfl, h1⟩
    rw [hh]
    go_wp2_with fail
    refine (hop15 A n cap t next w1 (by omega) (hr.later h1)).mono ?_
    rintro e w2 ⟨rfl, h2⟩
    rw [hh]
    have b2 := h1.trans (h2.mono h1.size)
    clear h1 h2 H14 hh
    go_wp2_with fail
    refine (brk16 A n cap t self next w2 (by omega) (hr.later b2)).mono ?_
    rintro e w3 ⟨A3, m3, c3, rfl, o3, h3⟩
    have b3 := b2.trans (h3.mono b2.size)
    go_wp2_with fail
    refine (brk17 A n cap t self next w3 (by omega) (hr.later b3)).mono ?_
    rintro e w4 ⟨A4, m4, c4, rfl, o4, h4⟩
    have S1 := Lib.hid (same_of (k := brk t self next) (Nat.le_trans (len_brk t self next) (by omega)) w4 A3 A4 m3 m4 c3 c4 (o3.later h4).rd o4.rd)
    have b4 := b3.trans (h4.mono b3.size)
    clear b2 b3 h3 h4 o3 o4 hr
    go_wp2_with fail
    refine S1.out.mono ?_
    rintro e w5 ⟨rfl, h5⟩
    have b5 := b4.trans (h5.mono b4.size)
    cases q
    all_goals
      go_wp2_with fail
      refine (LV.out w5).mono ?_
      rintro e w6 ⟨rfl, h6⟩
      have b6 := b5.trans (h6.mono b5.size)
      go_wp2
      go_ret
      exact ⟨rfl, b6⟩
end Go.Proofs.Ytlmoeempblgdkaa
