/- Update of the document; Same. -/
import Derived.Test.YtlmoeempblgdkaaWi
namespace Go.Proofs.Ytlmoeempblgdkaa
open Go.RowKit Go.BigFrame
set_option linter.unusedVariables false
set_option linter.unusedSimpArgs false

set_option maxRecDepth 40000 in
set_option maxHeartbeats 16000000 in
theorem upd13 (A : Option Addr) (n cap : Nat) (t : List Rt) (self fr cost : Int) (B : Option Addr) (m c2 : Nat) (l : List Rt) (w : World) (hn : n ≤ 100) (hr : Rd w ER A n t) (hm : m ≤ 100) (hl : Rd w ER B m l) :
    Calls Try.prog 13 #[.slice A n cap, .int .i64 self, .int .i64 fr, .int .i64 cost, .slice B m c2] w (SlEnd w (upd t self fr cost l)) := by
  have S := Lib.hid (table36 A n cap t self w hn hr)
  have HTB := Lib.hid (tb_tab t self)
  have hll : l.length = m := hl.1
  clear hr hn
  go_enter Try.func13, Try.ntmps13
  go_wp2_with fail
  refine S.out.mono ?_
  rintro e w1 ⟨A1, n1, p1, rfl, ho, hb1⟩
  cases hnf : nodeB fr
  · have HU := Lib.hid (upd_no (t := t) (cost := cost) (self := self) (l := l) (fun h => by have := h.1; rw [hnf] at this; cases this))
    rw [node_lim] at hnf
    have e1 : (fr == lim fr) = false := by rw [beq_eq_false_iff_ne]; exact of_decide_eq_false hnf
    have e2 : (fr != lim fr) = true := by rw [bne, e1]; rfl
    clear hnf
    go_wp2_with fail
    refine (limit37 fr w1).mono ?_
    rintro e w' ⟨rfl, rfl⟩
    go_wp2
    all_goals first | (exfalso; simp_all; done) | skip
    go_ret
    exact ⟨A1, n1, p1, rfl, by rw [HU.out]; exact ho, hb1⟩
  · have hlf : lim fr = fr := by rw [node_lim] at hnf; exact (of_decide_eq_true hnf).symm
    have L1 := Lib.hid (show ∀ w', Calls Try.prog 37 #[.int .i64 fr] w' fun e w'' => e = .returned (.int .i64 fr) ∧ w' = w'' from fun w' => by have := limit37 fr w'; rw [hlf] at this; exact this)
    by_cases hok : updOk self fr cost
    · have HU := Lib.hid (upd_yes (t := t) (l := l) hok)
      obtain ⟨_, k2, k3, k4⟩ := hok
      have HK := Lib.hid (And.intro k3 k4)
      have e1 : (fr == lim self) = false := by rw [beq_eq_false_iff_ne]; exact k2
      clear hnf k2 hlf
      go_wp2_with fail
      refine (L1.out w1).mono ?_
      rintro e w' ⟨rfl, rfl⟩
      go_wp2_with fail
      refine (limit37 self w1).mono ?_
      rintro e w' ⟨rfl, rfl⟩
      go_wp2
      all_goals first | (exfalso; simp_all; done) | (exfalso; omega) | skip
      go_loopw [11, 12] (fun s i wr => ∃ (j nn cc : Nat) (AA : Option Addr), j ≤ m ∧ i = .int .i64 j ∧ s = .slice AA nn cc ∧ Ow wr w.heap.size 40 ER (.slice AA nn cc) nn ((l.take j).foldl (step (lim self) fr cost) (tab t self)) ∧ Below w.heap.size w wr) (fun _ i _ => m - (intOf i).toNat)
      case atStart => exact ⟨0, n1, p1, A1, Nat.zero_le _, rfl, rfl, ho, hb1⟩
      case round =>
        clear ho hb1
        obtain ⟨j, nn, cc, AA, hj, rfl, rfl, ho, hbr⟩ := hrel
        by_cases hlt : j < m
        · obtain ⟨b, off, a, hA, hla, e0, e1', e2, e3⟩ := rt_at (hl.later hbr) hlt
          rw [hA]
          have HST := Lib.hid (foldl_snoc (step (lim self) fr cost) (tab t self) hla)
          have HTT := Lib.hid (tb_fold (self := lim self) (fr := fr) (cost := cost) (l.take j) HTB.out)
          generalize (l.take j).foldl (step (lim self) fr cost) (tab t self) = tt at *
          clear hla
          go_upto_region 7 with fail
          have A0 := After.cell e0
          have A1 := After.cell e1'
          have A2 := After.cell e2
          have A3 := After.cell e3
          have CL := fun p : After wr => p.same (limit37 self p.w)
          have hx0 : (0 : Int) ≤ (j : Int) := by omega
          have hx1 : (j : Int) < (m : Int) := by omega
          cases hu : usB a
          · have HS := Lib.hid (HST.out.trans (show step (lim self) fr cost tt a = tt by unfold step; rw [if_neg (fun h => by rw [hu] at h; cases h.1)]))
            have CU : ∀ p : After wr, Calls Try.prog 38 #[rtV a] p.w fun e w2 => e = .returned (.bool false) ∧ ∃ q : After wr, w2 = q.w := fun p => p.of (hu ▸ usable38 a p.w)
            clear hu
            refine wp_region_after (by kernel_rfl) (by kernel_rfl) ?_
            repeat (any_goals (go_big_quiet_step (first | (with_reducible exact CU _) | (with_reducible exact CL _))))
            refine wpQuiet_nil ?_
            intro w3 hb3
            have o3 := ho.later hb3
            have hb4 := hbr.trans (hb3.mono hbr.size)
            clear hb3 ho hbr A0 A1 A2 A3 CL CU e0 e1' e2 e3
            go_wp2
            go_roundw
            case rel => exact ⟨j + 1, nn, cc, AA, by omega, by go_num, rfl, by rw [HS.out]; exact o3, hb4⟩
            case measure => simp [intOf]; omega
          · have CU : ∀ p : After wr, Calls Try.prog 38 #[rtV a] p.w fun e w2 => e = .returned (.bool true) ∧ ∃ q : After wr, w2 = q.w := fun p => p.of (hu ▸ usable38 a p.w)
            by_cases hds : a.d = lim self
            · have HS := Lib.hid (HST.out.trans (show step (lim self) fr cost tt a = tt by unfold step; rw [if_neg (fun h => h.2 hds)]))
              have g2 : (a.d == lim self) = true := by simp [hds]
              have g3 : (a.d != lim self) = false := by simp [hds]
              clear hu hds
              refine wp_region_after (by kernel_rfl) (by kernel_rfl) ?_
              repeat (any_goals (go_big_quiet_step (first | (with_reducible exact CU _) | (with_reducible exact CL _))))
              refine wpQuiet_nil ?_
              intro w3 hb3
              have o3 := ho.later hb3
              have hb4 := hbr.trans (hb3.mono hbr.size)
              clear hb3 ho hbr A0 A1 A2 A3 CL CU e0 e1' e2 e3
              go_wp2
              go_roundw
              case rel => exact ⟨j + 1, nn, cc, AA, by omega, by go_num, rfl, by rw [HS.out]; exact o3, hb4⟩
              case measure => simp [intOf]; omega
            · have HS := Lib.hid (HST.out.trans (show step (lim self) fr cost tt a = lrn tt fr (adv fr cost a) by unfold step; rw [if_pos ⟨hu, hds⟩]))
              have g2 : (a.d == lim self) = false := by rw [beq_eq_false_iff_ne]; exact hds
              have g3 : (a.d != lim self) = true := by rw [bne, g2]; rfl
              have HUU := Lib.hid hu
              clear hu hds
              refine wp_region_after (by kernel_rfl) (by kernel_rfl) ?_
              repeat (any_goals (go_big_quiet_step (first | (with_reducible exact CU _) | (with_reducible exact CL _))))
              refine wpQuiet_nil ?_
              intro w3 hb3
              have o3 := ho.later hb3
              have hb4 := hbr.trans (hb3.mono hbr.size)
              have f0 := keep hb3 e0
              have f1 := keep hb3 e1'
              have f2 := keep hb3 e2
              have f3 := keep hb3 e3
              obtain ⟨hnc, hcm⟩ := o3.cap
              have AP := Lib.hid (apply39 AA nn cc w.heap.size tt fr cost a w3 hnc hcm o3 hb4.size HTT.out HUU.out HK.out.1 HK.out.2)
              clear hb3 ho hbr A0 A1 A2 A3 CL CU e0 e1' e2 e3 hnc hcm o3
              go_wp2_with fail
              refine AP.out.mono ?_
              rintro e w5 ⟨A5, n5, p5, rfl, o5, hb8⟩
              have hb9 := hb4.trans hb8
              clear hb4 hb8 f0 f1 f2 f3
              go_wp2
              go_roundw
              case rel => exact ⟨j + 1, n5, p5, A5, by omega, by go_num, rfl, by rw [HS.out]; exact o5, hb9⟩
              case measure => simp [intOf]; omega
        · have hjm : l.take j = l := List.take_of_length_le (by omega)
          rw [hjm] at ho
          clear hjm
          go_wp2
          go_ret
          exact ⟨AA, nn, cc, rfl, by rw [HU.out]; exact ho, hbr⟩
    · have HU := Lib.hid (upd_no (t := t) (l := l) hok)
      have hcs : fr = lim self ∨ (fr ≠ lim self ∧ cost < 1) ∨ (fr ≠ lim self ∧ 1 ≤ cost ∧ 200 < cost) := by
        by_cases h1 : fr = lim self
        · exact .inl h1
        · by_cases h2 : cost < 1
          · exact .inr (.inl ⟨h1, h2⟩)
          · refine .inr (.inr ⟨h1, by omega, ?_⟩)
            by_cases h3 : 200 < cost
            · exact h3
            · exact absurd ⟨hnf, h1, by omega, by omega⟩ hok
      clear hnf hok hlf
      rcases hcs with h1 | ⟨h1, h2⟩ | ⟨h1, h2, h3⟩
      · have e1 : (fr == lim self) = true := by simp [h1]
        clear h1
        go_wp2_with fail
        refine (L1.out w1).mono ?_
        rintro e w' ⟨rfl, rfl⟩
        go_wp2_with fail
        refine (limit37 self w1).mono ?_
        rintro e w' ⟨rfl, rfl⟩
        go_wp2
        all_goals first | (exfalso; simp_all; done) | (exfalso; omega) | skip
        go_ret
        exact ⟨A1, n1, p1, rfl, by rw [HU.out]; exact ho, hb1⟩
      · have e1 : (fr == lim self) = false := by rw [beq_eq_false_iff_ne]; exact h1
        clear h1
        go_wp2_with fail
        refine (L1.out w1).mono ?_
        rintro e w' ⟨rfl, rfl⟩
        go_wp2_with fail
        refine (limit37 self w1).mono ?_
        rintro e w' ⟨rfl, rfl⟩
        go_wp2
        all_goals first | (exfalso; simp_all; done) | (exfalso; omega) | skip
        go_ret
        exact ⟨A1, n1, p1, rfl, by rw [HU.out]; exact ho, hb1⟩
      · have e1 : (fr == lim self) = false := by rw [beq_eq_false_iff_ne]; exact h1
        clear h1
        go_wp2_with fail
        refine (L1.out w1).mono ?_
        rintro e w' ⟨rfl, rfl⟩
        go_wp2_with fail
        refine (limit37 self w1).mono ?_
        rintro e w' ⟨rfl, rfl⟩
        go_wp2
        all_goals first | (exfalso; simp_all; done) | (exfalso; omega) | skip
        go_ret
        exact ⟨A1, n1, p1, rfl, by rw [HU.out]; exact ho, hb1⟩

/-- Same: two lists that read alike -/
theorem same11 (A B : Option Addr) (n c d : Nat) (l : List Rt) (w : World) (hn : n ≤ 1000) (hr : Rd w ER A n l) (hs : Rd w ER B n l) :
    Calls Try.prog 11 #[.slice A n c, .slice B n d] w fun e w' => e = .returned (.bool true) ∧ Below w.heap.size w w' := by
  go_enter Try.func11, Try.ntmps11
  go_wp2
  go_loopw [5] (fun i wr => ∃ j : Nat, j ≤ n ∧ i = .int .i64 j ∧ Below w.heap.size w wr) (fun i _ => n - (intOf i).toNat)
  case atStart => exact ⟨0, Nat.zero_le _, rfl, Below.refl _ _⟩
  case round =>
    obtain ⟨j, hj, rfl, hbr⟩ := hrel
    by_cases hlt : j < n
    · obtain ⟨b, off, r, hA, hla, e0, e1, e2, e3⟩ := rt_at (hr.later hbr) hlt
      obtain ⟨b', off', r', hB, hlb, f0, f1, f2, f3⟩ := rt_at (hs.later hbr) hlt
      obtain rfl : r = r' := by rw [hla] at hlb; cases hlb; rfl
      rw [hA, hB]
      have A0 := After.cell e0
      have A1 := After.cell e1
      have A2 := After.cell e2
      have A3 := After.cell e3
      have B0 := After.cell f0
      have B1 := After.cell f1
      have B2 := After.cell f2
      have B3 := After.cell f3
      have he := fun w => (neq40 r r w).trans (by rw [decide_eq_true rfl])
      clear e0 e1 e2 e3 f0 f1 f2 f3 hla hlb
      go_wp2
      refine wp_region_after (by kernel_rfl) (by kernel_rfl) ?_
      repeat (go_big_quiet_step (fail))
      refine wpQuiet_nil ?_
      intro w1 hb1
      have hb2 := hbr.trans (hb1.mono hbr.size)
      clear A0 A1 A2 A3 B0 B1 B2 B3 hb1 hbr
      go_wp2
      go_roundw
      case rel => exact ⟨j + 1, by omega, by go_num, hb2⟩
      case measure => simp [intOf]; omega
    · go_wp2
      go_ret
      exact ⟨rfl, hbr⟩
end Go.Proofs.Ytlmoeempblgdkaa
