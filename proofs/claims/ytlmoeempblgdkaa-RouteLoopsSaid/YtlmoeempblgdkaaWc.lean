/- find and Check of the document. -/
import Derived.Test.YtlmoeempblgdkaaWb
namespace Go.Proofs.Ytlmoeempblgdkaa
open Go.RowKit Go.BigFrame
set_option linter.unusedVariables false
set_option linter.unusedSimpArgs false

def FindP (t : List Rt) (x : Int) (z : Int) : Prop := (z = -1 ∧ ∀ r ∈ t, r.d ≠ x) ∨ (∃ (k : Nat) (q : Rt), z = k ∧ t[k]? = some q ∧ q.d = x ∧ ∀ r ∈ t.take k, r.d ≠ x)
set_option maxHeartbeats 2000000 in
theorem find40 (A : Option Addr) (n cap : Nat) (t : List Rt) (x : Int) (w : World) (hn : n ≤ 1000) (hr : Rd w ER A n t) :
    Calls Try.prog 40 #[.slice A n cap, .int .i64 x] w fun e w' => ∃ z, e = .returned (.int .i64 z) ∧ FindP t x z ∧ Below w.heap.size w w' := by
  have hlen : t.length = n := hr.1
  have hB0 := Below.refl w.heap.size w
  go_enter Try.func40, Try.ntmps40
  go_wp2
  go_loopw [5] (fun i wr => ∃ j : Nat, j ≤ n ∧ i = .int .i64 j ∧ (∀ r ∈ t.take j, r.d ≠ x) ∧ Below w.heap.size w wr) (fun i _ => n - (intOf i).toNat)
  case atStart => exact ⟨0, Nat.zero_le _, rfl, by simp, hB0⟩
  case round =>
    clear hB0
    obtain ⟨j, hj, rfl, hno, hbr⟩ := hrel
    by_cases hlt : j < n
    · obtain ⟨b, off, r, hA, hla, e0, e1, e2, e3⟩ := rt_at (hr.later hbr) hlt
      rw [hA]
      have HLA := Lib.hid hla
      have HNO := Lib.hid hno
      clear hla hno e1 e2 e3
      by_cases hd : r.d = x
      · have hd' : (r.d == x) = true := by simp [hd]
        have HD := Lib.hid hd
        clear hd
        go_wp2
        all_goals first | (exfalso; simp_all; done) | skip
        go_ret
        exact ⟨j, rfl, .inr ⟨j, r, rfl, HLA.out, HD.out, HNO.out⟩, hbr⟩
      · have hd' : (r.d == x) = false := by simp [hd]
        have HN2 := Lib.hid (show ∀ y ∈ t.take (j + 1), y.d ≠ x by
          rw [take_snoc HLA.out]
          intro y hy
          rcases List.mem_append.1 hy with hy | hy
          · exact HNO.out y hy
          · rw [List.mem_singleton] at hy; subst hy; exact hd)
        clear hd
        go_wp2
        go_roundw
        case rel => exact ⟨j + 1, by omega, by go_num, HN2.out, hbr⟩
        case measure => simp [intOf]; omega
    · have HN2 := Lib.hid (show ∀ y ∈ t, y.d ≠ x by rw [List.take_of_length_le (by omega)] at hno; exact hno)
      clear hno
      go_wp2
      go_ret
      exact ⟨-1, rfl, .inl ⟨rfl, HN2.out⟩, hbr⟩
theorem node_lim (n : Int) : nodeB n = decide (n = lim n) := by
  unfold nodeB lim
  rw [Bool.eq_iff_iff]
  simp
  split
  · omega
  · split <;> omega
set_option maxRecDepth 40000 in
set_option maxHeartbeats 16000000 in
theorem check22 (A : Option Addr) (n cap : Nat) (t : List Rt) (self : Int) (w : World) (hn : n ≤ 9223372036854775807) (hr : Rd w ER A n t) :
    Calls Try.prog 22 #[.slice A n cap, .int .i64 self] w fun e w' => e = .returned (.int .i64 (chk t self)) ∧ Below w.heap.size w w' := by
  have hlen : t.length = n := hr.1
  have hB0 := Below.refl w.heap.size w
  by_cases h24 : 24 < n
  · have H := Lib.hid (chk_long (t := t) (self := self) (by omega))
    go_enter Try.func22, Try.ntmps22
    go_wp2
    go_ret
    exact ⟨ret_int H.out.symm, hB0⟩
  · have hL := Lib.hid (show ¬ 24 < t.length by omega)
    have L := Lib.hid (limit37 self w)
    cases hnode : nodeB self
    · have H := Lib.hid (chk_node hL.out hnode)
      have hne : (self == lim self) = false := by rw [node_lim] at hnode; rw [beq_eq_false_iff_ne]; exact of_decide_eq_false hnode
      have hne2 : (self != lim self) = true := by rw [bne, hne]; rfl
      clear hnode
      go_enter Try.func22, Try.ntmps22
      go_wp2_with fail
      refine L.out.mono ?_
      rintro e w' ⟨rfl, rfl⟩
      go_wp2
      all_goals first | (exfalso; simp_all; done) | skip
      go_ret
      exact ⟨ret_int H.out.symm, hB0⟩
    · have HN := Lib.hid hnode
      have heq : lim self = self := by rw [node_lim] at hnode; exact (of_decide_eq_true hnode).symm
      rw [heq] at L
      clear hnode heq
      go_enter Try.func22, Try.ntmps22
      go_wp2_with fail
      refine L.out.mono ?_
      rintro e w' ⟨rfl, rfl⟩
      go_wp2
      go_loopw [5] (fun i wr => ∃ j : Nat, j ≤ n ∧ i = .int .i64 j ∧ Seen (t.take j) ∧ chk1 none t = chk1 (pv (t.take j)) (t.drop j) ∧ Below w.heap.size w wr) (fun i _ => n - (intOf i).toNat)
      case atStart => exact ⟨0, Nat.zero_le _, rfl, ⟨List.Pairwise.nil, by simp⟩, rfl, hB0⟩
      case round =>
        clear hB0 L
        obtain ⟨j, hj, rfl, hseen, hchk, hbr⟩ := hrel
        by_cases hlt : j < n
        · obtain ⟨b, off, r, hA, hla, e0, e1, e2, e3⟩ := rt_at (hr.later hbr) hlt
          rw [hA]
          have HLA := Lib.hid hla
          have HSE := Lib.hid hseen
          have HCH := Lib.hid (hchk.trans (by rw [drop_cons hla]))
          have HBR := Lib.hid hbr
          clear hla hseen hchk
          go_upto_region 8 with fail
          go_cut [63] (fun y w' => y = .bool (!rokB r) ∧ Below wr.heap.size wr w')
          case first =>
            have a0 := After.cell e0
            have a1 := After.cell e1
            have a2 := After.cell e2
            have a3 := After.cell e3
            have U := fun p : After wr => p.of (usable38 r p.w)
            have F := fun p : After wr => p.of (finite41 r p.w)
            have L := fun p : After wr => p.same (limit37 r.n p.w)
            have hx1 : (j : Int) < (n : Int) := by omega
            have hx0 : (0 : Int) ≤ (j : Int) := by omega
            clear e0 e1 e2 e3 hbr
            cases hu : usB r
            · rw [hu] at U
              have HR := Lib.hid (show rokB r = false by unfold rokB; rw [hu]; rfl)
              clear hu
              refine wp_region_after (by kernel_rfl) (by kernel_rfl) ?_
              repeat (any_goals (go_big_quiet_step (first | (with_reducible exact U _) | (with_reducible exact F _) | (with_reducible exact L _))))
              refine wpQuiet_nil ?_
              intro w6 hb6
              clear a0 a1 a2 a3 U F L hx1 hx0
              go_wp2
              go_meet
              exact ⟨by rw [HR.out]; rfl, hb6⟩
            · rw [hu] at U
              cases hf : finB r
              · rw [hf] at F
                by_cases hnn : r.n = 255
                · have HR := Lib.hid (show rokB r = true by unfold rokB; rw [hu, hf]; simp [hnn])
                  have n1 : (r.n == 255) = true := by simp [hnn]
                  have n2 : (r.n != 255) = false := by simp [hnn]
                  have n3 : decide (r.n = 255) = true := by simp [hnn]
                  clear hu hf hnn
                  refine wp_region_after (by kernel_rfl) (by kernel_rfl) ?_
                  repeat (any_goals (go_big_quiet_step (first | (with_reducible exact U _) | (with_reducible exact F _) | (with_reducible exact L _))))
                  refine wpQuiet_nil ?_
                  intro w6 hb6
                  clear a0 a1 a2 a3 U F L hx1 hx0 n1 n2 n3
                  go_wp2
                  go_meet
                  exact ⟨by rw [HR.out]; rfl, hb6⟩
                · have HR := Lib.hid (show rokB r = false by unfold rokB; rw [hu, hf]; simp [hnn])
                  have n1 : (r.n == 255) = false := by simp [hnn]
                  have n2 : (r.n != 255) = true := by simp [hnn]
                  have n3 : decide (r.n = 255) = false := by simp [hnn]
                  clear hu hf hnn
                  refine wp_region_after (by kernel_rfl) (by kernel_rfl) ?_
                  repeat (any_goals (go_big_quiet_step (first | (with_reducible exact U _) | (with_reducible exact F _) | (with_reducible exact L _))))
                  refine wpQuiet_nil ?_
                  intro w6 hb6
                  clear a0 a1 a2 a3 U F L hx1 hx0 n1 n2 n3
                  go_wp2
                  go_meet
                  exact ⟨by rw [HR.out]; rfl, hb6⟩
              · rw [hf] at F
                cases hnn : nodeB r.n
                · have HR := Lib.hid (show rokB r = false by unfold rokB; rw [hu, hf, hnn]; rfl)
                  rw [node_lim] at hnn
                  have n1 : (r.n == lim r.n) = false := by rw [beq_eq_false_iff_ne]; exact of_decide_eq_false hnn
                  have n2 : (r.n != lim r.n) = true := by rw [bne, n1]; rfl
                  have n3 := hnn
                  clear hu hf hnn
                  refine wp_region_after (by kernel_rfl) (by kernel_rfl) ?_
                  repeat (any_goals (go_big_quiet_step (first | (with_reducible exact U _) | (with_reducible exact F _) | (with_reducible exact L _))))
                  refine wpQuiet_nil ?_
                  intro w6 hb6
                  clear a0 a1 a2 a3 U F L hx1 hx0 n1 n2 n3
                  go_wp2
                  go_meet
                  exact ⟨by rw [HR.out]; rfl, hb6⟩
                · have HR := Lib.hid (show rokB r = true by unfold rokB; rw [hu, hf, hnn]; rfl)
                  rw [node_lim] at hnn
                  have n1 : (r.n == lim r.n) = true := by rw [beq_iff_eq]; exact of_decide_eq_true hnn
                  have n2 : (r.n != lim r.n) = false := by rw [bne, n1]; rfl
                  have n3 := hnn
                  clear hu hf hnn
                  refine wp_region_after (by kernel_rfl) (by kernel_rfl) ?_
                  repeat (any_goals (go_big_quiet_step (first | (with_reducible exact U _) | (with_reducible exact F _) | (with_reducible exact L _))))
                  refine wpQuiet_nil ?_
                  intro w6 hb6
                  clear a0 a1 a2 a3 U F L hx1 hx0 n1 n2 n3
                  go_wp2
                  go_meet
                  exact ⟨by rw [HR.out]; rfl, hb6⟩
          case rest =>
            obtain ⟨rfl, hbw⟩ := hcut
            obtain ⟨w5, rfl⟩ : ∃ x : World, x = wc := ⟨_, rfl⟩
            have hbv := HBR.out.trans (hbw.mono HBR.out.size)
            have v0 := keep hbw e0
            clear e0 e1 e2 e3
            cases hrk : rokB r
            · have H1 := Lib.hid (show chk1 none t = 2 from HCH.out.trans (chk1_bad hrk))
              have H := Lib.hid ((chk_one hL.out HN.out (by rw [H1.out]; decide)).trans H1.out)
              clear hrk v0 hbw hbr
              go_wp2
              go_ret
              exact ⟨ret_int H.out.symm, hbv⟩
            · have HRK := Lib.hid hrk
              clear hrk
              go_upto_region 10 with fail
              go_cut [79] (fun y w' => y = .bool (!ordB (pv (t.take j)) r) ∧ Below w5.heap.size w5 w')
              case first =>
                have V0 := After.cell v0
                rcases j with _ | j'
                · have HO := Lib.hid (show ordB (pv (t.take 0)) r = true by rfl)
                  clear hbw hbv v0 hlen hbr
                  refine wp_region_after (by kernel_rfl) (by kernel_rfl) ?_
                  repeat (go_big_quiet_step (fail))
                  refine wpQuiet_nil ?_
                  intro w6 hb6
                  clear V0
                  go_wp2
                  go_meet
                  exact ⟨by rw [HO.out]; rfl, hb6⟩
                · obtain ⟨b', off', q, hA', hla', e0, e1, e2, e3⟩ := rt_at (hr.later hbv) (show j' < n by omega)
                  rw [hA] at hA'
                  obtain ⟨rfl, rfl⟩ : b = b' ∧ off = off' := by cases hA'; exact ⟨rfl, rfl⟩
                  have HO := Lib.hid (show ordB (pv (t.take (j' + 1))) r = decide (q.d < r.d) by rw [pv_take hla']; rfl)
                  have E0 := After.cell e0
                  have hw1 : IntKind.i64.wrap (((j' + 1 : Nat) : Int) - 1) = (j' : Int) := by rw [IntWalk.i64_in _ (by omega)]; omega
                  have hx1 : (0 : Int) ≤ (j' : Int) := by omega
                  have hx2 : (j' : Int) < (n : Int) := by omega
                  have hx3 : (0 : Int) < ((j' + 1 : Nat) : Int) := by omega
                  have hx4 : ((j' + 1 : Nat) : Int) < (n : Int) := by omega
                  clear hbw hbv v0 hlen e0 e1 e2 e3 hla' hbr
                  refine wp_region_after (by kernel_rfl) (by kernel_rfl) ?_
                  repeat (go_big_quiet_step (fail))
                  refine wpQuiet_nil ?_
                  intro w6 hb6
                  clear V0 E0 hw1 hx1 hx2 hx3 hx4
                  go_wp2
                  go_meet
                  refine ⟨congrArg Value.bool ?_, hb6⟩
                  rw [HO.out, Bool.eq_iff_iff]
                  simp
              case rest =>
                obtain ⟨rfl, hbx⟩ := hcut
                obtain ⟨w6, rfl⟩ : ∃ x : World, x = wc := ⟨_, rfl⟩
                have hb6 := hbv.trans (hbx.mono hbv.size)
                clear v0 hbx hbv hbw hbr
                cases hod : ordB (pv (t.take j)) r
                · have H1 := Lib.hid (show chk1 none t = 14 from HCH.out.trans (chk1_ord HRK.out hod))
                  have H := Lib.hid ((chk_one hL.out HN.out (by rw [H1.out]; decide)).trans H1.out)
                  clear hod
                  go_wp2
                  go_ret
                  exact ⟨ret_int H.out.symm, hb6⟩
                · have HC2 := Lib.hid (show chk1 none t = chk1 (pv (t.take (j + 1))) (t.drop (j + 1)) by rw [pv_take HLA.out]; exact HCH.out.trans (chk1_step HRK.out hod))
                  have HS2 := Lib.hid (show Seen (t.take (j + 1)) by rw [take_snoc HLA.out]; exact HSE.out.snoc HRK.out hod)
                  clear hod
                  go_wp2
                  go_roundw
                  case rel => exact ⟨j + 1, by omega, by go_num, HS2.out, HC2.out, hb6⟩
                  case measure => simp [intOf]; omega
        · have hjn : t.take j = t := List.take_of_length_le (by omega)
          rw [hjn] at hseen hchk
          have hc0 : chk1 none t = 0 := by rw [hchk, List.drop_eq_nil_of_le (by omega)]; rfl
          have HC2 := Lib.hid (chk_two hL.out HN.out hc0)
          clear hjn hseen hchk hc0
          go_wp2_with fail
          refine (find40 A n cap t self wr (by omega) (hr.later hbr)).mono ?_
          rintro e w2 ⟨z, rfl, hf, hb2⟩
          have hb3 := hbr.trans (hb2.mono hbr.size)
          clear hb2 hbr
          rcases hf with ⟨rfl, hno⟩ | ⟨k, q, rfl, hkq, hqd, _⟩
          · have H := Lib.hid (show chk t self = 8 by
              rw [HC2.out, if_pos]
              rw [List.all_eq_true]
              intro x hx
              exact decide_eq_true (hno x hx))
            clear hno
            go_wp2
            go_ret
            exact ⟨ret_int H.out.symm, hb3⟩
          · have H8 := Lib.hid (show chk t self = if t.any (badB self) = true then 4 else 0 by
              rw [HC2.out, if_neg]
              rw [List.all_eq_true]
              intro h
              exact of_decide_eq_true (h q (List.mem_of_getElem? hkq)) hqd)
            have hk0 : ¬ ((k : Int) < 0) := by omega
            clear hkq hqd
            go_wp2
            go_loopw [6] (fun i wr => ∃ j : Nat, j ≤ n ∧ i = .int .i64 j ∧ (∀ r ∈ t.take j, badB self r = false) ∧ Below w.heap.size w wr) (fun i _ => n - (intOf i).toNat)
            case atStart => exact ⟨0, Nat.zero_le _, rfl, by simp, hb3⟩
            case round =>
              clear hb3 hk0
              obtain ⟨i, hi, rfl, hgood, hbr⟩ := hrel
              by_cases hlt2 : i < n
              · obtain ⟨b, off, r, hA, hla, e0, e1, e2, e3⟩ := rt_at (hr.later hbr) hlt2
                rw [hA]
                have HLA := Lib.hid hla
                have HG := Lib.hid hgood
                have HGOOD : Hid (badB self r = false → ∀ x ∈ t.take (i + 1), badB self x = false) := Lib.hid (fun hbad => by
                  rw [take_snoc HLA.out]
                  intro x hx
                  rcases List.mem_append.1 hx with hx | hx
                  · exact HG.out x hx
                  · rw [List.mem_singleton] at hx; subst hx; exact hbad)
                have HBADC : Hid (badB self r = true → chk t self = 4) := Lib.hid (fun hbad => by
                  rw [H8.out, if_pos]
                  rw [List.any_eq_true]
                  exact ⟨r, List.mem_of_getElem? HLA.out, hbad⟩)
                clear hla hgood
                by_cases hd : r.d = self
                · have d1 : (r.d == self) = true := by simp [hd]
                  have d2 : (r.d != self) = false := by simp [hd]
                  by_cases hc : r.c = 0 ∧ r.n = self
                  · have HX := Lib.hid (HGOOD.out (by unfold badB; rw [if_pos hd, decide_eq_true hc.1, decide_eq_true hc.2]; rfl))
                    have c1 : (r.c == 0) = true := by simp [hc.1]
                    have c2 : (r.n == self) = true := by simp [hc.2]
                    clear hd hc
                    go_wp2
                    all_goals first | (exfalso; simp_all; done) | skip
                    go_roundw
                    case rel => exact ⟨i + 1, by omega, by go_num, HX.out, hbr⟩
                    case measure => simp [intOf]; omega
                  · have HX := Lib.hid (HBADC.out (by
                      unfold badB; rw [if_pos hd, Bool.not_eq_true', Bool.and_eq_false_iff]
                      by_cases h1 : r.c = 0
                      · right; exact decide_eq_false (fun h2 => hc ⟨h1, h2⟩)
                      · left; exact decide_eq_false h1))
                    have hc' : (r.c = 0 ∧ ¬ r.n = self) ∨ ¬ r.c = 0 := by
                      by_cases h1 : r.c = 0
                      · exact .inl ⟨h1, fun h2 => hc ⟨h1, h2⟩⟩
                      · exact .inr h1
                    clear hd hc
                    rcases hc' with ⟨h1, h2⟩ | h1
                    · have c1 : (r.c == 0) = true := by simp [h1]
                      have c2 : (r.n == self) = false := by simp [h2]
                      clear h1 h2
                      go_wp2
                      all_goals first | (exfalso; simp_all; done) | skip
                      go_ret
                      exact ⟨ret_int HX.out.symm, hbr⟩
                    · have c1 : (r.c == 0) = false := by simp [h1]
                      clear h1
                      go_wp2
                      all_goals first | (exfalso; simp_all; done) | skip
                      go_ret
                      exact ⟨ret_int HX.out.symm, hbr⟩
                · have d1 : (r.d == self) = false := by simp [hd]
                  have d2 : (r.d != self) = true := by simp [hd]
                  by_cases hc : r.c = 0
                  · have HX := Lib.hid (HBADC.out (by unfold badB; rw [if_neg hd, decide_eq_true hc]; rfl))
                    have c1 : (r.c == 0) = true := by simp [hc]
                    clear hd hc
                    by_cases h2 : r.n = self
                    · have c2 : (r.n == self) = true := by simp [h2]
                      clear h2
                      go_wp2
                      all_goals first | (exfalso; simp_all; done) | skip
                      go_ret
                      exact ⟨ret_int HX.out.symm, hbr⟩
                    · have c2 : (r.n == self) = false := by simp [h2]
                      clear h2
                      go_wp2
                      all_goals first | (exfalso; simp_all; done) | skip
                      go_ret
                      exact ⟨ret_int HX.out.symm, hbr⟩
                  · have c1 : (r.c == 0) = false := by simp [hc]
                    by_cases hn' : r.n = self
                    · have HX := Lib.hid (HBADC.out (by unfold badB; rw [if_neg hd, decide_eq_true hn']; simp))
                      have c2 : (r.n == self) = true := by simp [hn']
                      clear hd hc hn'
                      go_wp2
                      all_goals first | (exfalso; simp_all; done) | skip
                      go_ret
                      exact ⟨ret_int HX.out.symm, hbr⟩
                    · have HX := Lib.hid (HGOOD.out (by unfold badB; rw [if_neg hd, decide_eq_false hn', decide_eq_false hc]; rfl))
                      have c2 : (r.n == self) = false := by simp [hn']
                      clear hd hc hn'
                      go_wp2
                      all_goals first | (exfalso; simp_all; done) | skip
                      go_roundw
                      case rel => exact ⟨i + 1, by omega, by go_num, HX.out, hbr⟩
                      case measure => simp [intOf]; omega
              · have H := Lib.hid (show chk t self = 0 by
                  rw [H8.out, if_neg]
                  rw [List.take_of_length_le (by omega)] at hgood
                  rw [List.any_eq_true]
                  rintro ⟨x, hx, hb⟩
                  rw [hgood x hx] at hb
                  cases hb)
                clear hgood
                go_wp2
                go_ret
                exact ⟨ret_int H.out.symm, hbr⟩
end Go.Proofs.Ytlmoeempblgdkaa
