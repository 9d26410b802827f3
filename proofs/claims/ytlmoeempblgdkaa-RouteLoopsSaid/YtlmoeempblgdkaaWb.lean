/- Check of the program. -/
import Derived.Test.YtlmoeempblgdkaaPl
import Derived.Test.YtlmoeempblgdkaaWa
import Derived.Deep.DeepCutAuto
namespace Go.Proofs.Ytlmoeempblgdkaa
open Go.RowKit Go.BigFrame
set_option linter.unusedVariables false
set_option linter.unusedSimpArgs false

/-- at: -1, or the place of self -/
def AtP (t : List Rt) (self : Int) (j : Nat) (z : Int) : Prop :=
  (z = -1 ∧ ∀ r ∈ t.take j, r.d ≠ self) ∨ (∃ (k : Nat) (q : Rt), k < j ∧ z = k ∧ t[k]? = some q ∧ q.d = self)
theorem AtP.none_ {t : List Rt} {self : Int} {j : Nat} {z : Int} {r : Rt} (h : AtP t self j z) (hr : t[j]? = some r) (hd : r.d ≠ self) : AtP t self (j + 1) z := by
  rcases h with ⟨rfl, h⟩ | ⟨k, q, h1, h2, h3, h4⟩
  · left
    refine ⟨rfl, fun x hx => ?_⟩
    rw [take_snoc hr] at hx
    rcases List.mem_append.1 hx with hx | hx
    · exact h x hx
    · rw [List.mem_singleton] at hx; subst hx; exact hd
  · exact .inr ⟨k, q, by omega, h2, h3, h4⟩
theorem AtP.some_ {t : List Rt} {self : Int} {j : Nat} {r : Rt} (hr : t[j]? = some r) (hd : r.d = self) : AtP t self (j + 1) j := .inr ⟨j, r, by omega, rfl, hr, hd⟩
theorem chk_long {t : List Rt} {self : Int} (h : 24 < t.length) : chk t self = 3 := by unfold chk; rw [if_pos h]
theorem chk_node {t : List Rt} {self : Int} (h : ¬ 24 < t.length) (h2 : nodeB self = false) : chk t self = 2 := by unfold chk; rw [if_neg h, if_pos h2]
theorem chk_one {t : List Rt} {self : Int} (h : ¬ 24 < t.length) (h2 : nodeB self = true) (h3 : chk1 none t ≠ 0) : chk t self = chk1 none t := by unfold chk; rw [if_neg h, if_neg (by rw [h2]; simp), if_pos h3]
theorem chk_two {t : List Rt} {self : Int} (h : ¬ 24 < t.length) (h2 : nodeB self = true) (h3 : chk1 none t = 0) : chk t self = if t.all (fun r => decide (r.d ≠ self)) = true then 8 else if t.any (badB self) = true then 4 else 0 := by
  unfold chk; rw [if_neg h, if_neg (by rw [h2]; simp), if_neg (by rw [h3]; simp)]
set_option maxRecDepth 20000 in
set_option maxHeartbeats 8000000 in
theorem check25 (A : Option Addr) (n cap : Nat) (t : List Rt) (self : Int) (w : World) (hn : n ≤ 9223372036854775807) (hr : Rd w ER A n t) :
    Calls Try.prog 25 #[.slice A n cap, .int .i64 self] w fun e w' => e = .returned (.int .i64 (chk t self)) ∧ Below w.heap.size w w' := by
  have hlen : t.length = n := hr.1
  have hB0 := Below.refl w.heap.size w
  by_cases h24 : 24 < n
  · have H := Lib.hid (chk_long (t := t) (self := self) (by omega))
    go_enter Try.func25, Try.ntmps25
    go_wp2
    go_ret
    exact ⟨ret_int H.out.symm, hB0⟩
  · have hL := Lib.hid (show ¬ 24 < t.length by omega)
    cases hnode : nodeB self
    · have H := Lib.hid (chk_node hL.out hnode)
      have N := Lib.hid (hnode ▸ node32 self w)
      clear hnode
      go_enter Try.func25, Try.ntmps25
      go_wp2_with fail
      refine N.out.mono ?_
      rintro e w' ⟨rfl, rfl⟩
      go_wp2
      go_ret
      exact ⟨ret_int H.out.symm, hB0⟩
    · have N := Lib.hid (hnode ▸ node32 self w)
      have HN := Lib.hid hnode
      clear hnode
      go_enter Try.func25, Try.ntmps25
      go_wp2_with fail
      refine N.out.mono ?_
      rintro e w' ⟨rfl, rfl⟩
      go_wp2
      go_loopw [5, 18] (fun a i wr => ∃ (j : Nat) (z : Int), j ≤ n ∧ i = .int .i64 j ∧ a = .int .i64 z ∧ AtP t self j z ∧ Seen (t.take j) ∧ chk1 none t = chk1 (pv (t.take j)) (t.drop j) ∧ Below w.heap.size w wr) (fun _ i _ => n - (intOf i).toNat)
      case atStart => exact ⟨0, -1, Nat.zero_le _, rfl, rfl, .inl ⟨rfl, by simp⟩, ⟨List.Pairwise.nil, by simp⟩, rfl, hB0⟩
      case round =>
        clear hB0 N
        obtain ⟨j, z, hj, rfl, rfl, hat, hseen, hchk, hbr⟩ := hrel
        by_cases hlt : j < n
        · obtain ⟨b, off, r, hA, hla, e0, e1, e2, e3⟩ := rt_at (hr.later hbr) hlt
          rw [hA]
          have HLA := Lib.hid hla
          have HAT := Lib.hid hat
          have HSE := Lib.hid hseen
          have HCH := Lib.hid (hchk.trans (by rw [drop_cons hla]))
          have HBR := Lib.hid hbr
          clear hla hat hseen hchk
          go_upto_region 9 with fail
          obtain ⟨V, hV, hBV, hzV, hkV⟩ := boxeds wr (rtC r) 40
          rw [hV]
          have HBV := Lib.hid hBV
          have a0 := hkV.at 0 (v := .int .i64 r.d) rfl
          have a1 := hkV.at 1 (v := .int .i64 r.s) rfl
          have a2 := hkV.at 2 (v := .int .i64 r.c) rfl
          have a3 := hkV.at 3 (v := .int .i64 r.n) rfl
          have hb0 := keep hBV e0
          go_cut [45] (fun y w' => y = .bool (!rokB r) ∧ Below V.heap.size V w')
          case first =>
            clear e0 e1 e2 e3 hb0 hbr hBV hzV
            have U := Lib.hid (usable33 r V)
            have F := Lib.hid (fun w' => finite34 r w')
            have ND := Lib.hid (fun w' => node32 r.n w')
            cases hu : usB r
            · rw [hu] at U
              have HR := Lib.hid (show rokB r = false by unfold rokB; rw [hu]; rfl)
              clear hu
              go_wp2_with fail
              refine U.out.mono ?_
              rintro e w2 ⟨rfl, hb2⟩
              clear a0 a1 a2 a3
              go_wp2
              go_meet
              exact ⟨by rw [HR.out]; rfl, hb2⟩
            · rw [hu] at U
              cases hf : finB r
              · rw [hf] at F
                have HR := Lib.hid (show rokB r = decide (r.n = 255) by unfold rokB; rw [hu, hf]; rfl)
                clear hu hf
                go_wp2_with fail
                refine U.out.mono ?_
                rintro e w2 ⟨rfl, hb2⟩
                have b0 := keep hb2 a0
                have b1 := keep hb2 a1
                have b2 := keep hb2 a2
                have b3 := keep hb2 a3
                go_wp2_with fail
                refine (F.out w2).mono ?_
                rintro e w3 ⟨rfl, hb3⟩
                have hb23 := hb2.trans (hb3.mono hb2.size)
                have c0 := keep hb23 a0
                have c1 := keep hb23 a1
                have c2 := keep hb23 a2
                have c3 := keep hb23 a3
                clear b0 b1 b2 b3
                go_wp2_with fail
                refine (F.out w3).mono ?_
                rintro e w4 ⟨rfl, hb4⟩
                have hb24 := hb23.trans (hb4.mono hb23.size)
                have d3 := keep hb24 a3
                clear a0 a1 a2 a3 c0 c1 c2 c3
                go_wp2
                go_meet
                exact ⟨by rw [HR.out]; congr 1, hb24⟩
              · rw [hf] at F
                have HR := Lib.hid (show rokB r = nodeB r.n by unfold rokB; rw [hu, hf]; rfl)
                clear hu hf
                cases hnn : nodeB r.n
                · rw [hnn] at ND HR
                  clear hnn
                  go_wp2_with fail
                  refine U.out.mono ?_
                  rintro e w2 ⟨rfl, hb2⟩
                  have b0 := keep hb2 a0
                  have b1 := keep hb2 a1
                  have b2 := keep hb2 a2
                  have b3 := keep hb2 a3
                  go_wp2_with fail
                  refine (F.out w2).mono ?_
                  rintro e w3 ⟨rfl, hb3⟩
                  have hb23 := hb2.trans (hb3.mono hb2.size)
                  have c3 := keep hb23 a3
                  clear b0 b1 b2 b3
                  go_wp2_with fail
                  refine (ND.out w3).mono ?_
                  rintro e w4 ⟨rfl, rfl⟩
                  clear a0 a1 a2 a3 c3
                  go_wp2
                  go_meet
                  exact ⟨by rw [HR.out]; rfl, hb23⟩
                · rw [hnn] at ND HR
                  clear hnn
                  go_wp2_with fail
                  refine U.out.mono ?_
                  rintro e w2 ⟨rfl, hb2⟩
                  have b0 := keep hb2 a0
                  have b1 := keep hb2 a1
                  have b2 := keep hb2 a2
                  have b3 := keep hb2 a3
                  go_wp2_with fail
                  refine (F.out w2).mono ?_
                  rintro e w3 ⟨rfl, hb3⟩
                  have hb23 := hb2.trans (hb3.mono hb2.size)
                  have c0 := keep hb23 a0
                  have c1 := keep hb23 a1
                  have c2 := keep hb23 a2
                  have c3 := keep hb23 a3
                  clear b0 b1 b2 b3
                  go_wp2_with fail
                  refine (ND.out w3).mono ?_
                  rintro e w4 ⟨rfl, rfl⟩
                  go_wp2_with fail
                  refine (F.out w3).mono ?_
                  rintro e w4 ⟨rfl, hb4⟩
                  have hb24 := hb23.trans (hb4.mono hb23.size)
                  clear a0 a1 a2 a3 c0 c1 c2 c3
                  go_wp2
                  go_meet
                  exact ⟨by rw [HR.out]; rfl, hb24⟩
          case rest =>
            obtain ⟨rfl, hbw⟩ := hcut
            obtain ⟨w5, rfl⟩ : ∃ x : World, x = wc := ⟨_, rfl⟩
            have hbv := HBR.out.trans ((HBV.out.trans (hbw.mono HBV.out.size)).mono HBR.out.size)
            have HB5 := Lib.hid hbv
            have v0 := keep hbw a0
            clear e0 e1 e2 e3 hb0 hbr hBV hzV a0 a1 a2 a3
            cases hrk : rokB r
            · have H1 := Lib.hid (show chk1 none t = 2 from HCH.out.trans (chk1_bad hrk))
              have H := Lib.hid ((chk_one hL.out HN.out (by rw [H1.out]; decide)).trans H1.out)
              clear hrk v0 hbw hbv
              go_wp2
              go_ret
              exact ⟨ret_int H.out.symm, HB5.out⟩
            · have HRK := Lib.hid hrk
              clear hrk
              go_upto_region 11 with fail
              go_cut [58] (fun y w' => y = .bool (!ordB (pv (t.take j)) r) ∧ Below w5.heap.size w5 w')
              case first =>
                rcases j with _ | j'
                · have HO := Lib.hid (show ordB (pv (t.take 0)) r = true by rfl)
                  have V0 := After.cell v0
                  clear hbw hbv v0 hlen
                  refine wp_region_after (by kernel_rfl) (by kernel_rfl) ?_
                  repeat (go_big_quiet_step (fail))
                  refine wpQuiet_nil ?_
                  intro w6 hb6
                  clear V0
                  go_wp2
                  go_meet
                  exact ⟨by rw [HO.out]; rfl, hb6⟩
                · obtain ⟨b', off', q, hA', hla', e0, e1, e2, e3⟩ := rt_at (hr.later hbv) (show j' < n by omega)
                  rw [hA] at hA'
                  obtain ⟨rfl, rfl⟩ : b = b' ∧ off = off' := by cases hA'; exact ⟨rfl, rfl⟩
                  have HO := Lib.hid (show ordB (pv (t.take (j' + 1))) r = decide (q.d < r.d) by rw [pv_take hla']; rfl)
                  have V0 := After.cell v0
                  have E0 := After.cell e0
                  have hw1 : IntKind.i64.wrap (((j' + 1 : Nat) : Int) - 1) = (j' : Int) := by rw [IntWalk.i64_in _ (by omega)]; omega
                  have hx1 : (0 : Int) ≤ (j' : Int) := by omega
                  have hx2 : (j' : Int) < (n : Int) := by omega
                  have hx3 : (0 : Int) < ((j' + 1 : Nat) : Int) := by omega
                  clear hbw hbv v0 hlen e0 e1 e2 e3 hla'
                  refine wp_region_after (by kernel_rfl) (by kernel_rfl) ?_
                  repeat (go_big_quiet_step (fail))
                  refine wpQuiet_nil ?_
                  intro w6 hb6
                  clear V0 E0 hw1 hx1 hx2 hx3
                  go_wp2
                  go_meet
                  refine ⟨congrArg Value.bool ?_, hb6⟩
                  rw [HO.out, Bool.eq_iff_iff]
                  simp
              case rest =>
                obtain ⟨rfl, hbx⟩ := hcut
                obtain ⟨w6, rfl⟩ : ∃ x : World, x = wc := ⟨_, rfl⟩
                have hb6 := hbv.trans (hbx.mono hbv.size)
                have v6 := keep hbx v0
                clear v0 hbx hbv hbw
                cases hod : ordB (pv (t.take j)) r
                · have H1 := Lib.hid (show chk1 none t = 14 from HCH.out.trans (chk1_ord HRK.out hod))
                  have H := Lib.hid ((chk_one hL.out HN.out (by rw [H1.out]; decide)).trans H1.out)
                  clear hod
                  go_wp2
                  go_ret
                  exact ⟨ret_int H.out.symm, hb6⟩
                · have HC2 := Lib.hid (show chk1 none t = chk1 (pv (t.take (j + 1))) (t.drop (j + 1)) by rw [pv_take HLA.out]; exact HCH.out.trans (chk1_step HRK.out hod))
                  have HS2 := Lib.hid (show Seen (t.take (j + 1)) by rw [take_snoc HLA.out]; exact HSE.out.snoc HRK.out hod)
                  clear hod
                  by_cases hd : r.d = self
                  · have HA2 := Lib.hid (AtP.some_ HLA.out hd)
                    have hd' : (r.d == self) = true := by simp [hd]
                    clear hd
                    go_wp2
                    go_roundw
                    case rel => exact ⟨j + 1, j, by omega, by go_num, rfl, HA2.out, HS2.out, HC2.out, hb6⟩
                    case measure => simp [intOf]; omega
                  · have HA2 := Lib.hid (HAT.out.none_ HLA.out hd)
                    have hd' : (r.d == self) = false := by simp [hd]
                    clear hd
                    go_wp2
                    go_roundw
                    case rel => exact ⟨j + 1, z, by omega, by go_num, rfl, HA2.out, HS2.out, HC2.out, hb6⟩
                    case measure => simp [intOf]; omega
        · have hjn : t.take j = t := List.take_of_length_le (by omega)
          rw [hjn] at hseen hchk
          have hc0 : chk1 none t = 0 := by rw [hchk, List.drop_eq_nil_of_le (by omega)]; rfl
          have HC2 := Lib.hid (chk_two hL.out HN.out hc0)
          have HSE := Lib.hid hseen
          rcases hat with ⟨rfl, hno⟩ | ⟨k, q, hk, rfl, hkq, hqd⟩
          · have H := Lib.hid (show chk t self = 8 by
              rw [HC2.out, if_pos]
              rw [List.all_eq_true]
              intro x hx
              rw [hjn] at hno
              exact decide_eq_true (hno x hx))
            clear hno hjn hseen hchk hc0
            go_wp2
            go_ret
            exact ⟨ret_int H.out.symm, hbr⟩
          · have H8 := Lib.hid (show chk t self = if t.any (badB self) = true then 4 else 0 by
              rw [HC2.out, if_neg]
              rw [List.all_eq_true]
              intro h
              exact of_decide_eq_true (h q (List.mem_of_getElem? hkq)) hqd)
            have HKQ := Lib.hid hkq
            have HQD := Lib.hid hqd
            have HBR := Lib.hid hbr
            clear hkq hqd hjn hseen hchk hc0
            obtain ⟨wo, rfl⟩ : ∃ wo : World, wo = wr := ⟨_, rfl⟩
            go_wp2
            go_loopw [69] (fun i wr => ∃ j : Nat, j ≤ n ∧ i = .int .i64 j ∧ (∀ r ∈ t.take j, badB self r = false) ∧ Below w.heap.size w wr) (fun i _ => n - (intOf i).toNat)
            case atStart => exact ⟨0, Nat.zero_le _, rfl, by simp, hbr⟩
            case round =>
              clear hbr
              obtain ⟨i, hi, rfl, hgood, hbr⟩ := hrel
              by_cases hlt2 : i < n
              · obtain ⟨b, off, r, hA, hla, e0, e1, e2, e3⟩ := rt_at (hr.later hbr) hlt2
                rw [hA]
                have HLA := Lib.hid hla
                have HG := Lib.hid hgood
                have HBR2 := Lib.hid hbr
                clear hla hgood
                go_upto_region 21 with fail
                obtain ⟨V, hV, hBV, hzV, hkV⟩ := boxeds wr (rtC r) 40
                rw [hV]
                have a0 := After.cell (hkV.at 0 (v := .int .i64 r.d) rfl)
                have a1 := After.cell (hkV.at 1 (v := .int .i64 r.s) rfl)
                have a2 := After.cell (hkV.at 2 (v := .int .i64 r.c) rfl)
                have a3 := After.cell (hkV.at 3 (v := .int .i64 r.n) rfl)
                have hbV := hbr.trans (hBV.mono hbr.size)
                have HBV := Lib.hid hbV
                have C := fun p : After V => p.of (own42 self r.s p.w)
                go_cut [100] (fun y w' => y = .bool (badB self r) ∧ Below V.heap.size V w')
                case first =>
                  clear e0 e1 e2 e3 hbr hBV hbV hzV hkV
                  by_cases hik : i = k
                  · have hrq : r = q := by have h1 := HLA.out; rw [hik, HKQ.out] at h1; cases h1; rfl
                    have hd : r.d = self := by rw [hrq]; exact HQD.out
                    clear hrq
                    subst hik
                    by_cases heq : r = own self r.s
                    · have HBD := Lib.hid (show badB self r = false by
                        have h1 : r.c = 0 := congrArg Rt.c heq
                        have h2 : r.n = self := congrArg Rt.n heq
                        unfold badB; rw [if_pos hd, decide_eq_true h1, decide_eq_true h2]; rfl)
                      have he := fun w => (neq40 r (own self r.s) w).trans (by rw [decide_eq_true heq])
                      clear heq hd
                      refine wp_region_after (by kernel_rfl) (by kernel_rfl) ?_
                      repeat (any_goals (go_big_quiet_step (first | (with_reducible exact C _))))
                      refine wpQuiet_nil ?_
                      intro w6 hb6
                      clear a0 a1 a2 a3 C he
                      go_wp2
                      go_meet
                      exact ⟨by rw [HBD.out], hb6⟩
                    · have HBD := Lib.hid (show badB self r = true by
                        unfold badB; rw [if_pos hd, Bool.not_eq_true', Bool.and_eq_false_iff]
                        by_cases h1 : r.c = 0
                        · right; exact decide_eq_false (fun h2 => heq (rt_ext hd rfl h1 h2))
                        · left; exact decide_eq_false h1)
                      have he := fun w => (neq40 r (own self r.s) w).trans (by rw [decide_eq_false heq])
                      clear heq hd
                      refine wp_region_after (by kernel_rfl) (by kernel_rfl) ?_
                      repeat (any_goals (go_big_quiet_step (first | (with_reducible exact C _))))
                      refine wpQuiet_nil ?_
                      intro w6 hb6
                      clear a0 a1 a2 a3 C he
                      go_wp2
                      go_meet
                      exact ⟨by rw [HBD.out], hb6⟩
                  · have hd : r.d ≠ self := fun h => hik (asc_at HSE.out.asc HLA.out HKQ.out (h.trans HQD.out.symm))
                    have HBX := Lib.hid (show badB self r = (decide (r.c = 0) || decide (r.n = self)) by unfold badB; rw [if_neg hd])
                    have hik' : ((i : Int) == (k : Int)) = false := by rw [beq_eq_false_iff_ne]; omega
                    have hik2 : ((i : Int) != (k : Int)) = true := by rw [bne_iff_ne]; omega
                    have hik3 : (i == k) = false := by simp [hik]
                    have hik4 : (i != k) = true := by simp [hik]
                    have hik5 : decide (i = k) = false := decide_eq_false hik
                    clear hd hik
                    by_cases hc : r.c = 0
                    · have HBD := Lib.hid (show badB self r = true by rw [HBX.out, decide_eq_true hc]; rfl)
                      have hc' : (r.c == 0) = true := by simp [hc]
                      clear hc
                      refine wp_region_after (by kernel_rfl) (by kernel_rfl) ?_
                      repeat (any_goals (go_big_quiet_step (first | (with_reducible exact C _))))
                      refine wpQuiet_nil ?_
                      intro w6 hb6
                      clear a0 a1 a2 a3 C hc' hik' hik2 hik3 hik4 hik5
                      go_wp2
                      go_meet
                      exact ⟨by rw [HBD.out], hb6⟩
                    · have hc' : (r.c == 0) = false := by simp [hc]
                      have HBY := Lib.hid (show badB self r = decide (r.n = self) by rw [HBX.out, decide_eq_false hc]; rfl)
                      clear hc
                      by_cases hn' : r.n = self
                      · have HBD := Lib.hid (show badB self r = true by rw [HBY.out, decide_eq_true hn'])
                        have hn2 : (r.n == self) = true := by simp [hn']
                        clear hn'
                        refine wp_region_after (by kernel_rfl) (by kernel_rfl) ?_
                        repeat (any_goals (go_big_quiet_step (first | (with_reducible exact C _))))
                        refine wpQuiet_nil ?_
                        intro w6 hb6
                        clear a0 a1 a2 a3 C hc' hik' hik2 hik3 hik4 hik5 hn2
                        go_wp2
                        go_meet
                        exact ⟨by rw [HBD.out], hb6⟩
                      · have HBD := Lib.hid (show badB self r = false by rw [HBY.out, decide_eq_false hn'])
                        have hn2 : (r.n == self) = false := by simp [hn']
                        clear hn'
                        refine wp_region_after (by kernel_rfl) (by kernel_rfl) ?_
                        repeat (any_goals (go_big_quiet_step (first | (with_reducible exact C _))))
                        refine wpQuiet_nil ?_
                        intro w6 hb6
                        clear a0 a1 a2 a3 C hc' hik' hik2 hik3 hik4 hik5 hn2
                        go_wp2
                        go_meet
                        exact ⟨by rw [HBD.out], hb6⟩
                case rest =>
                  obtain ⟨rfl, hbx⟩ := hcut
                  have hb6 := HBV.out.trans (hbx.mono HBV.out.size)
                  clear a0 a1 a2 a3 C hbx e0 e1 e2 e3
                  cases hbad : badB self r
                  · have HG2 := Lib.hid (show ∀ x ∈ t.take (i + 1), badB self x = false by
                      rw [take_snoc HLA.out]
                      intro x hx
                      rcases List.mem_append.1 hx with hx | hx
                      · exact HG.out x hx
                      · rw [List.mem_singleton] at hx; subst hx; exact hbad)
                    clear hbad
                    go_wp2
                    go_roundw
                    case rel => exact ⟨i + 1, by omega, by go_num, HG2.out, hb6⟩
                    case measure => simp [intOf]; omega
                  · have H := Lib.hid (show chk t self = 4 by
                      rw [H8.out, if_pos]
                      rw [List.any_eq_true]
                      exact ⟨r, List.mem_of_getElem? HLA.out, hbad⟩)
                    clear hbad
                    go_wp2
                    go_ret
                    exact ⟨ret_int H.out.symm, hb6⟩
              · have H := Lib.hid (show chk t self = 0 by
                  rw [H8.out, if_neg]
                  rw [List.take_of_length_le (by omega)] at hgood
                  rw [List.any_eq_true]
                  rintro ⟨x, hx, hb⟩
                  rw [hgood x hx] at hb
                  cases hb)
                clear hgood
                go_wp2
                go_ret
                exact ⟨ret_int H.out.symm, hbr⟩
end Go.Proofs.Ytlmoeempblgdkaa
