/- Decode of the document. -/
import Derived.Test.YtlmoeempblgdkaaLc
namespace Go.Proofs.Ytlmoeempblgdkaa
open Go.RowKit Go.BigFrame
set_option linter.unusedVariables false
set_option linter.unusedSimpArgs false

theorem nums_fourAt {s : ByteArray} {p : Nat} (h : p + 4 ≤ s.size) : (nums s).drop p = (((s[p]'(by omega)).toNat : Nat) : Int) :: (((s[p + 1]'(by omega)).toNat : Nat) : Int) :: (((s[p + 2]'(by omega)).toNat : Nat) : Int) :: (((s[p + 3]'(by omega)).toNat : Nat) : Int) :: (nums s).drop (p + 4) := by
  have e0 := drop_cons (nums_get (s := s) (i := p) (by omega))
  have e1 := drop_cons (nums_get (s := s) (i := p + 1) (by omega))
  have e2 := drop_cons (nums_get (s := s) (i := p + 2) (by omega))
  have e3 := drop_cons (nums_get (s := s) (i := p + 3) (by omega))
  exact e0.trans (congrArg _ (e1.trans (congrArg _ (e2.trans (congrArg _ e3)))))
theorem cells4b (x0 x1 x2 x3 : UInt8) : (#[.int .i64 (wrap64 ((x0.toNat : Nat) : Int)), .int .i64 (wrap64 (wrap64 (wrap64 ((x1.toNat : Nat) : Int) * 256) + wrap64 ((x2.toNat : Nat) : Int))), .int .i64 (wrap64 ((x3.toNat : Nat) : Int)), .int .i64 255] : Array Value) = rtC (ofB x0.toNat x1.toNat x2.toNat x3.toNat) := by
  have h1 := byte_lt x1
  have h2 := byte_lt x2
  rw [byte_w x0, byte_w x1, byte_w x2, byte_w x3, IntWalk.wrap64_in (((x1.toNat : Nat) : Int) * 256) (by omega), IntWalk.wrap64_in (((x1.toNat : Nat) : Int) * 256 + ((x2.toNat : Nat) : Int)) (by omega)]
  rfl
set_option maxRecDepth 20000 in
set_option maxHeartbeats 4000000 in
theorem dec19 (s : ByteArray) (w : World) (hs64 : s.size ≤ 1000) : Calls Try.prog 19 #[.string s] w (DecEnd w (decs s)) := by
  obtain ⟨i0, hi0, hz0, hz1, hz2⟩ := info_parts info40
  have hB0 := Below.refl w.heap.size w
  by_cases h4 : s.size % 4 = 0
  · have hr4 : ((s.size : Int)).tmod 4 = 0 := by rw [Int.tmod_eq_emod_of_nonneg (by omega)]; omega
    by_cases hs : s.size ≤ 96
    · have HD := Lib.hid (show decs s = dec1 [] (nums s) by unfold decs; rw [if_neg (by omega), if_neg (by omega)])
      go_enter Try.func19, Try.ntmps19
      go_wp2
      go_loopw [4, 5] (fun t i wr => ∃ (p m cp : Nat) (B : Option Addr) (tt : List Rt), i = .int .i64 p ∧ t = .slice B m cp ∧ Ow wr w.heap.size 40 ER (.slice B m cp) m tt ∧ m * 4 ≤ p ∧ p ≤ s.size ∧ p % 4 = 0 ∧ dec1 [] (nums s) = dec1 tt ((nums s).drop p) ∧ Below w.heap.size w wr) (fun _ i _ => s.size - (intOf i).toNat)
      case atStart => exact ⟨0, 0, 0, none, [], rfl, rfl, Ow.nil _ _ _ _, by omega, by omega, by omega, rfl, hB0⟩
      case round =>
        clear hB0 hr4
        obtain ⟨p, m, cp, B, tt, rfl, rfl, ho, hm, hps, hsz, hdec, hbr⟩ := hrel
        by_cases h0 : p < s.size
        · have i0' : (p : Int) < (s.size : Int) := by omega
          have i1 : (p : Int) + 1 < (s.size : Int) := by omega
          have i2 : (p : Int) + 2 < (s.size : Int) := by omega
          have i3 : (p : Int) + 3 < (s.size : Int) := by omega
          have HN := Lib.hid (nums_fourAt (s := s) (p := p) (by omega))
          have HDE := Lib.hid hdec
          have HTL := Lib.hid ho.1
          clear hdec
          go_upto_region 9 with fail
          obtain ⟨R, hR⟩ : ∃ R, R = ofB (s[p]'(by omega)).toNat (s[p + 1]'(by omega)).toNat (s[p + 2]'(by omega)).toNat (s[p + 3]'(by omega)).toNat := ⟨_, rfl⟩
          have HRR := Lib.hid hR
          clear hR
          go_cut [6] (fun z w' => z = .pointer (some ⟨wr.heap.size, 0, none⟩) ∧ Blk w' wr.heap.size 40 (rtC R) ∧ Below wr.heap.size wr w')
          case first =>
            clear ho hbr
            have j0 : (0 : Int) ≤ (p : Int) := by omega
            have j1 : (0 : Int) ≤ (p : Int) + 1 := by omega
            have j2 : (0 : Int) ≤ (p : Int) + 2 := by omega
            have j3 : (0 : Int) ≤ (p : Int) + 3 := by omega
            have k1 : ((p : Int) + 1).toNat = p + 1 := by omega
            have k2 : ((p : Int) + 2).toNat = p + 2 := by omega
            have k3 : ((p : Int) + 3).toNat = p + 3 := by omega
            have l1 : IntKind.i64.wrap ((p : Int) + 1) = (p : Int) + 1 := IntWalk.i64_in _ (by omega)
            have l2 : IntKind.i64.wrap ((p : Int) + 2) = (p : Int) + 2 := IntWalk.i64_in _ (by omega)
            have l3 : IntKind.i64.wrap ((p : Int) + 3) = (p : Int) + 3 := IntWalk.i64_in _ (by omega)
            go_region
            go_wp2
            go_meet
            refine ⟨rfl, ?_, ((Below.refl _ _).alloc (Nat.le_refl _) _).drew⟩
            rw [HRR.out, ← cells4b]
            exact (Blk.new _ _ _).later (Below.drew (Below.refl _ _))
          case rest =>
            obtain ⟨rfl, hkV, hBV⟩ := hcut
            obtain ⟨V, rfl⟩ : ∃ x : World, x = wc := ⟨_, rfl⟩
            have a0 := hkV.at 0 (v := .int .i64 R.d) rfl
            have a1 := hkV.at 1 (v := .int .i64 R.s) rfl
            have a2 := hkV.at 2 (v := .int .i64 R.c) rfl
            have a3 := hkV.at 3 (v := .int .i64 R.n) rfl
            have oV := ho.later hBV
            have hbV := hbr.trans (hBV.mono hbr.size)
            have HBV := Lib.hid hbV
            clear i0' i1 i2 i3 hkV hBV ho hbr
            cases hu : usB R
            · have U := Lib.hid (hu ▸ usable38 R V)
              have HX := Lib.hid (show decs s = ([], 2) from HD.out.trans (HDE.out.trans (by rw [HN.out]; exact dec1_us (by rw [← HRR.out]; exact hu))))
              clear hu oV hbV
              go_wp2_with fail
              refine U.out.mono ?_
              rintro e w3 ⟨rfl, hb3⟩
              have hb4 := HBV.out.trans (hb3.mono HBV.out.size)
              clear hb3 a0 a1 a2 a3
              go_wp2
              refine bodyPost_ret (v := .tuple #[.slice none 0 0, .int .i64 2]) (by simp [results, Try.results19, go_sem]) rfl ?_
              exact ⟨none, 0, 0, by rw [HX.out], by rw [HX.out]; exact Ow.nil _ _ _ _, hb4⟩
            · have U := Lib.hid (hu ▸ usable38 R V)
              have HU := Lib.hid hu
              clear hu
              go_wp2_with fail
              refine U.out.mono ?_
              rintro e w3 ⟨rfl, hb3⟩
              have b0 := keep hb3 a0
              have b1 := keep hb3 a1
              have b2 := keep hb3 a2
              have b3 := keep hb3 a3
              have o3 := oV.later hb3
              have hb4 := hbV.trans (hb3.mono hbV.size)
              clear hb3 a0 a1 a2 a3 oV hbV
              go_upto_region 12 with fail
              go_cut [59] (fun y w' => y = .bool (!ordB (pv tt) R) ∧ Below w3.heap.size w3 w')
              case first =>
                have B0 := After.cell b0
                rcases m with _ | m'
                · have HO := Lib.hid (show ordB (pv tt) R = true by rw [List.eq_nil_of_length_eq_zero HTL.out]; rfl)
                  clear hb4 o3 b0 b1 b2 b3
                  refine wp_region_after (by kernel_rfl) (by kernel_rfl) ?_
                  repeat (go_big_quiet_step (fail))
                  refine wpQuiet_nil ?_
                  intro w6 hb6
                  clear B0
                  go_wp2
                  go_meet
                  exact ⟨by rw [HO.out]; rfl, hb6⟩
                · obtain ⟨g, rfl, hgb, hgl⟩ := o3.at0 (by omega)
                  obtain ⟨b', off', q, hA', hq, e0, e1, e2, e3⟩ := rt_at o3.rd (show m' < m' + 1 by omega)
                  obtain ⟨rfl, rfl⟩ : g = b' ∧ 0 = off' := by cases hA'; exact ⟨rfl, rfl⟩
                  simp only [Nat.zero_add] at e0
                  have HO := Lib.hid (show ordB (pv tt) R = decide (q.d < R.d) by rw [pv_last HTL.out hq]; rfl)
                  have E0 := After.cell e0
                  have hw1 : IntKind.i64.wrap (((m' + 1 : Nat) : Int) - 1) = (m' : Int) := by rw [IntWalk.i64_in _ (by omega)]; omega
                  have hx1 : (0 : Int) ≤ (m' : Int) := by omega
                  have hx2 : (m' : Int) < ((m' + 1 : Nat) : Int) := by omega
                  have hx3 : (0 : Int) < ((m' + 1 : Nat) : Int) := by omega
                  clear hb4 o3 b0 b1 b2 b3 e0 e1 e2 e3 hq hgb hgl hA'
                  refine wp_region_after (by kernel_rfl) (by kernel_rfl) ?_
                  repeat (go_big_quiet_step (fail))
                  refine wpQuiet_nil ?_
                  intro w6 hb6
                  clear B0 E0 hw1 hx1 hx2 hx3
                  go_wp2
                  go_meet
                  refine ⟨congrArg Value.bool ?_, hb6⟩
                  rw [HO.out, Bool.eq_iff_iff]
                  simp
              case rest =>
                obtain ⟨rfl, hb5⟩ := hcut
                obtain ⟨w5, rfl⟩ : ∃ x : World, x = wc := ⟨_, rfl⟩
                have o5 := o3.later hb5
                have hb6 := hb4.trans (hb5.mono hb4.size)
                have c0 := keep hb5 b0
                have c1 := keep hb5 b1
                have c2 := keep hb5 b2
                have c3 := keep hb5 b3
                clear b0 b1 b2 b3 hb5 o3 hb4
                cases hod : ordB (pv tt) R
                · have HX := Lib.hid (show decs s = ([], 14) from HD.out.trans (HDE.out.trans (by rw [HN.out]; exact dec1_or (by rw [← HRR.out]; exact HU.out) (by rw [← HRR.out]; exact hod))))
                  clear hod c0 c1 c2 c3 o5
                  go_wp2
                  refine bodyPost_ret (v := .tuple #[.slice none 0 0, .int .i64 14]) (by simp [results, Try.results19, go_sem]) rfl ?_
                  exact ⟨none, 0, 0, by rw [HX.out], by rw [HX.out]; exact Ow.nil _ _ _ _, hb6⟩
                · have HX := Lib.hid (show dec1 [] (nums s) = dec1 (tt ++ [R]) ((nums s).drop (p + 4)) from HDE.out.trans (by rw [HN.out, HRR.out]; exact dec1_go (by rw [← HRR.out]; exact HU.out) (by rw [← HRR.out]; exact hod)))
                  clear hod
                  go_wp2_with (at_builtin; refine wpList_append_rd _ rfl (.tmp 60) (.tmp 62) 22 rfl w.heap.size 40 i0 _ ER Try.underlying22 hi0 hz0 hz1 rfl (.slice B m cp) m tt rfl (o5.later ((Below.refl _ _).alloc (Nat.le_refl _) _)) (some ⟨w5.heap.size, 0, none⟩) 1 1 [R] rfl (rt_one R w5 40) (by unfold maxLen; omega) (by rw [hz2]; omega) (by have := hb6.size; simp; omega) ?_; intro A1 cap1 w4 o4 hg)
                  have o3' : Ow (w5.alloc (.cells (rtC R) 40)) w.heap.size 40 ER (.slice B m cp) m tt := o5.later ((Below.refl _ _).alloc (Nat.le_refl _) _)
                  have hb7 := Below.row (hb6.alloc hb6.size (.cells (rtC R) 40)) hg (by have := hb6.size; simp; omega) (Nat.le_refl _) o3'.lt
                  clear hg o3' o5 hb6 c0 c1 c2 c3
                  go_roundw
                  case rel => exact ⟨p + 4, m + 1, cap1, A1, tt ++ [R], by go_num, rfl, o4, by omega, by omega, by omega, HX.out, hb7⟩
                  case measure => simp [intOf]; omega
        · have HX := Lib.hid (show decs s = (tt, 0) from HD.out.trans (hdec.trans (by rw [List.drop_eq_nil_of_le (by rw [nums_len]; omega)]; exact dec1_nil tt)))
          clear hdec
          go_wp2
          refine bodyPost_ret (v := .tuple #[.slice B m cp, .int .i64 0]) (by simp [results, Try.results19, go_sem]) rfl ?_
          exact ⟨B, m, cp, by rw [HX.out], by rw [HX.out]; exact ho, hbr⟩
    · have HX := Lib.hid (show decs s = ([], 3) by unfold decs; rw [if_neg (by omega), if_pos (by omega)])
      go_enter Try.func19, Try.ntmps19
      go_wp2
      refine bodyPost_ret (v := .tuple #[.slice none 0 0, .int .i64 3]) (by simp [results, Try.results19, go_sem]) rfl ?_
      exact ⟨none, 0, 0, by rw [HX.out], by rw [HX.out]; exact Ow.nil _ _ _ _, hB0⟩
  · have hr4 : ¬ ((s.size : Int)).tmod 4 = 0 := by rw [Int.tmod_eq_emod_of_nonneg (by omega)]; omega
    have HX := Lib.hid (show decs s = ([], 5) by unfold decs; rw [if_pos h4])
    go_enter Try.func19, Try.ntmps19
    go_wp2
    all_goals first | (exfalso; simp_all; done) | skip
    refine bodyPost_ret (v := .tuple #[.slice none 0 0, .int .i64 5]) (by simp [results, Try.results19, go_sem]) rfl ?_
    exact ⟨none, 0, 0, by rw [HX.out], by rw [HX.out]; exact Ow.nil _ _ _ _, hB0⟩
end Go.Proofs.Ytlmoeempblgdkaa
