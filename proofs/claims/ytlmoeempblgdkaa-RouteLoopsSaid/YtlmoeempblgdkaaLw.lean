/- The law RouteLoops. -/
import Derived.Test.YtlmoeempblgdkaaLq
namespace Go.Proofs.Ytlmoeempblgdkaa
open Go.RowKit Go.BigFrame
set_option linter.unusedVariables false
set_option linter.unusedSimpArgs false

def nilS : Sl := ⟨none, 0, 0⟩
theorem lim_nat {x : Nat} (h : x < 6) : lim (x : Int) = (x : Int) := lim_node (node_iff.2 (by omega))
set_option maxRecDepth 20000 in
set_option maxHeartbeats 8000000 in
theorem lawLoops9 (A : Option Addr) (n cap : Nat) (l : List Ac) (w : World) (hr : Rd w EA A n l) :
    Calls Try.prog 9 #[.slice A n cap] w fun e w' => e = .returned (.bool true) ∧ Below w.heap.size w w' := by
  have LV := Lib.hid awake10
  obtain ⟨i0, hi0, hz0, hz1, hz2⟩ := info_parts info47
  by_cases hn : 60 < n
  · clear hr
    go_enter Try.func9, Try.ntmps9
    go_wp2_with fail
    refine (LV.out w).mono ?_
    rintro e w2 ⟨rfl, hb2⟩
    go_wp2
    go_ret
    exact ⟨rfl, hb2⟩
  · go_enter Try.func9, Try.ntmps9
    go_upto_region 4 with fail
    obtain ⟨V, hV, hBV, hzV, hkV⟩ := boxeds w (arr (fun _ => nilS)) 47
    have hV' : w.alloc (.cells #[.slice none 0 0, .slice none 0 0, .slice none 0 0, .slice none 0 0, .slice none 0 0, .slice none 0 0] 47) = V := hV
    rw [hV']
    have HZV := Lib.hid hzV
    clear hV hV' hzV
    go_wp2
    go_loopw [4] (fun s wr => ∃ (x : Nat) (sl : Nat → Sl), x ≤ 6 ∧ s = .int .i64 x ∧ Blk wr w.heap.size 47 (arr sl) ∧ (∀ y : Nat, y < x → Tw wr (sl y) [own (y : Int) 0]) ∧ Below w.heap.size w wr) (fun s _ => 6 - (intOf s).toNat)
    case atStart => exact ⟨0, fun _ => nilS, Nat.zero_le _, rfl, hkV, fun y hy => by omega, hBV⟩
    case round =>
      clear hkV hBV
      obtain ⟨x, sl, hx, rfl, hkr, htw, hbr⟩ := hrel
      by_cases hlt : x < 6
      · have N23 := Lib.hid (new23 (x : Int) wr)
        rw [lim_nat hlt] at N23
        have hx0 : (0 : Int) ≤ (x : Int) := by omega
        have hx1 : (x : Int) < (6 : Int) := by omega
        go_wp2_with fail
        refine N23.out.mono ?_
        rintro e w3 ⟨A1, n1, c1, rfl, o1, h1⟩
        have hk1 := hkr.later h1
        have z := hk1.frozen x
        have zc := hk1.at x (arr_get sl hlt)
        have hg := grown_setCell w3 ⟨w.heap.size, x, none⟩ (.slice A1 n1 c1)
        have HR : Hid (Blk (w3.setCell ⟨w.heap.size, x, none⟩ (.slice A1 n1 c1)) w.heap.size 47 (arr (putS sl x ⟨A1, n1, c1⟩)) ∧ (∀ y : Nat, y < x + 1 → Tw (w3.setCell ⟨w.heap.size, x, none⟩ (.slice A1 n1 c1)) (putS sl x ⟨A1, n1, c1⟩ y) [own (y : Int) 0]) ∧ Below w.heap.size w (w3.setCell ⟨w.heap.size, x, none⟩ (.slice A1 n1 c1))) := Lib.hid (by
          have b1 := hbr.trans (h1.mono hbr.size)
          refine ⟨arr_put sl hlt ⟨A1, n1, c1⟩ ▸ hk1.set_ x _, fun y hy => ?_, Below.grow b1 hg b1.size (Nat.le_refl _)⟩
          by_cases hyx : y = x
          · subst hyx
            rw [putS_same]
            exact (Tw.of_ow o1).grown hk1 (by decide) hg
          · rw [putS_other hyx]
            exact ((htw y (by omega)).later h1).grown hk1 (by decide) hg)
        clear hkr htw hbr h1 o1 hk1 hg N23
        go_wp2
        go_roundw
        case rel => exact ⟨x + 1, putS sl x ⟨A1, n1, c1⟩, by omega, by go_num, HR.out.1, HR.out.2.1, HR.out.2.2⟩
        case measure => simp [intOf]; omega
      · have hx6 : x = 6 := by omega
        have dx : decide ((x : Int) < 6) = false := decide_eq_false (by omega)
        clear hlt
        have e0 := hkr.at 0 (arr_get sl (by omega))
        have e1 := hkr.at 1 (arr_get sl (by omega))
        have e2 := hkr.at 2 (arr_get sl (by omega))
        have e3 := hkr.at 3 (arr_get sl (by omega))
        have e4 := hkr.at 4 (arr_get sl (by omega))
        have e5 := hkr.at 5 (arr_get sl (by omega))
        have HH : Hid (HSt w w.heap.size wr.heap.size (some ⟨wr.heap.size, 0, none⟩) 1 1 sl (fun y => [own (y : Int) 0]) [sl] (wr.alloc (.cells (arr sl) 47))) := Lib.hid (by
          have hba : Below wr.heap.size wr (wr.alloc (.cells (arr sl) 47)) := (Below.refl _ _).alloc (Nat.le_refl _) _
          have htw2 : ∀ y : Nat, y < 6 → Tw (wr.alloc (.cells (arr sl) 47)) (sl y) [own (y : Int) 0] := fun y hy => (htw y (by omega)).later hba
          refine ⟨⟨Nat.le_refl _, hkr.lt, by simp⟩, by omega, hkr.later hba, htw2, linv_init (fun y hy => rfl), ow_six sl wr, fun f hf => ?_, hbr.trans (hba.mono hbr.size)⟩
          rw [List.mem_singleton] at hf
          subst hf
          exact ⟨fun y => [own (y : Int) 0], fun y hy => ⟨htw2 y hy, Kept.refl _, by simp⟩⟩)
        clear hkr htw hbr hx6 hx
        go_upto_region 9 with fail
        obtain ⟨V1, hV1⟩ : ∃ V1, wr.alloc (.cells (arr sl) 47) = V1 := ⟨_, rfl⟩
        rw [hV1] at HH
        rw [hV1]
        clear hV1 e0 e1 e2 e3 e4 e5
        have HB0 : Hid (∃ B0 : Nat, w.heap.size < B0 ∧ B0 = wr.heap.size) := Lib.hid ⟨_, HH.out.gb.2.1, rfl⟩
        generalize wr.heap.size = B0 at *
        go_wp2
        go_loopw [5, 6] (fun z i wr => ∃ (j m cp : Nat) (B : Option Addr) (sl : Nat → Sl) (ts : Nat → List Rt) (hl : List (Nat → Sl)), j ≤ n ∧ m ≤ j + 1 ∧ i = .int .i64 j ∧ z = .slice B m cp ∧ HSt w w.heap.size B0 B m cp sl ts hl wr) (fun _ i _ => n - (intOf i).toNat)
        case atStart => exact ⟨0, 1, 1, _, sl, _, _, Nat.zero_le _, Nat.le_refl _, rfl, rfl, HH.out⟩
        case round =>
          clear HH
          obtain ⟨j, m, cp, B, sl, ts, hl, hj, hm, rfl, rfl, hst⟩ := hrel
          by_cases hlt : j < n
          · have hrw := hr.later hst.below
            obtain ⟨b, off, x, rfl, e0, e1, e2, e3, e4⟩ := ac_at hrw hlt
            have HJ := Lib.hid hlt
            have HM := Lib.hid hm
            have dj : decide (j < n) = true := decide_eq_true hlt
            have hn60 : n ≤ 60 := by omega
            have HN60 := Lib.hid hn60
            clear hrw hr
            go_upto_region 13 with fail
            obtain ⟨V, hV, hBV, hzV, hkV⟩ := boxeds wr (acC x) 50
            rw [hV]
            have hsV := hst.later hBV
            have HKV := Lib.hid hkV
            have HGW := Lib.hid (show w.heap.size < wr.heap.size by have := hst.gb; omega)
            have f1 := hkV.at 1 (v := .int .i64 x.a) rfl
            have f2 := hkV.at 2 (v := .int .i64 x.b) rfl
            clear e0 e1 e2 e3 e4 hV hzV hkV hBV hst hlt
            by_cases hab : (0 ≤ x.a ∧ x.a ≤ 5) ∧ 0 ≤ x.b ∧ x.b ≤ 5
            · obtain ⟨k, xa, xb, c, o⟩ := x
              obtain ⟨⟨p1, p2⟩, p3, p4⟩ := hab
              dsimp only at p1 p2 p3 p4 f1 f2 HKV
              obtain ⟨a, rfl⟩ : ∃ a : Nat, xa = (a : Int) := ⟨xa.toNat, by omega⟩
              obtain ⟨b, rfl⟩ : ∃ b : Nat, xb = (b : Int) := ⟨xb.toNat, by omega⟩
              have ha6 : a < 6 := by omega
              have hb6 : b < 6 := by omega
              have f0 := HKV.out.at 0 (v := .int .i64 k) rfl
              go_upto_block 4 with fail
              go_cut [] (fun w' => ∃ (sl' : Nat → Sl) (ts' : Nat → List Rt), HSt w w.heap.size B0 B m cp sl' ts' hl w')
              case first =>
                have E1 := Lib.hid f1
                have E2 := Lib.hid f2
                have E3 := Lib.hid (HKV.out.at 3 (v := .int .i64 c) rfl)
                have HGN : Hid (w.heap.size ≠ wr.heap.size) := Lib.hid (by have := HGW.out; omega)
                have hx0 : (0 : Int) ≤ (a : Int) := by omega
                have hx1 : (a : Int) < (6 : Int) := by omega
                by_cases hk0 : k = 0
                · have d1 : (k == 0) = true := by simp [hk0]
                  clear hk0 f0 f1 f2
                  go_upto_region 20 with fail
                  have hs3 := (hsV).later (Below.drew (Below.refl _ _))
                  have ta := hs3.blk.at a (arr_get sl ha6)
                  have hU : V.drew.cell? ⟨wr.heap.size, 1, none⟩ = some (.int .i64 (a : Int)) ∧ V.drew.cell? ⟨wr.heap.size, 2, none⟩ = some (.int .i64 (b : Int)) ∧ V.drew.cell? ⟨wr.heap.size, 3, none⟩ = some (.int .i64 c) := ⟨E1.out, E2.out, E3.out⟩
                  have hgne : w.heap.size ≠ wr.heap.size := HGN.out
                  have hl4 : (sl a).n ≤ 24 := by rw [← (hs3.tw a ha6).1.1]; exact (hs3.inv.ok a ha6).le
                  have CC := Lib.hid (bump26 (sl a).A (sl a).n (sl a).c (ts a) (a : Int) _ (by omega) (hs3.tw a ha6).1)
                  clear hl4
                  refine wp_region_held_drew (S := fun w' => w'.cell? ⟨wr.heap.size, 1, none⟩ = some (.int .i64 (a : Int)) ∧ w'.cell? ⟨wr.heap.size, 2, none⟩ = some (.int .i64 (b : Int)) ∧ w'.cell? ⟨wr.heap.size, 3, none⟩ = some (.int .i64 c)) (by kernel_rfl) hU (fun _ => ?_)
                  refine wpAnyH_take (i := 0) (v := (.pointer (some ⟨wr.heap.size, 1, none⟩))) rfl (by kernel_rfl) (by kernel_rfl) (by kernel_rfl) (fun _ _ _ h => h) (Or.inl ⟨by rfl, ?_⟩) hU ?_
                  · intro w' hSw
                    obtain ⟨s1, s2, s3⟩ := hSw
                    go_simp
                    done
                  try simp only [Act.put, List.setIfInBounds_toArray, List.set_cons_zero, List.set_cons_succ]
                  refine wpAnyH_take (i := 1) (v := (.int .i64 (a : Int))) rfl (by kernel_rfl) (by kernel_rfl) (by kernel_rfl) (fun _ _ _ h => h) (Or.inl ⟨by rfl, ?_⟩) hU ?_
                  · intro w' hSw
                    obtain ⟨s1, s2, s3⟩ := hSw
                    go_simp
                    done
                  try simp only [Act.put, List.setIfInBounds_toArray, List.set_cons_zero, List.set_cons_succ]
                  refine wpAnyH_take (i := 2) (v := (.pointer (some ⟨wr.heap.size, 1, none⟩))) rfl (by kernel_rfl) (by kernel_rfl) (by kernel_rfl) (fun _ _ _ h => h) (Or.inl ⟨by rfl, ?_⟩) hU ?_
                  · intro w' hSw
                    obtain ⟨s1, s2, s3⟩ := hSw
                    go_simp
                    done
                  try simp only [Act.put, List.setIfInBounds_toArray, List.set_cons_zero, List.set_cons_succ]
                  refine wpAnyH_take (i := 3) (v := (.int .i64 (a : Int))) rfl (by kernel_rfl) (by kernel_rfl) (by kernel_rfl) (fun _ _ _ h => h) (Or.inl ⟨by rfl, ?_⟩) hU ?_
                  · intro w' hSw
                    obtain ⟨s1, s2, s3⟩ := hSw
                    go_simp
                    done
                  try simp only [Act.put, List.setIfInBounds_toArray, List.set_cons_zero, List.set_cons_succ]
                  refine wpAnyH_take (i := 4) (v := (.pointer (some ⟨w.heap.size, a, none⟩))) rfl (by kernel_rfl) (by kernel_rfl) (by kernel_rfl) (fun _ _ _ h => h) (Or.inl ⟨by rfl, ?_⟩) hU ?_
                  · intro w' hSw
                    obtain ⟨s1, s2, s3⟩ := hSw
                    go_simp
                    done
                  try simp only [Act.put, List.setIfInBounds_toArray, List.set_cons_zero, List.set_cons_succ]
                  refine wpAnyH_take (i := 6) (v := (.pointer (some ⟨wr.heap.size, 1, none⟩))) rfl (by kernel_rfl) (by kernel_rfl) (by kernel_rfl) (fun _ _ _ h => h) (Or.inl ⟨by rfl, ?_⟩) hU ?_
                  · intro w' hSw
                    obtain ⟨s1, s2, s3⟩ := hSw
                    go_simp
                    done
                  try simp only [Act.put, List.setIfInBounds_toArray, List.set_cons_zero, List.set_cons_succ]
                  refine wpAnyH_take (i := 7) (v := (.int .i64 (a : Int))) rfl (by kernel_rfl) (by kernel_rfl) (by kernel_rfl) (fun _ _ _ h => h) (Or.inl ⟨by rfl, ?_⟩) hU ?_
                  · intro w' hSw
                    obtain ⟨s1, s2, s3⟩ := hSw
                    go_simp
                    done
                  try simp only [Act.put, List.setIfInBounds_toArray, List.set_cons_zero, List.set_cons_succ]
                  refine wpAnyH_ready (rs := [5]) (by kernel_rfl) (by simp) (AllReadyH.cons rfl (fun K hK => ?_) AllReadyH.nil)
                  go_simp
                  refine hK.out _ _ hU (fun _ => ?_)
                  clear hK K ta
                  try simp only [Act.put, List.setIfInBounds_toArray, List.set_cons_zero, List.set_cons_succ]
                  refine wpAnyH_ready (rs := [8]) (by kernel_rfl) (by simp) (AllReadyH.cons rfl (fun K hK => ?_) AllReadyH.nil)
                  go_simp
                  refine CC.out.mono ?_
                  rintro e w6 ⟨A1, n1, c1, rfl, o1, h6⟩
                  go_wp2_with fail
                  have hV : w6.cell? ⟨wr.heap.size, 1, none⟩ = some (.int .i64 (a : Int)) ∧ w6.cell? ⟨wr.heap.size, 2, none⟩ = some (.int .i64 (b : Int)) ∧ w6.cell? ⟨wr.heap.size, 3, none⟩ = some (.int .i64 c) := ⟨keep h6 hU.1, keep h6 hU.2.1, keep h6 hU.2.2⟩
                  have hs6 := hs3.later h6
                  refine hK.out _ _ hV (fun _ => ?_)
                  clear hK K CC hs3 hU
                  try simp only [Act.put, List.setIfInBounds_toArray, List.set_cons_zero, List.set_cons_succ]
                  refine wpAnyH_take (i := 9) (v := (.pointer (some ⟨w.heap.size, a, none⟩))) rfl (by kernel_rfl) (by kernel_rfl) (by kernel_rfl) (fun _ _ _ h => h) (Or.inl ⟨by rfl, ?_⟩) hV ?_
                  · intro w' hSw
                    go_simp
                    done
                  try simp only [Act.put, List.setIfInBounds_toArray, List.set_cons_zero, List.set_cons_succ]
                  have z := hs6.blk.frozen a
                  have zc := hs6.blk.at a (arr_get sl ha6)
                  obtain ⟨L1, L2⟩ := linv_bump hs6.inv ha6
                  have HF := Lib.hid (hs6.put ha6 (s := ⟨A1, n1, c1⟩) (Tw.of_ow o1) L1 L2)
                  have hW : (w6.setCell ⟨w.heap.size, a, none⟩ (.slice A1 n1 c1)).cell? ⟨wr.heap.size, 1, none⟩ = some (.int .i64 (a : Int)) ∧ (w6.setCell ⟨w.heap.size, a, none⟩ (.slice A1 n1 c1)).cell? ⟨wr.heap.size, 2, none⟩ = some (.int .i64 (b : Int)) ∧ (w6.setCell ⟨w.heap.size, a, none⟩ (.slice A1 n1 c1)).cell? ⟨wr.heap.size, 3, none⟩ = some (.int .i64 c) := ⟨(World.cell?_setCell_far _ _ _ _ hgne).trans hV.1, (World.cell?_setCell_far _ _ _ _ hgne).trans hV.2.1, (World.cell?_setCell_far _ _ _ _ hgne).trans hV.2.2⟩
                  clear h6 hs6 o1 L1 L2 hgne hV
                  refine wpAnyH_ready (rs := [10]) (by kernel_rfl) (by simp) (AllReadyH.cons rfl (fun K hK => ?_) AllReadyH.nil)
                  go_simp
                  refine hK.out _ _ hW (fun _ => ?_)
                  clear hK K hW z zc
                  try simp only [Act.put, List.setIfInBounds_toArray, List.set_cons_zero, List.set_cons_succ]
                  refine wpAnyH_done (by kernel_rfl) ?_ _
                  go_wp2
                  go_meet
                  exact ⟨_, _, HF.out⟩
                · have d1 : (k == 0) = false := by rw [beq_eq_false_iff_ne]; exact hk0
                  by_cases hk1 : k = 1
                  · have d2 : (k == 1) = true := by simp [hk1]
                    clear hk0 hk1 f0 f1 f2
                    go_upto_region 22 with fail
                    have hs3 := (hsV).later (Below.drew (Below.refl _ _))
                    have ta := hs3.blk.at a (arr_get sl ha6)
                    have hU : V.drew.cell? ⟨wr.heap.size, 1, none⟩ = some (.int .i64 (a : Int)) ∧ V.drew.cell? ⟨wr.heap.size, 2, none⟩ = some (.int .i64 (b : Int)) ∧ V.drew.cell? ⟨wr.heap.size, 3, none⟩ = some (.int .i64 c) := ⟨E1.out, E2.out, E3.out⟩
                    have hgne : w.heap.size ≠ wr.heap.size := HGN.out
                    have hl4 : (sl a).n ≤ 24 := by rw [← (hs3.tw a ha6).1.1]; exact (hs3.inv.ok a ha6).le
                    have CC := Lib.hid (brk16 (sl a).A (sl a).n (sl a).c (ts a) (a : Int) (b : Int) _ (by omega) (hs3.tw a ha6).1)
                    clear hl4
                    refine wp_region_held_drew (S := fun w' => w'.cell? ⟨wr.heap.size, 1, none⟩ = some (.int .i64 (a : Int)) ∧ w'.cell? ⟨wr.heap.size, 2, none⟩ = some (.int .i64 (b : Int)) ∧ w'.cell? ⟨wr.heap.size, 3, none⟩ = some (.int .i64 c)) (by kernel_rfl) hU (fun _ => ?_)
                    refine wpAnyH_take (i := 0) (v := (.pointer (some ⟨wr.heap.size, 1, none⟩))) rfl (by kernel_rfl) (by kernel_rfl) (by kernel_rfl) (fun _ _ _ h => h) (Or.inl ⟨by rfl, ?_⟩) hU ?_
                    · intro w' hSw
                      obtain ⟨s1, s2, s3⟩ := hSw
                      go_simp
                      done
                    try simp only [Act.put, List.setIfInBounds_toArray, List.set_cons_zero, List.set_cons_succ]
                    refine wpAnyH_take (i := 1) (v := (.int .i64 (a : Int))) rfl (by kernel_rfl) (by kernel_rfl) (by kernel_rfl) (fun _ _ _ h => h) (Or.inl ⟨by rfl, ?_⟩) hU ?_
                    · intro w' hSw
                      obtain ⟨s1, s2, s3⟩ := hSw
                      go_simp
                      done
                    try simp only [Act.put, List.setIfInBounds_toArray, List.set_cons_zero, List.set_cons_succ]
                    refine wpAnyH_take (i := 2) (v := (.pointer (some ⟨wr.heap.size, 1, none⟩))) rfl (by kernel_rfl) (by kernel_rfl) (by kernel_rfl) (fun _ _ _ h => h) (Or.inl ⟨by rfl, ?_⟩) hU ?_
                    · intro w' hSw
                      obtain ⟨s1, s2, s3⟩ := hSw
                      go_simp
                      done
                    try simp only [Act.put, List.setIfInBounds_toArray, List.set_cons_zero, List.set_cons_succ]
                    refine wpAnyH_take (i := 3) (v := (.int .i64 (a : Int))) rfl (by kernel_rfl) (by kernel_rfl) (by kernel_rfl) (fun _ _ _ h => h) (Or.inl ⟨by rfl, ?_⟩) hU ?_
                    · intro w' hSw
                      obtain ⟨s1, s2, s3⟩ := hSw
                      go_simp
                      done
                    try simp only [Act.put, List.setIfInBounds_toArray, List.set_cons_zero, List.set_cons_succ]
                    refine wpAnyH_take (i := 4) (v := (.pointer (some ⟨w.heap.size, a, none⟩))) rfl (by kernel_rfl) (by kernel_rfl) (by kernel_rfl) (fun _ _ _ h => h) (Or.inl ⟨by rfl, ?_⟩) hU ?_
                    · intro w' hSw
                      obtain ⟨s1, s2, s3⟩ := hSw
                      go_simp
                      done
                    try simp only [Act.put, List.setIfInBounds_toArray, List.set_cons_zero, List.set_cons_succ]
                    refine wpAnyH_take (i := 6) (v := (.pointer (some ⟨wr.heap.size, 1, none⟩))) rfl (by kernel_rfl) (by kernel_rfl) (by kernel_rfl) (fun _ _ _ h => h) (Or.inl ⟨by rfl, ?_⟩) hU ?_
                    · intro w' hSw
                      obtain ⟨s1, s2, s3⟩ := hSw
                      go_simp
                      done
                    try simp only [Act.put, List.setIfInBounds_toArray, List.set_cons_zero, List.set_cons_succ]
                    refine wpAnyH_take (i := 7) (v := (.int .i64 (a : Int))) rfl (by kernel_rfl) (by kernel_rfl) (by kernel_rfl) (fun _ _ _ h => h) (Or.inl ⟨by rfl, ?_⟩) hU ?_
                    · intro w' hSw
                      obtain ⟨s1, s2, s3⟩ := hSw
                      go_simp
                      done
                    try simp only [Act.put, List.setIfInBounds_toArray, List.set_cons_zero, List.set_cons_succ]
                    refine wpAnyH_take (i := 8) (v := (.pointer (some ⟨wr.heap.size, 2, none⟩))) rfl (by kernel_rfl) (by kernel_rfl) (by kernel_rfl) (fun _ _ _ h => h) (Or.inl ⟨by rfl, ?_⟩) hU ?_
                    · intro w' hSw
                      obtain ⟨s1, s2, s3⟩ := hSw
                      go_simp
                      done
                    try simp only [Act.put, List.setIfInBounds_toArray, List.set_cons_zero, List.set_cons_succ]
                    refine wpAnyH_take (i := 9) (v := (.int .i64 (b : Int))) rfl (by kernel_rfl) (by kernel_rfl) (by kernel_rfl) (fun _ _ _ h => h) (Or.inl ⟨by rfl, ?_⟩) hU ?_
                    · intro w' hSw
                      obtain ⟨s1, s2, s3⟩ := hSw
                      go_simp
                      done
                    try simp only [Act.put, List.setIfInBounds_toArray, List.set_cons_zero, List.set_cons_succ]
                    refine wpAnyH_ready (rs := [5]) (by kernel_rfl) (by simp) (AllReadyH.cons rfl (fun K hK => ?_) AllReadyH.nil)
                    go_simp
                    refine hK.out _ _ hU (fun _ => ?_)
                    clear hK K ta
                    try simp only [Act.put, List.setIfInBounds_toArray, List.set_cons_zero, List.set_cons_succ]
                    refine wpAnyH_ready (rs := [10]) (by kernel_rfl) (by simp) (AllReadyH.cons rfl (fun K hK => ?_) AllReadyH.nil)
                    go_simp
                    refine CC.out.mono ?_
                    rintro e w6 ⟨A1, n1, c1, rfl, o1, h6⟩
                    go_wp2_with fail
                    have hV : w6.cell? ⟨wr.heap.size, 1, none⟩ = some (.int .i64 (a : Int)) ∧ w6.cell? ⟨wr.heap.size, 2, none⟩ = some (.int .i64 (b : Int)) ∧ w6.cell? ⟨wr.heap.size, 3, none⟩ = some (.int .i64 c) := ⟨keep h6 hU.1, keep h6 hU.2.1, keep h6 hU.2.2⟩
                    have hs6 := hs3.later h6
                    refine hK.out _ _ hV (fun _ => ?_)
                    clear hK K CC hs3 hU
                    try simp only [Act.put, List.setIfInBounds_toArray, List.set_cons_zero, List.set_cons_succ]
                    refine wpAnyH_take (i := 11) (v := (.pointer (some ⟨w.heap.size, a, none⟩))) rfl (by kernel_rfl) (by kernel_rfl) (by kernel_rfl) (fun _ _ _ h => h) (Or.inl ⟨by rfl, ?_⟩) hV ?_
                    · intro w' hSw
                      go_simp
                      done
                    try simp only [Act.put, List.setIfInBounds_toArray, List.set_cons_zero, List.set_cons_succ]
                    have z := hs6.blk.frozen a
                    have zc := hs6.blk.at a (arr_get sl ha6)
                    obtain ⟨L1, L2⟩ := linv_brk hs6.inv ha6 (b : Int)
                    have HF := Lib.hid (hs6.put ha6 (s := ⟨A1, n1, c1⟩) (Tw.of_ow o1) L1 L2)
                    have hW : (w6.setCell ⟨w.heap.size, a, none⟩ (.slice A1 n1 c1)).cell? ⟨wr.heap.size, 1, none⟩ = some (.int .i64 (a : Int)) ∧ (w6.setCell ⟨w.heap.size, a, none⟩ (.slice A1 n1 c1)).cell? ⟨wr.heap.size, 2, none⟩ = some (.int .i64 (b : Int)) ∧ (w6.setCell ⟨w.heap.size, a, none⟩ (.slice A1 n1 c1)).cell? ⟨wr.heap.size, 3, none⟩ = some (.int .i64 c) := ⟨(World.cell?_setCell_far _ _ _ _ hgne).trans hV.1, (World.cell?_setCell_far _ _ _ _ hgne).trans hV.2.1, (World.cell?_setCell_far _ _ _ _ hgne).trans hV.2.2⟩
                    clear h6 hs6 o1 L1 L2 hgne hV
                    refine wpAnyH_ready (rs := [12]) (by kernel_rfl) (by simp) (AllReadyH.cons rfl (fun K hK => ?_) AllReadyH.nil)
                    go_simp
                    refine hK.out _ _ hW (fun _ => ?_)
                    clear hK K hW z zc
                    try simp only [Act.put, List.setIfInBounds_toArray, List.set_cons_zero, List.set_cons_succ]
                    refine wpAnyH_done (by kernel_rfl) ?_ _
                    go_wp2
                    go_meet
                    exact ⟨_, _, HF.out⟩
                  · have d2 : (k == 1) = false := by rw [beq_eq_false_iff_ne]; exact hk1
                    have q0 := hsV.blk.at b (arr_get sl hb6)
                    have hy0 : (0 : Int) ≤ (b : Int) := by omega
                    have hy1 : (b : Int) < (6 : Int) := by omega
                    clear hk0 hk1 f0 f1
                    go_upto_region 16 with fail
                    obtain ⟨β, hβ⟩ : ∃ β : Bool, β = decide (0 ≤ o ∧ o < (m : Int)) := ⟨_, rfl⟩
                    have Hβ := Lib.hid hβ
                    have f4 := HKV.out.at 4 (v := .int .i64 o) rfl
                    clear hβ q0 f2
                    go_cut [66] (fun y w' => y = .bool β ∧ w' = V)
                    case first =>
                      rcases (show o < 0 ∨ (0 ≤ o ∧ (m : Int) ≤ o) ∨ (0 ≤ o ∧ o < (m : Int)) by omega) with h4 | ⟨h4, h5⟩ | ⟨h4, h5⟩
                      · have HE := Lib.hid (Hβ.out.trans (decide_eq_false (by omega)))
                        clear Hβ
                        go_wp2
                        all_goals first | (exfalso; omega) | skip
                        go_meet
                        exact ⟨by rw [HE.out], rfl⟩
                      · have HE := Lib.hid (Hβ.out.trans (decide_eq_false (by omega)))
                        have d5 : decide (o < (m : Int)) = false := decide_eq_false (by omega)
                        clear Hβ
                        go_wp2
                        all_goals first | (exfalso; omega) | skip
                        go_meet
                        exact ⟨by rw [HE.out], rfl⟩
                      · have HE := Lib.hid (Hβ.out.trans (decide_eq_true (by omega)))
                        clear Hβ
                        go_wp2
                        all_goals first | (exfalso; omega) | skip
                        go_meet
                        exact ⟨by rw [HE.out], rfl⟩
                    case rest =>
                      obtain ⟨rfl, rfl⟩ := hcut
                      obtain ⟨V, rfl⟩ : ∃ y : World, y = wc := ⟨_, rfl⟩
                      go_upto_if 66 with fail
                      go_cut [8] (fun z w' => ∃ (s : Sl) (u : List Rt), z = sv s ∧ Tw w' s u ∧ u.length ≤ 24 ∧ Kept u (ts b) ∧ Below V.heap.size V w')
                      case first =>
                        cases β
                        · have HH := Lib.hid (And.intro (hsV.tw b hb6) (hsV.inv.ok b hb6).le)
                          go_wp2
                          go_meet
                          exact ⟨sl b, ts b, rfl, HH.out.1, HH.out.2, Kept.refl _, Below.refl _ _⟩
                        · have ho := of_decide_eq_true Hβ.out.symm
                          obtain ⟨q, rfl⟩ : ∃ q : Nat, o = (q : Int) := ⟨o.toNat, by omega⟩
                          have hqm : q < m := by omega
                          obtain ⟨bb, off', f, rfl, hf, hc⟩ := hsV.ow.rd.elem hqm
                          obtain ⟨h, hh⟩ := hsV.old f (List.mem_of_getElem? hf)
                          have HH := Lib.hid (hh b hb6)
                          have hcb : V.cell? ⟨bb, off' + q * 6 + b, none⟩ = some (sv (f b)) := hc b _ (encS_get f hb6)
                          have QQ := After.cell hcb
                          have F1 := After.cell E1.out
                          have F2 := After.cell E2.out
                          have F4 := After.cell f4
                          have hq0 : (0 : Int) ≤ (q : Int) := by omega
                          have hq1 : (q : Int) < (m : Int) := by omega
                          clear ho hf hc hcb hh f4
                          go_upto_region 17 with fail
                          refine wp_region_after_tail 8 (by kernel_rfl) (by kernel_rfl) ?_
                          simp only [List.take_succ_cons, List.take_zero, List.drop_succ_cons, List.drop_zero]
                          repeat (go_big_quiet_step (fail))
                          refine wpQuiet_nil ?_
                          intro w4 hb4
                          have HT := Lib.hid (HH.out.1.later hb4)
                          clear F1 F2 F4 QQ
                          go_wp2
                          go_meet
                          exact ⟨f b, h b, rfl, HT.out, HH.out.2.2, HH.out.2.1, hb4⟩
                      case rest =>
                        obtain ⟨s, u, rfl, hsu, hu24, hku, hbu⟩ := hcut
                        obtain ⟨U, rfl⟩ : ∃ y : World, y = wc := ⟨_, rfl⟩
                        have hsU := hsV.later hbu
                        clear E1 E2 E3
                        have E1 := Lib.hid ((HKV.out.later hbu).at 1 (v := .int .i64 (a : Int)) rfl)
                        have E2 := Lib.hid ((HKV.out.later hbu).at 2 (v := .int .i64 (b : Int)) rfl)
                        have E3 := Lib.hid ((HKV.out.later hbu).at 3 (v := .int .i64 c) rfl)
                        have HKU := Lib.hid hku
                        clear hsV hbu f4 hku Hβ
                        go_upto_region 18 with fail
                        have hs3 := (hsU).later (Below.drew (Below.refl _ _))
                        have ta := hs3.blk.at a (arr_get sl ha6)
                        have hU : U.drew.cell? ⟨wr.heap.size, 1, none⟩ = some (.int .i64 (a : Int)) ∧ U.drew.cell? ⟨wr.heap.size, 2, none⟩ = some (.int .i64 (b : Int)) ∧ U.drew.cell? ⟨wr.heap.size, 3, none⟩ = some (.int .i64 c) := ⟨E1.out, E2.out, E3.out⟩
                        have hgne : w.heap.size ≠ wr.heap.size := HGN.out
                        have hl4 : (sl a).n ≤ 24 := by rw [← (hs3.tw a ha6).1.1]; exact (hs3.inv.ok a ha6).le
                        have CC := Lib.hid (upd12 (sl a).A (sl a).n (sl a).c (ts a) (a : Int) (b : Int) c s.A s.n s.c u _ (by omega) (hs3.tw a ha6).1 (by rw [← hsu.1.1]; omega) (hsu.later (Below.drew (Below.refl _ _))).1)
                        clear hl4
                        refine wp_region_held_drew (S := fun w' => w'.cell? ⟨wr.heap.size, 1, none⟩ = some (.int .i64 (a : Int)) ∧ w'.cell? ⟨wr.heap.size, 2, none⟩ = some (.int .i64 (b : Int)) ∧ w'.cell? ⟨wr.heap.size, 3, none⟩ = some (.int .i64 c)) (by kernel_rfl) hU (fun _ => ?_)
                        refine wpAnyH_take (i := 0) (v := (.pointer (some ⟨wr.heap.size, 1, none⟩))) rfl (by kernel_rfl) (by kernel_rfl) (by kernel_rfl) (fun _ _ _ h => h) (Or.inl ⟨by rfl, ?_⟩) hU ?_
                        · intro w' hSw
                          obtain ⟨s1, s2, s3⟩ := hSw
                          go_simp
                          done
                        try simp only [Act.put, List.setIfInBounds_toArray, List.set_cons_zero, List.set_cons_succ]
                        refine wpAnyH_take (i := 1) (v := (.int .i64 (a : Int))) rfl (by kernel_rfl) (by kernel_rfl) (by kernel_rfl) (fun _ _ _ h => h) (Or.inl ⟨by rfl, ?_⟩) hU ?_
                        · intro w' hSw
                          obtain ⟨s1, s2, s3⟩ := hSw
                          go_simp
                          done
                        try simp only [Act.put, List.setIfInBounds_toArray, List.set_cons_zero, List.set_cons_succ]
                        refine wpAnyH_take (i := 2) (v := (.pointer (some ⟨wr.heap.size, 1, none⟩))) rfl (by kernel_rfl) (by kernel_rfl) (by kernel_rfl) (fun _ _ _ h => h) (Or.inl ⟨by rfl, ?_⟩) hU ?_
                        · intro w' hSw
                          obtain ⟨s1, s2, s3⟩ := hSw
                          go_simp
                          done
                        try simp only [Act.put, List.setIfInBounds_toArray, List.set_cons_zero, List.set_cons_succ]
                        refine wpAnyH_take (i := 3) (v := (.int .i64 (a : Int))) rfl (by kernel_rfl) (by kernel_rfl) (by kernel_rfl) (fun _ _ _ h => h) (Or.inl ⟨by rfl, ?_⟩) hU ?_
                        · intro w' hSw
                          obtain ⟨s1, s2, s3⟩ := hSw
                          go_simp
                          done
                        try simp only [Act.put, List.setIfInBounds_toArray, List.set_cons_zero, List.set_cons_succ]
                        refine wpAnyH_take (i := 4) (v := (.pointer (some ⟨w.heap.size, a, none⟩))) rfl (by kernel_rfl) (by kernel_rfl) (by kernel_rfl) (fun _ _ _ h => h) (Or.inl ⟨by rfl, ?_⟩) hU ?_
                        · intro w' hSw
                          obtain ⟨s1, s2, s3⟩ := hSw
                          go_simp
                          done
                        try simp only [Act.put, List.setIfInBounds_toArray, List.set_cons_zero, List.set_cons_succ]
                        refine wpAnyH_take (i := 6) (v := (.pointer (some ⟨wr.heap.size, 1, none⟩))) rfl (by kernel_rfl) (by kernel_rfl) (by kernel_rfl) (fun _ _ _ h => h) (Or.inl ⟨by rfl, ?_⟩) hU ?_
                        · intro w' hSw
                          obtain ⟨s1, s2, s3⟩ := hSw
                          go_simp
                          done
                        try simp only [Act.put, List.setIfInBounds_toArray, List.set_cons_zero, List.set_cons_succ]
                        refine wpAnyH_take (i := 7) (v := (.int .i64 (a : Int))) rfl (by kernel_rfl) (by kernel_rfl) (by kernel_rfl) (fun _ _ _ h => h) (Or.inl ⟨by rfl, ?_⟩) hU ?_
                        · intro w' hSw
                          obtain ⟨s1, s2, s3⟩ := hSw
                          go_simp
                          done
                        try simp only [Act.put, List.setIfInBounds_toArray, List.set_cons_zero, List.set_cons_succ]
                        refine wpAnyH_take (i := 8) (v := (.pointer (some ⟨wr.heap.size, 2, none⟩))) rfl (by kernel_rfl) (by kernel_rfl) (by kernel_rfl) (fun _ _ _ h => h) (Or.inl ⟨by rfl, ?_⟩) hU ?_
                        · intro w' hSw
                          obtain ⟨s1, s2, s3⟩ := hSw
                          go_simp
                          done
                        try simp only [Act.put, List.setIfInBounds_toArray, List.set_cons_zero, List.set_cons_succ]
                        refine wpAnyH_take (i := 9) (v := (.int .i64 (b : Int))) rfl (by kernel_rfl) (by kernel_rfl) (by kernel_rfl) (fun _ _ _ h => h) (Or.inl ⟨by rfl, ?_⟩) hU ?_
                        · intro w' hSw
                          obtain ⟨s1, s2, s3⟩ := hSw
                          go_simp
                          done
                        try simp only [Act.put, List.setIfInBounds_toArray, List.set_cons_zero, List.set_cons_succ]
                        refine wpAnyH_take (i := 10) (v := (.pointer (some ⟨wr.heap.size, 3, none⟩))) rfl (by kernel_rfl) (by kernel_rfl) (by kernel_rfl) (fun _ _ _ h => h) (Or.inl ⟨by rfl, ?_⟩) hU ?_
                        · intro w' hSw
                          obtain ⟨s1, s2, s3⟩ := hSw
                          go_simp
                          done
                        try simp only [Act.put, List.setIfInBounds_toArray, List.set_cons_zero, List.set_cons_succ]
                        refine wpAnyH_take (i := 11) (v := (.int .i64 c)) rfl (by kernel_rfl) (by kernel_rfl) (by kernel_rfl) (fun _ _ _ h => h) (Or.inl ⟨by rfl, ?_⟩) hU ?_
                        · intro w' hSw
                          obtain ⟨s1, s2, s3⟩ := hSw
                          go_simp
                          done
                        try simp only [Act.put, List.setIfInBounds_toArray, List.set_cons_zero, List.set_cons_succ]
                        refine wpAnyH_take (i := 12) (v := (.slice s.A s.n s.c)) rfl (by kernel_rfl) (by kernel_rfl) (by kernel_rfl) (fun _ _ _ h => h) (Or.inl ⟨by rfl, ?_⟩) hU ?_
                        · intro w' hSw
                          obtain ⟨s1, s2, s3⟩ := hSw
                          go_simp
                          done
                        try simp only [Act.put, List.setIfInBounds_toArray, List.set_cons_zero, List.set_cons_succ]
                        refine wpAnyH_ready (rs := [5]) (by kernel_rfl) (by simp) (AllReadyH.cons rfl (fun K hK => ?_) AllReadyH.nil)
                        go_simp
                        refine hK.out _ _ hU (fun _ => ?_)
                        clear hK K ta
                        try simp only [Act.put, List.setIfInBounds_toArray, List.set_cons_zero, List.set_cons_succ]
                        refine wpAnyH_ready (rs := [13]) (by kernel_rfl) (by simp) (AllReadyH.cons rfl (fun K hK => ?_) AllReadyH.nil)
                        go_simp
                        refine CC.out.mono ?_
                        rintro e w6 ⟨A1, n1, c1, rfl, o1, h6⟩
                        go_wp2_with fail
                        have hV : w6.cell? ⟨wr.heap.size, 1, none⟩ = some (.int .i64 (a : Int)) ∧ w6.cell? ⟨wr.heap.size, 2, none⟩ = some (.int .i64 (b : Int)) ∧ w6.cell? ⟨wr.heap.size, 3, none⟩ = some (.int .i64 c) := ⟨keep h6 hU.1, keep h6 hU.2.1, keep h6 hU.2.2⟩
                        have hs6 := hs3.later h6
                        refine hK.out _ _ hV (fun _ => ?_)
                        clear hK K CC hs3 hU
                        try simp only [Act.put, List.setIfInBounds_toArray, List.set_cons_zero, List.set_cons_succ]
                        refine wpAnyH_take (i := 14) (v := (.pointer (some ⟨w.heap.size, a, none⟩))) rfl (by kernel_rfl) (by kernel_rfl) (by kernel_rfl) (fun _ _ _ h => h) (Or.inl ⟨by rfl, ?_⟩) hV ?_
                        · intro w' hSw
                          go_simp
                          done
                        try simp only [Act.put, List.setIfInBounds_toArray, List.set_cons_zero, List.set_cons_succ]
                        have z := hs6.blk.frozen a
                        have zc := hs6.blk.at a (arr_get sl ha6)
                        obtain ⟨L1, L2⟩ := linv_upd hs6.inv ha6 hb6 c HKU.out
                        have HF := Lib.hid (hs6.put ha6 (s := ⟨A1, n1, c1⟩) (Tw.of_ow o1) L1 L2)
                        have hW : (w6.setCell ⟨w.heap.size, a, none⟩ (.slice A1 n1 c1)).cell? ⟨wr.heap.size, 1, none⟩ = some (.int .i64 (a : Int)) ∧ (w6.setCell ⟨w.heap.size, a, none⟩ (.slice A1 n1 c1)).cell? ⟨wr.heap.size, 2, none⟩ = some (.int .i64 (b : Int)) ∧ (w6.setCell ⟨w.heap.size, a, none⟩ (.slice A1 n1 c1)).cell? ⟨wr.heap.size, 3, none⟩ = some (.int .i64 c) := ⟨(World.cell?_setCell_far _ _ _ _ hgne).trans hV.1, (World.cell?_setCell_far _ _ _ _ hgne).trans hV.2.1, (World.cell?_setCell_far _ _ _ _ hgne).trans hV.2.2⟩
                        clear h6 hs6 o1 L1 L2 hgne hV
                        refine wpAnyH_ready (rs := [15]) (by kernel_rfl) (by simp) (AllReadyH.cons rfl (fun K hK => ?_) AllReadyH.nil)
                        go_simp
                        refine hK.out _ _ hW (fun _ => ?_)
                        clear hK K hW z zc
                        try simp only [Act.put, List.setIfInBounds_toArray, List.set_cons_zero, List.set_cons_succ]
                        refine wpAnyH_done (by kernel_rfl) ?_ _
                        go_wp2
                        go_meet
                        exact ⟨_, _, HF.out⟩
              case rest =>
                obtain ⟨sl', ts', hst⟩ := hcut
                obtain ⟨U, rfl⟩ : ∃ y : World, y = wc := ⟨_, rfl⟩
                clear hsV f0 f1 f2 HKV
                have LP := Lib.hid (looping29 sl' ts' U (fun x hx => (hst.tw x hx).1) hst.inv)
                have e0 := hst.blk.at 0 (arr_get sl' (by omega))
                have e1 := hst.blk.at 1 (arr_get sl' (by omega))
                have e2 := hst.blk.at 2 (arr_get sl' (by omega))
                have e3 := hst.blk.at 3 (arr_get sl' (by omega))
                have e4 := hst.blk.at 4 (arr_get sl' (by omega))
                have e5 := hst.blk.at 5 (arr_get sl' (by omega))
                go_wp2_with fail
                refine LP.out.mono ?_
                rintro e w7 ⟨rfl, h7⟩
                have hs7 := hst.later h7
                have g0 := keep h7 e0
                have g1 := keep h7 e1
                have g2 := keep h7 e2
                have g3 := keep h7 e3
                have g4 := keep h7 e4
                have g5 := keep h7 e5
                have hba : Below w7.heap.size w7 (w7.alloc (.cells (arr sl') 47)) := (Below.refl _ _).alloc (Nat.le_refl _) _
                have hs8 := hs7.later hba
                clear e0 e1 e2 e3 e4 e5 LP h7 hst hs7 hba
                have hm60 : m ≤ 61 := by have := HM.out; have := HJ.out; have := HN60.out; omega
                go_wp2_with (at_builtin; refine wpList_append_rd _ rfl (.tmp 118) (.tmp 120) 48 rfl B0 47 i0 _ E6 Try.underlying48 hi0 hz0 hz1 rfl (.slice B m cp) m hl rfl hs8.ow (some ⟨w7.heap.size, 0, none⟩) 1 1 [sl'] rfl (six_rd sl' w7) (by unfold maxLen; omega) (by rw [hz2]; omega) hs8.gb.2.2 ?_; intro A1 cap1 w9 o9 hg9)
                have HX := Lib.hid (hs8.app o9 hg9)
                clear hs8 o9 hg9 g0 g1 g2 g3 g4 g5 hm60
                go_wp2
                go_roundw
                case rel => exact ⟨j + 1, m + 1, cap1, A1, sl', ts', hl ++ [sl'], by have := HJ.out; omega, by have := HM.out; omega, by go_num, rfl, HX.out⟩
                case measure => have := HJ.out; simp [intOf]; omega
            · have h4 : x.a < 0 ∨ (0 ≤ x.a ∧ 5 < x.a) ∨ ((0 ≤ x.a ∧ x.a ≤ 5) ∧ x.b < 0) ∨ ((0 ≤ x.a ∧ x.a ≤ 5) ∧ 0 ≤ x.b ∧ 5 < x.b) := by omega
              clear hab
              rcases h4 with h4 | ⟨h4, h5⟩ | ⟨⟨h4, h5⟩, h6⟩ | ⟨⟨h4, h5⟩, h6, h7⟩
              · go_wp2
                all_goals first | (exfalso; omega) | skip
                go_roundw
                case rel => exact ⟨j + 1, m, cp, B, sl, ts, hl, by have := HJ.out; omega, by have := HM.out; omega, by go_num, rfl, hsV⟩
                case measure => have := HJ.out; simp [intOf]; omega
              · go_wp2
                all_goals first | (exfalso; omega) | skip
                go_roundw
                case rel => exact ⟨j + 1, m, cp, B, sl, ts, hl, by have := HJ.out; omega, by have := HM.out; omega, by go_num, rfl, hsV⟩
                case measure => have := HJ.out; simp [intOf]; omega
              · go_wp2
                all_goals first | (exfalso; omega) | skip
                go_roundw
                case rel => exact ⟨j + 1, m, cp, B, sl, ts, hl, by have := HJ.out; omega, by have := HM.out; omega, by go_num, rfl, hsV⟩
                case measure => have := HJ.out; simp [intOf]; omega
              · go_wp2
                all_goals first | (exfalso; omega) | skip
                go_roundw
                case rel => exact ⟨j + 1, m, cp, B, sl, ts, hl, by have := HJ.out; omega, by have := HM.out; omega, by go_num, rfl, hsV⟩
                case measure => have := HJ.out; simp [intOf]; omega
          · have hb := hst.below
            clear hr hst
            go_wp2_with fail
            refine (LV.out wr).mono ?_
            rintro e w6 ⟨rfl, h6⟩
            have b6 := hb.trans (h6.mono hb.size)
            go_wp2
            go_ret
            exact ⟨rfl, b6⟩
end Go.Proofs.Ytlmoeempblgdkaa
