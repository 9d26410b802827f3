/- The law RouteKeeps. -/
import Derived.Test.YtlmoeempblgdkaaKr
namespace Go.Proofs.Ytlmoeempblgdkaa
open Go.RowKit Go.BigFrame
set_option linter.unusedVariables false
set_option linter.unusedSimpArgs false

set_option maxRecDepth 20000 in
set_option maxHeartbeats 16000000 in
theorem lawKeeps8 (A : Option Addr) (n cap : Nat) (t : List Rt) (self fr cost : Int) (B : Option Addr) (m c2 : Nat) (l : List Rt) (w : World) (hr : Rd w ER A n t) (hl : Rd w ER B m l) :
    Calls Try.prog 8 #[.slice A n cap, .int .i64 self, .agg #[.int .i64 fr, .int .i64 cost, .slice B m c2]] w fun e w' => e = .returned (.bool true) ∧ Below w.heap.size w w' := by
  obtain ⟨W, hW, hB, hz, hk⟩ := boxeds w #[.int .i64 fr, .int .i64 cost, .slice B m c2] 24
  have LV := Lib.hid awake10
  have HF := Lib.hid hB
  have hrW := hr.later hB
  have hlW := hl.later hB
  have p2 := hk.at 2 (v := .slice B m c2) rfl
  by_cases hn : 60 < n
  · clear hz hk hr hl hrW hlW
    go_enter Try.func8, Try.ntmps8
    go_wp2_with fail
    refine (LV.out W).mono ?_
    rintro e w2 ⟨rfl, hb2⟩
    have hBF := HF.out.trans (hb2.mono HF.out.size)
    go_wp2
    go_ret
    exact ⟨rfl, hBF⟩
  · by_cases hm : 60 < m
    · clear hz hk hr hl hrW hlW
      go_enter Try.func8, Try.ntmps8
      go_wp2_with fail
      refine (LV.out W).mono ?_
      rintro e w2 ⟨rfl, hb2⟩
      have hBF := HF.out.trans (hb2.mono HF.out.size)
      go_wp2
      go_ret
      exact ⟨rfl, hBF⟩
    · have CH := Lib.hid (check22 A n cap t self W (by omega) hrW)
      by_cases hc : chk t self = 0
      · rw [hc] at CH
        have HT := Lib.hid (tok_of hc)
        clear hc hr hl hB hz
        go_enter Try.func8, Try.ntmps8
        go_wp2_with fail
        refine CH.out.mono ?_
        rintro e w1 ⟨rfl, hb1⟩
        have hr1 := hrW.later hb1
        have hl1 := hlW.later hb1
        have HB1 := Lib.hid (HF.out.trans (hb1.mono HF.out.size))
        have C26 : Hid (∀ w', Below w1.heap.size w1 w' → Calls Try.prog 26 #[.slice A n cap, .int .i64 self] w' (SlEnd w' (bump t self))) := Lib.hid (fun w' hx => bump26 A n cap t self w' (by omega) (hr1.later hx))
        have C12 : Hid (∀ w', Below w1.heap.size w1 w' → Calls Try.prog 12 #[.slice A n cap, .int .i64 self, .int .i64 fr, .int .i64 cost, .slice B m c2] w' (SlEnd w' (upd t self fr cost l))) := Lib.hid (fun w' hx => upd12 A n cap t self fr cost B m c2 l w' (by omega) (hr1.later hx) (by omega) (hl1.later hx))
        have C16 : Hid (∀ w', Below w1.heap.size w1 w' → Calls Try.prog 16 #[.slice A n cap, .int .i64 self, .int .i64 fr] w' (SlEnd w' (brk t self fr))) := Lib.hid (fun w' hx => brk16 A n cap t self fr w' (by omega) (hr1.later hx))
        have HX := Lib.hid (HT.out.bump)
        have HY := Lib.hid (HT.out.upd fr cost l)
        have HV := Lib.hid (HT.out.brk fr)
        have K0 : ∀ w', Below w1.heap.size w1 w' → w'.cell? ⟨w.heap.size, 0, none⟩ = some (.int .i64 fr) := fun w' hb => keep hb (keep hb1 (hk.at 0 rfl))
        have K1 : ∀ w', Below w1.heap.size w1 w' → w'.cell? ⟨w.heap.size, 1, none⟩ = some (.int .i64 cost) := fun w' hb => keep hb (keep hb1 (hk.at 1 rfl))
        have K2 : ∀ w', Below w1.heap.size w1 w' → w'.cell? ⟨w.heap.size, 2, none⟩ = some (.slice B m c2) := fun w' hb => keep hb (keep hb1 (hk.at 2 rfl))
        have hU0 := Below.refl w1.heap.size w1
        generalize bump t self = x at *
        generalize upd t self fr cost l = y at *
        generalize brk t self fr = v at *
        clear CH hrW hlW hb1 hl1 hk p2
        go_upto_region 3 with fail
        go_cut [7] (fun z w' => K3 w1 w' z x y v)
        case first =>
          clear hr1
          go_region_held3 (fun w' => Below w1.heap.size w1 w') (with_reducible (repeat (first | assumption | refine Below.setCell ?_ ?_ _ | refine Below.drew ?_ | refine Below.alloc ?_ ?_ _ | refine Below.trans ?_ (Below.mono hbA ?_) | refine Below.trans ?_ (Below.mono hbB ?_) | refine Below.trans ?_ (Below.mono hbC ?_) | exact Nat.le_refl _ | refine @Below.size w1.heap.size w1 _ ?_)))
            (first
              | (go_at_call 26; refine (C26.out _ (by assumption)).mono ?_; rintro e wA ⟨A1, n1, d1, rfl, oA, hbA⟩; (first | (with_reducible have nn4 := Blk.later nn3 hbA); have a0 := nn4.at 0 (v := .slice none 0 0) rfl; have a1 := nn4.at 1 (v := .slice none 0 0) rfl; have a2 := nn4.at 2 (v := .slice none 0 0) rfl; have z0 := nn4.frozen 0; have z1 := nn4.frozen 1; have z2 := nn4.frozen 2 | (with_reducible have nn3 := Blk.later nn2 hbA); have a0 := nn3.at 0 (v := .slice none 0 0) rfl; have a1 := nn3.at 1 (v := .slice none 0 0) rfl; have a2 := nn3.at 2 (v := .slice none 0 0) rfl; have z0 := nn3.frozen 0; have z1 := nn3.frozen 1; have z2 := nn3.frozen 2 | (with_reducible have nn2 := Blk.later nn1 hbA); have a0 := nn2.at 0 (v := .slice none 0 0) rfl; have a1 := nn2.at 1 (v := .slice none 0 0) rfl; have a2 := nn2.at 2 (v := .slice none 0 0) rfl; have z0 := nn2.frozen 0; have z1 := nn2.frozen 1; have z2 := nn2.frozen 2 | (with_reducible have nn1 := later_new hbA); have a0 := nn1.at 0 (v := .slice none 0 0) rfl; have a1 := nn1.at 1 (v := .slice none 0 0) rfl; have a2 := nn1.at 2 (v := .slice none 0 0) rfl; have z0 := nn1.frozen 0; have z1 := nn1.frozen 1; have z2 := nn1.frozen 2 | (with_reducible have nn1 := later_new' hbA); have a0 := nn1.at 0 (v := .slice none 0 0) rfl; have a1 := nn1.at 1 (v := .slice none 0 0) rfl; have a2 := nn1.at 2 (v := .slice none 0 0) rfl; have z0 := nn1.frozen 0; have z1 := nn1.frozen 1; have z2 := nn1.frozen 2 | skip))
              | (go_at_call 12; refine (C12.out _ (by assumption)).mono ?_; rintro e wB ⟨A2, n2, d2, rfl, oB, hbB⟩; (first | (with_reducible have nn4 := Blk.later nn3 hbB); have a0 := nn4.at 0 (v := .slice none 0 0) rfl; have a1 := nn4.at 1 (v := .slice none 0 0) rfl; have a2 := nn4.at 2 (v := .slice none 0 0) rfl; have z0 := nn4.frozen 0; have z1 := nn4.frozen 1; have z2 := nn4.frozen 2 | (with_reducible have nn3 := Blk.later nn2 hbB); have a0 := nn3.at 0 (v := .slice none 0 0) rfl; have a1 := nn3.at 1 (v := .slice none 0 0) rfl; have a2 := nn3.at 2 (v := .slice none 0 0) rfl; have z0 := nn3.frozen 0; have z1 := nn3.frozen 1; have z2 := nn3.frozen 2 | (with_reducible have nn2 := Blk.later nn1 hbB); have a0 := nn2.at 0 (v := .slice none 0 0) rfl; have a1 := nn2.at 1 (v := .slice none 0 0) rfl; have a2 := nn2.at 2 (v := .slice none 0 0) rfl; have z0 := nn2.frozen 0; have z1 := nn2.frozen 1; have z2 := nn2.frozen 2 | (with_reducible have nn1 := later_new hbB); have a0 := nn1.at 0 (v := .slice none 0 0) rfl; have a1 := nn1.at 1 (v := .slice none 0 0) rfl; have a2 := nn1.at 2 (v := .slice none 0 0) rfl; have z0 := nn1.frozen 0; have z1 := nn1.frozen 1; have z2 := nn1.frozen 2 | (with_reducible have nn1 := later_new' hbB); have a0 := nn1.at 0 (v := .slice none 0 0) rfl; have a1 := nn1.at 1 (v := .slice none 0 0) rfl; have a2 := nn1.at 2 (v := .slice none 0 0) rfl; have z0 := nn1.frozen 0; have z1 := nn1.frozen 1; have z2 := nn1.frozen 2 | skip))
              | (go_at_call 16; refine (C16.out _ (by assumption)).mono ?_; rintro e wC ⟨A3, n3, d3, rfl, oC, hbC⟩; (first | (with_reducible have nn4 := Blk.later nn3 hbC); have a0 := nn4.at 0 (v := .slice none 0 0) rfl; have a1 := nn4.at 1 (v := .slice none 0 0) rfl; have a2 := nn4.at 2 (v := .slice none 0 0) rfl; have z0 := nn4.frozen 0; have z1 := nn4.frozen 1; have z2 := nn4.frozen 2 | (with_reducible have nn3 := Blk.later nn2 hbC); have a0 := nn3.at 0 (v := .slice none 0 0) rfl; have a1 := nn3.at 1 (v := .slice none 0 0) rfl; have a2 := nn3.at 2 (v := .slice none 0 0) rfl; have z0 := nn3.frozen 0; have z1 := nn3.frozen 1; have z2 := nn3.frozen 2 | (with_reducible have nn2 := Blk.later nn1 hbC); have a0 := nn2.at 0 (v := .slice none 0 0) rfl; have a1 := nn2.at 1 (v := .slice none 0 0) rfl; have a2 := nn2.at 2 (v := .slice none 0 0) rfl; have z0 := nn2.frozen 0; have z1 := nn2.frozen 1; have z2 := nn2.frozen 2 | (with_reducible have nn1 := later_new hbC); have a0 := nn1.at 0 (v := .slice none 0 0) rfl; have a1 := nn1.at 1 (v := .slice none 0 0) rfl; have a2 := nn1.at 2 (v := .slice none 0 0) rfl; have z0 := nn1.frozen 0; have z1 := nn1.frozen 1; have z2 := nn1.frozen 2 | (with_reducible have nn1 := later_new' hbC); have a0 := nn1.at 0 (v := .slice none 0 0) rfl; have a1 := nn1.at 1 (v := .slice none 0 0) rfl; have a2 := nn1.at 2 (v := .slice none 0 0) rfl; have z0 := nn1.frozen 0; have z1 := nn1.frozen 1; have z2 := nn1.frozen 2 | skip)))
          · have hbN : Below wC.heap.size wC (wC.alloc (Obj.cells #[.slice A1 n1 d1, .slice A2 n2 d2, .slice A3 n3 d3] 45)) := (Below.refl _ _).alloc (Nat.le_refl _) _
            have HK : Hid (K3 w1 _ _ x y v) := Lib.hid ⟨wC.heap.size, A1, A2, A3, n1, n2, n3, d1, d2, d3, rfl, Blk.new _ _ _, (oA.later (hbB.trans (hbC.mono hbB.size))).rd.later hbN, (oB.later hbC).rd.later hbN, oC.rd.later hbN, by assumption⟩
            clear oA oB oC hbA hbB hbC hbN K0 K1 K2 C26 C12 C16
            go_wp2
            go_meet
            exact HK.out
          · have hBC : Below wB.heap.size wB wC := ((Below.refl _ _).alloc (Nat.le_refl _) _).trans (hbC.mono (by simp))
            have HK : Hid (K3 w1 _ _ x y v) := Lib.hid ⟨wB.heap.size, A1, A2, A3, n1, n2, n3, d1, d2, d3, rfl, (stored3 nn1 _ _ _).1, rd_set3 nn1 oA (hbB.trans (hBC.mono hbB.size)) (.inr hbB.size) _ _ _, rd_set3 nn1 oB hBC (.inr (Nat.le_refl _)) _ _ _, rd_set3 nn1 oC (Below.refl _ _) (.inl (by simp)) _ _ _, by assumption⟩
            clear oA oB oC hbA hbB hbC hBC K0 K1 K2 C26 C12 C16 nn1
            go_wp2
            go_meet
            exact HK.out
          · have hAB : Below wA.heap.size wA wB := ((Below.refl _ _).alloc (Nat.le_refl _) _).trans (hbB.mono (by simp))
            have hsz : wA.heap.size < wB.heap.size := by have := hbB.size; simp at this; omega
            have HK : Hid (K3 w1 _ _ x y v) := Lib.hid ⟨wA.heap.size, A1, A2, A3, n1, n2, n3, d1, d2, d3, rfl, (stored3 nn2 _ _ _).1, rd_set3 nn2 oA (hAB.trans (hbC.mono hAB.size)) (.inr (Nat.le_refl _)) _ _ _, rd_set3 nn2 oB hbC (.inl (by simp)) _ _ _, rd_set3 nn2 oC (Below.refl _ _) (.inl hsz) _ _ _, by assumption⟩
            clear oA oB oC hbA hbB hbC hAB hsz K0 K1 K2 C26 C12 C16 nn1 nn2
            go_wp2
            go_meet
            exact HK.out
          · have hsz : w1.heap.size < wA.heap.size := by have := hbA.size; simp [World.drew] at this; omega
            have hsz2 : w1.heap.size < wB.heap.size := by have := hbB.size; omega
            have HK : Hid (K3 w1 _ _ x y v) := Lib.hid ⟨w1.heap.size, A1, A2, A3, n1, n2, n3, d1, d2, d3, rfl, (stored3 nn3 _ _ _).1, rd_set3 nn3 oA (hbB.trans (hbC.mono hbB.size)) (.inl (by simp [World.drew])) _ _ _, rd_set3 nn3 oB hbC (.inl hsz) _ _ _, rd_set3 nn3 oC (Below.refl _ _) (.inl hsz2) _ _ _, by assumption⟩
            clear oA oB oC hbA hbB hbC hsz hsz2 K0 K1 K2 C26 C12 C16 nn1 nn2 nn3
            go_wp2
            go_meet
            exact HK.out
        case rest =>
          obtain ⟨g, A1, A2, A3, n1, n2, n3, d1, d2, d3, rfl, hkg, r1, r2, r3, hbg⟩ := hcut
          obtain ⟨w2, rfl⟩ : ∃ y : World, y = wc := ⟨_, rfl⟩
          have hr2 := hr1.later hbg
          have HB2 := Lib.hid (HB1.out.trans (hbg.mono HB1.out.size))
          have HALL : Hid (∀ j : Nat, j < 3 → ∃ (Aj : Option Addr) (nj cj : Nat) (lj : List Rt), (#[.slice A1 n1 d1, .slice A2 n2 d2, .slice A3 n3 d3] : Array Value)[j]? = some (.slice Aj nj cj) ∧ Rd w2 ER Aj nj lj ∧ TOk lj self ∧ Kept t lj) := Lib.hid (fun j hj => by
            rcases j with _ | _ | _ | j
            · exact ⟨A1, n1, d1, x, rfl, r1, HX.out.1, HX.out.2.1⟩
            · exact ⟨A2, n2, d2, y, rfl, r2, HY.out.1, HY.out.2.1⟩
            · exact ⟨A3, n3, d3, v, rfl, r3, HV.out.1, HV.out.2.1⟩
            · omega)
          clear C26 C12 C16 HX HY HV K0 K1 K2 hU0 hr1 hbg r1 r2 r3 HB1
          generalize (#[.slice A1 n1 d1, .slice A2 n2 d2, .slice A3 n3 d3] : Array Value) = cs at *
          go_wp2
          go_loopw [8] (fun i wr => ∃ j : Nat, j ≤ 3 ∧ i = .int .i64 j ∧ Below w2.heap.size w2 wr) (fun i _ => 3 - (intOf i).toNat)
          case atStart => exact ⟨0, Nat.zero_le _, rfl, Below.refl _ _⟩
          case round =>
            obtain ⟨j, hj, rfl, hbr⟩ := hrel
            by_cases hlt : j < 3
            · obtain ⟨Aj, nj, cj, lj, hcj, hrj, htj, hkj⟩ := HALL.out j hlt
              have q0 := (hkg.later hbr).at j hcj
              have HLE := Lib.hid (show nj ≤ 24 by rw [← hrj.1]; exact htj.le)
              have CK := Lib.hid (check25 Aj nj cj lj self wr (by have := HLE.out; omega) (hrj.later hbr))
              rw [htj.chk] at CK
              have KP : Hid (∀ w', Below wr.heap.size wr w' → Calls Try.prog 28 #[.slice A n cap, .slice Aj nj cj] w' fun e w'' => e = .returned (.bool true) ∧ Below w'.heap.size w' w'') := Lib.hid (fun w' hb => kept28 A n cap t Aj nj cj lj w' (by omega) (by have := HLE.out; omega) ((hr2.later hbr).later hb) ((hrj.later hbr).later hb) hkj)
              have hx0 : (0 : Int) ≤ (j : Int) := by omega
              have hx1 : (j : Int) < (3 : Int) := by omega
              clear hcj hrj htj hkj hr2 hkg
              go_wp2_with fail
              refine CK.out.mono ?_
              rintro e w3 ⟨rfl, h3⟩
              have q1 := keep h3 q0
              have KQ := Lib.hid (KP.out w3 h3)
              have b3 := hbr.trans (h3.mono hbr.size)
              clear q0 h3 hbr CK KP
              go_wp2_with fail
              refine KQ.out.mono ?_
              rintro e w4 ⟨rfl, h4⟩
              have b4 := b3.trans (h4.mono b3.size)
              clear KQ h4 b3 q1
              go_wp2
              go_roundw
              case rel => exact ⟨j + 1, by omega, by go_num, b4⟩
              case measure => simp [intOf]; omega
            · have b5 := HB2.out.trans (hbr.mono HB2.out.size)
              clear hr2 hkg hbr
              go_wp2_with fail
              refine (LV.out wr).mono ?_
              rintro e w6 ⟨rfl, h6⟩
              have b6 := b5.trans (h6.mono b5.size)
              go_wp2
              go_ret
              exact ⟨rfl, b6⟩
      · clear hr hl hrW hlW hz hk
        have HF2 := HF
        generalize chk t self = ch at *
        have d1 : (ch == 0) = false := by rw [beq_eq_false_iff_ne]; exact hc
        go_enter Try.func8, Try.ntmps8
        go_wp2_with fail
        refine CH.out.mono ?_
        rintro e w1 ⟨rfl, h1⟩
        have b1 := HF.out.trans (h1.mono HF.out.size)
        clear CH h1
        go_wp2_with fail
        all_goals first | (exfalso; simp_all; done) | skip
        refine (LV.out w1).mono ?_
        rintro e w2 ⟨rfl, hb2⟩
        have hBF := b1.trans (hb2.mono b1.size)
        go_wp2
        go_ret
        exact ⟨rfl, hBF⟩
end Go.Proofs.Ytlmoeempblgdkaa
