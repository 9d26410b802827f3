/- Merge. -/
import Derived.Test.YtkdnkieecchobaaMa
import Derived.Test.YtkdnkieecchobaaHe
import Derived.Test.YtkdnkieecchobaaCat
import Derived.Deep.CutBlock
namespace Go.Proofs.Ytkdnkieecchobaa
open Go.RowKit Go.BigFrame
set_option linter.unusedVariables false

theorem HRd.ns {w : World} {c : Hc} {h : Hap} (r : HRd w c h) : h.ch.length = c.n1 ∧ h.ev.length = c.n2 ∧ h.held.length = c.n3 := ⟨r.r1.1, r.r2.1, r.r3.1⟩
def sm (c : Hc) (b : Nat) : Prop := c.n1 ≤ b ∧ c.n2 ≤ b ∧ c.n3 ≤ b
theorem HRd.sm {w w' : World} {c cA : Hc} {h : Hap} {b : Nat} (r : HRd w c h) (hb : sm c b) (r' : HRd w' cA (norm h)) : sm cA b := by
  obtain ⟨e1, e2, e3⟩ := r.ns
  obtain ⟨f1, f2, f3⟩ := r'.ns
  obtain ⟨h1, h2, h3⟩ := hb
  exact ⟨by rw [← f1]; exact Nat.le_trans (len_setO _) (by omega), by rw [← f2]; exact Nat.le_trans (len_setO _) (by omega), by rw [← f3]; exact Nat.le_trans (len_setO _) (by omega)⟩
def mg (x y : Hap) : Hap := ⟨x.ch ++ y.ch, x.ev ++ y.ev, if x.fr < 0 then y.fr else x.fr, if y.fr < 0 then x.til else y.til, if y.mode = noText then x.mode else y.mode, x.st || y.st, x.held ++ y.held⟩
set_option maxRecDepth 20000 in
set_option maxHeartbeats 8000000 in
theorem merge17 (c d : Hc) (h k : Hap) (w0 : World) (hr : HRd w0 c h) (hq : HRd w0 d k) (sc : sm c 100) (sd : sm d 100) :
    Calls Try.prog 17 #[hpV c h, hpV d k] w0 (HEnd w0 (norm (mg (norm h) (norm k)))) := by
  obtain ⟨W, hW, hB, hz, hk1⟩ := boxeds w0 (hpC c h) 26
  obtain ⟨W2, hW2, hB2, hz2, hk2⟩ := boxeds W (hpC d k) 26
  obtain ⟨W3, hW3, hB3, hz3, hk3⟩ := boxeds W2 zs26 26
  have hkp := (hk1.later hB2).later hB3
  have hkq := hk2.later hB3
  have hBx := (hB.trans (hB2.mono (by omega))).trans (hB3.mono (by omega))
  have N1 : ∀ w', Below W3.heap.size W3 w' → Calls Try.prog 12 #[hpV c h] w' (HEnd w' (norm h)) := fun w' hb => norm12 c h w' ((hr.later hBx).later hb) (Nat.le_trans sc.1 (by omega)) (Nat.le_trans sc.2.1 (by omega)) (Nat.le_trans sc.2.2 (by omega))
  have N2 : ∀ w', Below W3.heap.size W3 w' → Calls Try.prog 12 #[hpV d k] w' (HEnd w' (norm k)) := fun w' hb => norm12 d k w' ((hq.later hBx).later hb) (Nat.le_trans sd.1 (by omega)) (Nat.le_trans sd.2.1 (by omega)) (Nat.le_trans sd.2.2 (by omega))
  have ST := Lib.hid (fun Q : Exit → Act → World → Prop => step17 (Q := Q) W3 w0.heap.size W.heap.size W2.heap.size c d h k hkp hkq N1 N2)
  have HB := Lib.hid hBx
  have HK := Lib.hid hk3
  have HZ := Lib.hid (show w0.heap.size < W2.heap.size ∧ W2.heap.size < W3.heap.size by omega)
  have HX : Hid (MI W3 c d h k false false false false false false undef undef undef undef undef undef W3.drew) := Lib.hid
    ⟨(Below.refl _ _).drew, (nofun), (nofun), (nofun), (nofun), (nofun), (nofun), .inl ⟨rfl, rfl⟩, .inl ⟨rfl, rfl⟩, (nofun)⟩
  have LX := Lib.hid (show (∀ (w' : World) (cA : Hc), HRd w' cA (norm h) → sm cA 100) ∧ (∀ (w' : World) (cA : Hc), HRd w' cA (norm k) → sm cA 100) from ⟨fun _ _ r => hr.sm sc r, fun _ _ r => hq.sm sd r⟩)
  clear hz hz2 hz3 hk1 hk2 hk3 hkp hkq N1 N2 hB hB2 hB3 hBx
  go_enter Try.func17, Try.ntmps17
  go_upto_region 1 with fail
  go_cut [5, 6] (fun z1 z2 wz => MR W3 (norm h) (norm k) z1 z2 wz)
  case first =>
    refine wp_region_any (by kernel_rfl) ?_
    refine wpAny_head (ST.out _) (end17 W3 w0.heap.size W.heap.size W2.heap.size c d h k ?_) 6 _ _ _ ?_
    · intro v5 v6 v8 v9 v10 v11 wz hMR
      go_wp2
      go_meet
      exact hMR
    · exact ⟨false, false, false, false, false, false, undef, undef, undef, undef, undef, undef, rfl, rfl, rfl, HX.out⟩
  case rest =>
    clear ST HX hr hq sc sd hW hW2 hW3
    generalize norm h = x at *
    generalize norm k = y at *
    obtain ⟨gx, gy, cA, cB, rfl, rfl, lx, ly, kx, ky, rx, ry, hb⟩ := hcut
    obtain ⟨wz, rfl⟩ : ∃ wz, wz = wc := ⟨_, rfl⟩
    have LY := Lib.hid (show sm cA 100 ∧ sm cB 100 from ⟨LX.out.1 _ _ rx, LX.out.2 _ _ ry⟩)
    have HKZ := Lib.hid (HK.out.later hb)
    have HBZ := Lib.hid (HB.out.trans (hb.mono (by have := HZ.out; omega)))
    have HLX := Lib.hid lx
    have HLY := Lib.hid ly
    have HBW := Lib.hid hb
    have x2 := kx.at 2 (v := .int .i64 x.fr) rfl
    have x4 := kx.at 4 (v := .string x.mode) rfl
    have x5 := kx.at 5 (v := .bool x.st) rfl
    have y3 := ky.at 3 (v := .int .i64 y.til) rfl
    have y4 := ky.at 4 (v := .string y.mode) rfl
    have y5 := ky.at 5 (v := .bool y.st) rfl
    clear HK HB hb lx ly LX
    go_upto_region 2 with fail
    go_cut [7] (fun z w' => z = .pointer (some ⟨wz.heap.size, 0, none⟩) ∧ Blk w' wz.heap.size 26 #[.slice none 0 0, .slice none 0 0, .int .i64 x.fr, .int .i64 y.til, .string y.mode, .bool (x.st || y.st), .slice none 0 0] ∧ Below wz.heap.size wz w')
    case first =>
      cases hst : x.st
      · replace x5 := x5.trans (by rw [hst])
        have HS := Lib.hid hst
        clear hst
        go_wp2
        go_meet
        exact ⟨rfl, by rw [HS.out, Bool.false_or]; exact Blk.new _ _ _, (Below.refl _ _).alloc (Nat.le_refl _) _⟩
      · replace x5 := x5.trans (by rw [hst])
        have HS := Lib.hid hst
        clear hst
        go_wp2
        go_meet
        exact ⟨rfl, by rw [HS.out, Bool.true_or]; exact Blk.new _ _ _, (Below.refl _ _).alloc (Nat.le_refl _) _⟩
    case rest =>
      obtain ⟨rfl, kz, hbz⟩ := hcut
      obtain ⟨w4, rfl⟩ : ∃ w4, w4 = wc := ⟨_, rfl⟩
      clear x2 x4 x5 y3 y4 y5
      obtain ⟨m, hm⟩ : ∃ m, m = if y.mode = noText then x.mode else y.mode := ⟨_, rfl⟩
      obtain ⟨f, hf⟩ : ∃ f, f = if x.fr < 0 then y.fr else x.fr := ⟨_, rfl⟩
      obtain ⟨t, ht⟩ : ∃ t, t = if y.fr < 0 then x.til else y.til := ⟨_, rfl⟩
      have HM := Lib.hid hm
      have HF := Lib.hid hf
      have HT := Lib.hid ht
      clear hm hf ht
      have KX := Lib.hid (fun w' (hb : Below wz.heap.size wz w') => kx.later hb)
      have KY := Lib.hid (fun w' (hb : Below wz.heap.size wz w') => ky.later hb)
      clear kx ky
      have q0 := (KY.out _ hbz).at 4 (v := .string y.mode) rfl
      go_upto_if 27 with fail
      go_cut [] (fun w' => Blk w' wz.heap.size 26 #[.slice none 0 0, .slice none 0 0, .int .i64 x.fr, .int .i64 y.til, .string m, .bool (x.st || y.st), .slice none 0 0] ∧ Below wz.heap.size wz w')
      case first =>
        have q1 := (KX.out _ hbz).at 4 (v := .string x.mode) rfl
        have z4 := kz.frozen 4
        have z4' := kz.at 4 (v := .string y.mode) rfl
        by_cases he : y.mode = noText
        · obtain ⟨T, hT, hkT, hgT, hsT⟩ := stored kz 4 (.string m) (cs' := #[.slice none 0 0, .slice none 0 0, .int .i64 x.fr, .int .i64 y.til, .string m, .bool (x.st || y.st), .slice none 0 0]) (by simp)
          have hm := HM.out
          rw [if_pos he] at hm
          rw [hm] at hT
          have HR := Lib.hid (show Blk T wz.heap.size 26 _ ∧ Below wz.heap.size wz T from ⟨hkT, Below.grow hbz hgT hbz.size (Nat.le_refl _)⟩)
          have h0 := isEmpty_yes he
          clear hkT hgT hsT hbz kz he hm
          go_wp2
          all_goals first | (rename_i hx; exact absurd (h0.symm.trans hx) (by decide)) | (go_meet; exact HR.out)
        · have hm := HM.out
          rw [if_neg he] at hm
          rw [← hm] at kz
          have HR := Lib.hid (show Blk _ wz.heap.size 26 _ ∧ Below wz.heap.size wz _ from ⟨kz, hbz⟩)
          have h0 := isEmpty_no he
          clear hbz kz he hm
          go_wp2
          all_goals first | (rename_i hx; exact absurd (h0.symm.trans hx) (by decide)) | (go_meet; exact HR.out)
      case rest =>
        clear kz hbz q0
        obtain ⟨kz, hbz⟩ := hcut
        obtain ⟨w5, rfl⟩ : ∃ w5, w5 = wc := ⟨_, rfl⟩
        have q0 := (KX.out _ hbz).at 2 (v := .int .i64 x.fr) rfl
        go_upto_if 33 with fail
        go_cut [] (fun w' => Blk w' wz.heap.size 26 #[.slice none 0 0, .slice none 0 0, .int .i64 f, .int .i64 y.til, .string m, .bool (x.st || y.st), .slice none 0 0] ∧ Below wz.heap.size wz w')
        case first =>
          have q1 := (KY.out _ hbz).at 2 (v := .int .i64 y.fr) rfl
          have z4 := kz.frozen 2
          have z4' := kz.at 2 (v := .int .i64 x.fr) rfl
          by_cases he : x.fr < 0
          · obtain ⟨T, hT, hkT, hgT, hsT⟩ := stored kz 2 (.int .i64 f) (cs' := #[.slice none 0 0, .slice none 0 0, .int .i64 f, .int .i64 y.til, .string m, .bool (x.st || y.st), .slice none 0 0]) (by simp)
            have hm := HF.out
            rw [if_pos he] at hm
            rw [hm] at hT
            have HR := Lib.hid (show Blk T wz.heap.size 26 _ ∧ Below wz.heap.size wz T from ⟨hkT, Below.grow hbz hgT hbz.size (Nat.le_refl _)⟩)
            have h0 := he
            clear hkT hgT hsT hbz kz he hm
            go_wp2
            all_goals first | (exfalso; omega) | (go_meet; exact HR.out)
          · have hm := HF.out
            rw [if_neg he] at hm
            rw [← hm] at kz
            have HR := Lib.hid (show Blk _ wz.heap.size 26 _ ∧ Below wz.heap.size wz _ from ⟨kz, hbz⟩)
            have h0 := he
            clear hbz kz he hm
            go_wp2
            all_goals first | (exfalso; omega) | (go_meet; exact HR.out)
        case rest =>
          clear kz hbz q0
          obtain ⟨kz, hbz⟩ := hcut
          obtain ⟨w6, rfl⟩ : ∃ w6, w6 = wc := ⟨_, rfl⟩
          have q0 := (KY.out _ hbz).at 2 (v := .int .i64 y.fr) rfl
          go_upto_if 39 with fail
          go_cut [] (fun w' => Blk w' wz.heap.size 26 #[.slice none 0 0, .slice none 0 0, .int .i64 f, .int .i64 t, .string m, .bool (x.st || y.st), .slice none 0 0] ∧ Below wz.heap.size wz w')
          case first =>
            have q1 := (KX.out _ hbz).at 3 (v := .int .i64 x.til) rfl
            have z4 := kz.frozen 3
            have z4' := kz.at 3 (v := .int .i64 y.til) rfl
            by_cases he : y.fr < 0
            · obtain ⟨T, hT, hkT, hgT, hsT⟩ := stored kz 3 (.int .i64 t) (cs' := #[.slice none 0 0, .slice none 0 0, .int .i64 f, .int .i64 t, .string m, .bool (x.st || y.st), .slice none 0 0]) (by simp)
              have hm := HT.out
              rw [if_pos he] at hm
              rw [hm] at hT
              have HR := Lib.hid (show Blk T wz.heap.size 26 _ ∧ Below wz.heap.size wz T from ⟨hkT, Below.grow hbz hgT hbz.size (Nat.le_refl _)⟩)
              have h0 := he
              clear hkT hgT hsT hbz kz he hm
              go_wp2
              all_goals first | (exfalso; omega) | (go_meet; exact HR.out)
            · have hm := HT.out
              rw [if_neg he] at hm
              rw [← hm] at kz
              have HR := Lib.hid (show Blk _ wz.heap.size 26 _ ∧ Below wz.heap.size wz _ from ⟨kz, hbz⟩)
              have h0 := he
              clear hbz kz he hm
              go_wp2
              all_goals first | (exfalso; omega) | (go_meet; exact HR.out)
          case rest =>
            clear kz hbz q0
            obtain ⟨kz, hbz⟩ := hcut
            obtain ⟨w7, rfl⟩ : ∃ w7, w7 = wc := ⟨_, rfl⟩
            have q0 := (KX.out _ hbz).at 0 (v := .slice cA.A1 cA.n1 cA.c1) rfl
            have q1 := (KY.out _ hbz).at 0 (v := .slice cB.A1 cB.n1 cB.c1) rfl
            skip
            go_wp2_with fail
            obtain ⟨V1, hV, hBV, hzV, hkV⟩ := boxeds w7 #[.slice cA.A1 cA.n1 cA.c1, .slice cB.A1 cB.n1 cB.c1] 22
            rw [hV]
            have hwl := kz.lt
            have hbv := hbz.trans (hBV.mono hbz.size)
            have hL1 := LY.out.1.1
            have hL2 := LY.out.2.1
            refine (concat40 w7.heap.size cA.n1 cA.c1 cB.n1 cB.c1 cA.A1 cB.A1 x.ch y.ch V1 hkV (by omega) (by omega) (rx.r1.later hbv) (ry.r1.later hbv)).mono ?_
            rintro e v1 ⟨B1, p1, rfl, ho, hbn⟩
            have kz' := (kz.later hBV).later hbn
            obtain ⟨T1, hT, kz1, hgT, hsT⟩ := stored kz' 0 (.slice B1 (cA.n1 + cB.n1) p1) (cs' := #[.slice B1 (cA.n1 + cB.n1) p1, .slice none 0 0, .int .i64 f, .int .i64 t, .string m, .bool (x.st || y.st), .slice none 0 0]) (by simp)
            have z4 := kz'.frozen 0
            have z4' := kz'.at 0 (v := .slice none 0 0) rfl
            have hs1 := hBV.size
            have hs2 := hbn.size
            have hs3 := hbz.size
            have o1 := (ho.grown hgT (by omega)).rebase (base' := wz.heap.size + 1) (by omega)
            have hbz1 := Below.grow (hbv.trans (hbn.mono (by omega))) hgT (by omega) (by omega)
            clear hV hBV hzV hkV hbv ho hbn kz kz' hgT hsT hs1 hs2 hs3 hL1 hL2 hwl q0 q1 hbz
            have kz := kz1
            have hbz := hbz1
            clear kz1 hbz1
            have HZT := Lib.hid (show True from trivial)
            have q0 := (KX.out _ hbz).at 1 (v := .slice cA.A2 cA.n2 cA.c2) rfl
            have q1 := (KY.out _ hbz).at 1 (v := .slice cB.A2 cB.n2 cB.c2) rfl
            skip
            go_wp2_with fail
            obtain ⟨V2, hV, hBV, hzV, hkV⟩ := boxeds T1 #[.slice cA.A2 cA.n2 cA.c2, .slice cB.A2 cB.n2 cB.c2] 23
            rw [hV]
            have hwl := kz.lt
            have hbv := hbz.trans (hBV.mono hbz.size)
            have hL1 := LY.out.1.2.1
            have hL2 := LY.out.2.2.1
            refine (concat41 T1.heap.size cA.n2 cA.c2 cB.n2 cB.c2 cA.A2 cB.A2 x.ev y.ev V2 hkV (by omega) (by omega) (rx.r2.later hbv) (ry.r2.later hbv)).mono ?_
            rintro e v2 ⟨B2, p2, rfl, ho, hbn⟩
            have kz' := (kz.later hBV).later hbn
            obtain ⟨T2, hT, kz2, hgT, hsT⟩ := stored kz' 1 (.slice B2 (cA.n2 + cB.n2) p2) (cs' := #[.slice B1 (cA.n1 + cB.n1) p1, .slice B2 (cA.n2 + cB.n2) p2, .int .i64 f, .int .i64 t, .string m, .bool (x.st || y.st), .slice none 0 0]) (by simp)
            have z4 := kz'.frozen 1
            have z4' := kz'.at 1 (v := .slice none 0 0) rfl
            have hs1 := hBV.size
            have hs2 := hbn.size
            have hs3 := hbz.size
            have o1 := ((o1.later hBV).later hbn).grown hgT (by omega)
            have o2 := (ho.grown hgT (by omega)).rebase (base' := wz.heap.size + 1) (by omega)
            have hbz2 := Below.grow (hbv.trans (hbn.mono (by omega))) hgT (by omega) (by omega)
            clear hV hBV hzV hkV hbv ho hbn kz kz' hgT hsT hs1 hs2 hs3 hL1 hL2 hwl q0 q1 hbz
            have kz := kz2
            have hbz := hbz2
            clear kz2 hbz2
            have HZT := Lib.hid (show True from trivial)
            have q0 := (KX.out _ hbz).at 6 (v := .slice cA.A3 cA.n3 cA.c3) rfl
            have q1 := (KY.out _ hbz).at 6 (v := .slice cB.A3 cB.n3 cB.c3) rfl
            skip
            go_wp2_with fail
            obtain ⟨V3, hV, hBV, hzV, hkV⟩ := boxeds T2 #[.slice cA.A3 cA.n3 cA.c3, .slice cB.A3 cB.n3 cB.c3] 24
            rw [hV]
            have hwl := kz.lt
            have hbv := hbz.trans (hBV.mono hbz.size)
            have hL1 := LY.out.1.2.2
            have hL2 := LY.out.2.2.2
            refine (concat42 T2.heap.size cA.n3 cA.c3 cB.n3 cB.c3 cA.A3 cB.A3 x.held y.held V3 hkV (by omega) (by omega) (rx.r3.later hbv) (ry.r3.later hbv)).mono ?_
            rintro e v3 ⟨B3, p3, rfl, ho, hbn⟩
            have kz' := (kz.later hBV).later hbn
            obtain ⟨T3, hT, kz3, hgT, hsT⟩ := stored kz' 6 (.slice B3 (cA.n3 + cB.n3) p3) (cs' := #[.slice B1 (cA.n1 + cB.n1) p1, .slice B2 (cA.n2 + cB.n2) p2, .int .i64 f, .int .i64 t, .string m, .bool (x.st || y.st), .slice B3 (cA.n3 + cB.n3) p3]) (by simp)
            have z4 := kz'.frozen 6
            have z4' := kz'.at 6 (v := .slice none 0 0) rfl
            have hs1 := hBV.size
            have hs2 := hbn.size
            have hs3 := hbz.size
            have o1 := ((o1.later hBV).later hbn).grown hgT (by omega)
            have o2 := ((o2.later hBV).later hbn).grown hgT (by omega)
            have o3 := (ho.grown hgT (by omega)).rebase (base' := wz.heap.size + 1) (by omega)
            have hbz3 := Below.grow (hbv.trans (hbn.mono (by omega))) hgT (by omega) (by omega)
            clear hV hBV hzV hkV hbv ho hbn kz kz' hgT hsT hs1 hs2 hs3 hL1 hL2 hwl q0 q1 hbz
            have kz := kz3
            have hbz := hbz3
            clear kz3 hbz3
            have c0 := kz.at 0 (v := .slice B1 (cA.n1 + cB.n1) p1) rfl
            have c1 := kz.at 1 (v := .slice B2 (cA.n2 + cB.n2) p2) rfl
            have c2 := kz.at 2 (v := .int .i64 f) rfl
            have c3 := kz.at 3 (v := .int .i64 t) rfl
            have c4 := kz.at 4 (v := .string m) rfl
            have c5 := kz.at 5 (v := .bool (x.st || y.st)) rfl
            have c6 := kz.at 6 (v := .slice B3 (cA.n3 + cB.n3) p3) rfl
            go_wp2_with fail
            clear c0 c1 c2 c3 c4 c5 c6 z4 z4' hT
            have R1 := o1.rd
            have R2 := o2.rd
            have R3 := o3.rd
            have hL := LY.out
            obtain ⟨⟨l1, l2, l3⟩, ⟨l4, l5, l6⟩⟩ := hL
            refine (norm12 ⟨B1, cA.n1 + cB.n1, p1, B2, cA.n2 + cB.n2, p2, B3, cA.n3 + cB.n3, p3⟩ ⟨x.ch ++ y.ch, x.ev ++ y.ev, f, t, m, x.st || y.st, x.held ++ y.held⟩ T3 ⟨R1, R2, R3⟩ (by show _ + _ ≤ _; omega) (by show _ + _ ≤ _; omega) (by show _ + _ ≤ _; omega)).mono ?_
            rintro e wn ⟨cN, rfl, hoN, hbN⟩
            have hkr := HKZ.out.later ((hbz.trans (hbN.mono hbz.size)))
            obtain ⟨T6, hT6, hk6, hg6, hs6⟩ := stored7 hkr (.slice cN.A1 cN.n1 cN.c1) (.slice cN.A2 cN.n2 cN.c2) (.int .i64 (norm ⟨x.ch ++ y.ch, x.ev ++ y.ev, f, t, m, x.st || y.st, x.held ++ y.held⟩).fr) (.int .i64 (norm ⟨x.ch ++ y.ch, x.ev ++ y.ev, f, t, m, x.st || y.st, x.held ++ y.held⟩).til) (.string (norm ⟨x.ch ++ y.ch, x.ev ++ y.ev, f, t, m, x.st || y.st, x.held ++ y.held⟩).mode) (.bool (norm ⟨x.ch ++ y.ch, x.ev ++ y.ev, f, t, m, x.st || y.st, x.held ++ y.held⟩).st) (.slice cN.A3 cN.n3 cN.c3)
            have g0 := hkr.frozen 0
            have e0 := hkr.at 0 (v := .slice none 0 0) rfl
            have g1 := hkr.frozen 1
            have e1 := hkr.at 1 (v := .slice none 0 0) rfl
            have g2 := hkr.frozen 2
            have e2 := hkr.at 2 (v := .int .i64 0) rfl
            have g3 := hkr.frozen 3
            have e3 := hkr.at 3 (v := .int .i64 0) rfl
            have g4 := hkr.frozen 4
            have e4 := hkr.at 4 (v := .string ⟨#[]⟩) rfl
            have g5 := hkr.frozen 5
            have e5 := hkr.at 5 (v := .bool false) rfl
            have g6 := hkr.frozen 6
            have e6 := hkr.at 6 (v := .slice none 0 0) rfl
            have HE := Lib.hid (show mg x y = ⟨x.ch ++ y.ch, x.ev ++ y.ev, f, t, m, x.st || y.st, x.held ++ y.held⟩ from by unfold mg; rw [← HM.out, ← HF.out, ← HT.out])
            have z1 := HZ.out
            have z2 := hbz.size
            have z3 := hbN.size
            have z5 := HBZ.out.size
            have z6 := HBW.out.size
            have hBy := Below.grow (HBZ.out.trans ((hbz.trans (hbN.mono hbz.size)).mono z5)) hg6 (by omega) (by omega)
            have hoF := HOw.grown hoN hg6 (hoN.off fun g e => by cases e; exact .inl (by omega))
            have hoF := hoF.rebase (base' := w0.heap.size) (by omega)
            clear R1 R2 R3 l1 l2 l3 l4 l5 l6 z1 z2 z3 z5 z6 hoN hbN kz hbz o1 o2 o3 hkr hg6 hs6
            go_wp2
            refine bodyPost_ret (results_cell_row rfl _ _ W2.heap.size 26 _ (0, 0) _ rfl hk6 Try.underlying26 rfl size26) rfl ?_
            exact ⟨cN, by rw [HE.out], by rw [HE.out]; exact hoF, hBy⟩
end Go.Proofs.Ytkdnkieecchobaa
