/- Merge of the document's answer. -/
import Derived.Test.YtkdnkieecchobaaMb
import Derived.Test.YtkdnkieecchobaaIns
import Derived.Deep.RegionHeld3
namespace Go.Proofs.Ytkdnkieecchobaa
open Go.RowKit Go.BigFrame
set_option linter.unusedVariables false

theorem append_own {α : Type} {P : Program} (w : World) (base : Nat) (t ty e : TypeId) (i : TypeInfo) (z : Value) (E : Enc α) (ht : P.underlying t = some (.slice e)) (hi : P.info? e = some i) (hz : i.zero = some z)
    (hsize : i.size = E.size) (hzs : z.cells.size = E.size) (v : Value) (n : Nat) (l : List α) (hown : Ow w base e E v n l)
    (A : Option Addr) (m c : Nat) (k : List α) (hr : Rd w E A m k) (h63 : n + m ≤ maxLen) (hbytes : (n + m) * i.bytes ≤ 140737488355328) (hbase : base ≤ w.heap.size) :
    ∃ (B : Option Addr) (cap : Nat) (w' : World), (Builtin.append_ #[t, t] ty #[v, .slice A m c]).run P w = .ok (.slice B (n + m) cap) w' ∧ Ow w' base e E (.slice B (n + m) cap) (n + m) (l ++ k) ∧ w.grownBy w' v.ownBlock := by
  obtain ⟨v', w', h1, h2, h3, _⟩ := run_append_rd (P := P) w base t ty e i z E ht hi hz hsize hzs v n l hown A m c k hr h63 hbytes hbase
  rcases h2.2.2 with ⟨rfl, h0⟩ | ⟨g, cap, cur, rfl, _⟩
  · exact ⟨none, 0, w', by rw [h1, h0], by rw [h0] at h2 ⊢; exact h2, h3⟩
  · exact ⟨_, _, w', h1, h2, h3⟩

set_option maxRecDepth 20000 in
set_option maxHeartbeats 8000000 in
theorem merge18 (c d : Hc) (h k : Hap) (w0 : World) (hr : HRd w0 c h) (hq : HRd w0 d k) (sc : sm c 100) (sd : sm d 100) :
    Calls Try.prog 18 #[hpV c h, hpV d k] w0 (HEnd w0 (norm (mg (norm h) (norm k)))) := by
  obtain ⟨W, hW, hB, hz, hk1⟩ := boxeds w0 (hpC c h) 26
  obtain ⟨W2, hW2, hB2, hz2, hk2⟩ := boxeds W (hpC d k) 26
  obtain ⟨W3, hW3, hB3, hz3, hk3⟩ := boxeds W2 zs26 26
  have hkp := (hk1.later hB2).later hB3
  have hkq := hk2.later hB3
  have hBx := (hB.trans (hB2.mono (by omega))).trans (hB3.mono (by omega))
  have N1 : ∀ w', Below W3.heap.size W3 w' → Calls Try.prog 14 #[hpV c h] w' (HEnd w' (norm h)) := fun w' hb => norm14 c h w' ((hr.later hBx).later hb) (Nat.le_trans sc.1 (by omega)) (Nat.le_trans sc.2.1 (by omega)) (Nat.le_trans sc.2.2 (by omega))
  have N2 : ∀ w', Below W3.heap.size W3 w' → Calls Try.prog 14 #[hpV d k] w' (HEnd w' (norm k)) := fun w' hb => norm14 d k w' ((hq.later hBx).later hb) (Nat.le_trans sd.1 (by omega)) (Nat.le_trans sd.2.1 (by omega)) (Nat.le_trans sd.2.2 (by omega))
  have ST := Lib.hid (fun Q : Exit → Act → World → Prop => step18 (Q := Q) W3 w0.heap.size W.heap.size W2.heap.size c d h k hkp hkq N1 N2)
  have HB := Lib.hid hBx
  have HK := Lib.hid hk3
  have HZ := Lib.hid (show w0.heap.size < W2.heap.size ∧ W2.heap.size < W3.heap.size by omega)
  have HX : Hid (MI W3 c d h k false false false false false false undef undef undef undef undef undef W3.drew) := Lib.hid
    ⟨(Below.refl _ _).drew, (nofun), (nofun), (nofun), (nofun), (nofun), (nofun), .inl ⟨rfl, rfl⟩, .inl ⟨rfl, rfl⟩, (nofun)⟩
  have LX := Lib.hid (show (∀ (w' : World) (cA : Hc), HRd w' cA (norm h) → sm cA 100) ∧ (∀ (w' : World) (cA : Hc), HRd w' cA (norm k) → sm cA 100) from ⟨fun _ _ r => hr.sm sc r, fun _ _ r => hq.sm sd r⟩)
  clear hz hz2 hz3 hk1 hk2 hk3 hkp hkq N1 N2 hB hB2 hB3 hBx
  go_enter Try.func18, Try.ntmps18
  go_upto_region 1 with fail
  go_cut [5, 6] (fun z1 z2 wz => MR W3 (norm h) (norm k) z1 z2 wz)
  case first =>
    refine wp_region_any (by kernel_rfl) ?_
    refine wpAny_head (ST.out _) (end18 W3 w0.heap.size W.heap.size W2.heap.size c d h k ?_) 6 _ _ _ ?_
    · intro v5 v6 v8 v9 v10 v11 wz hMR
      go_wp2
      go_meet
      exact hMR
    · exact ⟨false, false, false, false, false, false, undef, undef, undef, undef, undef, undef, rfl, rfl, rfl, HX.out⟩
  case rest =>
    clear ST HX hr hq sc sd hW hW2 hW3
    generalize norm h = x at *
    generalize norm k = y at *
    obtain ⟨gx, gy, cA, cB, rfl, rfl, lx, ly, kx, ky, rx, ry, hb⟩ := hcut
    obtain ⟨wz, rfl⟩ : ∃ wz, wz = wc := ⟨_, rfl⟩
    have LY := Lib.hid (show sm cA 100 ∧ sm cB 100 from ⟨LX.out.1 _ _ rx, LX.out.2 _ _ ry⟩)
    have HKZ := Lib.hid (HK.out.later hb)
    have HBZ := Lib.hid (HB.out.trans (hb.mono (by have := HZ.out; omega)))
    have HLX := Lib.hid lx
    have HLY := Lib.hid ly
    have HBW := Lib.hid hb
    have x2 := kx.at 2 (v := .int .i64 x.fr) rfl
    have x4 := kx.at 4 (v := .string x.mode) rfl
    have x5 := kx.at 5 (v := .bool x.st) rfl
    have y3 := ky.at 3 (v := .int .i64 y.til) rfl
    have y4 := ky.at 4 (v := .string y.mode) rfl
    have y5 := ky.at 5 (v := .bool y.st) rfl
    clear HK HB hb lx ly LX
    go_upto_region 2 with fail
    go_cut [7] (fun z w' => z = .pointer (some ⟨wz.heap.size, 0, none⟩) ∧ Blk w' wz.heap.size 26 #[.slice none 0 0, .slice none 0 0, .int .i64 x.fr, .int .i64 y.til, .string y.mode, .bool (x.st || y.st), .slice none 0 0] ∧ Below wz.heap.size wz w')
    case first =>
      cases hst : x.st
      · replace x5 := x5.trans (by rw [hst])
        have HS := Lib.hid hst
        clear hst
        go_wp2
        go_meet
        exact ⟨rfl, by rw [HS.out, Bool.false_or]; exact Blk.new _ _ _, (Below.refl _ _).alloc (Nat.le_refl _) _⟩
      · replace x5 := x5.trans (by rw [hst])
        have HS := Lib.hid hst
        clear hst
        go_wp2
        go_meet
        exact ⟨rfl, by rw [HS.out, Bool.true_or]; exact Blk.new _ _ _, (Below.refl _ _).alloc (Nat.le_refl _) _⟩
    case rest =>
      obtain ⟨rfl, kz, hbz⟩ := hcut
      obtain ⟨w4, rfl⟩ : ∃ w4, w4 = wc := ⟨_, rfl⟩
      clear x2 x4 x5 y3 y4 y5
      obtain ⟨m, hm⟩ : ∃ m, m = if y.mode = noText then x.mode else y.mode := ⟨_, rfl⟩
      obtain ⟨f, hf⟩ : ∃ f, f = if x.fr < 0 then y.fr else x.fr := ⟨_, rfl⟩
      obtain ⟨t, ht⟩ : ∃ t, t = if y.fr < 0 then x.til else y.til := ⟨_, rfl⟩
      have HM := Lib.hid hm
      have HF := Lib.hid hf
      have HT := Lib.hid ht
      clear hm hf ht
      have KX := Lib.hid (fun w' (hb : Below wz.heap.size wz w') => kx.later hb)
      have KY := Lib.hid (fun w' (hb : Below wz.heap.size wz w') => ky.later hb)
      clear kx ky
      go_upto_region 3 with fail
      go_cut [] (fun w' => ∃ (B1 : Option Addr) (p1 : Nat), Blk w' wz.heap.size 26 #[.slice B1 (cA.n1 + cB.n1) p1, .slice none 0 0, .int .i64 x.fr, .int .i64 y.til, .string y.mode, .bool (x.st || y.st), .slice none 0 0] ∧ Below wz.heap.size wz w' ∧ Ow w' (wz.heap.size + 1) 32 EK (.slice B1 (cA.n1 + cB.n1) p1) (cA.n1 + cB.n1) (x.ch ++ y.ch))
      case first =>
        have q0 : ∀ w', Below wz.heap.size w4 w' → w'.cell? ⟨gx, 0, none⟩ = some (.slice cA.A1 cA.n1 cA.c1) := fun w' hb => (KX.out _ (hbz.trans hb)).at 0 rfl
        have q1 : ∀ w', Below wz.heap.size w4 w' → w'.cell? ⟨gy, 0, none⟩ = some (.slice cB.A1 cB.n1 cB.c1) := fun w' hb => (KY.out _ (hbz.trans hb)).at 0 rfl
        obtain ⟨i0, hi0, hz0, hz1, hz2⟩ := info_parts info32
        have hL1 := LY.out.1.1
        have hL2 := LY.out.2.1
        have hwl := kz.lt
        have bA : Below w4.heap.size w4 (w4.drew.alloc (.cells #[] 32)) := (Below.drew (Below.refl _ _)).alloc (Nat.le_refl _) _
        have oA : Ow (w4.drew.alloc (.cells #[] 32)) w4.heap.size 32 EK (.slice (some ⟨w4.heap.size, 0, none⟩) 0 0) 0 [] := Ow.mk_ rfl (Nat.le_refl _) (Blk.new w4.drew 32 #[]) (Nat.zero_le _) (by unfold maxLen; omega) (by simp) (by simp [Enc.flat])
        obtain ⟨Bx, px, V1, hr1, ho1, hg1⟩ := append_own (P := Try.prog) _ w4.heap.size 22 22 32 i0 _ EK Try.underlying22 hi0 hz0 hz1 rfl _ 0 [] oA cA.A1 cA.n1 cA.c1 x.ch ((rx.r1.later hbz).later bA) (by unfold maxLen; omega) (by rw [hz2]; omega) bA.size
        have b1 := Below.row bA hg1 bA.size (Nat.le_refl _) oA.lt
        rw [Nat.zero_add, List.nil_append] at ho1
        obtain ⟨By, py, V2, hr2, ho2, hg2⟩ := append_own (P := Try.prog) V1 w4.heap.size 22 22 32 i0 _ EK Try.underlying22 hi0 hz0 hz1 rfl _ cA.n1 x.ch ho1 cB.A1 cB.n1 cB.c1 y.ch ((ry.r1.later hbz).later b1) (by unfold maxLen; omega) (by rw [hz2]; omega) b1.size
        have b2 := Below.row b1 hg2 b1.size (Nat.le_refl _) ho1.lt
        have kz' := kz.later b2
        obtain ⟨T1, hT, kz2, hgT, hsT⟩ := stored kz' 0 (.slice By (cA.n1 + cB.n1) py) (cs' := #[.slice By (cA.n1 + cB.n1) py, .slice none 0 0, .int .i64 x.fr, .int .i64 y.til, .string y.mode, .bool (x.st || y.st), .slice none 0 0]) (by simp)
        have z4 := kz'.frozen 0
        have z4' := kz'.at 0 (v := .slice none 0 0) rfl
        have hs2 := b2.size
        have hs3 := hbz.size
        have bT := Below.grow (b2.mono hbz.size) hgT (by omega) (Nat.le_refl _)
        have b1 := b1.mono hbz.size
        have bA := bA.mono hbz.size
        have HR := Lib.hid (show ∃ (B1 : Option Addr) (p1 : Nat), Blk T1 wz.heap.size 26 #[.slice B1 (cA.n1 + cB.n1) p1, .slice none 0 0, .int .i64 x.fr, .int .i64 y.til, .string y.mode, .bool (x.st || y.st), .slice none 0 0] ∧ Below wz.heap.size wz T1 ∧ Ow T1 (wz.heap.size + 1) 32 EK (.slice B1 (cA.n1 + cB.n1) p1) (cA.n1 + cB.n1) (x.ch ++ y.ch) from ⟨By, py, kz2, Below.grow (hbz.trans (b2.mono hbz.size)) hgT (by omega) (by omega), (ho2.grown hgT (by omega)).rebase (by omega)⟩)
        have b2 := b2.mono hbz.size
        have hzl := hbz.size
        clear oA ho1 hg1 ho2 hg2 kz' kz2 hgT hsT hs2 hs3 hbz kz hL1 hL2 hz0 hz1 hz2 hi0 hwl
        have hS0 := Below.refl wz.heap.size w4
        go_region_held3 (fun w' => Below wz.heap.size w4 w') (with_reducible (repeat (first | assumption | refine Below.setCell ?_ ?_ _ | refine Below.drew ?_ | refine Below.alloc ?_ ?_ _ | exact Nat.le_refl _ | exact hzl)))
          (first | (refine step_append_run rfl _ _ 22 22 rfl _ _ (by simp [Act.eval]) (by simp [Act.eval]) hr1 ?_) | (refine step_append_run rfl _ _ 22 22 rfl _ _ (by simp [Act.eval]) (by simp [Act.eval]) hr2 ?_))
        all_goals go_wp2
        all_goals go_meet
        all_goals exact HR.out
      case rest =>
        clear kz
        obtain ⟨B1, p1, kz, hbx, o1⟩ := hcut
        clear hbz
        have hbz := hbx
        clear hbx
        obtain ⟨w5, rfl⟩ : ∃ w5, w5 = wc := ⟨_, rfl⟩
        go_upto_region 4 with fail
        go_cut [] (fun w' => ∃ (B2 : Option Addr) (p2 : Nat), Blk w' wz.heap.size 26 #[.slice B1 (cA.n1 + cB.n1) p1, .slice B2 (cA.n2 + cB.n2) p2, .int .i64 x.fr, .int .i64 y.til, .string y.mode, .bool (x.st || y.st), .slice none 0 0] ∧ Below wz.heap.size wz w' ∧ Ow w' (wz.heap.size + 1) 34 EK (.slice B2 (cA.n2 + cB.n2) p2) (cA.n2 + cB.n2) (x.ev ++ y.ev) ∧ Ow w' (wz.heap.size + 1) 32 EK (.slice B1 (cA.n1 + cB.n1) p1) (cA.n1 + cB.n1) (x.ch ++ y.ch))
        case first =>
          have q0 : ∀ w', Below wz.heap.size w5 w' → w'.cell? ⟨gx, 1, none⟩ = some (.slice cA.A2 cA.n2 cA.c2) := fun w' hb => (KX.out _ (hbz.trans hb)).at 1 rfl
          have q1 : ∀ w', Below wz.heap.size w5 w' → w'.cell? ⟨gy, 1, none⟩ = some (.slice cB.A2 cB.n2 cB.c2) := fun w' hb => (KY.out _ (hbz.trans hb)).at 1 rfl
          obtain ⟨i0, hi0, hz0, hz1, hz2⟩ := info_parts info34
          have hL1 := LY.out.1.2.1
          have hL2 := LY.out.2.2.1
          have hwl := kz.lt
          have bA : Below w5.heap.size w5 (w5.drew.alloc (.cells #[] 34)) := (Below.drew (Below.refl _ _)).alloc (Nat.le_refl _) _
          have oA : Ow (w5.drew.alloc (.cells #[] 34)) w5.heap.size 34 EK (.slice (some ⟨w5.heap.size, 0, none⟩) 0 0) 0 [] := Ow.mk_ rfl (Nat.le_refl _) (Blk.new w5.drew 34 #[]) (Nat.zero_le _) (by unfold maxLen; omega) (by simp) (by simp [Enc.flat])
          obtain ⟨Bx, px, V1, hr1, ho1, hg1⟩ := append_own (P := Try.prog) _ w5.heap.size 23 23 34 i0 _ EK Try.underlying23 hi0 hz0 hz1 rfl _ 0 [] oA cA.A2 cA.n2 cA.c2 x.ev ((rx.r2.later hbz).later bA) (by unfold maxLen; omega) (by rw [hz2]; omega) bA.size
          have b1 := Below.row bA hg1 bA.size (Nat.le_refl _) oA.lt
          rw [Nat.zero_add, List.nil_append] at ho1
          obtain ⟨By, py, V2, hr2, ho2, hg2⟩ := append_own (P := Try.prog) V1 w5.heap.size 23 23 34 i0 _ EK Try.underlying23 hi0 hz0 hz1 rfl _ cA.n2 x.ev ho1 cB.A2 cB.n2 cB.c2 y.ev ((ry.r2.later hbz).later b1) (by unfold maxLen; omega) (by rw [hz2]; omega) b1.size
          have b2 := Below.row b1 hg2 b1.size (Nat.le_refl _) ho1.lt
          have kz' := kz.later b2
          obtain ⟨T2, hT, kz2, hgT, hsT⟩ := stored kz' 1 (.slice By (cA.n2 + cB.n2) py) (cs' := #[.slice B1 (cA.n1 + cB.n1) p1, .slice By (cA.n2 + cB.n2) py, .int .i64 x.fr, .int .i64 y.til, .string y.mode, .bool (x.st || y.st), .slice none 0 0]) (by simp)
          have z4 := kz'.frozen 1
          have z4' := kz'.at 1 (v := .slice none 0 0) rfl
          have hs2 := b2.size
          have hs3 := hbz.size
          have bT := Below.grow (b2.mono hbz.size) hgT (by omega) (Nat.le_refl _)
          have b1 := b1.mono hbz.size
          have bA := bA.mono hbz.size
          have HR := Lib.hid (show ∃ (B2 : Option Addr) (p2 : Nat), Blk T2 wz.heap.size 26 #[.slice B1 (cA.n1 + cB.n1) p1, .slice B2 (cA.n2 + cB.n2) p2, .int .i64 x.fr, .int .i64 y.til, .string y.mode, .bool (x.st || y.st), .slice none 0 0] ∧ Below wz.heap.size wz T2 ∧ Ow T2 (wz.heap.size + 1) 34 EK (.slice B2 (cA.n2 + cB.n2) p2) (cA.n2 + cB.n2) (x.ev ++ y.ev) ∧ Ow T2 (wz.heap.size + 1) 32 EK (.slice B1 (cA.n1 + cB.n1) p1) (cA.n1 + cB.n1) (x.ch ++ y.ch) from ⟨By, py, kz2, Below.grow (hbz.trans (b2.mono hbz.size)) hgT (by omega) (by omega), (ho2.grown hgT (by omega)).rebase (by omega), (o1.later b2).grown hgT (by omega)⟩)
          have b2 := b2.mono hbz.size
          have hzl := hbz.size
          clear oA ho1 hg1 ho2 hg2 kz' kz2 hgT hsT hs2 hs3 hbz kz hL1 hL2 hz0 hz1 hz2 hi0 hwl o1
          have hS0 := Below.refl wz.heap.size w5
          go_region_held3 (fun w' => Below wz.heap.size w5 w') (with_reducible (repeat (first | assumption | refine Below.setCell ?_ ?_ _ | refine Below.drew ?_ | refine Below.alloc ?_ ?_ _ | exact Nat.le_refl _ | exact hzl)))
            (first | (refine step_append_run rfl _ _ 23 23 rfl _ _ (by simp [Act.eval]) (by simp [Act.eval]) hr1 ?_) | (refine step_append_run rfl _ _ 23 23 rfl _ _ (by simp [Act.eval]) (by simp [Act.eval]) hr2 ?_))
          all_goals go_wp2
          all_goals go_meet
          all_goals exact HR.out
        case rest =>
          clear kz o1
          obtain ⟨B2, p2, kz, hbx, o2, n1⟩ := hcut
          clear hbz
          have hbz := hbx
          clear hbx
          have o1 := n1
          clear n1
          obtain ⟨w6, rfl⟩ : ∃ w6, w6 = wc := ⟨_, rfl⟩
          go_upto_region 5 with fail
          go_cut [] (fun w' => ∃ (B3 : Option Addr) (p3 : Nat), Blk w' wz.heap.size 26 #[.slice B1 (cA.n1 + cB.n1) p1, .slice B2 (cA.n2 + cB.n2) p2, .int .i64 x.fr, .int .i64 y.til, .string y.mode, .bool (x.st || y.st), .slice B3 (cA.n3 + cB.n3) p3] ∧ Below wz.heap.size wz w' ∧ Ow w' (wz.heap.size + 1) 9 ET (.slice B3 (cA.n3 + cB.n3) p3) (cA.n3 + cB.n3) (x.held ++ y.held) ∧ Ow w' (wz.heap.size + 1) 32 EK (.slice B1 (cA.n1 + cB.n1) p1) (cA.n1 + cB.n1) (x.ch ++ y.ch) ∧ Ow w' (wz.heap.size + 1) 34 EK (.slice B2 (cA.n2 + cB.n2) p2) (cA.n2 + cB.n2) (x.ev ++ y.ev))
          case first =>
            have q0 : ∀ w', Below wz.heap.size w6 w' → w'.cell? ⟨gx, 6, none⟩ = some (.slice cA.A3 cA.n3 cA.c3) := fun w' hb => (KX.out _ (hbz.trans hb)).at 6 rfl
            have q1 : ∀ w', Below wz.heap.size w6 w' → w'.cell? ⟨gy, 6, none⟩ = some (.slice cB.A3 cB.n3 cB.c3) := fun w' hb => (KY.out _ (hbz.trans hb)).at 6 rfl
            obtain ⟨i0, hi0, hz0, hz1, hz2⟩ := info_parts info9
            have hL1 := LY.out.1.2.2
            have hL2 := LY.out.2.2.2
            have hwl := kz.lt
            have bA : Below w6.heap.size w6 (w6.drew.alloc (.cells #[] 9)) := (Below.drew (Below.refl _ _)).alloc (Nat.le_refl _) _
            have oA : Ow (w6.drew.alloc (.cells #[] 9)) w6.heap.size 9 ET (.slice (some ⟨w6.heap.size, 0, none⟩) 0 0) 0 [] := Ow.mk_ rfl (Nat.le_refl _) (Blk.new w6.drew 9 #[]) (Nat.zero_le _) (by unfold maxLen; omega) (by simp) (by simp [Enc.flat])
            obtain ⟨Bx, px, V1, hr1, ho1, hg1⟩ := append_own (P := Try.prog) _ w6.heap.size 24 24 9 i0 _ ET Try.underlying24 hi0 hz0 hz1 rfl _ 0 [] oA cA.A3 cA.n3 cA.c3 x.held ((rx.r3.later hbz).later bA) (by unfold maxLen; omega) (by rw [hz2]; omega) bA.size
            have b1 := Below.row bA hg1 bA.size (Nat.le_refl _) oA.lt
            rw [Nat.zero_add, List.nil_append] at ho1
            obtain ⟨By, py, V2, hr2, ho2, hg2⟩ := append_own (P := Try.prog) V1 w6.heap.size 24 24 9 i0 _ ET Try.underlying24 hi0 hz0 hz1 rfl _ cA.n3 x.held ho1 cB.A3 cB.n3 cB.c3 y.held ((ry.r3.later hbz).later b1) (by unfold maxLen; omega) (by rw [hz2]; omega) b1.size
            have b2 := Below.row b1 hg2 b1.size (Nat.le_refl _) ho1.lt
            have kz' := kz.later b2
            obtain ⟨T3, hT, kz2, hgT, hsT⟩ := stored kz' 6 (.slice By (cA.n3 + cB.n3) py) (cs' := #[.slice B1 (cA.n1 + cB.n1) p1, .slice B2 (cA.n2 + cB.n2) p2, .int .i64 x.fr, .int .i64 y.til, .string y.mode, .bool (x.st || y.st), .slice By (cA.n3 + cB.n3) py]) (by simp)
            have z4 := kz'.frozen 6
            have z4' := kz'.at 6 (v := .slice none 0 0) rfl
            have hs2 := b2.size
            have hs3 := hbz.size
            have bT := Below.grow (b2.mono hbz.size) hgT (by omega) (Nat.le_refl _)
            have b1 := b1.mono hbz.size
            have bA := bA.mono hbz.size
            have HR := Lib.hid (show ∃ (B3 : Option Addr) (p3 : Nat), Blk T3 wz.heap.size 26 #[.slice B1 (cA.n1 + cB.n1) p1, .slice B2 (cA.n2 + cB.n2) p2, .int .i64 x.fr, .int .i64 y.til, .string y.mode, .bool (x.st || y.st), .slice B3 (cA.n3 + cB.n3) p3] ∧ Below wz.heap.size wz T3 ∧ Ow T3 (wz.heap.size + 1) 9 ET (.slice B3 (cA.n3 + cB.n3) p3) (cA.n3 + cB.n3) (x.held ++ y.held) ∧ Ow T3 (wz.heap.size + 1) 32 EK (.slice B1 (cA.n1 + cB.n1) p1) (cA.n1 + cB.n1) (x.ch ++ y.ch) ∧ Ow T3 (wz.heap.size + 1) 34 EK (.slice B2 (cA.n2 + cB.n2) p2) (cA.n2 + cB.n2) (x.ev ++ y.ev) from ⟨By, py, kz2, Below.grow (hbz.trans (b2.mono hbz.size)) hgT (by omega) (by omega), (ho2.grown hgT (by omega)).rebase (by omega), (o1.later b2).grown hgT (by omega), (o2.later b2).grown hgT (by omega)⟩)
            have b2 := b2.mono hbz.size
            have hzl := hbz.size
            clear oA ho1 hg1 ho2 hg2 kz' kz2 hgT hsT hs2 hs3 hbz kz hL1 hL2 hz0 hz1 hz2 hi0 hwl o1 o2
            have hS0 := Below.refl wz.heap.size w6
            go_region_held3 (fun w' => Below wz.heap.size w6 w') (with_reducible (repeat (first | assumption | refine Below.setCell ?_ ?_ _ | refine Below.drew ?_ | refine Below.alloc ?_ ?_ _ | exact Nat.le_refl _ | exact hzl)))
              (first | (refine step_append_run rfl _ _ 24 24 rfl _ _ (by simp [Act.eval]) (by simp [Act.eval]) hr1 ?_) | (refine step_append_run rfl _ _ 24 24 rfl _ _ (by simp [Act.eval]) (by simp [Act.eval]) hr2 ?_))
            all_goals go_wp2
            all_goals go_meet
            all_goals exact HR.out
          case rest =>
            clear kz o1 o2
            obtain ⟨B3, p3, kz, hbx, o3, n1, n2⟩ := hcut
            clear hbz
            have hbz := hbx
            clear hbx
            have o1 := n1
            clear n1
            have o2 := n2
            clear n2
            obtain ⟨w7, rfl⟩ : ∃ w7, w7 = wc := ⟨_, rfl⟩
            have q0 := (KX.out _ hbz).at 2 (v := .int .i64 x.fr) rfl
            go_upto_if 51 with fail
            go_cut [] (fun w' => Blk w' wz.heap.size 26 #[.slice B1 (cA.n1 + cB.n1) p1, .slice B2 (cA.n2 + cB.n2) p2, .int .i64 f, .int .i64 y.til, .string y.mode, .bool (x.st || y.st), .slice B3 (cA.n3 + cB.n3) p3] ∧ Below wz.heap.size wz w' ∧ Ow w' (wz.heap.size + 1) 32 EK (.slice B1 (cA.n1 + cB.n1) p1) (cA.n1 + cB.n1) (x.ch ++ y.ch) ∧ Ow w' (wz.heap.size + 1) 34 EK (.slice B2 (cA.n2 + cB.n2) p2) (cA.n2 + cB.n2) (x.ev ++ y.ev) ∧ Ow w' (wz.heap.size + 1) 9 ET (.slice B3 (cA.n3 + cB.n3) p3) (cA.n3 + cB.n3) (x.held ++ y.held))
            case first =>
              have q1 := (KY.out _ hbz).at 2 (v := .int .i64 y.fr) rfl
              have z4 := kz.frozen 2
              have z4' := kz.at 2 (v := .int .i64 x.fr) rfl
              by_cases he : x.fr < 0
              · obtain ⟨T, hT, hkT, hgT, hsT⟩ := stored kz 2 (.int .i64 f) (cs' := #[.slice B1 (cA.n1 + cB.n1) p1, .slice B2 (cA.n2 + cB.n2) p2, .int .i64 f, .int .i64 y.til, .string y.mode, .bool (x.st || y.st), .slice B3 (cA.n3 + cB.n3) p3]) (by simp)
                have hm := HF.out
                rw [if_pos he] at hm
                rw [hm] at hT
                have HR := Lib.hid (show Blk T wz.heap.size 26 _ ∧ Below wz.heap.size wz T ∧ Ow T (wz.heap.size + 1) 32 EK (.slice B1 (cA.n1 + cB.n1) p1) (cA.n1 + cB.n1) (x.ch ++ y.ch) ∧ Ow T (wz.heap.size + 1) 34 EK (.slice B2 (cA.n2 + cB.n2) p2) (cA.n2 + cB.n2) (x.ev ++ y.ev) ∧ Ow T (wz.heap.size + 1) 9 ET (.slice B3 (cA.n3 + cB.n3) p3) (cA.n3 + cB.n3) (x.held ++ y.held) from ⟨hkT, Below.grow hbz hgT hbz.size (Nat.le_refl _), o1.grown hgT (Nat.lt_succ_self _), o2.grown hgT (Nat.lt_succ_self _), o3.grown hgT (Nat.lt_succ_self _)⟩)
                have h0 := he
                clear hkT hgT hsT hbz kz he hm o1 o2 o3
                go_wp2
                all_goals first | (exfalso; omega) | (go_meet; exact HR.out)
              · have hm := HF.out
                rw [if_neg he] at hm
                rw [← hm] at kz
                have HR := Lib.hid (show Blk _ wz.heap.size 26 _ ∧ Below wz.heap.size wz _ ∧ Ow _ (wz.heap.size + 1) 32 EK (.slice B1 (cA.n1 + cB.n1) p1) (cA.n1 + cB.n1) (x.ch ++ y.ch) ∧ Ow _ (wz.heap.size + 1) 34 EK (.slice B2 (cA.n2 + cB.n2) p2) (cA.n2 + cB.n2) (x.ev ++ y.ev) ∧ Ow _ (wz.heap.size + 1) 9 ET (.slice B3 (cA.n3 + cB.n3) p3) (cA.n3 + cB.n3) (x.held ++ y.held) from ⟨kz, hbz, o1, o2, o3⟩)
                have h0 := he
                clear hbz kz he hm o1 o2 o3
                go_wp2
                all_goals first | (exfalso; omega) | (go_meet; exact HR.out)
            case rest =>
              clear kz hbz q0 o1 o2 o3
              obtain ⟨kz, hbz, o1, o2, o3⟩ := hcut
              obtain ⟨w8, rfl⟩ : ∃ w8, w8 = wc := ⟨_, rfl⟩
              have q0 := (KY.out _ hbz).at 2 (v := .int .i64 y.fr) rfl
              go_upto_if 57 with fail
              go_cut [] (fun w' => Blk w' wz.heap.size 26 #[.slice B1 (cA.n1 + cB.n1) p1, .slice B2 (cA.n2 + cB.n2) p2, .int .i64 f, .int .i64 t, .string y.mode, .bool (x.st || y.st), .slice B3 (cA.n3 + cB.n3) p3] ∧ Below wz.heap.size wz w' ∧ Ow w' (wz.heap.size + 1) 32 EK (.slice B1 (cA.n1 + cB.n1) p1) (cA.n1 + cB.n1) (x.ch ++ y.ch) ∧ Ow w' (wz.heap.size + 1) 34 EK (.slice B2 (cA.n2 + cB.n2) p2) (cA.n2 + cB.n2) (x.ev ++ y.ev) ∧ Ow w' (wz.heap.size + 1) 9 ET (.slice B3 (cA.n3 + cB.n3) p3) (cA.n3 + cB.n3) (x.held ++ y.held))
              case first =>
                have q1 := (KX.out _ hbz).at 3 (v := .int .i64 x.til) rfl
                have z4 := kz.frozen 3
                have z4' := kz.at 3 (v := .int .i64 y.til) rfl
                by_cases he : y.fr < 0
                · obtain ⟨T, hT, hkT, hgT, hsT⟩ := stored kz 3 (.int .i64 t) (cs' := #[.slice B1 (cA.n1 + cB.n1) p1, .slice B2 (cA.n2 + cB.n2) p2, .int .i64 f, .int .i64 t, .string y.mode, .bool (x.st || y.st), .slice B3 (cA.n3 + cB.n3) p3]) (by simp)
                  have hm := HT.out
                  rw [if_pos he] at hm
                  rw [hm] at hT
                  have HR := Lib.hid (show Blk T wz.heap.size 26 _ ∧ Below wz.heap.size wz T ∧ Ow T (wz.heap.size + 1) 32 EK (.slice B1 (cA.n1 + cB.n1) p1) (cA.n1 + cB.n1) (x.ch ++ y.ch) ∧ Ow T (wz.heap.size + 1) 34 EK (.slice B2 (cA.n2 + cB.n2) p2) (cA.n2 + cB.n2) (x.ev ++ y.ev) ∧ Ow T (wz.heap.size + 1) 9 ET (.slice B3 (cA.n3 + cB.n3) p3) (cA.n3 + cB.n3) (x.held ++ y.held) from ⟨hkT, Below.grow hbz hgT hbz.size (Nat.le_refl _), o1.grown hgT (Nat.lt_succ_self _), o2.grown hgT (Nat.lt_succ_self _), o3.grown hgT (Nat.lt_succ_self _)⟩)
                  have h0 := he
                  clear hkT hgT hsT hbz kz he hm o1 o2 o3
                  go_wp2
                  all_goals first | (exfalso; omega) | (go_meet; exact HR.out)
                · have hm := HT.out
                  rw [if_neg he] at hm
                  rw [← hm] at kz
                  have HR := Lib.hid (show Blk _ wz.heap.size 26 _ ∧ Below wz.heap.size wz _ ∧ Ow _ (wz.heap.size + 1) 32 EK (.slice B1 (cA.n1 + cB.n1) p1) (cA.n1 + cB.n1) (x.ch ++ y.ch) ∧ Ow _ (wz.heap.size + 1) 34 EK (.slice B2 (cA.n2 + cB.n2) p2) (cA.n2 + cB.n2) (x.ev ++ y.ev) ∧ Ow _ (wz.heap.size + 1) 9 ET (.slice B3 (cA.n3 + cB.n3) p3) (cA.n3 + cB.n3) (x.held ++ y.held) from ⟨kz, hbz, o1, o2, o3⟩)
                  have h0 := he
                  clear hbz kz he hm o1 o2 o3
                  go_wp2
                  all_goals first | (exfalso; omega) | (go_meet; exact HR.out)
              case rest =>
                clear kz hbz q0 o1 o2 o3
                obtain ⟨kz, hbz, o1, o2, o3⟩ := hcut
                obtain ⟨w9, rfl⟩ : ∃ w9, w9 = wc := ⟨_, rfl⟩
                have q0 := (KY.out _ hbz).at 4 (v := .string y.mode) rfl
                go_upto_if 63 with fail
                go_cut [] (fun w' => Blk w' wz.heap.size 26 #[.slice B1 (cA.n1 + cB.n1) p1, .slice B2 (cA.n2 + cB.n2) p2, .int .i64 f, .int .i64 t, .string m, .bool (x.st || y.st), .slice B3 (cA.n3 + cB.n3) p3] ∧ Below wz.heap.size wz w' ∧ Ow w' (wz.heap.size + 1) 32 EK (.slice B1 (cA.n1 + cB.n1) p1) (cA.n1 + cB.n1) (x.ch ++ y.ch) ∧ Ow w' (wz.heap.size + 1) 34 EK (.slice B2 (cA.n2 + cB.n2) p2) (cA.n2 + cB.n2) (x.ev ++ y.ev) ∧ Ow w' (wz.heap.size + 1) 9 ET (.slice B3 (cA.n3 + cB.n3) p3) (cA.n3 + cB.n3) (x.held ++ y.held))
                case first =>
                  have q1 := (KX.out _ hbz).at 4 (v := .string x.mode) rfl
                  have z4 := kz.frozen 4
                  have z4' := kz.at 4 (v := .string y.mode) rfl
                  by_cases he : y.mode = noText
                  · obtain ⟨T, hT, hkT, hgT, hsT⟩ := stored kz 4 (.string m) (cs' := #[.slice B1 (cA.n1 + cB.n1) p1, .slice B2 (cA.n2 + cB.n2) p2, .int .i64 f, .int .i64 t, .string m, .bool (x.st || y.st), .slice B3 (cA.n3 + cB.n3) p3]) (by simp)
                    have hm := HM.out
                    rw [if_pos he] at hm
                    rw [hm] at hT
                    have HR := Lib.hid (show Blk T wz.heap.size 26 _ ∧ Below wz.heap.size wz T ∧ Ow T (wz.heap.size + 1) 32 EK (.slice B1 (cA.n1 + cB.n1) p1) (cA.n1 + cB.n1) (x.ch ++ y.ch) ∧ Ow T (wz.heap.size + 1) 34 EK (.slice B2 (cA.n2 + cB.n2) p2) (cA.n2 + cB.n2) (x.ev ++ y.ev) ∧ Ow T (wz.heap.size + 1) 9 ET (.slice B3 (cA.n3 + cB.n3) p3) (cA.n3 + cB.n3) (x.held ++ y.held) from ⟨hkT, Below.grow hbz hgT hbz.size (Nat.le_refl _), o1.grown hgT (Nat.lt_succ_self _), o2.grown hgT (Nat.lt_succ_self _), o3.grown hgT (Nat.lt_succ_self _)⟩)
                    have h0 := isEmpty_yes he
                    clear hkT hgT hsT hbz kz he hm o1 o2 o3
                    go_wp2
                    all_goals first | (rename_i hx; exact absurd (h0.symm.trans hx) (by decide)) | (go_meet; exact HR.out)
                  · have hm := HM.out
                    rw [if_neg he] at hm
                    rw [← hm] at kz
                    have HR := Lib.hid (show Blk _ wz.heap.size 26 _ ∧ Below wz.heap.size wz _ ∧ Ow _ (wz.heap.size + 1) 32 EK (.slice B1 (cA.n1 + cB.n1) p1) (cA.n1 + cB.n1) (x.ch ++ y.ch) ∧ Ow _ (wz.heap.size + 1) 34 EK (.slice B2 (cA.n2 + cB.n2) p2) (cA.n2 + cB.n2) (x.ev ++ y.ev) ∧ Ow _ (wz.heap.size + 1) 9 ET (.slice B3 (cA.n3 + cB.n3) p3) (cA.n3 + cB.n3) (x.held ++ y.held) from ⟨kz, hbz, o1, o2, o3⟩)
                    have h0 := isEmpty_no he
                    clear hbz kz he hm o1 o2 o3
                    go_wp2
                    all_goals first | (rename_i hx; exact absurd (h0.symm.trans hx) (by decide)) | (go_meet; exact HR.out)
                case rest =>
                  clear kz hbz q0 o1 o2 o3
                  obtain ⟨kz, hbz, o1, o2, o3⟩ := hcut
                  obtain ⟨w10, rfl⟩ : ∃ w10, w10 = wc := ⟨_, rfl⟩
                  have c0 := kz.at 0 (v := .slice B1 (cA.n1 + cB.n1) p1) rfl
                  have c1 := kz.at 1 (v := .slice B2 (cA.n2 + cB.n2) p2) rfl
                  have c2 := kz.at 2 (v := .int .i64 f) rfl
                  have c3 := kz.at 3 (v := .int .i64 t) rfl
                  have c4 := kz.at 4 (v := .string m) rfl
                  have c5 := kz.at 5 (v := .bool (x.st || y.st)) rfl
                  have c6 := kz.at 6 (v := .slice B3 (cA.n3 + cB.n3) p3) rfl
                  go_wp2_with fail
                  clear c0 c1 c2 c3 c4 c5 c6
                  have R1 := o1.rd
                  have R2 := o2.rd
                  have R3 := o3.rd
                  have hL := LY.out
                  obtain ⟨⟨l1, l2, l3⟩, ⟨l4, l5, l6⟩⟩ := hL
                  refine (norm14 ⟨B1, cA.n1 + cB.n1, p1, B2, cA.n2 + cB.n2, p2, B3, cA.n3 + cB.n3, p3⟩ ⟨x.ch ++ y.ch, x.ev ++ y.ev, f, t, m, x.st || y.st, x.held ++ y.held⟩ w10 ⟨R1, R2, R3⟩ (by show _ + _ ≤ _; omega) (by show _ + _ ≤ _; omega) (by show _ + _ ≤ _; omega)).mono ?_
                  rintro e wn ⟨cN, rfl, hoN, hbN⟩
                  have hkr := HKZ.out.later ((hbz.trans (hbN.mono hbz.size)))
                  obtain ⟨T6, hT6, hk6, hg6, hs6⟩ := stored7 hkr (.slice cN.A1 cN.n1 cN.c1) (.slice cN.A2 cN.n2 cN.c2) (.int .i64 (norm ⟨x.ch ++ y.ch, x.ev ++ y.ev, f, t, m, x.st || y.st, x.held ++ y.held⟩).fr) (.int .i64 (norm ⟨x.ch ++ y.ch, x.ev ++ y.ev, f, t, m, x.st || y.st, x.held ++ y.held⟩).til) (.string (norm ⟨x.ch ++ y.ch, x.ev ++ y.ev, f, t, m, x.st || y.st, x.held ++ y.held⟩).mode) (.bool (norm ⟨x.ch ++ y.ch, x.ev ++ y.ev, f, t, m, x.st || y.st, x.held ++ y.held⟩).st) (.slice cN.A3 cN.n3 cN.c3)
                  have g0 := hkr.frozen 0
                  have e0 := hkr.at 0 (v := .slice none 0 0) rfl
                  have g1 := hkr.frozen 1
                  have e1 := hkr.at 1 (v := .slice none 0 0) rfl
                  have g2 := hkr.frozen 2
                  have e2 := hkr.at 2 (v := .int .i64 0) rfl
                  have g3 := hkr.frozen 3
                  have e3 := hkr.at 3 (v := .int .i64 0) rfl
                  have g4 := hkr.frozen 4
                  have e4 := hkr.at 4 (v := .string ⟨#[]⟩) rfl
                  have g5 := hkr.frozen 5
                  have e5 := hkr.at 5 (v := .bool false) rfl
                  have g6 := hkr.frozen 6
                  have e6 := hkr.at 6 (v := .slice none 0 0) rfl
                  have HE := Lib.hid (show mg x y = ⟨x.ch ++ y.ch, x.ev ++ y.ev, f, t, m, x.st || y.st, x.held ++ y.held⟩ from by unfold mg; rw [← HM.out, ← HF.out, ← HT.out])
                  have z1 := HZ.out
                  have z2 := hbz.size
                  have z3 := hbN.size
                  have z5 := HBZ.out.size
                  have z6 := HBW.out.size
                  have hBy := Below.grow (HBZ.out.trans ((hbz.trans (hbN.mono hbz.size)).mono z5)) hg6 (by omega) (by omega)
                  have hoF := HOw.grown hoN hg6 (hoN.off fun g e => by cases e; exact .inl (by omega))
                  have hoF := hoF.rebase (base' := w0.heap.size) (by omega)
                  clear R1 R2 R3 l1 l2 l3 l4 l5 l6 z1 z2 z3 z5 z6 hoN hbN kz hbz o1 o2 o3 hkr hg6 hs6
                  go_wp2
                  refine bodyPost_ret (results_cell_row rfl _ _ W2.heap.size 26 _ (0, 0) _ rfl hk6 Try.underlying26 rfl size26) rfl ?_
                  exact ⟨cN, by rw [HE.out], by rw [HE.out]; exact hoF, hBy⟩
end Go.Proofs.Ytkdnkieecchobaa
