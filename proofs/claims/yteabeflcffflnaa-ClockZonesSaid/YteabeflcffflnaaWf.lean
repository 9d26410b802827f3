/- The walk of the reference's Of. -/
import Derived.Test.YteabeflcffflnaaWe
import Derived.Test.YteabeflcffflnaaBlk
namespace Go.Proofs.Yteabeflcffflnaa
open Go.RowKit Go.BigFrame

set_option maxHeartbeats 1000000 in
theorem of14 (n : Int) (w : World) : Calls Try.prog 14 #[.int .i64 n] w (OfEnd (clampM n) w) := by
  obtain ⟨W, hW, hB, hz, hk⟩ := boxed w #[.int .i64 0, .int .i64 0, .int .i64 0, .int .i64 0, .int .i64 0] 23
  obtain ⟨X, hX, hB2, hz2, hk2⟩ := boxed W #[.int .i64 2000, .int .i64 1, .int .i64 (clampM n / 1440), .int .i64 (clampM n % 1440 / 60), .int .i64 (clampM n % 60)] 23
  have hcb := clampM_bd n
  go_enter Try.func14, Try.ntmps14
  go_wp2_with (go_at_call 37; refine (valid37 _ _).mono ?_; rintro e w' ⟨rfl, rfl⟩)
  generalize clampM n = t at *
  have hq : t / 1440 ≤ 745654 := by omega
  have hka := hk.later hB2
  have hBx : Below w.heap.size w X := hB.trans (hB2.mono (by omega))
  generalize hhh : t % 1440 / 60 = hh at *
  generalize hii : t % 60 = ii at *
  generalize hgb : W.heap.size = gb at *
  generalize hdd : t / 1440 = D at *
  have hD : 0 ≤ D := by omega
  have HE := Lib.hid (And.intro hhh (And.intro hii hdd))
  clear hW hX hB hB2 hk hhh hii hdd hgb
  go_loopg [] D.toNat (fun k wr => ∃ y q : Int, 2000 ≤ y ∧ 0 ≤ q ∧ Cal.since y + q = D ∧ k = q.toNat ∧ Blk wr w.heap.size 23 #[.int .i64 0, .int .i64 0, .int .i64 0, .int .i64 0, .int .i64 0] ∧
    Blk wr gb 23 #[.int .i64 y, .int .i64 1, .int .i64 q, .int .i64 hh, .int .i64 ii] ∧ Below w.heap.size w wr)
  case atStart => exact ⟨2000, D, by omega, hD, by simp [Cal.since], rfl, hka, hk2, hBx⟩
  case round =>
    clear hka hk2 hBx hz2
    obtain ⟨y, q, hy0, hq0, hs, hgk, hka, hkb, hBw⟩ := hrel
    have hy2 : y ≤ 4041 := year_le (by omega) hq
    have HS := Lib.hid (And.intro hs hgk)
    have hqb : q ≤ 745654 := by have := (since_bd hy0 (by omega)).1; omega
    clear hs hgk
    have k0 := hkb.at 0 (v := .int .i64 y) rfl
    have k2 := hkb.at 2 (v := .int .i64 q) rfl
    have C0 := After.cell k0
    have C2 := After.cell k2
    have hl := Cal.lpi_01 y
    have L : ∀ p : After wr, Calls Try.prog 35 #[.int .i64 y] p.w fun e w'' => e = .returned (.int .i64 (365 + Cal.lpi y)) ∧ ∃ q : After wr, w'' = q.w := fun p => p.same (year35 y p.w (by omega))
    go_wp2
    refine wp_region_after (by kernel_rfl) (by kernel_rfl) ?_
    repeat (go_big_quiet_step (exact L _))
    refine wpQuiet_nil ?_
    intro w1 hb1
    clear L C0 C2 k0 k2
    have hka1 := hka.later hb1
    have hkb1 := hkb.later hb1
    have hB1 : Below w.heap.size w w1 := hBw.trans (hb1.mono hBw.size)
    clear hka hkb hBw hb1
    by_cases hge : 365 + Cal.lpi y ≤ q
    · have k0 := hkb1.at 0 (v := .int .i64 y) rfl
      have k2 := hkb1.at 2 (v := .int .i64 q) rfl
      have C0 := After.cell k0
      have C2 := After.cell k2
      have L : ∀ p : After w1, Calls Try.prog 35 #[.int .i64 y] p.w fun e w'' => e = .returned (.int .i64 (365 + Cal.lpi y)) ∧ ∃ q : After w1, w'' = q.w := fun p => p.same (year35 y p.w (by omega))
      go_wp2
      refine wp_region_after_tail 7 (by kernel_rfl) (by kernel_rfl) ?_
      simp only [List.take_succ_cons, List.take_zero, List.drop_succ_cons, List.drop_zero]
      repeat (go_big_quiet_step (exact L _))
      refine wpQuiet_nil ?_
      intro w2 hb2
      clear L C0 C2 k0 k2
      have hka2 := hka1.later hb2
      have hkb2 := hkb1.later hb2
      have hB2 : Below w.heap.size w w2 := hB1.trans (hb2.mono hB1.size)
      clear hka1 hkb1 hB1 hb2
      have k0 := hkb2.at 0 (v := .int .i64 y) rfl
      have k2 := hkb2.at 2 (v := .int .i64 q) rfl
      have f0 := hkb2.frozen 0
      have f2 := hkb2.frozen 2
      go_wp2
      have hs := HS.out
      go_roundg (q - (365 + Cal.lpi y)).toNat
      case measure => omega
      case rel =>
        have hsu := Cal.since_succ y
        exact ⟨y + 1, q - (365 + Cal.lpi y), by omega, by omega, by omega, rfl, (hka2.far (by show w.heap.size ≠ gb; omega) _).far (by show w.heap.size ≠ gb; omega) _,
          (hkb2.set_ 2 _).set_ 0 _, (hB2.setCell (by show w.heap.size ≤ gb; omega) _).setCell (by show w.heap.size ≤ gb; omega) _⟩
    · have hq13 : q < Cal.bef y 13 := by rw [Cal.bef_13]; omega
      have HQ := Lib.hid hq13
      clear hq13
      go_wp2
      go_loopg [] q.toNat (fun k wr => ∃ m r : Int, 1 ≤ m ∧ m ≤ 12 ∧ 0 ≤ r ∧ Cal.bef y m + r = q ∧ k = r.toNat ∧ Blk wr w.heap.size 23 #[.int .i64 0, .int .i64 0, .int .i64 0, .int .i64 0, .int .i64 0] ∧
        Blk wr gb 23 #[.int .i64 y, .int .i64 m, .int .i64 r, .int .i64 hh, .int .i64 ii] ∧ Below w.heap.size w wr)
      case atStart => exact ⟨1, q, by omega, by omega, hq0, by rw [Cal.bef_1]; omega, rfl, hka1, hkb1, hB1⟩
      case round =>
        clear hka1 hkb1 hB1 hge
        obtain ⟨m, r, hm0, hm1, hr0, hbq, hgk, hka, hkb, hBw⟩ := hrel
        have HR := Lib.hid (And.intro hbq hgk)
        have hrb : r ≤ 745654 := by have := (@bef_bd' y m hm0 hm1).1; omega
        clear hbq hgk
        have hl := Cal.dim_pos y m
        have k0 := hkb.at 0 (v := .int .i64 y) rfl
        have k1 := hkb.at 1 (v := .int .i64 m) rfl
        have k2 := hkb.at 2 (v := .int .i64 r) rfl
        have C0 := After.cell k0
        have C1 := After.cell k1
        have C2 := After.cell k2
        have L : ∀ p : After wr, Calls Try.prog 34 #[.int .i64 y, .int .i64 m] p.w fun e w'' => e = .returned (.int .i64 (Cal.dim y m)) ∧ ∃ q : After wr, w'' = q.w := fun p => p.same (month34 y m p.w (by omega))
        go_wp2
        refine wp_region_after (by kernel_rfl) (by kernel_rfl) ?_
        repeat (go_big_quiet_step (exact L _))
        refine wpQuiet_nil ?_
        intro w1 hb1
        clear L C0 C1 C2 k0 k1 k2
        have hka1 := hka.later hb1
        have hkb1 := hkb.later hb1
        have hB1 : Below w.heap.size w w1 := hBw.trans (hb1.mono hBw.size)
        clear hka hkb hBw hb1
        by_cases hge : Cal.dim y m ≤ r
        · have k0 := hkb1.at 0 (v := .int .i64 y) rfl
          have k1 := hkb1.at 1 (v := .int .i64 m) rfl
          have k2 := hkb1.at 2 (v := .int .i64 r) rfl
          have C0 := After.cell k0
          have C1 := After.cell k1
          have C2 := After.cell k2
          have L : ∀ p : After w1, Calls Try.prog 34 #[.int .i64 y, .int .i64 m] p.w fun e w'' => e = .returned (.int .i64 (Cal.dim y m)) ∧ ∃ q : After w1, w'' = q.w := fun p => p.same (month34 y m p.w (by omega))
          go_wp2
          refine wp_region_after_tail 9 (by kernel_rfl) (by kernel_rfl) ?_
          simp only [List.take_succ_cons, List.take_zero, List.drop_succ_cons, List.drop_zero]
          repeat (go_big_quiet_step (exact L _))
          refine wpQuiet_nil ?_
          intro w2 hb2
          clear L C0 C1 C2 k0 k1 k2
          have hka2 := hka1.later hb2
          have hkb2 := hkb1.later hb2
          have hB2 : Below w.heap.size w w2 := hB1.trans (hb2.mono hB1.size)
          clear hka1 hkb1 hB1 hb2
          have k1 := hkb2.at 1 (v := .int .i64 m) rfl
          have k2 := hkb2.at 2 (v := .int .i64 r) rfl
          have f1 := hkb2.frozen 1
          have f2 := hkb2.frozen 2
          go_wp2
          have hs := HR.out
          have hq13 := HQ.out
          have hbs := Cal.bef_succ y m hm0 hm1
          have hm12 : m ≤ 11 := by
            rcases Int.lt_or_le 11 m with c | c
            · obtain rfl : m = 12 := by omega
              have : Cal.bef y (12 + 1) = Cal.bef y 13 := rfl
              omega
            · exact c
          go_roundg (r - Cal.dim y m).toNat
          case measure => omega
          case rel =>
            exact ⟨m + 1, r - Cal.dim y m, by omega, by omega, by omega, by omega, rfl, (hka2.far (by show w.heap.size ≠ gb; omega) _).far (by show w.heap.size ≠ gb; omega) _,
              (hkb2.set_ 2 _).set_ 1 _, (hB2.setCell (by show w.heap.size ≤ gb; omega) _).setCell (by show w.heap.size ≤ gb; omega) _⟩
        · have k0 := hkb1.at 0 (v := .int .i64 y) rfl
          have k1 := hkb1.at 1 (v := .int .i64 m) rfl
          have k2 := hkb1.at 2 (v := .int .i64 r) rfl
          have k3 := hkb1.at 3 (v := .int .i64 hh) rfl
          have k4 := hkb1.at 4 (v := .int .i64 ii) rfl
          have f2 := hkb1.frozen 2
          have a0 := hka1.at 0 (v := .int .i64 0) rfl
          have a1 := hka1.at 1 (v := .int .i64 0) rfl
          have a2 := hka1.at 2 (v := .int .i64 0) rfl
          have a3 := hka1.at 3 (v := .int .i64 0) rfl
          have a4 := hka1.at 4 (v := .int .i64 0) rfl
          have g0 := hka1.frozen 0
          have g1 := hka1.frozen 1
          have g2 := hka1.frozen 2
          have g3 := hka1.frozen 3
          have g4 := hka1.frozen 4
          have hz3 := hka1.lt
          go_wp2
          refine bodyPost_ret (v := .agg #[.int .i64 y, .int .i64 m, .int .i64 (r + 1), .int .i64 hh, .int .i64 ii]) (by simp [results, Try.results14, go_sem, a0, a1, a2, a3, a4]) rfl ?_
          obtain ⟨hbq, _⟩ := HR.out
          obtain ⟨hs, _⟩ := HS.out
          obtain ⟨e1, e2, e3⟩ := HE.out
          refine ⟨y, m, r + 1, by rw [e1, e2], ⟨hy0, hm0, hm1, by omega, by omega, by omega⟩, ?_⟩
          exact (((((hB1.setCell (p := ⟨gb, 2, none⟩) (Nat.le_of_lt hz) _).setCell (p := ⟨w.heap.size, 0, none⟩) (Nat.le_refl _) _).setCell (p := ⟨w.heap.size, 1, none⟩) (Nat.le_refl _) _).setCell (p := ⟨w.heap.size, 2, none⟩) (Nat.le_refl _) _).setCell (p := ⟨w.heap.size, 3, none⟩) (Nat.le_refl _) _).setCell (p := ⟨w.heap.size, 4, none⟩) (Nat.le_refl _) _
end Go.Proofs.Yteabeflcffflnaa
