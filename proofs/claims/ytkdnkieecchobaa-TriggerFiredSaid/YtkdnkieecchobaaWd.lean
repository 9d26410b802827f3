/- Put of the document's answer. -/
import Derived.Test.YtkdnkieecchobaaPu
namespace Go.Proofs.Ytkdnkieecchobaa
open Go.RowKit Go.BigFrame
set_option linter.unusedVariables false

theorem Blk.rowq {w w' : World} {g base : Nat} {t : TypeId} {cs : Array Value} {v : Value} (h : Blk w g t cs) (hg : w.grownBy w' v.ownBlock) (hv : ∀ k, v.ownBlock = some k → base ≤ k ∧ k < w.heap.size) (hb : g < base) : Blk w' g t cs :=
  (hg.block g h.lt (fun e => by have := (hv g e.symm).1; omega)).trans h

set_option maxHeartbeats 8000000 in
theorem put35 (A : Option Addr) (n cap : Nat) (l : List Ky) (k : Ky) (w : World) (hn : n ≤ 200) (hr : Rd w EK A n l) (hl : Srt kLt l) :
    Calls Try.prog 35 #[.slice A n cap, kyV k] w (OwEnd 32 EK w (insO kLt k l)) := by
  obtain ⟨i0, hi0, hz0, hz1, hz2⟩ := info_parts info32
  obtain ⟨W, hW, hB, hz, hk⟩ := boxed w #[.int .i64 k.dev, .string k.a, .string k.b] 32
  go_enter Try.func35, Try.ntmps35
  go_wp2
  go_loopw [5, 6, 7] (fun v d i wr => ∃ (j m c : Nat) (B : Option Addr) (out : List Ky) (d' : Bool), j ≤ n ∧ m ≤ 2 * j + 1 ∧ i = .int .i64 j ∧ v = .slice B m c ∧ d = .bool d' ∧ PutInv kLt l k j d' out ∧ Ow wr W.heap.size 32 EK (.slice B m c) m out ∧ W.heap.size ≤ wr.heap.size ∧ Blk wr w.heap.size 32 #[.int .i64 k.dev, .string k.a, .string k.b] ∧ Below w.heap.size w wr) (fun _ _ i _ => n - (intOf i).toNat)
  case atStart => exact ⟨0, 0, 0, none, [], false, by omega, by omega, rfl, rfl, rfl, put_start l k, Ow.nil _ _ _ _, Nat.le_refl _, hk, hB⟩
  case round =>
    clear hk hB hW
    obtain ⟨j, m, c, B, out, d', hj, hmj, rfl, rfl, rfl, hinv, hown, hWr, hkr, hbr⟩ := hrel
    have hrr := hr.later hbr
    have P0 := After.cell (hkr.at 0 (v := .int .i64 k.dev) rfl)
    have P1 := After.cell (hkr.at 1 (v := .string k.a) rfl)
    have P2 := After.cell (hkr.at 2 (v := .string k.b) rfl)
    by_cases hlt : j < n
    · obtain ⟨b, off, x, rfl, hla, q0, q1, q2⟩ := ky_at hrr hlt
      have Q0 := After.cell q0
      have Q1 := After.cell q1
      have Q2 := After.cell q2
      clear q0 q1 q2 hrr
      go_upto_if 24 with fail
      obtain ⟨wo, rfl⟩ : ∃ wo : World, wo = wr := ⟨_, rfl⟩
      go_cut [24] (fun z wz => ∃ tb : Bool, z = .bool tb ∧ (tb = true → d' = false ∧ kLt x k = false) ∧ (tb = false → d' = false → kLt x k = true) ∧ Ow wz W.heap.size 32 EK (.slice B m c) m out ∧ W.heap.size ≤ wz.heap.size ∧ Blk wz w.heap.size 32 #[.int .i64 k.dev, .string k.a, .string k.b] ∧ Below w.heap.size w wz)
      case first =>
        cases d' with
        | true =>
          go_wp2
          refine wp_region_after (by kernel_rfl) (by kernel_rfl) ?_
          repeat (go_big_quiet_step (fail))
          refine wpQuiet_nil ?_
          intro w2 hb2
          have hk2 := hkr.later hb2
          have ho2 := hown.later hb2
          have hB2 := hbr.trans (hb2.mono hbr.size)
          have hW2 := Nat.le_trans hWr hb2.size
          clear Q0 Q1 Q2 P0 P1 P2 hkr hown hb2 hbr hWr
          go_wp2
          go_meet
          exact ⟨false, rfl, fun h => (by cases h), fun _ h => (by cases h), ho2, hW2, hk2, hB2⟩
        | false =>
          cases hxk : kLt x k with
          | true =>
            have L : ∀ p : After wo, Calls Try.prog 48 #[kyV x, kyV k] p.w fun e w' => e = .returned (.bool true) ∧ ∃ q : After wo, w' = q.w := fun p => p.of (by have := less48 x k p.w; rw [hxk] at this; exact this)
            have HX := Lib.hid hxk
            clear hxk
            go_wp2
            refine wp_region_after (by kernel_rfl) (by kernel_rfl) ?_
            repeat (go_big_quiet_step ((with_reducible exact L _)))
            refine wpQuiet_nil ?_
            intro w2 hb2
            have hk2 := hkr.later hb2
            have ho2 := hown.later hb2
            have hB2 := hbr.trans (hb2.mono hbr.size)
            have hW2 := Nat.le_trans hWr hb2.size
            clear Q0 Q1 Q2 P0 P1 P2 L hkr hown hb2 hbr hWr
            go_wp2
            go_meet
            exact ⟨false, rfl, fun h => (by cases h), fun _ _ => HX.out, ho2, hW2, hk2, hB2⟩
          | false =>
            have L : ∀ p : After wo, Calls Try.prog 48 #[kyV x, kyV k] p.w fun e w' => e = .returned (.bool false) ∧ ∃ q : After wo, w' = q.w := fun p => p.of (by have := less48 x k p.w; rw [hxk] at this; exact this)
            have HX := Lib.hid hxk
            clear hxk
            go_wp2
            refine wp_region_after (by kernel_rfl) (by kernel_rfl) ?_
            repeat (go_big_quiet_step ((with_reducible exact L _)))
            refine wpQuiet_nil ?_
            intro w2 hb2
            have hk2 := hkr.later hb2
            have ho2 := hown.later hb2
            have hB2 := hbr.trans (hb2.mono hbr.size)
            have hW2 := Nat.le_trans hWr hb2.size
            clear Q0 Q1 Q2 P0 P1 P2 L hkr hown hb2 hbr hWr
            go_wp2
            go_meet
            exact ⟨true, rfl, fun _ => ⟨trivial, HX.out⟩, fun h => (by cases h), ho2, hW2, hk2, hB2⟩
      case rest =>
      clear P0 P1 P2 Q0 Q1 Q2 hkr hown hbr hWr
      obtain ⟨tb, rfl, ht1, ht2, hown, hWr, hkr, hbr⟩ := hcut
      obtain ⟨wx, rfl⟩ : ∃ wx, wx = wc := ⟨_, rfl⟩
      rename_i K1 hK1
      refine hK1 _ _ ?_
      go_cut [5, 6] (fun v d wz => ∃ (m' c' : Nat) (B' : Option Addr) (out' : List Ky) (d2 : Bool), m' ≤ m + 1 ∧ v = .slice B' m' c' ∧ d = .bool d2 ∧ PutInv kLt l k j d2 out' ∧ (d2 = false → kLt x k = true) ∧ Ow wz W.heap.size 32 EK (.slice B' m' c') m' out' ∧ W.heap.size ≤ wz.heap.size ∧ Blk wz w.heap.size 32 #[.int .i64 k.dev, .string k.a, .string k.b] ∧ Below w.heap.size w wz)
      case first =>
        cases tb with
        | true =>
          obtain ⟨rfl, hxk⟩ := ht1 rfl
          have HP := Lib.hid (put_now kLin hl hinv hla hxk)
          clear hxk ht1 ht2 hinv
          have r0 := hkr.at 0 (v := .int .i64 k.dev) rfl
          have r1 := hkr.at 1 (v := .string k.a) rfl
          have r2 := hkr.at 2 (v := .string k.b) rfl
          go_wp2_with (at_builtin; refine wpList_append_rd _ rfl (.tmp 25) (.tmp 27) 22 rfl W.heap.size 32 i0 _ EK Try.underlying22 hi0 hz0 hz1 rfl (.slice B m c) m out rfl (hown.later ((Below.refl _ _).alloc (Nat.le_refl _) _)) (some ⟨wx.heap.size, 0, none⟩) 1 1 [k] rfl (ky_one k wx 32) (by unfold maxLen; omega) (by rw [hz2]; omega) (by simp; omega) ?_; intro A1 cap1 w3 hown1 hg)
          have hb3 : Below w.heap.size w w3 := Below.row (hbr.alloc hbr.size _) hg (by have := hbr.size; simp; omega) (Nat.le_of_lt hz) (hown.later ((Below.refl _ _).alloc (Nat.le_refl _) _)).lt
          have hk3 := Blk.rowq (hkr.alloc _) hg (hown.later ((Below.refl _ _).alloc (Nat.le_refl _) _)).lt hz
          have hW3 : W.heap.size ≤ w3.heap.size := by have := hg.size; simp at this; omega
          clear r0 r1 r2 hkr hown hg hbr
          go_meet
          exact ⟨m + 1, cap1, A1, out ++ [k], true, by omega, rfl, rfl, HP.out, fun h => (by cases h), hown1, hW3, hk3, hb3⟩
        | false =>
          have ht3 := ht2 rfl
          clear ht1 ht2
          go_wp2
          go_meet
          exact ⟨m, c, B, out, d', by omega, rfl, rfl, hinv, ht3, hown, hWr, hkr, hbr⟩
      case rest =>
        clear hkr hown hbr hWr hinv ht1 ht2
        obtain ⟨m2, c2, B2, out2, d2, hm2, rfl, rfl, hinv, hd2, hown, hWr, hkr, hbr⟩ := hcut
        obtain ⟨wy, rfl⟩ : ∃ wy, wy = wc := ⟨_, rfl⟩
        obtain ⟨b', off', x', hA, hla', q0, q1, q2⟩ := ky_at (hr.later hbr) hlt
        cases hA
        obtain rfl : x = x' := by rw [hla] at hla'; exact Option.some.inj hla'
        have P0 := After.cell (hkr.at 0 (v := .int .i64 k.dev) rfl)
        have P1 := After.cell (hkr.at 1 (v := .string k.a) rfl)
        have P2 := After.cell (hkr.at 2 (v := .string k.b) rfl)
        have Q0 := After.cell q0
        have Q1 := After.cell q1
        have Q2 := After.cell q2
        clear q0 q1 q2 hla'
        by_cases hxk : x = k
        · have he := fun w => neq32_same hxk w
          have hd : d2 = true := by
            cases d2 with
            | true => rfl
            | false => have := hd2 rfl; rw [hxk, kLin.irr] at this; cases this
          subst hd
          have HP := Lib.hid (put_more_same hinv (by rw [hla, hxk]))
          clear hxk hla hinv hd2
          go_wp2
          refine wp_region_after (by kernel_rfl) (by kernel_rfl) ?_
          repeat (go_big_quiet_step (fail))
          refine wpQuiet_nil ?_
          intro w2 hb2
          have hk2 := hkr.later hb2
          have ho2 := hown.later hb2
          have hB2 := hbr.trans (hb2.mono hbr.size)
          have hW2 := Nat.le_trans hWr hb2.size
          clear Q0 Q1 Q2 P0 P1 P2 hkr hown hb2 hbr hWr he
          go_wp2
          go_roundw
          case rel => exact ⟨j + 1, m2, c2, B2, out2, true, by omega, by omega, by go_num, rfl, rfl, HP.out, ho2, hW2, hk2, hB2⟩
          case measure => simp [intOf]; omega
        · have he := fun w => neq32_diff hxk w
          have HP : Hid (PutInv kLt l k (j + 1) d2 (out2 ++ [x])) := Lib.hid (by
            cases d2 with
            | true => exact put_more kLin hl hinv hla hxk
            | false => exact put_skip kLin hl hinv hla (hd2 rfl))
          clear hxk hinv hd2
          go_wp2
          refine wp_region_after (by kernel_rfl) (by kernel_rfl) ?_
          repeat (go_big_quiet_step (fail))
          refine wpQuiet_nil ?_
          intro w2 hb2
          have hk2 := hkr.later hb2
          have ho2 := hown.later hb2
          have hB2 := hbr.trans (hb2.mono hbr.size)
          have hW2 := Nat.le_trans hWr hb2.size
          clear Q0 Q1 Q2 P0 P1 P2 hkr hown hb2 hbr hWr he
          obtain ⟨b', off', x', hA, hla', q0, q1, q2⟩ := ky_at (hr.later hB2) hlt
          cases hA
          obtain rfl : x = x' := by rw [hla] at hla'; exact Option.some.inj hla'
          clear hla hla'
          go_wp2_with (at_builtin; refine wpList_append_rd _ rfl (.tmp 35) (.tmp 40) 22 rfl W.heap.size 32 i0 _ EK Try.underlying22 hi0 hz0 hz1 rfl (.slice B2 m2 c2) m2 out2 rfl (ho2.later ((Below.refl _ _).alloc (Nat.le_refl _) _)) (some ⟨w2.heap.size, 0, none⟩) 1 1 [x] rfl (ky_one x w2 32) (by unfold maxLen; omega) (by rw [hz2]; omega) (by simp; omega) ?_; intro A1 cap1 w3 hown1 hg)
          have hb3 : Below w.heap.size w w3 := Below.row (hB2.alloc hB2.size _) hg (by have := hB2.size; simp; omega) (Nat.le_of_lt hz) (ho2.later ((Below.refl _ _).alloc (Nat.le_refl _) _)).lt
          have hk3 := Blk.rowq (hk2.alloc _) hg (ho2.later ((Below.refl _ _).alloc (Nat.le_refl _) _)).lt hz
          have hW3 : W.heap.size ≤ w3.heap.size := by have := hg.size; simp at this; omega
          clear q0 q1 q2 hk2 ho2 hg hB2
          go_wp2
          go_roundw
          case rel => exact ⟨j + 1, m2 + 1, cap1, A1, _, d2, by omega, by omega, by go_num, rfl, rfl, HP.out, hown1, hW3, hk3, hb3⟩
          case measure => simp [intOf]; omega
    · have hjn : j = l.length := by rw [hr.1]; omega
      rw [hjn] at hinv
      cases d' with
      | true =>
        have HE := Lib.hid (put_done kLin hl hinv)
        clear hinv hjn P0 P1 P2
        go_wp2
        go_ret
        exact ⟨B, m, c, rfl, by rw [← HE.out]; exact hown.rebase (Nat.le_of_lt hz), hbr⟩
      | false =>
        have HE := Lib.hid (put_last kLin hl hinv)
        clear hinv hjn P0 P1 P2 hrr
        have r0 := hkr.at 0 (v := .int .i64 k.dev) rfl
        have r1 := hkr.at 1 (v := .string k.a) rfl
        have r2 := hkr.at 2 (v := .string k.b) rfl
        go_wp2_with (at_builtin; refine wpList_append_rd _ rfl (.tmp 44) (.tmp 46) 22 rfl W.heap.size 32 i0 _ EK Try.underlying22 hi0 hz0 hz1 rfl (.slice B m c) m out rfl (hown.later ((Below.refl _ _).alloc (Nat.le_refl _) _)) (some ⟨wr.heap.size, 0, none⟩) 1 1 [k] rfl (ky_one k wr 32) (by unfold maxLen; omega) (by rw [hz2]; omega) (by simp; omega) ?_; intro A1 cap1 w3 hown1 hg)
        have hb3 : Below w.heap.size w w3 := Below.row (hbr.alloc hbr.size _) hg (by have := hbr.size; simp; omega) (Nat.le_of_lt hz) (hown.later ((Below.refl _ _).alloc (Nat.le_refl _) _)).lt
        clear r0 r1 r2
        go_wp2
        go_ret
        exact ⟨A1, m + 1, cap1, rfl, by rw [← HE.out]; exact hown1.rebase (Nat.le_of_lt hz), hb3⟩
end Go.Proofs.Ytkdnkieecchobaa
