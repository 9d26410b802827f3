/- add of the document. -/
import Derived.Test.YtlmoeempblgdkaaWg
import Derived.Deep.CutBlock
namespace Go.Proofs.Ytlmoeempblgdkaa
open Go.RowKit Go.BigFrame
set_option linter.unusedVariables false
set_option linter.unusedSimpArgs false

theorem Rd.cut {α : Type} {w : World} {E : Enc α} {A : Option Addr} {n k : Nat} {l : List α} (h : Rd w E A n l) (hk : k ≤ n) : Rd w E (A.map (fun x => x.add (k * E.size))) (n - k) (l.drop k) := by
  refine ⟨by rw [List.length_drop, h.1], fun h0 => ?_⟩
  obtain ⟨b, off, rfl, hc⟩ := h.2 (by omega)
  refine ⟨b, off + k * E.size, by simp [Addr.add_lit], fun j v hj => ?_⟩
  rw [← E.flat_drop, List.getElem?_drop] at hj
  rw [Nat.add_assoc]
  exact hc _ v hj
set_option maxRecDepth 20000 in
set_option maxHeartbeats 8000000 in
theorem add47 (A : Option Addr) (n cap k : Nat) (t : List Rt) (x : Rt) (w : World) (hn : n ≤ 24) (hcap : n ≤ cap) (hcm : cap ≤ 9223372036854775807) (hr : Rd w ER A n t) (hk : k ≤ n) (hc : CutAt t x.d k) :
    Calls Try.prog 47 #[.slice A n cap, rtV x] w (SlEnd w (t.take k ++ x :: t.drop k)) := by
  obtain ⟨i0, hi0, hz0, hz1, hz2⟩ := info_parts info40
  obtain ⟨W, hW, hB, hz, hkB⟩ := boxeds w (rtC x) 40
  have hlen : t.length = n := hr.1
  have hrW := hr.later hB
  have HCU := Lib.hid hc
  clear hz hr hc
  go_enter Try.func47, Try.ntmps47
  go_upto_block 0 with fail
  go_cut [5, 6] (fun s i wr => ∃ (cp : Nat) (B : Option Addr), i = .int .i64 k ∧ s = .slice B k cp ∧ Ow wr W.heap.size 40 ER (.slice B k cp) k (t.take k) ∧ Below W.heap.size W wr)
  case first =>
    go_wp2_with fail
    go_loopw [5, 6] (fun s i wr => ∃ (j cp : Nat) (B : Option Addr), j ≤ k ∧ i = .int .i64 j ∧ s = .slice B j cp ∧ Ow wr W.heap.size 40 ER (.slice B j cp) j (t.take j) ∧ Below W.heap.size W wr) (fun _ i _ => n - (intOf i).toNat)
    case atStart => exact ⟨0, 0, none, Nat.zero_le _, rfl, rfl, Ow.nil _ _ _ _, Below.refl _ _⟩
    case round =>
      obtain ⟨j, cp, B, hj, rfl, rfl, ho, hbr⟩ := hrel
      by_cases hlt : j < n
      · obtain ⟨b, off, a, rfl, hla, e0, e1, e2, e3⟩ := rt_at (hrW.later hbr) hlt
        have A0 := After.cell e0
        have X0 := After.cell ((hkB.later hbr).at 0 (v := .int .i64 x.d) rfl)
        have hx0 : (0 : Int) ≤ (j : Int) := by omega
        have hx1 : (j : Int) < (n : Int) := by omega
        by_cases hjk : j < k
        · have hd : a.d < x.d := HCU.out.1 j a hjk hla
          have hd' : decide (a.d < x.d) = true := decide_eq_true hd
          have HLA := Lib.hid hla
          clear hla hd
          go_upto_region 3 with fail
          refine wp_region_after (by kernel_rfl) (by kernel_rfl) ?_
          repeat (go_big_quiet_step (fail))
          refine wpQuiet_nil ?_
          intro w2 hb2
          have hb3 := hbr.trans (hb2.mono hbr.size)
          have o2 := ho.later hb2
          have f0 := keep hb2 e0
          have f1 := keep hb2 e1
          have f2 := keep hb2 e2
          have f3 := keep hb2 e3
          clear A0 X0 e0 e1 e2 e3 hbr ho hb2 hd'
          go_wp2_with (at_builtin; refine wpList_append_rd _ rfl (.tmp 24) (.tmp 29) 22 rfl W.heap.size 40 i0 _ ER Try.underlying22 hi0 hz0 hz1 rfl (.slice B j cp) j (t.take j) rfl (o2.later ((Below.refl _ _).alloc (Nat.le_refl _) _)) (some ⟨w2.heap.size, 0, none⟩) 1 1 [a] rfl (rt_one a w2 40) (by unfold maxLen; omega) (by rw [hz2]; omega) (by have := hb3.size; simp; omega) ?_; intro A1 cap1 w4 o4 hg)
          have o3 : Ow (w2.alloc (.cells (rtC a) 40)) W.heap.size 40 ER (.slice B j cp) j (t.take j) := o2.later ((Below.refl _ _).alloc (Nat.le_refl _) _)
          have hb4 := Below.row (hb3.alloc hb3.size (.cells (rtC a) 40)) hg (by have := hb3.size; simp; omega) (Nat.le_refl _) o3.lt
          rw [← take_snoc HLA.out] at o4
          clear hg o3 o2 hb3 f0 f1 f2 f3
          go_roundw
          case rel => exact ⟨j + 1, cap1, A1, by omega, by go_num, rfl, o4, hb4⟩
          case measure => simp [intOf]; omega
        · have hd : x.d ≤ a.d := HCU.out.2 j a (by omega) hla
          have hd' : decide (a.d < x.d) = false := decide_eq_false (by omega)
          obtain rfl : j = k := by omega
          clear hla hd
          go_upto_region 3 with fail
          refine wp_region_after (by kernel_rfl) (by kernel_rfl) ?_
          repeat (go_big_quiet_step (fail))
          refine wpQuiet_nil ?_
          intro w2 hb2
          have hb3 := hbr.trans (hb2.mono hbr.size)
          have o2 := ho.later hb2
          clear A0 X0 e0 e1 e2 e3 hbr ho hb2 hd'
          go_wp2
          go_meet
          exact ⟨cp, B, rfl, rfl, o2, hb3⟩
      · obtain rfl : j = k := by omega
        have hd' : decide (j < n) = false := decide_eq_false hlt
        have X0 := After.cell ((hkB.later hbr).at 0 (v := .int .i64 x.d) rfl)
        go_upto_region 3 with fail
        refine wp_region_after (by kernel_rfl) (by kernel_rfl) ?_
        repeat (go_big_quiet_step (fail))
        refine wpQuiet_nil ?_
        intro w2 hb2
        have hb3 := hbr.trans (hb2.mono hbr.size)
        have o2 := ho.later hb2
        clear X0 hbr ho hb2 hd'
        go_wp2
        go_meet
        exact ⟨cp, B, rfl, rfl, o2, hb3⟩
  case rest =>
    obtain ⟨cp, B, rfl, rfl, ho, hbr⟩ := hcut
    obtain ⟨w2, rfl⟩ : ∃ y : World, y = wc := ⟨_, rfl⟩
    have x0 := (hkB.later hbr).at 0 (v := .int .i64 x.d) rfl
    have x1 := (hkB.later hbr).at 1 (v := .int .i64 x.s) rfl
    have x2 := (hkB.later hbr).at 2 (v := .int .i64 x.c) rfl
    have x3 := (hkB.later hbr).at 3 (v := .int .i64 x.n) rfl
    go_upto_region 8 with (at_builtin; refine wpList_append_rd _ rfl (.tmp 33) (.tmp 35) 22 rfl W.heap.size 40 i0 _ ER Try.underlying22 hi0 hz0 hz1 rfl (.slice B k cp) k (t.take k) rfl (ho.later ((Below.refl _ _).alloc (Nat.le_refl _) _)) (some ⟨w2.heap.size, 0, none⟩) 1 1 [x] rfl (rt_one x w2 40) (by unfold maxLen; omega) (by rw [hz2]; omega) (by have := hbr.size; simp; omega) ?_; intro A1 cap1 w4 o4 hg)
    have o3 : Ow (w2.alloc (.cells (rtC x) 40)) W.heap.size 40 ER (.slice B k cp) k (t.take k) := ho.later ((Below.refl _ _).alloc (Nat.le_refl _) _)
    have hb4 := Below.row (hbr.alloc hbr.size (.cells (rtC x) 40)) hg (by have := hbr.size; simp; omega) (Nat.le_refl _) o3.lt
    have HB := Lib.hid hB
    have HFIN : Hid ((t.take k ++ [x]) ++ t.drop k = t.take k ++ x :: t.drop k) := Lib.hid (by rw [List.append_assoc]; rfl)
    clear hg o3 ho hbr x0 x1 x2 x3 hkB hB
    by_cases hck : cap = k
    · subst hck
      obtain rfl : n = cap := by omega
      have hrd : Rd w4 ER A 0 (t.drop n) := ⟨by rw [List.length_drop]; omega, fun h => absurd h (by omega)⟩
      have HRD := Lib.hid hrd
      clear hrd
      go_wp2_with (at_builtin; refine wpList_append_rd _ rfl (.tmp 37) (.tmp 40) 22 rfl W.heap.size 40 i0 _ ER Try.underlying22 hi0 hz0 hz1 rfl (.slice A1 (n + 1) cap1) (n + 1) (t.take n ++ [x]) rfl o4 A 0 0 (t.drop n) rfl HRD.out (by unfold maxLen; omega) (by rw [hz2]; omega) hb4.size ?_; intro A2 cap2 w5 o5 hg)
      all_goals first | contradiction | skip
      have hb5 := HB.out.trans ((Below.row hb4 hg hb4.size (Nat.le_refl _) o4.lt).mono HB.out.size)
      rw [HFIN.out] at o5
      have o6 := o5.rebase (base' := w.heap.size) HB.out.size
      go_ret
      exact ⟨A2, _, cap2, rfl, o6, hb5⟩
    · have hrd := (hrW.later hb4).cut (k := k) hk
      have HRD := Lib.hid hrd
      clear hrd
      go_wp2_with (at_builtin; refine wpList_append_rd _ rfl (.tmp 37) (.tmp 40) 22 rfl W.heap.size 40 i0 _ ER Try.underlying22 hi0 hz0 hz1 rfl (.slice A1 (k + 1) cap1) (k + 1) (t.take k ++ [x]) rfl o4 (A.map (fun y => y.add (k * 4))) (n - k) (cap - k) (t.drop k) rfl HRD.out (by unfold maxLen; omega) (by rw [hz2]; omega) hb4.size ?_; intro A2 cap2 w5 o5 hg)
      all_goals first | contradiction | skip
      have hb5 := HB.out.trans ((Below.row hb4 hg hb4.size (Nat.le_refl _) o4.lt).mono HB.out.size)
      rw [HFIN.out] at o5
      have o6 := o5.rebase (base' := w.heap.size) HB.out.size
      go_ret
      exact ⟨A2, _, cap2, rfl, o6, hb5⟩
end Go.Proofs.Ytlmoeempblgdkaa
