/- Fresh of the document's answer, SamePairs. -/
import Derived.Test.YtjdhgokcbcidlaaWp
namespace Go.Proofs.Ytjdhgokcbcidlaa
open Go.RowKit Go.BigFrame
set_option linter.unusedVariables false

theorem Blk.rowq {w w' : World} {g base : Nat} {t : TypeId} {cs : Array Value} {v : Value} (h : Blk w g t cs) (hg : w.grownBy w' v.ownBlock) (hv : ∀ k, v.ownBlock = some k → base ≤ k ∧ k < w.heap.size) (hb : g < base) : Blk w' g t cs :=
  (hg.block g h.lt (fun e => by have := (hv g e.symm).1; omega)).trans h
theorem suf_not {l : List Pr} {j n : Nat} {a : Pr} (h : l[j]? = some a) (hn : ¬ n ≤ j) : (l.take (j + 1)).drop n = (l.take j).drop n := by
  rw [List.drop_eq_nil_of_le (by rw [List.length_take]; omega), List.drop_eq_nil_of_le (by rw [List.length_take]; omega)]
theorem suf_snoc {l : List Pr} {j n : Nat} {a : Pr} (h : l[j]? = some a) (hn : n ≤ j) : (l.take (j + 1)).drop n = (l.take j).drop n ++ [a] := by
  have hlt : j < l.length := (List.getElem?_eq_some_iff.1 h).1
  rw [take_snoc h, List.drop_append_of_le_length (by rw [List.length_take]; omega)]

set_option maxHeartbeats 4000000 in
theorem fresh20 (A : Option Addr) (n cap : Nat) (l : List Pr) (p : Pr) (w : World) (hn : n ≤ 200) (hr : Rd w EP A n l) :
    Calls Try.prog 20 #[.slice A n cap, prV p] w (FrEnd w (frs l p)) := by
  obtain ⟨i0, hi0, hz0, hz1, hz2⟩ := info_parts info43
  obtain ⟨W, hW, hB, hz, hk⟩ := boxed w #[.int .i64 p.source, .int .i64 p.seq] 43
  go_enter Try.func20, Try.ntmps20
  go_wp2
  go_loopw [6, 7, 8] (fun v b i wr => ∃ (j m c : Nat) (B : Option Addr) (k : List Pr), j ≤ n ∧ m ≤ j ∧ i = .int .i64 j ∧ v = .slice B m c ∧ b = .bool (!decide (p ∈ k)) ∧ k = (l.take j).drop (n - 32) ∧ Ow wr W.heap.size 43 EP (.slice B m c) m k ∧ W.heap.size ≤ wr.heap.size ∧ Blk wr w.heap.size 43 #[.int .i64 p.source, .int .i64 p.seq] ∧ Below w.heap.size w wr) (fun _ _ i _ => n - (intOf i).toNat)
  case atStart => exact ⟨0, 0, 0, none, [], by omega, by omega, rfl, rfl, by simp, by simp, Ow.nil _ _ _ _, Nat.le_refl _, hk, hB⟩
  case round =>
    clear hk hB hW
    obtain ⟨j, m, c, B, k, hj, hmj, rfl, rfl, rfl, hkk, hown, hWr, hkr, hbr⟩ := hrel
    have hrr := hr.later hbr
    by_cases hlt : j < n
    · obtain ⟨b, off, a, rfl, hla, q0, q1⟩ := pr_at hrr hlt
      by_cases hin : n - 32 ≤ j
      · have HT := Lib.hid (suf_snoc hla hin)
        have hd : decide ((n : Int) - 32 ≤ (j : Int)) = true := decide_eq_true (by omega)
        rw [← hkk] at HT
        clear hkk hin
        have hx3 := Nat.le_refl wr.heap.size
        go_wp2_with (at_builtin; refine wpList_append_rd _ rfl (.tmp 20) (.tmp 25) 41 rfl W.heap.size 43 i0 _ EP Try.underlying41 hi0 hz0 hz1 rfl (.slice B m c) m k rfl (hown.later ((Below.refl _ _).alloc (Nat.le_refl _) _)) (some ⟨wr.heap.size, 0, none⟩) 1 1 [a] rfl (pr_one a wr 43) (by unfold maxLen; omega) (by rw [hz2]; omega) (by simp; omega) ?_; intro A1 cap1 w1 hown1 hg)
        have hb1 : Below w.heap.size w w1 := Below.row (hbr.alloc hbr.size _) hg (by have := hbr.size; simp; omega) (Nat.le_of_lt hz) (hown.later ((Below.refl _ _).alloc (Nat.le_refl _) _)).lt
        have hk1 : Blk w1 w.heap.size 43 #[.int .i64 p.source, .int .i64 p.seq] := Blk.rowq (hkr.alloc _) hg (hown.later ((Below.refl _ _).alloc (Nat.le_refl _) _)).lt hz
        have hW1 : W.heap.size ≤ w1.heap.size := by have := hg.size; simp at this; omega
        obtain ⟨b', off', a', hA, hla', q0, q1⟩ := pr_at (hr.later hb1) hlt
        cases hA
        obtain rfl : a = a' := by rw [hla] at hla'; exact Option.some.inj hla'
        rw [← HT.out] at hown1
        have Q0 := After.cell q0
        have Q1 := After.cell q1
        have P0 := After.cell (hk1.at 0 (v := .int .i64 p.source) rfl)
        have P1 := After.cell (hk1.at 1 (v := .int .i64 p.seq) rfl)
        clear hla hla' hg hrr hown hkr hbr hx3 q0 q1 hd
        generalize hkk : (l.take (j + 1)).drop (n - 32) = k2 at *
        by_cases hpk : p ∈ k
        · have hd : (!decide (p ∈ k)) = false := by simp [hpk]
          have hd2 := Lib.hid (show decide (p ∈ k2) = true by rw [HT.out]; simp [hpk])
          rw [hd]
          clear hpk HT Q0 Q1 P0 P1
          go_wp2
          refine wp_region_after (by kernel_rfl) (by kernel_rfl) ?_
          repeat (go_big_quiet_step (fail))
          refine wpQuiet_nil ?_
          intro w2 hb2
          have hB2 := hb1.trans (hb2.mono hb1.size)
          have hk2 := hk1.later hb2
          have ho2 := hown1.later hb2
          have hW2 := Nat.le_trans hW1 hb2.size
          clear hb2 hk1 hown1 hb1
          go_wp2
          go_roundw
          case rel => exact ⟨j + 1, m + 1, cap1, A1, k2, by omega, by omega, by go_num, rfl, by rw [hd2.out]; rfl, hkk.symm, ho2, hW2, hk2, hB2⟩
          case measure => simp [intOf]; omega
        · have hd : (!decide (p ∈ k)) = true := by simp [hpk]
          rw [hd]
          by_cases hpa : a = p
          · have he := fun w => (neq43 a p w).trans (by rw [decide_eq_true hpa])
            have hd2 := Lib.hid (show decide (p ∈ k2) = true by rw [HT.out]; simp [hpa])
            clear hpk HT hpa
            go_wp2
            refine wp_region_after (by kernel_rfl) (by kernel_rfl) ?_
            repeat (go_big_quiet_step (fail))
            refine wpQuiet_nil ?_
            intro w2 hb2
            have hB2 := hb1.trans (hb2.mono hb1.size)
            have hk2 := hk1.later hb2
            have ho2 := hown1.later hb2
            have hW2 := Nat.le_trans hW1 hb2.size
            clear hb2 hk1 hown1 hb1 Q0 Q1 P0 P1 he
            go_wp2
            go_roundw
            case rel => exact ⟨j + 1, m + 1, cap1, A1, k2, by omega, by omega, by go_num, rfl, by rw [hd2.out]; rfl, hkk.symm, ho2, hW2, hk2, hB2⟩
            case measure => simp [intOf]; omega
          · have he := fun w => (neq43 a p w).trans (by rw [decide_eq_false hpa])
            have hd2 := Lib.hid (show decide (p ∈ k2) = false by rw [HT.out]; simp [hpk, Ne.symm hpa])
            clear hpk HT hpa
            go_wp2
            refine wp_region_after (by kernel_rfl) (by kernel_rfl) ?_
            repeat (go_big_quiet_step (fail))
            refine wpQuiet_nil ?_
            intro w2 hb2
            have hB2 := hb1.trans (hb2.mono hb1.size)
            have hk2 := hk1.later hb2
            have ho2 := hown1.later hb2
            have hW2 := Nat.le_trans hW1 hb2.size
            clear hb2 hk1 hown1 hb1 Q0 Q1 P0 P1 he
            go_wp2
            go_roundw
            case rel => exact ⟨j + 1, m + 1, cap1, A1, k2, by omega, by omega, by go_num, rfl, by rw [hd2.out]; rfl, hkk.symm, ho2, hW2, hk2, hB2⟩
            case measure => simp [intOf]; omega
      · have HT := Lib.hid (suf_not hla hin)
        have hd : decide ((n : Int) - 32 ≤ (j : Int)) = false := decide_eq_false (by omega)
        rw [← hkk] at HT
        clear hkk hin q0 q1
        go_wp2
        go_roundw
        case rel => exact ⟨j + 1, m, c, B, k, by omega, by omega, by go_num, rfl, rfl, HT.out.symm, hown, hWr, hkr, hbr⟩
        case measure => simp [intOf]; omega
    · have hk' : k = last32 l := by
        rw [hkk, List.take_of_length_le (by rw [hr.1]; omega)]
        unfold last32
        rw [hr.1]
      have hlen : m ≤ 32 := by rw [← hown.1, hk', last32_len]; omega
      have hfh := Lib.hid (show frs l p = if p ∈ k then (k, false) else (last32 (k ++ [p]), true) by rw [hk']; rfl)
      have p0 := hkr.at 0 (v := .int .i64 p.source) rfl
      have p1 := hkr.at 1 (v := .int .i64 p.seq) rfl
      clear hkk hk' hrr
      by_cases hp : p ∈ k
      · have hd : (!decide (p ∈ k)) = false := by simp [hp]
        have hf := Lib.hid (show frs l p = (k, false) by rw [hfh.out, if_pos hp])
        rw [hd]
        clear hfh hp hd
        go_wp2
        refine bodyPost_ret (v := .tuple #[.slice B m c, .bool false]) (by simp [results, Try.results20, go_sem]) rfl ?_
        exact ⟨B, m, c, by rw [hf.out], by rw [hf.out]; exact hown.rd, hown.cap.1, hown.cap.2, hbr⟩
      · have hd : (!decide (p ∈ k)) = true := by simp [hp]
        have hf := Lib.hid (show frs l p = (last32 (k ++ [p]), true) by rw [hfh.out, if_neg hp])
        rw [hd]
        clear hfh hp hd
        by_cases h32 : m = 32
        · obtain ⟨g, cur, rfl, hbg, hg, hmc, hcm, hcs, htk⟩ := hown.row (by omega)
          subst h32
          have hne : ¬ c = 1 := by omega
          obtain ⟨x, k', hxk⟩ : ∃ x k', k = x :: k' := by
            cases k with
            | nil => have := hown.1; simp at this
            | cons x k' => exact ⟨x, k', rfl⟩
          have hk31 : k'.length = 31 := by have := hown.1; rw [hxk] at this; simpa using this
          have hla : last32 (k ++ [p]) = k' ++ [p] := by
            rw [hxk]; unfold last32
            rw [show (x :: k' ++ [p]).length - 32 = 1 by simp [hk31]]; rfl
          have hread : ∀ j u, (EP.flat k')[j]? = some u → cur[1 * EP.size + j]? = some u := by
            intro j u hj
            have h1 : (EP.flat (x :: k'))[2 + j]? = some u := by
              rw [EP.flat_cons, List.getElem?_append_right (by rw [EP.len]; exact Nat.le_add_right 2 j), EP.len]
              rw [show 2 + j - EP.size = j from Nat.add_sub_cancel_left 2 j]; exact hj
            rw [← hxk, ← htk, List.getElem?_take] at h1
            split at h1
            · rw [Nat.one_mul]
              show cur[2 + j]? = some u
              simpa using h1
            · cases h1
          obtain ⟨A', cap', w', hrun, hrd, hc1, hc2, hgr⟩ := run_append_off (P := Try.prog) (wr.alloc (.cells #[.int .i64 p.source, .int .i64 p.seq] 43)) 41 41 43 i0 _ EP Try.underlying41 hi0 hz0 hz1 rfl g 1 31 (c - 1) cur k' (by
            rw [← hg]; exact heap_alloc_old _ _ (Array.getElem?_eq_some_iff.1 hg).1) hk31 (by omega) (by omega) (by rw [hcs]; congr 1; omega) hread ⟨wr.heap.size, 0, none⟩ p (pr_one p wr 43) (by decide) (by rw [hz2]; decide)
          have hlt : g < wr.heap.size := (Array.getElem?_eq_some_iff.1 hg).1
          have hb3 : Below w.heap.size w w' := (hbr.alloc hbr.size _).grown hgr (by have := hbr.size; simp; omega) (fun k hk => by cases hk; omega)
          clear hg hown hkr hr hgr htk hcs hread
          go_wp2_with (at_builtin; refine wpList_append_off _ rfl (.tmp 44) (.tmp 46) 41 rfl _ _ _ _ rfl rfl hrun ?_)
          refine bodyPost_ret (v := .tuple #[.slice A' 32 cap', .bool true]) (by simp [results, Try.results20, go_sem]) rfl ?_
          exact ⟨A', 32, cap', by rw [hf.out], by rw [hf.out]; show Rd w' EP A' 32 (last32 (k ++ [p])); rw [hla]; exact hrd, hc1, hc2, hb3⟩
        · have hla : last32 (k ++ [p]) = k ++ [p] := by
            unfold last32
            rw [show (k ++ [p]).length - 32 = 0 by simp [hown.1]; omega]; rfl
          have h32i : ¬ ((m : Int) = 32) := by omega
          go_wp2_with (at_builtin; refine wpList_append_rd _ rfl (.tmp 44) (.tmp 46) 41 rfl W.heap.size 43 i0 _ EP Try.underlying41 hi0 hz0 hz1 rfl (.slice B m c) m k rfl (hown.later ((Below.refl _ _).alloc (Nat.le_refl _) _)) (some ⟨wr.heap.size, 0, none⟩) 1 1 [p] rfl (pr_one p wr 43) (by unfold maxLen; omega) (by rw [hz2]; omega) (by simp; omega) ?_; intro A1 cap1 w1 hown1 hg)
          have hb3 : Below w.heap.size w w1 := Below.row (hbr.alloc hbr.size _) hg (by have := hbr.size; simp; omega) (Nat.le_of_lt hz) (hown.later ((Below.refl _ _).alloc (Nat.le_refl _) _)).lt
          refine bodyPost_ret (v := .tuple #[.slice A1 (m + 1) cap1, .bool true]) (by simp [results, Try.results20, go_sem]) rfl ?_
          exact ⟨A1, m + 1, cap1, by rw [hf.out], by rw [hf.out]; show Rd w1 EP A1 (m + 1) (last32 (k ++ [p])); rw [hla]; exact hown1.rd, hown1.cap.1, hown1.cap.2, hb3⟩

set_option maxHeartbeats 1000000 in
theorem pairs_eq (A B : Option Addr) (n c d : Nat) (l : List Pr) (w : World) (hn : n ≤ 9223372036854775807) (hr : Rd w EP A n l) (hs : Rd w EP B n l) :
    Calls Try.prog 21 #[.slice A n c, .slice B n d] w fun e w' => e = .returned (.bool true) ∧ Below w.heap.size w w' := by
  go_enter Try.func21, Try.ntmps21
  go_wp2
  go_loopw [5] (fun i wr => ∃ j : Nat, j ≤ n ∧ i = .int .i64 j ∧ Below w.heap.size w wr) (fun i _ => n - (intOf i).toNat)
  case atStart => exact ⟨0, by omega, rfl, Below.refl _ _⟩
  case round =>
    obtain ⟨j, hj, rfl, hbr⟩ := hrel
    by_cases hlt : j < n
    · obtain ⟨b, off, a, rfl, hla, q0, q1⟩ := pr_at (hr.later hbr) hlt
      obtain ⟨b', off', a', rfl, hla', p0, p1⟩ := pr_at (hs.later hbr) hlt
      obtain rfl : a = a' := by rw [hla] at hla'; exact Option.some.inj hla'
      have Q0 := After.cell q0
      have Q1 := After.cell q1
      have P0 := After.cell p0
      have P1 := After.cell p1
      have he := fun w => (neq43 a a w).trans (by rw [decide_eq_true rfl])
      clear q0 q1 p0 p1 hr hs hla hla'
      go_wp2
      refine wp_region_after (by kernel_rfl) (by kernel_rfl) ?_
      repeat (go_big_quiet_step (fail))
      refine wpQuiet_nil ?_
      intro w1 hb1
      have hB1 := hbr.trans (hb1.mono hbr.size)
      clear Q0 Q1 P0 P1 hb1
      go_wp2
      go_roundw
      case rel => exact ⟨j + 1, by omega, by go_num, hB1⟩
      case measure => simp [intOf]; omega
    · go_wp2
      go_ret
      exact ⟨rfl, hbr⟩
end Go.Proofs.Ytjdhgokcbcidlaa
