/- The walks of without, Same, queue. -/
import Derived.Test.YtjdhgokcbcidlaaSnd
import Derived.Test.YtjdhgokcbcidlaaRdx
namespace Go.Proofs.Ytjdhgokcbcidlaa
open Go.RowKit Go.BigFrame
set_option linter.unusedVariables false

theorem erase_same {l : List Sn} {k i : Nat} {a : Sn} (h : l[i]? = some a) (hi : i = k) : (l.take (i + 1)).eraseIdx k = (l.take i).eraseIdx k := by
  subst hi
  have hlt : i < l.length := (List.getElem?_eq_some_iff.1 h).1
  have hl : (l.take i).length = i := by rw [List.length_take]; omega
  rw [take_snoc h, List.eraseIdx_append_of_length_le (by omega), hl, Nat.sub_self]
  have e1 : (l.take i).eraseIdx i = l.take i := List.eraseIdx_of_length_le (by omega)
  rw [e1]
  simp
theorem erase_other {l : List Sn} {k i : Nat} {a : Sn} (h : l[i]? = some a) (hi : i ≠ k) : (l.take (i + 1)).eraseIdx k = (l.take i).eraseIdx k ++ [a] := by
  have hlt : i < l.length := (List.getElem?_eq_some_iff.1 h).1
  rw [take_snoc h]
  rcases Nat.lt_or_ge i k with c | c
  · rw [List.eraseIdx_of_length_le (by simp; omega), List.eraseIdx_of_length_le (by simp; omega)]
  · rw [List.eraseIdx_append_of_lt_length (by simp; omega)]

set_option maxHeartbeats 1000000 in
theorem without26 (A : Option Addr) (n cap : Nat) (l : List Sn) (k : Nat) (w : World) (hn : n ≤ 100) (hr : Rd w ES A n l) (hk : k < n) : Calls Try.prog 26 #[.slice A n cap, .int .i64 k] w (SlEnd w (l.eraseIdx k)) := by
  obtain ⟨i0, hi0, hz0, hz1, hz2⟩ := info_parts info35
  go_enter Try.func26, Try.ntmps26
  go_wp2
  go_loopw [5, 6] (fun v i wr => ∃ (j m cap' : Nat) (A' : Option Addr), j ≤ n ∧ m ≤ j ∧ i = .int .i64 j ∧ v = .slice A' m cap' ∧ Ow wr w.heap.size 35 ES (.slice A' m cap') m ((l.take j).eraseIdx k) ∧ Below w.heap.size w wr) (fun _ i _ => n - (intOf i).toNat)
  case atStart => exact ⟨0, 0, 0, none, by omega, by omega, rfl, rfl, by simpa using Ow.nil w w.heap.size 35 ES, Below.refl _ _⟩
  case round =>
    obtain ⟨j, m, cap', A', hj, hmj, rfl, rfl, hown, hbr⟩ := hrel
    have hrr := hr.later hbr
    by_cases hlt : j < n
    · obtain ⟨b, off, a, rfl, hla, q0, q1, q2, q3, q4, q5, q6, q7, q8, q9, q10⟩ := snd_at hrr hlt
      by_cases hjk : j = k
      · have HT := Lib.hid (erase_same hla hjk)
        have hjb : ((j : Int) != (k : Int)) = false := by subst hjk; simp
        have hj1 : m ≤ j + 1 := by omega
        clear hjk q0 q1 q2 q3 q4 q5 q6 q7 q8 q9 q10
        go_wp2
        go_roundw
        case rel => exact ⟨j + 1, m, cap', A', by omega, hj1, by go_num, rfl, by rw [HT.out]; exact hown, hbr⟩
        case measure => simp [intOf]; omega
      · have HT := Lib.hid (erase_other hla hjk)
        have hjb : ((j : Int) != (k : Int)) = true := by rw [bne_iff_ne]; omega
        clear hjk
        go_wp2_with (at_builtin; refine wpList_append_rd _ rfl (.tmp 16) (.tmp 21) 22 rfl w.heap.size 35 i0 _ ES Try.underlying22 hi0 hz0 hz1 rfl (.slice A' m cap') m ((l.take j).eraseIdx k) rfl (hown.later ((Below.refl _ _).alloc (Nat.le_refl _) _)) (some ⟨wr.heap.size, 0, none⟩) 1 1 [a] rfl (snd_one a wr 35) (by unfold maxLen; omega) (by rw [hz2]; omega) (by have := hbr.size; simp; omega) ?_; intro A1 cap1 w1 hown1 hg)
        have hb1 : Below w.heap.size w w1 := Below.row (hbr.alloc hbr.size _) hg (by have := hbr.size; simp; omega) (Nat.le_refl _) (hown.later ((Below.refl _ _).alloc (Nat.le_refl _) _)).lt
        rw [← HT.out] at hown1
        clear hg hown hbr hrr
        go_wp2
        go_roundw
        case rel => exact ⟨j + 1, m + 1, cap1, A1, by omega, by omega, by go_num, rfl, hown1, hb1⟩
        case measure => simp [intOf]; omega
    · have HE := Lib.hid (show l.take j = l by rw [List.take_of_length_le (by rw [hr.1]; omega)])
      go_wp2
      go_ret
      exact ⟨A', m, cap', rfl, by rw [HE.out] at hown; exact hown, hbr⟩

set_option maxHeartbeats 1000000 in
theorem same_eq (A B : Option Addr) (n c d : Nat) (l : List Sn) (w : World) (hn : n ≤ 9223372036854775807) (hr : Rd w ES A n l) (hs : Rd w ES B n l) :
    Calls Try.prog 12 #[.slice A n c, .slice B n d] w fun e w' => e = .returned (.bool true) ∧ Below w.heap.size w w' := by
  go_enter Try.func12, Try.ntmps12
  go_wp2
  go_loopw [5] (fun i wr => ∃ j : Nat, j ≤ n ∧ i = .int .i64 j ∧ Below w.heap.size w wr) (fun i _ => n - (intOf i).toNat)
  case atStart => exact ⟨0, by omega, rfl, Below.refl _ _⟩
  case round =>
    obtain ⟨j, hj, rfl, hbr⟩ := hrel
    by_cases hlt : j < n
    · obtain ⟨b, off, a, rfl, hla, q0, q1, q2, q3, q4, q5, q6, q7, q8, q9, q10⟩ := snd_at (hr.later hbr) hlt
      obtain ⟨b', off', a', rfl, hla', p0, p1, p2, p3, p4, p5, p6, p7, p8, p9, p10⟩ := snd_at (hs.later hbr) hlt
      obtain rfl : a = a' := by rw [hla] at hla'; exact Option.some.inj hla'
      have Q0 := After.cell q0
      have Q1 := After.cell q1
      have Q2 := After.cell q2
      have Q3 := After.cell q3
      have Q4 := After.cell q4
      have Q5 := After.cell q5
      have Q6 := After.cell q6
      have Q7 := After.cell q7
      have Q8 := After.cell q8
      have Q9 := After.cell q9
      have Q10 := After.cell q10
      have P0 := After.cell p0
      have P1 := After.cell p1
      have P2 := After.cell p2
      have P3 := After.cell p3
      have P4 := After.cell p4
      have P5 := After.cell p5
      have P6 := After.cell p6
      have P7 := After.cell p7
      have P8 := After.cell p8
      have P9 := After.cell p9
      have P10 := After.cell p10
      have he := neq35_same (a := a) rfl
      clear q0 q1 q2 q3 q4 q5 q6 q7 q8 q9 q10 p0 p1 p2 p3 p4 p5 p6 p7 p8 p9 p10 hr hs hla hla'
      go_wp2
      refine wp_region_after (by kernel_rfl) (by kernel_rfl) ?_
      repeat (go_big_quiet_step (fail))
      refine wpQuiet_nil ?_
      intro w1 hb1
      have hB1 := hbr.trans (hb1.mono hbr.size)
      clear Q0 Q1 Q2 Q3 Q4 Q5 Q6 Q7 Q8 Q9 Q10 P0 P1 P2 P3 P4 P5 P6 P7 P8 P9 P10 hb1
      go_wp2
      go_roundw
      case rel => exact ⟨j + 1, by omega, by go_num, hB1⟩
      case measure => simp [intOf]; omega
    · go_wp2
      go_ret
      exact ⟨rfl, hbr⟩

/-- queue: a copy of the first 16 -/
theorem queue22 (A : Option Addr) (n cap : Nat) (l : List Sn) (w : World) (hn : n ≤ cap) (hc : cap ≤ 9223372036854775807) (hr : Rd w ES A n l) : Calls Try.prog 22 #[.slice A n cap] w (SlEnd w (l.take 16)) := by
  have hm := hr.take (q := min n 16) (Nat.min_le_left _ _)
  have hl : l.take (min n 16) = l.take 16 := by
    rcases Nat.lt_or_ge n 16 with c | c
    · rw [Nat.min_eq_left (by omega), List.take_of_length_le (by rw [hr.1]; exact Nat.le_refl _), List.take_of_length_le (by rw [hr.1]; omega)]
    · rw [Nat.min_eq_right c]
  rw [hl] at hm
  by_cases h : 16 < n
  · rw [Nat.min_eq_right (by omega)] at hm
    have CL := Lib.hid (clone29 A 16 cap (l.take 16) w (by omega) hm)
    go_enter Try.func22, Try.ntmps22
    go_wp2_with fail
    refine CL.out.mono ?_
    rintro e w1 ⟨B, m, c, rfl, ho, hb⟩
    go_wp2
    go_ret
    exact ⟨B, m, c, rfl, ho, hb⟩
  · rw [Nat.min_eq_left (by omega)] at hm
    have CL := Lib.hid (clone29 A n cap (l.take 16) w (by omega) hm)
    go_enter Try.func22, Try.ntmps22
    go_wp2_with fail
    refine CL.out.mono ?_
    rintro e w1 ⟨B, m, c, rfl, ho, hb⟩
    go_wp2
    go_ret
    exact ⟨B, m, c, rfl, ho, hb⟩
end Go.Proofs.Ytjdhgokcbcidlaa
