/- SameKeys, Same of texts, Index of texts. -/
import Derived.Test.YtkdnkieecchobaaWa
namespace Go.Proofs.Ytkdnkieecchobaa
open Go.RowKit Go.BigFrame
set_option linter.unusedVariables false

set_option maxHeartbeats 1000000 in
theorem keys_eq (A B : Option Addr) (n c d : Nat) (l : List Ky) (w : World) (hn : n ≤ 9223372036854775807) (hr : Rd w EK A n l) (hs : Rd w EK B n l) :
    Calls Try.prog 32 #[.slice A n c, .slice B n d] w fun e w' => e = .returned (.bool true) ∧ Below w.heap.size w w' := by
  go_enter Try.func32, Try.ntmps32
  go_wp2
  go_loopw [5] (fun i wr => ∃ j : Nat, j ≤ n ∧ i = .int .i64 j ∧ Below w.heap.size w wr) (fun i _ => n - (intOf i).toNat)
  case atStart => exact ⟨0, by omega, rfl, Below.refl _ _⟩
  case round =>
    obtain ⟨j, hj, rfl, hbr⟩ := hrel
    by_cases hlt : j < n
    · obtain ⟨b, off, a, rfl, hla, q0, q1, q2⟩ := ky_at (hr.later hbr) hlt
      obtain ⟨b', off', a', rfl, hla', p0, p1, p2⟩ := ky_at (hs.later hbr) hlt
      obtain rfl : a = a' := by rw [hla] at hla'; exact Option.some.inj hla'
      have Q0 := After.cell q0
      have Q1 := After.cell q1
      have Q2 := After.cell q2
      have P0 := After.cell p0
      have P1 := After.cell p1
      have P2 := After.cell p2
      have he := fun w => neq32_same (a := a) rfl w
      clear q0 q1 q2 p0 p1 p2 hr hs hla hla'
      go_wp2
      refine wp_region_after (by kernel_rfl) (by kernel_rfl) ?_
      repeat (go_big_quiet_step (fail))
      refine wpQuiet_nil ?_
      intro w1 hb1
      have hB1 := hbr.trans (hb1.mono hbr.size)
      clear Q0 Q1 Q2 P0 P1 P2 hb1
      go_wp2
      go_roundw
      case rel => exact ⟨j + 1, by omega, by go_num, hB1⟩
      case measure => simp [intOf]; omega
    · go_wp2
      go_ret
      exact ⟨rfl, hbr⟩

set_option maxHeartbeats 1000000 in
theorem texts_eq (A B : Option Addr) (n c d : Nat) (l : List ByteArray) (w : World) (hn : n ≤ 9223372036854775807) (hr : Rd w ET A n l) (hs : Rd w ET B n l) :
    Calls Try.prog 22 #[.slice A n c, .slice B n d] w fun e w' => e = .returned (.bool true) ∧ Below w.heap.size w w' := by
  go_enter Try.func22, Try.ntmps22
  go_wp2
  go_loopw [5] (fun i wr => ∃ j : Nat, j ≤ n ∧ i = .int .i64 j ∧ Below w.heap.size w wr) (fun i _ => n - (intOf i).toNat)
  case atStart => exact ⟨0, by omega, rfl, Below.refl _ _⟩
  case round =>
    obtain ⟨j, hj, rfl, hbr⟩ := hrel
    by_cases hlt : j < n
    · obtain ⟨b, off, a, rfl, hla, q0⟩ := tx_at (hr.later hbr) hlt
      obtain ⟨b', off', a', rfl, hla', p0⟩ := tx_at (hs.later hbr) hlt
      obtain rfl : a = a' := by rw [hla] at hla'; exact Option.some.inj hla'
      have Q0 := After.cell q0
      have P0 := After.cell p0
      clear q0 p0 hr hs hla hla'
      go_wp2
      refine wp_region_after (by kernel_rfl) (by kernel_rfl) ?_
      repeat (go_big_quiet_step (fail))
      refine wpQuiet_nil ?_
      intro w1 hb1
      have hB1 := hbr.trans (hb1.mono hbr.size)
      clear Q0 P0 hb1
      go_wp2
      go_roundw
      case rel => exact ⟨j + 1, by omega, by go_num, hB1⟩
      case measure => simp [intOf]; omega
    · go_wp2
      go_ret
      exact ⟨rfl, hbr⟩

set_option maxHeartbeats 1000000 in
/-- Index of texts: whether it stands before place i -/
theorem index39 (A : Option Addr) (n c : Nat) (l : List ByteArray) (x : ByteArray) (w : World) (hn : n ≤ 9223372036854775807) (hr : Rd w ET A n l) :
    Calls Try.prog 39 #[.slice A n c, .string x] w fun e w' => (∃ i : Int, e = .returned (.int .i64 i) ∧ ((i = -1 ∧ x ∉ l) ∨ ∃ j : Nat, i = j ∧ l[j]? = some x ∧ x ∉ l.take j)) ∧ w = w' := by
  go_enter Try.func39, Try.ntmps39
  go_wp2
  go_loopw [5] (fun i wr => wr = w ∧ ∃ j : Nat, j ≤ n ∧ i = .int .i64 j ∧ x ∉ l.take j) (fun i _ => n - (intOf i).toNat)
  case atStart => exact ⟨rfl, 0, by omega, rfl, by simp⟩
  case round =>
    obtain ⟨rfl, j, hj, rfl, hnot⟩ := hrel
    by_cases hlt : j < n
    · obtain ⟨b, off, a, rfl, hla, q0⟩ := tx_at hr hlt
      by_cases hax : a = x
      · have he : (a.toList == x.toList) = true := by rw [hax]; simp
        have HL := Lib.hid (show l[j]? = some x by rw [hla, hax])
        have HN := Lib.hid hnot
        clear hax hla hnot hr
        go_wp2
        go_ret
        exact ⟨⟨_, rfl, .inr ⟨j, rfl, HL.out, HN.out⟩⟩, rfl⟩
      · have he : (a.toList == x.toList) = false := by rw [beq_eq_false_iff_ne]; exact fun e => hax (bytes_toList e)
        have HN := Lib.hid (show x ∉ l.take (j + 1) by rw [take_snoc hla]; simp [hnot]; exact fun e => hax e.symm)
        clear hax hla hnot
        go_wp2
        go_roundw
        case rel => exact ⟨trivial, j + 1, by omega, by go_num, HN.out⟩
        case measure => simp [intOf]; omega
    · have HN := Lib.hid (show x ∉ l by rwa [List.take_of_length_le (by rw [hr.1]; omega)] at hnot)
      clear hnot
      go_wp2
      go_ret
      exact ⟨⟨_, rfl, .inl ⟨rfl, HN.out⟩⟩, rfl⟩
end Go.Proofs.Ytkdnkieecchobaa
