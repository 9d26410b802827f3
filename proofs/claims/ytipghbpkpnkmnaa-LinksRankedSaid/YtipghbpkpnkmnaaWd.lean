/- find, at, Same. -/
import Derived.Test.YtipghbpkpnkmnaaPl
namespace Go.Proofs.Ytipghbpkpnkmnaa
open Go.RowKit Go.BigFrame
set_option linter.unusedVariables false

set_option maxHeartbeats 1000000 in
theorem find25 (A : Option Addr) (n cap : Nat) (l : List Link) (v : Int) (w : World) (hn : n ≤ 1000) (hr : Rd w EL A n l) :
    Calls Try.prog 25 #[.slice A n cap, .int .i64 v] w fun e w' => e = .returned (.tuple #[.int .i64 (pos l v), .bool (fnd l v)]) ∧ Below w.heap.size w w' := by
  have hw0 := Below.refl w.heap.size w
  go_enter Try.func25, Try.ntmps25
  go_wp2
  go_loop [6] (fun i => ∃ j : Nat, j ≤ n ∧ i = .int .i64 j ∧ Hid (∀ (i : Nat) (b : Link), i < j → l[i]? = some b → b.node < v)) (fun i => n - (intOf i).toNat)
  case atStart => exact ⟨0, by omega, rfl, Lib.hid (fun i b h => by omega)⟩
  case round =>
    obtain ⟨j, hj, rfl, hi⟩ := hrel
    by_cases hlt : j < n
    · obtain ⟨b, off, a, rfl, hla, q0, q1, q2⟩ := link_at hr hlt
      by_cases hv : a.node < v
      · have HN : Hid (∀ (i : Nat) (b : Link), i < j + 1 → l[i]? = some b → b.node < v) := Lib.hid (fun i c h1 h2 => by
          rcases Nat.lt_or_ge i j with d | d
          · exact hi.out i c d h2
          · obtain rfl : i = j := by omega
            rw [hla] at h2; cases h2; exact hv)
        clear hla hi
        go_wp2
        go_round
        case rel => exact ⟨j + 1, by omega, by go_num, HN⟩
        case measure => simp [intOf]; omega
      · have HP := Lib.hid (pos_at hi.out hla hv)
        have HF := Lib.hid (show fnd l v = (a.node == v) by unfold fnd; rw [HP.out, hla])
        have p0 := After.cell q0
        have hd : decide (j < n) = true := decide_eq_true hlt
        clear hla hi
        go_wp2
        refine wp_region_after (by kernel_rfl) (by kernel_rfl) ?_
        repeat (go_big_quiet_step (fail))
        refine wpQuiet_nil ?_
        intro w1 hb1
        go_wp2
        go_ret2
        exact ⟨by rw [HP.out, HF.out]; rfl, hb1⟩
    · have HP := Lib.hid (show pos l v = n by rw [← hr.1]; exact pos_none fun i b h2 => hi.out i b (by have := (List.getElem?_eq_some_iff.1 h2).1; rw [hr.1] at this; omega) h2)
      have HF := Lib.hid (show fnd l v = false by unfold fnd; rw [HP.out, List.getElem?_eq_none (by rw [hr.1]; exact Nat.le_refl _)])
      have hd : decide (j < n) = false := decide_eq_false hlt
      obtain rfl : n = j := by omega
      clear hi
      go_wp2
      refine wp_region_after (by kernel_rfl) (by kernel_rfl) ?_
      repeat (go_big_quiet_step (fail))
      refine wpQuiet_nil ?_
      intro w1 hb1
      go_wp2
      go_ret2
      exact ⟨by rw [HP.out, HF.out]; rfl, hb1⟩

set_option maxHeartbeats 1000000 in
theorem same_eq (A B : Option Addr) (n c d : Nat) (l : List Link) (w : World) (hn : n ≤ 9223372036854775807) (hr : Rd w EL A n l) (hs : Rd w EL B n l) :
    Calls Try.prog 10 #[.slice A n c, .slice B n d] w fun e w' => e = .returned (.bool true) ∧ Below w.heap.size w w' := by
  go_enter Try.func10, Try.ntmps10
  go_wp2
  go_loopw [5] (fun i wr => ∃ j : Nat, j ≤ n ∧ i = .int .i64 j ∧ Below w.heap.size w wr) (fun i _ => n - (intOf i).toNat)
  case atStart => exact ⟨0, by omega, rfl, Below.refl _ _⟩
  case round =>
    obtain ⟨j, hj, rfl, hbr⟩ := hrel
    by_cases hlt : j < n
    · obtain ⟨b, off, a, rfl, hla, q0, q1, q2⟩ := link_at (hr.later hbr) hlt
      obtain ⟨b', off', a', rfl, hla', p0, p1, p2⟩ := link_at (hs.later hbr) hlt
      obtain rfl : a = a' := by rw [hla] at hla'; exact Option.some.inj hla'
      have Q0 := After.cell q0
      have Q1 := After.cell q1
      have Q2 := After.cell q2
      have P0 := After.cell p0
      have P1 := After.cell p1
      have P2 := After.cell p2
      have he := neq38_same (a := a) rfl
      clear q0 q1 q2 p0 p1 p2 hr hs hla hla'
      go_wp2
      refine wp_region_after (by kernel_rfl) (by kernel_rfl) ?_
      repeat (go_big_quiet_step (fail))
      refine wpQuiet_nil ?_
      intro w1 hb1
      have hB1 := hbr.trans (hb1.mono hbr.size)
      clear Q0 Q1 Q2 P0 P1 P2 hb1
      go_wp2
      go_roundw
      case rel => exact ⟨j + 1, by omega, by go_num, hB1⟩
      case measure => simp [intOf]; omega
    · go_wp2
      go_ret
      exact ⟨rfl, hbr⟩

/-- what at ends in -/
def AtEnd (w : World) (r : Option Link) (en : Ending) (w' : World) : Prop :=
  en = .returned (.tuple #[lkV (r.getD l0), .bool r.isSome]) ∧ Below w.heap.size w w'
theorem atR_at {l : List Link} {v : Int} {j : Nat} {a : Link} (h : ∀ (i : Nat) (b : Link), i < j → l[i]? = some b → ¬ b.node = v) (hj : l[j]? = some a) (ha : a.node = v) : atR l v = some a := by
  induction l generalizing j with
  | nil => simp at hj
  | cons b r ih =>
    cases j with
    | zero => simp at hj; subst hj; unfold atR; rw [List.find?_cons_of_pos (by simp [ha])]
    | succ j =>
      have hb := h 0 b (by omega) rfl
      unfold atR
      rw [List.find?_cons_of_neg (by simp [hb])]
      exact ih (fun i c hi hc => h (i + 1) c (by omega) hc) hj
theorem atR_none {l : List Link} {v : Int} (h : ∀ (i : Nat) (b : Link), l[i]? = some b → ¬ b.node = v) : atR l v = none := by
  refine List.find?_eq_none.2 fun a ha => ?_
  obtain ⟨i, hi, rfl⟩ := List.getElem_of_mem ha
  simpa using h i _ (List.getElem?_eq_getElem hi)
set_option maxHeartbeats 1000000 in
theorem at28 (A : Option Addr) (n cap : Nat) (l : List Link) (v : Int) (w : World) (hn : n ≤ 9223372036854775807) (hr : Rd w EL A n l) :
    Calls Try.prog 28 #[.slice A n cap, .int .i64 v] w (AtEnd w (atR (tab l) v)) := by
  have hl24 := tab_len l
  obtain ⟨W, hW, hB, hz, hk⟩ := boxed w #[.int .i64 0, .int .i64 0, .int .i64 0] 38
  have VL := Lib.hid (fun w hr => valid27 A n cap l w hn hr)
  have hrW := hr.later hB
  generalize tab l = k at *
  clear hr
  go_enter Try.func28, Try.ntmps28
  go_wp2_with fail
  refine (VL.out _ hrW).mono ?_
  rintro e w1 ⟨A1, n1, c1, rfl, ho1, hb1⟩
  have hr1 := ho1.rd
  have hn1 : n1 ≤ 24 := by rw [← ho1.1]; exact hl24
  have hB1 := hB.trans (hb1.mono (Nat.le_of_lt hz))
  have hk1 := hk.later hb1
  have e0 := hk1.at 0 (v := .int .i64 0) rfl
  have e1 := hk1.at 1 (v := .int .i64 0) rfl
  have e2 := hk1.at 2 (v := .int .i64 0) rfl
  have z0 := hk1.frozen 0
  have z1 := hk1.frozen 1
  have z2 := hk1.frozen 2
  have hwz := hk1.lt
  have hl1 := ho1.1
  have hBS : ∀ a b c, Below w.heap.size w (((w1.setCell ⟨w.heap.size, 0, none⟩ a).setCell ⟨w.heap.size, 1, none⟩ b).setCell ⟨w.heap.size, 2, none⟩ c) := fun a b c =>
    ((hB1.setCell (p := ⟨w.heap.size, 0, none⟩) (Nat.le_refl _) a).setCell (p := ⟨w.heap.size, 1, none⟩) (Nat.le_refl _) b).setCell (p := ⟨w.heap.size, 2, none⟩) (Nat.le_refl _) c
  clear VL ho1 hb1 hW hk hk1
  go_wp2
  go_loop [7] (fun i => ∃ j : Nat, j ≤ n1 ∧ i = .int .i64 j ∧ Hid (∀ (i : Nat) (b : Link), i < j → k[i]? = some b → ¬ b.node = v)) (fun i => n1 - (intOf i).toNat)
  case atStart => exact ⟨0, by omega, rfl, Lib.hid (fun i b h => by omega)⟩
  case round =>
    obtain ⟨j, hj, rfl, hi⟩ := hrel
    by_cases hlt : j < n1
    · obtain ⟨b, off, a, rfl, hla, q0, q1, q2⟩ := link_at hr1 hlt
      by_cases hv : a.node = v
      · have HA := Lib.hid (atR_at hi.out hla hv)
        have hvb : (a.node == v) = true := by simpa using hv
        have HV := Lib.hid hv
        clear hla hi hv
        go_wp2
        refine bodyPost_ret (v := .tuple #[lkV a, .bool true]) (by simp [results, Try.results28, go_sem, e0, e1, e2]) rfl ?_
        exact ⟨by rw [HA.out]; rfl, hBS _ _ _⟩
      · have HN : Hid (∀ (i : Nat) (b : Link), i < j + 1 → k[i]? = some b → ¬ b.node = v) := Lib.hid (fun i c h1 h2 => by
          rcases Nat.lt_or_ge i j with d | d
          · exact hi.out i c d h2
          · obtain rfl : i = j := by omega
            rw [hla] at h2; cases h2; exact hv)
        have hvb : (a.node == v) = false := by simpa using hv
        clear hla hi hv
        go_wp2
        go_round
        case rel => exact ⟨j + 1, by omega, by go_num, HN⟩
        case measure => simp [intOf]; omega
    · have HA := Lib.hid (atR_none (l := k) (v := v) fun i b h2 => hi.out i b (by have := (List.getElem?_eq_some_iff.1 h2).1; omega) h2)
      clear hi
      go_wp2
      refine bodyPost_ret (v := .tuple #[lkV l0, .bool false]) (by simp [results, Try.results28, go_sem, e0, e1, e2, l0]) rfl ?_
      exact ⟨by rw [HA.out]; rfl, hBS _ _ _⟩
end Go.Proofs.Ytipghbpkpnkmnaa
