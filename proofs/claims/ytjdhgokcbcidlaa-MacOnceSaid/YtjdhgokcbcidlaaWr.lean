/- The walks of MacFresh and MacOnce. -/
import Derived.Test.YtjdhgokcbcidlaaWq
import Derived.Test.YtjdhgokcbcidlaaWg
namespace Go.Proofs.Ytjdhgokcbcidlaa
open Go.RowKit Go.BigFrame
set_option linter.unusedVariables false

set_option maxHeartbeats 4000000 in
theorem lawFresh7 (A : Option Addr) (n cap : Nat) (l : List Pr) (p : Pr) (w : World) (hn : n ≤ cap) (hcap : cap ≤ 9223372036854775807) (hr : Rd w EP A n l) :
    Calls Try.prog 7 #[.slice A n cap, prV p] w fun e w' => e = .returned (.bool true) ∧ Below w.heap.size w w' := by
  obtain ⟨W, hW, hB, hz, hk⟩ := boxed w #[.int .i64 p.source, .int .i64 p.seq] 43
  have hrW := hr.later hB
  have LV : Hid (∀ w, Calls Try.prog 9 #[] w fun e w' => e = .returned (.bool true) ∧ Below w.heap.size w w') := Lib.hid lives9
  by_cases h : 200 < n
  · go_enter Try.func7, Try.ntmps7
    go_wp2_with fail
    refine (LV.out _).mono ?_
    rintro e w1 ⟨rfl, hb⟩
    have hB1 := hB.trans (hb.mono (Nat.le_of_lt hz))
    go_wp2
    go_ret
    exact ⟨rfl, hB1⟩
  · have P1 := Lib.hid (fun w hr => fresh19 A n cap l p w (by omega) hn hcap hr)
    have P2 := Lib.hid (fun w hr => fresh20 A n cap l p w (by omega) hr)
    have hlen := frs_len l p
    generalize frs l p = r at *
    obtain ⟨r1, r2⟩ := r
    have b0 := hk.at 0 (v := .int .i64 p.source) rfl
    have b1 := hk.at 1 (v := .int .i64 p.seq) rfl
    go_enter Try.func7, Try.ntmps7
    go_wp2_with fail
    refine (P1.out _ hrW).mono ?_
    rintro e w1 ⟨A1, n1, c1, rfl, ho1, hc1, hm1, hb1⟩
    have hk1 := hk.later hb1
    have hr1 := hrW.later hb1
    have hB1 := hB.trans (hb1.mono (Nat.le_of_lt hz))
    have p0 := hk1.at 0 (v := .int .i64 p.source) rfl
    have p1 := hk1.at 1 (v := .int .i64 p.seq) rfl
    clear P1 b0 b1 hb1 hk hrW hr hB
    go_wp2_with fail
    refine (P2.out _ hr1).mono ?_
    rintro e w2 ⟨A2, n2, c2, rfl, ho2, hc2, hm2, hb2⟩
    obtain rfl : n1 = n2 := by rw [← ho1.1]; exact ho2.1
    have hB2 := hB1.trans (hb2.mono hB1.size)
    have ho12 := ho1.later hb2
    clear P2 hb2 hr1 ho1 p0 p1 hk1 hB1
    go_wp2_with fail
    refine (pairs_eq A1 A2 n1 c1 c2 r1 _ (by omega) ho12 ho2).mono ?_
    rintro e w3 ⟨rfl, hb3⟩
    have hB3 := hB2.trans (hb3.mono hB2.size)
    clear ho12 ho2 hb3 hB2
    go_wp2_with fail
    refine (LV.out _).mono ?_
    rintro e w4 ⟨rfl, hb4⟩
    have hB4 := hB3.trans (hb4.mono hB3.size)
    go_wp2
    go_ret
    exact ⟨rfl, hB4⟩

/-- p stands among the last d -/
def Near (k : List Pr) (p : Pr) (d : Nat) : Prop := ∃ i, k[i]? = some p ∧ k.length ≤ i + d
theorem last32_short {k : List Pr} (h : k.length ≤ 32) : last32 k = k := by
  unfold last32
  rw [show k.length - 32 = 0 by omega]; rfl
theorem near_next {k : List Pr} {p q : Pr} {d : Nat} (hk : k.length ≤ 32) (h : Near k p d) (hd : d ≤ 31) : Near (frs k q).1 p (d + 1) := by
  obtain ⟨i, hi, hl⟩ := h
  have hlt : i < k.length := (List.getElem?_eq_some_iff.1 hi).1
  unfold frs
  rw [last32_short hk]
  split
  · show Near k p (d + 1)
    exact ⟨i, hi, by omega⟩
  · show Near (last32 (k ++ [q])) p (d + 1)
    unfold last32
    have hL : (k ++ [q]).length = k.length + 1 := by simp
    rw [hL]
    refine ⟨i - (k.length + 1 - 32), ?_, by rw [List.length_drop, hL]; omega⟩
    rw [List.getElem?_drop, show k.length + 1 - 32 + (i - (k.length + 1 - 32)) = i by omega, List.getElem?_append_left hlt]
    exact hi
theorem near_known {k : List Pr} {p : Pr} {d : Nat} (hk : k.length ≤ 32) (h : Near k p d) : (frs k p).2 = false := by
  obtain ⟨i, hi, _⟩ := h
  unfold frs
  rw [last32_short hk, if_pos (List.mem_of_getElem? hi)]
end Go.Proofs.Ytjdhgokcbcidlaa
