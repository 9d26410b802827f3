/- The law RouteCodes. -/
import Derived.Test.YtlmoeempblgdkaaLd
namespace Go.Proofs.Ytlmoeempblgdkaa
open Go.RowKit Go.BigFrame
set_option linter.unusedVariables false
set_option linter.unusedSimpArgs false

theorem dec1_short {acc : List Rt} {l : List Int} (h : l.length < 4) : dec1 acc l = (acc, 0) := by
  rcases l with _ | ⟨a, _ | ⟨b, _ | ⟨c, _ | ⟨d, l⟩⟩⟩⟩
  all_goals first
    | (exfalso; simp only [List.length_cons] at h; omega)
    | (rw [dec1]; intro a b c d l h; cases h)
theorem dec1_len : ∀ (k : Nat) (l : List Int) (acc : List Rt), l.length ≤ k → acc.length * 4 + l.length ≤ 400 → (dec1 acc l).1.length ≤ 100 := by
  intro k
  induction k with
  | zero => intro l acc hk hacc; rw [dec1_short (by omega)]; show acc.length ≤ 100; omega
  | succ k ih =>
    intro l acc hk hacc
    by_cases h4 : l.length < 4
    · rw [dec1_short h4]; show acc.length ≤ 100; omega
    · rcases l with _ | ⟨a, _ | ⟨b, _ | ⟨c, _ | ⟨d, l⟩⟩⟩⟩
      case cons.cons.cons.cons =>
        simp only [List.length_cons] at hk hacc
        rw [dec1]
        split
        · simp
        · split
          · simp
          · exact ih l _ (by omega) (by simp; omega)
      all_goals (exfalso; simp at h4)
theorem decs_len (s : ByteArray) : (decs s).1.length ≤ 100 := by
  unfold decs
  split
  · simp
  · split
    · simp
    · exact dec1_len _ _ _ (Nat.le_refl _) (by rw [nums_len]; simp; omega)
set_option maxRecDepth 20000 in
set_option maxHeartbeats 8000000 in
theorem lawCodes5 (A : Option Addr) (n cap : Nat) (t : List Rt) (s : ByteArray) (w : World) (hr : Rd w ER A n t) :
    Calls Try.prog 5 #[.slice A n cap, .string s] w fun e w' => e = .returned (.bool true) ∧ Below w.heap.size w w' := by
  have LV := Lib.hid awake10
  by_cases hn : 60 < n
  · clear hr
    go_enter Try.func5, Try.ntmps5
    go_wp2_with fail
    refine (LV.out w).mono ?_
    rintro e w2 ⟨rfl, hb2⟩
    go_wp2
    go_ret
    exact ⟨rfl, hb2⟩
  · by_cases hs : 200 < s.size
    · clear hr
      go_enter Try.func5, Try.ntmps5
      go_wp2_with fail
      refine (LV.out w).mono ?_
      rintro e w2 ⟨rfl, hb2⟩
      go_wp2
      go_ret
      exact ⟨rfl, hb2⟩
    · go_enter Try.func5, Try.ntmps5
      go_wp2_with fail
      refine (dec18 s w (by omega)).mono ?_
      rintro e w1 ⟨A1, n1, c1, rfl, o1, h1⟩
      go_wp2_with fail
      refine (dec19 s w1 (by omega)).mono ?_
      rintro e w2 ⟨A2, n2, c2, rfl, o2, h2⟩
      have o1' := o1.later h2
      have b2 := h1.trans (h2.mono h1.size)
      have hdl := decs_len s
      generalize decs s = ds at *
      obtain ⟨dl, de⟩ := ds
      clear o1 h1 h2
      go_wp2_with fail
      refine (enc20 A n cap t w2 (by omega) (hr.later b2)).mono ?_
      rintro e w3 ⟨rfl, h3⟩
      have b3 := b2.trans (h3.mono b2.size)
      have x1 := o1'.later h3
      have x2 := o2.later h3
      have E21 := Lib.hid (enc21 A n cap t w3 (by omega) (hr.later b3))
      generalize strOfNums (ebs t) = str at *
      clear o1' o2 b2 h3 hr
      go_wp2_with fail
      refine E21.out.mono ?_
      rintro e w4 ⟨rfl, h4⟩
      have b4 := b3.trans (h4.mono b3.size)
      have S1 := Lib.hid (same_of (k := dl) (Nat.le_trans hdl (by omega)) w4 A1 A2 n1 n2 c1 c2 (x1.later h4).rd (x2.later h4).rd)
      clear x1 x2 b3 h4 E21
      go_wp2_with fail
      refine S1.out.mono ?_
      rintro e w5 ⟨rfl, h5⟩
      have b5 := b4.trans (h5.mono b4.size)
      go_wp2_with fail
      refine (LV.out w5).mono ?_
      rintro e w6 ⟨rfl, h6⟩
      have b6 := b5.trans (h6.mono b5.size)
      clear b4 b5 h5 h6
      go_wp2
      go_ret
      exact ⟨rfl, b6⟩
end Go.Proofs.Ytlmoeempblgdkaa
