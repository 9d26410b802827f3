/- Contains, Fresh of the program, SamePairs. -/
import Derived.Test.YtjdhgokcbcidlaaPrs
namespace Go.Proofs.Ytjdhgokcbcidlaa
open Go.RowKit Go.BigFrame
set_option linter.unusedVariables false

theorem contains28 (A : Option Addr) (n cap : Nat) (l : List Pr) (p : Pr) (w : World) (hn : n ≤ 100) (hr : Rd w EP A n l) :
    Calls Try.prog 28 #[.slice A n cap, prV p] w fun e w' => e = .returned (.bool (decide (p ∈ l))) ∧ Below w.heap.size w w' := by
  obtain ⟨W, hW, hB, hz, hk⟩ := boxed w #[.int .i64 p.source, .int .i64 p.seq] 43
  have b0 := hk.at 0 (v := .int .i64 p.source) rfl
  have b1 := hk.at 1 (v := .int .i64 p.seq) rfl
  have I := Lib.hid (index32 A n cap l p W hn (hr.later hB))
  go_enter Try.func28, Try.ntmps28
  go_wp2_with fail
  refine I.out.mono ?_
  rintro e w1 ⟨⟨i, rfl, hi⟩, hb1⟩
  have hB1 := hB.trans (hb1.mono (Nat.le_of_lt hz))
  go_wp2
  go_ret
  exact ⟨rfl, hB1⟩

theorem Rd.cut {α : Type} {w : World} {E : Enc α} {A : Option Addr} {n k : Nat} {l : List α} (h : Rd w E A n l) (hk : k ≤ n) : Rd w E (A.map (fun x => x.add (k * E.size))) (n - k) (l.drop k) := by
  refine ⟨by rw [List.length_drop, h.1], fun h0 => ?_⟩
  obtain ⟨b, off, rfl, hc⟩ := h.2 (by omega)
  refine ⟨b, off + k * E.size, by simp [Addr.add_lit], fun j v hj => ?_⟩
  rw [← E.flat_drop, List.getElem?_drop] at hj
  rw [Nat.add_assoc]
  exact hc _ v hj

set_option maxHeartbeats 4000000 in
theorem fresh19 (A : Option Addr) (n cap : Nat) (l : List Pr) (p : Pr) (w : World) (hn : n ≤ 200) (hc : n ≤ cap) (hcm : cap ≤ 9223372036854775807) (hr : Rd w EP A n l) :
    Calls Try.prog 19 #[.slice A n cap, prV p] w (FrEnd w (frs l p)) := by
  obtain ⟨i0, hi0, hz0, hz1, hz2⟩ := info_parts info43
  obtain ⟨W, hW, hB, hz, hk⟩ := boxed w #[.int .i64 p.source, .int .i64 p.seq] 43
  have b0 := hk.at 0 (v := .int .i64 p.source) rfl
  have b1 := hk.at 1 (v := .int .i64 p.seq) rfl
  have hrW := hr.later hB
  have hlen : (last32 l).length ≤ 32 := by rw [last32_len]; omega
  have hmx : (max 0 ((n : Int) - 32)).toNat = n - 32 := by omega
  have hl : Rd W EP (A.map (fun x => x.add ((n - 32) * 2))) (n - (n - 32)) (last32 l) := by
    have := hrW.cut (k := n - 32) (by omega)
    unfold last32
    rw [hrW.1]
    exact this
  have hfr : frs l p = if p ∈ last32 l then (last32 l, false) else (last32 (last32 l ++ [p]), true) := rfl
  have hmh := Lib.hid hmx
  have hfh := Lib.hid hfr
  by_cases h0 : cap = 0
  case' pos =>
    subst h0
    have hn0 : n = 0 := by omega
    subst hn0
    have hle : l = [] := List.eq_nil_of_length_eq_zero hr.1
    have hl0 : last32 l = [] := by rw [hle]; rfl
    have CL := Lib.hid (show ∀ A', Calls Try.prog 27 #[.slice A' 0 0] W (PsEnd W (last32 l)) from fun A' => by rw [hl0]; exact clone27 A' 0 0 [] W (by omega) (Rd.none_ _ _ _))
    clear hl0 hmx hfr hl hrW hle hr
    generalize last32 l = k at *
    go_enter Try.func19, Try.ntmps19
    go_wp2_with fail
    refine (CL.out _).mono ?_
    rintro e w1 ⟨B, m, c, rfl, ho, hb1⟩
  case' neg =>
    have hne : ¬ cap = (max 0 ((n : Int) - 32)).toNat := by rw [hmx]; omega
    have CL := Lib.hid (show Calls Try.prog 27 #[.slice (A.map (fun x => x.add ((max 0 ((n : Int) - 32)).toNat * 2))) (n - (max 0 ((n : Int) - 32)).toNat) (cap - (max 0 ((n : Int) - 32)).toNat)] W (PsEnd W (last32 l)) from by rw [hmx]; exact clone27 _ _ _ _ W (by omega) hl)
    clear hmx hfr hl hrW
    generalize last32 l = k at *
    go_enter Try.func19, Try.ntmps19
    go_wp2_with fail
    refine CL.out.mono ?_
    rintro e w1 ⟨B, m, c, rfl, ho, hb1⟩
    clear hne
  all_goals
    clear CL
    have hk1 := hk.later hb1
    have hB1 := hB.trans (hb1.mono (Nat.le_of_lt hz))
    have p0 := hk1.at 0 (v := .int .i64 p.source) rfl
    have p1 := hk1.at 1 (v := .int .i64 p.seq) rfl
    have hm : m ≤ 32 := by rw [← ho.1]; exact hlen
    have CO := Lib.hid (contains28 B m c k p w1 (by omega) ho.rd)
    have hbs := hb1.size
    clear b0 b1 hb1 hk
    go_wp2_with fail
    refine CO.out.mono ?_
    rintro e w2 ⟨rfl, hb2⟩
    have hk2 := hk1.later hb2
    have hB2 := hB1.trans (hb2.mono hB1.size)
    have ho2 := ho.later hb2
    have hWw : W.heap.size ≤ w2.heap.size := Nat.le_trans hbs hb2.size
    have b0 := hk2.at 0 (v := .int .i64 p.source) rfl
    have b1 := hk2.at 1 (v := .int .i64 p.seq) rfl
    clear CO p0 p1 hb2 hk1 ho
    by_cases hp : p ∈ k
    · have hd : decide (p ∈ k) = true := decide_eq_true hp
      have hf := Lib.hid (show frs l p = (k, false) by rw [hfh.out, if_pos hp])
      clear hp hfh
      rw [hd]
      go_wp2
      refine bodyPost_ret (v := .tuple #[.slice B m c, .bool false]) (by simp [results, Try.results19, go_sem]) rfl ?_
      refine ⟨B, m, c, by rw [hf.out], by rw [hf.out]; exact ho2.rd, ho2.cap.1, ho2.cap.2, hB2⟩
    · have hd : decide (p ∈ k) = false := decide_eq_false hp
      have hf := Lib.hid (show frs l p = (last32 (k ++ [p]), true) by rw [hfh.out, if_neg hp])
      clear hp hfh
      rw [hd]
      clear hmh
      have hmx : (max 0 ((m : Int) + 1 - 32)).toNat = m + 1 - 32 := by omega
      have HM := Lib.hid hmx
      clear hmx
      go_wp2_with (at_builtin; refine wpList_append_rd _ rfl (.tmp 18) (.tmp 20) 41 rfl W.heap.size 43 i0 _ EP Try.underlying41 hi0 hz0 hz1 rfl (.slice B m c) m k rfl (ho2.later ((Below.refl _ _).alloc (Nat.le_refl _) _)) (some ⟨w2.heap.size, 0, none⟩) 1 1 [p] rfl (pr_one p w2 43) (by unfold maxLen; omega) (by rw [hz2]; omega) (by simp; omega) ?_; intro A1 cap1 w3 hown1 hg)
      all_goals
        have hcap1 := hown1.cap
        have hb3 : Below w.heap.size w w3 := Below.row (hB2.alloc hB2.size _) hg (by have := hB2.size; simp; omega) (Nat.le_of_lt hz) (ho2.later ((Below.refl _ _).alloc (Nat.le_refl _) _)).lt
        have hrr := hown1.rd.cut (k := m + 1 - 32) (by omega)
        have hlast : last32 (k ++ [p]) = (k ++ [p]).drop (m + 1 - 32) := by unfold last32; rw [hown1.1]
        rw [← hlast] at hrr
        have hne : ¬ cap1 = (max 0 ((m : Int) + 1 - 32)).toNat := by rw [HM.out]; omega
      all_goals try contradiction
      · rw [HM.out]
        refine bodyPost_ret (v := .tuple #[.slice (A1.map (fun x => x.add ((m + 1 - 32) * 2))) (m + 1 - (m + 1 - 32)) (cap1 - (m + 1 - 32)), .bool true]) (by simp [results, Try.results19, go_sem]) rfl ?_
        rw [hf.out]
        exact ⟨_, _, _, rfl, hrr, by omega, by unfold maxLen at hcap1; omega, hb3⟩
end Go.Proofs.Ytjdhgokcbcidlaa
