/- Result of both. -/
import Derived.Test.YtjdhgokcbcidlaaWd
namespace Go.Proofs.Ytjdhgokcbcidlaa
open Go.RowKit Go.BigFrame
set_option linter.unusedVariables false

/-- an entry after one more transmission that was not acknowledged -/
def again (a : Sn) : Sn := ⟨a.f, min (max a.tries 0) 7 + 1, if a.f.urgent then 0 else min (min (max a.tries 0) 7 + 1) 4⟩
def resS (k : List Sn) (i : Int) (ok : Bool) : List Sn × Bool :=
  if i < 0 ∨ (k.length : Int) ≤ i then (k, false)
  else if ok = true then (k.eraseIdx i.toNat, false)
  else match k[i.toNat]? with
    | none => (k, false)
    | some a => if 7 ≤ a.tries then (k.eraseIdx i.toNat, true) else (k.set i.toNat (again a), false)
theorem erase_set {α : Type} (k : List α) (p : Nat) (a : α) : (k.set p a).eraseIdx p = k.eraseIdx p := by
  induction k generalizing p with
  | nil => rfl
  | cons b r ih => cases p with
    | zero => rfl
    | succ p => rw [List.set_cons_succ, List.eraseIdx_cons_succ, ih, List.eraseIdx_cons_succ]

set_option maxRecDepth 20000 in
set_option maxHeartbeats 4000000 in
theorem result13 (A : Option Addr) (n cap : Nat) (l : List Sn) (i : Int) (ok : Bool) (w : World) (hn : n ≤ cap) (hcap : cap ≤ 9223372036854775807) (hr : Rd w ES A n l) :
    Calls Try.prog 13 #[.slice A n cap, .int .i64 i, .bool ok] w (PtEnd w (resS (l.take 16) i ok)) := by
  have h16 : (l.take 16).length ≤ 16 := by rw [List.length_take]; omega
  have QX := Lib.hid (queue22 A n cap l w hn hcap hr)
  clear hr
  generalize l.take 16 = k at *
  go_enter Try.func13, Try.ntmps13
  go_wp2_with fail
  refine QX.out.mono ?_
  rintro e w1 ⟨B, m, c, rfl, ho, hb1⟩
  have hm : m ≤ 16 := by rw [← ho.1]; exact h16
  have hl := ho.1
  clear QX h16
  by_cases hi0 : i < 0
  · have hP := Lib.hid (show resS k i ok = (k, false) by unfold resS; rw [if_pos (.inl hi0)])
    go_wp2
    refine bodyPost_ret (v := .tuple #[.slice B m c, .bool false]) (by simp [results, Try.results13, go_sem]) rfl ?_
    rw [hP.out]
    exact ⟨B, m, c, rfl, ho, hb1⟩
  by_cases him : (m : Int) ≤ i
  · have hP := Lib.hid (show resS k i ok = (k, false) by unfold resS; rw [if_pos (.inr (by rw [hl]; exact him))])
    go_wp2
    refine bodyPost_ret (v := .tuple #[.slice B m c, .bool false]) (by simp [results, Try.results13, go_sem]) rfl ?_
    rw [hP.out]
    exact ⟨B, m, c, rfl, ho, hb1⟩
  obtain ⟨p, rfl⟩ : ∃ p : Nat, i = p := ⟨i.toNat, by omega⟩
  have hpm : p < m := by omega
  obtain ⟨a, hka⟩ : ∃ a, k[p]? = some a := ⟨_, List.getElem?_eq_getElem (by omega)⟩
  have HP0 := Lib.hid (show resS k p ok = if ok = true then (k.eraseIdx p, false) else if 7 ≤ a.tries then (k.eraseIdx p, true) else (k.set p (again a), false) by
    unfold resS
    rw [if_neg (by omega), Int.toNat_natCast, hka])
  obtain ⟨g, hBg, hgb, hgl⟩ := ho.at0 (by omega)
  subst hBg
  obtain ⟨m', hm'⟩ : ∃ m', m = p + 1 + m' := ⟨m - (p + 1), by omega⟩
  have HD := Lib.hid (fun (w2 : World) (k' : List Sn) (ho2 : Ow w2 w.heap.size 35 ES (.slice (some ⟨g, 0, none⟩) m c) m k') => show Calls Try.prog 23 #[.slice (some ⟨g, 0, none⟩) m c, .int .i64 p, .int .i64 (p + 1)] w2 fun e w' =>
    ∃ A' : Option Addr, e = .returned (.slice A' (p + m') c) ∧ Ow w' w.heap.size 35 ES (.slice A' (p + m') c) (p + m') (k'.eraseIdx p) ∧ w2.grownBy w' (Value.ownBlock (.slice (some ⟨g, 0, none⟩) m c)) from by
      subst hm'
      exact delete23 w.heap.size _ p m' c k' w2 ho2)
  clear hm' hi0 him
  cases ok with
  | true =>
    have hP := Lib.hid (show resS k p true = (k.eraseIdx p, false) by rw [HP0.out]; rfl)
    clear HP0
    go_wp2_with fail
    refine (HD.out _ _ ho).mono ?_
    rintro e w2 ⟨A2, rfl, ho2, hg2⟩
    have hB2 : Below w.heap.size w w2 := Below.row hb1 hg2 hb1.size (Nat.le_refl _) ho.lt
    go_wp2
    refine bodyPost_ret (v := .tuple #[.slice A2 (p + m') c, .bool false]) (by simp [results, Try.results13, go_sem]) rfl ?_
    rw [hP.out]
    exact ⟨A2, p + m', c, rfl, ho2, hB2⟩
  | false =>
    obtain ⟨b, off, a', hA, hla, q0, q1, q2, q3, q4, q5, q6, q7, q8, q9, q10⟩ := snd_at ho.rd hpm
    obtain ⟨rfl, rfl⟩ : g = b ∧ 0 = off := by cases hA; exact ⟨rfl, rfl⟩
    obtain rfl : a = a' := by rw [hka] at hla; exact Option.some.inj hla
    simp only [Nat.zero_add] at q7 q9 q10
    have z9 := ho.free (by omega) (p * 11 + 9)
    have z10 := ho.free (by omega) (p * 11 + 10)
    obtain ⟨T, hT⟩ : ∃ T, min (max a.tries 0) 7 + 1 = T := ⟨_, rfl⟩
    have HT := Lib.hid hT
    have ho1 := ho.setField hka (j := 9) (a' := ⟨a.f, T, a.wait⟩) (by decide) (.int .i64 T) rfl
    clear hA hla q0 q1 q2 q3 q4 q5 q6 q8
    by_cases h7 : 7 ≤ a.tries
    · have hP := Lib.hid (show resS k p false = (k.eraseIdx p, true) by rw [HP0.out, if_neg (by decide), if_pos h7])
      have hT8 : T = 8 := by omega
      have ho1' := Lib.hid (show Ow (w1.setCell ⟨g, p * 11 + 9, none⟩ (.int .i64 T)) w.heap.size 35 ES (.slice (some ⟨g, 0, none⟩) m c) m (k.set p ⟨a.f, T, a.wait⟩) from ho1)
      have hB1 := hb1.setCell (p := ⟨g, p * 11 + 9, none⟩) hgb (.int .i64 T)
      have hlt := ho1.lt
      have hTb : (T == 8) = true := by simp [hT8]
      have hE := Lib.hid (erase_set k p ⟨a.f, T, a.wait⟩)
      clear HP0 hka h7 ho ho1 hT8
      go_wp2_with fail
      refine (HD.out _ _ ho1'.out).mono ?_
      rintro e w2 ⟨A2, rfl, ho2, hg2⟩
      have hB2 : Below w.heap.size w w2 := Below.row hB1 hg2 hB1.size (Nat.le_refl _) hlt
      rw [hE.out] at ho2
      go_wp2
      refine bodyPost_ret (v := .tuple #[.slice A2 (p + m') c, .bool true]) (by simp [results, Try.results13, go_sem]) rfl ?_
      rw [hP.out]
      exact ⟨A2, p + m', c, rfl, ho2, hB2⟩
    · have hP := Lib.hid (show resS k p false = (k.set p (again a), false) by rw [HP0.out, if_neg (by decide), if_neg h7])
      have hTb : (T == 8) = false := by simp; omega
      have hlk : p < k.length := by omega
      have ho2 := ho1.setField (i := p) (a := ⟨a.f, T, a.wait⟩) (j := 10) (a' := ⟨a.f, T, min T 4⟩) (by rw [List.getElem?_set_self hlk]) (by decide) (.int .i64 (min T 4)) rfl
      have hB2 := (hb1.setCell (p := ⟨g, p * 11 + 9, none⟩) hgb (.int .i64 T)).setCell (p := ⟨g, p * 11 + 10, none⟩) hgb (.int .i64 (min T 4))
      rw [List.set_set] at ho2
      cases hu : a.f.urgent with
      | false =>
        have HO := Lib.hid (show Ow ((w1.setCell ⟨g, p * 11 + 9, none⟩ (.int .i64 T)).setCell ⟨g, p * 11 + 10, none⟩ (.int .i64 (min T 4))) w.heap.size 35 ES (.slice (some ⟨g, 0, none⟩) m c) m (k.set p (again a)) from by
          have : again a = ⟨a.f, T, min T 4⟩ := by unfold again; rw [HT.out, hu]; rfl
          rw [this]; exact ho2)
        rw [hu] at q7
        clear HP0 hka h7 ho ho1 ho2 HD
        go_wp2
        refine bodyPost_ret (v := .tuple #[.slice (some ⟨g, 0, none⟩) m c, .bool false]) (by simp [results, Try.results13, go_sem]) rfl ?_
        rw [hP.out]
        exact ⟨_, m, c, rfl, HO.out, hB2⟩
      | true =>
        have ho3 := ho2.setField (i := p) (a := ⟨a.f, T, min T 4⟩) (j := 10) (a' := ⟨a.f, T, 0⟩) (by rw [List.getElem?_set_self hlk]) (by decide) (.int .i64 0) rfl
        rw [List.set_set] at ho3
        have hB3 := hB2.setCell (p := ⟨g, p * 11 + 10, none⟩) hgb (.int .i64 0)
        have HO := Lib.hid (show Ow (((w1.setCell ⟨g, p * 11 + 9, none⟩ (.int .i64 T)).setCell ⟨g, p * 11 + 10, none⟩ (.int .i64 (min T 4))).setCell ⟨g, p * 11 + 10, none⟩ (.int .i64 0)) w.heap.size 35 ES (.slice (some ⟨g, 0, none⟩) m c) m (k.set p (again a)) from by
          have : again a = ⟨a.f, T, 0⟩ := by unfold again; rw [HT.out, hu]; rfl
          rw [this]; exact ho3)
        rw [hu] at q7
        clear HP0 hka h7 ho ho1 ho2 ho3 HD hB2
        go_wp2
        refine bodyPost_ret (v := .tuple #[.slice (some ⟨g, 0, none⟩) m c, .bool false]) (by simp [results, Try.results13, go_sem]) rfl ?_
        rw [hP.out]
        exact ⟨_, m, c, rfl, HO.out, hB3⟩
end Go.Proofs.Ytjdhgokcbcidlaa
