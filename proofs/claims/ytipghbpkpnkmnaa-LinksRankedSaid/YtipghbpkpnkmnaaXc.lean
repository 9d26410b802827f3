/- Best of the document's answer: the walk. -/
import Derived.Test.YtipghbpkpnkmnaaXb
namespace Go.Proofs.Ytipghbpkpnkmnaa
open Go.RowKit Go.BigFrame
set_option linter.unusedVariables false

set_option maxRecDepth 20000 in
set_option maxHeartbeats 4000000 in
theorem best23 (A : Option Addr) (n cap : Nat) (l : List Link) (w : World) (hn : n ≤ 9223372036854775807) (hr : Rd w EL A n l) :
    Calls Try.prog 23 #[.slice A n cap] w (IlEnd w (bestS (tab l))) := by
  obtain ⟨i0, hi0, hz0, hz1, hz2⟩ := info_parts info3
  have hl24 := tab_len l
  have TB := Lib.hid (valid27 A n cap l w hn hr)
  have CO : Hid (∀ (A1 : Option Addr) (n1 c1 : Nat) (v : Int) (w : World), n1 ≤ 24 → Rd w EL A1 n1 (tab l) → Calls Try.prog 18 #[.slice A1 n1 c1, .int .i64 v] w fun e w' => e = .returned (.int .i64 (costT (tab l) v)) ∧ Below w.heap.size w w') :=
    Lib.hid (fun A1 n1 c1 v w h1 h2 => by have := cost18 A1 n1 c1 (tab l) v w (by omega) h2; rwa [tab_tab] at this)
  have HBQ : Hid (∀ j, j = 151 → bestR (tab l) j = bestS (tab l)) := Lib.hid (fun j h => by subst h; exact best_eq (tab_good l))
  clear hr
  generalize tab l = t at *
  go_enter Try.func23, Try.ntmps23
  go_wp2_with fail
  refine TB.out.mono ?_
  rintro e w1 ⟨A1, n1, c1, rfl, ho1, hb1⟩
  have hn1 : n1 ≤ 24 := by rw [← ho1.1]; exact hl24
  have hr1 := ho1.rd
  have hl1 := ho1.1
  clear TB ho1
  go_wp2
  go_loopw [4, 5] (fun o c wr => ∃ (j m' cap' : Nat) (A' : Option Addr), j ≤ 151 ∧ m' ≤ 24 * j ∧ c = .int .i64 (10 + j) ∧ o = .slice A' m' cap' ∧ Ow wr w1.heap.size 3 EI (.slice A' m' cap') m' (bestR t j) ∧ Below w1.heap.size w1 wr) (fun _ c _ => 161 - (intOf c).toNat)
  case atStart => exact ⟨0, 0, 0, none, by omega, by omega, by go_num, rfl, Ow.nil w1 w1.heap.size 3 EI, Below.refl _ _⟩
  case round =>
    obtain ⟨j, m', cap', A', hj, hmj, rfl, rfl, hown, hbr⟩ := hrel
    by_cases hlt : j < 151
    · have hd : decide ((10 : Int) + (j : Int) ≤ 160) = true := decide_eq_true (by omega)
      obtain ⟨wo, rfl⟩ : ∃ wo : World, wo = wr := ⟨_, rfl⟩
      go_wp2
      go_loopw [4, 6] (fun o i wr => ∃ (q m' cap' : Nat) (A' : Option Addr), q ≤ n1 ∧ m' ≤ 24 * j + q ∧ i = .int .i64 q ∧ o = .slice A' m' cap' ∧ Ow wr w1.heap.size 3 EI (.slice A' m' cap') m' (bestR t j ++ bestC t (t.take q) (10 + j)) ∧ Below w1.heap.size w1 wr) (fun _ i _ => n1 - (intOf i).toNat)
      case atStart => exact ⟨0, m', cap', A', by omega, by omega, rfl, rfl, by simpa [bestC] using hown, hbr⟩
      case round =>
        clear hown hbr hmj
        obtain ⟨q, m', cap', A', hq, hmj, rfl, rfl, hown, hbr⟩ := hrel
        have hbs := hbr.size
        by_cases hqn : q < n1
        · obtain ⟨b, off, a, rfl, hla, q0, q1, q2⟩ := link_at (hr1.later hbr) hqn
          have CV := Lib.hid (CO.out (some ⟨b, off, none⟩) n1 c1 a.node wr hn1 (hr1.later hbr))
          by_cases hc : costT t a.node = 10 + j
          · have HC : Hid (bestR t j ++ bestC t (t.take (q + 1)) (10 + j) = (bestR t j ++ bestC t (t.take q) (10 + j)) ++ [a.node]) := Lib.hid (by rw [bestC_yes hla hc, List.append_assoc])
            rw [hc] at CV
            clear hla hc q1 q2
            go_wp2_with fail
            refine CV.out.mono ?_
            rintro e w2 ⟨rfl, hb2⟩
            have hB2 := hbr.trans (hb2.mono hbs)
            have ho2 := hown.later hb2
            have q3 := keep hb2 q0
            clear hown hb2 hbr q0 CV
            go_wp2_with (at_builtin; refine wpList_append_rd _ rfl (.tmp 28) (.tmp 34) 34 rfl w1.heap.size 3 i0 _ EI Try.underlying34 hi0 hz0 hz1 rfl (.slice A' m' cap') m' (bestR t j ++ bestC t (t.take q) (10 + j)) rfl (ho2.later ((Below.refl _ _).alloc (Nat.le_refl _) _)) (some ⟨w2.heap.size, 0, none⟩) 1 1 [a.node] rfl (int_one a.node w2 3) (by unfold maxLen; omega) (by rw [hz2]; omega) (by have := hB2.size; simp; omega) ?_; intro A3 cap3 w3 hown3 hg)
            have hB3 : Below w1.heap.size w1 w3 := Below.row (hB2.alloc hB2.size _) hg (by have := hB2.size; simp; omega) (Nat.le_refl _) (ho2.later ((Below.refl _ _).alloc (Nat.le_refl _) _)).lt
            rw [← HC.out] at hown3
            clear hg ho2 hB2 q3
            go_wp2
            go_roundw
            case rel => exact ⟨q + 1, m' + 1, cap3, A3, by omega, by omega, by go_num, rfl, hown3, hB3⟩
            case measure => simp [intOf]; omega
          · have HC : Hid (bestR t j ++ bestC t (t.take (q + 1)) (10 + j) = bestR t j ++ bestC t (t.take q) (10 + j)) := Lib.hid (by rw [bestC_no hla hc])
            have hcb : (costT t a.node == 10 + (j : Int)) = false := by simpa using hc
            clear hla hc q1 q2
            generalize costT t a.node = cc at *
            go_wp2_with fail
            refine CV.out.mono ?_
            rintro e w2 ⟨rfl, hb2⟩
            have hB2 := hbr.trans (hb2.mono hbs)
            have ho2 := hown.later hb2
            rw [← HC.out] at ho2
            clear hown hb2 hbr q0 CV
            go_wp2
            go_roundw
            case rel => exact ⟨q + 1, m', cap', A', by omega, by omega, by go_num, rfl, ho2, hB2⟩
            case measure => simp [intOf]; omega
        · have HE : Hid (bestR t j ++ bestC t (t.take q) (10 + j) = bestR t (j + 1)) := Lib.hid (by rw [List.take_of_length_le (by rw [hl1]; omega)]; rfl)
          rw [HE.out] at hown
          go_wp2
          go_roundw
          case rel => exact ⟨j + 1, m', cap', A', by omega, by omega, by go_num, rfl, hown, hbr⟩
          case measure => simp [intOf]; omega
    · rw [HBQ.out j (by omega)] at hown
      have hd : decide ((10 : Int) + (j : Int) ≤ 160) = false := decide_eq_false (by omega)
      go_wp2
      go_ret
      exact ⟨A', m', cap', rfl, hown.rebase hb1.size, hb1.trans (hbr.mono hb1.size)⟩
end Go.Proofs.Ytipghbpkpnkmnaa
