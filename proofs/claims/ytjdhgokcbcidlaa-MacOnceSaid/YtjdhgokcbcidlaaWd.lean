/- Result, Next, Tick of both. -/
import Derived.Test.YtjdhgokcbcidlaaWc
namespace Go.Proofs.Ytjdhgokcbcidlaa
open Go.RowKit Go.BigFrame
set_option linter.unusedVariables false

/-- the index of the frame to send -/
def nextS : List Sn → Int
  | [] => -1
  | a :: r => if a.wait ≤ 0 then 0 else if nextS r < 0 then -1 else nextS r + 1
theorem nextS_none {l : List Sn} (h : ∀ (i : Nat) (b : Sn), l[i]? = some b → ¬ b.wait ≤ 0) : nextS l = -1 := by
  induction l with
  | nil => rfl
  | cons a r ih => rw [nextS, if_neg (h 0 a rfl), ih (fun i b hb => h (i + 1) b hb)]; rfl
theorem nextS_at {l : List Sn} {j : Nat} {a : Sn} (h : ∀ (i : Nat) (b : Sn), i < j → l[i]? = some b → ¬ b.wait ≤ 0) (hj : l[j]? = some a) (ha : a.wait ≤ 0) : nextS l = (j : Int) := by
  induction l generalizing j with
  | nil => simp at hj
  | cons b r ih =>
    cases j with
    | zero => simp at hj; subst hj; rw [nextS, if_pos ha]; rfl
    | succ j =>
      rw [nextS, if_neg (h 0 b (by omega) rfl), ih (fun i c h1 h2 => h (i + 1) c (by omega) h2) hj]
      rw [if_neg (by omega)]; omega
def tick1 (a : Sn) : Sn := if 0 < a.wait then ⟨a.f, a.tries, wrap64 (a.wait - 1)⟩ else a

set_option maxHeartbeats 2000000 in
theorem next15 (A : Option Addr) (n cap : Nat) (l : List Sn) (w : World) (hn : n ≤ cap) (hcap : cap ≤ 9223372036854775807) (hr : Rd w ES A n l) :
    Calls Try.prog 15 #[.slice A n cap] w fun e w' => e = .returned (.int .i64 (nextS (l.take 16))) ∧ Below w.heap.size w w' := by
  have h16 : (l.take 16).length ≤ 16 := by rw [List.length_take]; omega
  have QX := Lib.hid (queue22 A n cap l w hn hcap hr)
  clear hr
  generalize l.take 16 = k at *
  go_enter Try.func15, Try.ntmps15
  go_wp2_with fail
  refine QX.out.mono ?_
  rintro e w1 ⟨B, m, c, rfl, ho, hb1⟩
  have hm : m ≤ 16 := by rw [← ho.1]; exact h16
  have hrd := ho.rd
  have hl := ho.1
  clear QX ho h16
  go_wp2
  go_loopw [8] (fun i wr => ∃ j : Nat, j ≤ m ∧ i = .int .i64 j ∧ Hid (∀ (i : Nat) (b : Sn), i < j → k[i]? = some b → ¬ b.wait ≤ 0) ∧ Below w1.heap.size w1 wr) (fun i _ => m - (intOf i).toNat)
  case atStart => exact ⟨0, by omega, rfl, Lib.hid (fun i b h => by omega), Below.refl _ _⟩
  case round =>
    obtain ⟨j, hj, rfl, hall, hbr⟩ := hrel
    by_cases hlt : j < m
    · obtain ⟨b, off, a, rfl, hla, q0, q1, q2, q3, q4, q5, q6, q7, q8, q9, q10⟩ := snd_at (hrd.later hbr) hlt
      obtain ⟨V, hV, hBV, hzV, hkV⟩ := boxed wr #[.int .i64 a.f.kind, .int .i64 a.f.src, .int .i64 a.f.to, .int .i64 a.f.source, .int .i64 a.f.target, .int .i64 a.f.seq, .int .i64 a.f.hops, .bool a.f.urgent, .string a.f.data, .int .i64 a.tries, .int .i64 a.wait] 35
      have p10 := hkV.at 10 (v := .int .i64 a.wait) rfl
      have hB1 := hbr.trans (hBV.mono hbr.size)
      by_cases hw : a.wait ≤ 0
      · have HN := Lib.hid (nextS_at hall.out hla hw)
        clear hall hla hkV
        go_wp2
        go_ret
        exact ⟨ret_int HN.out.symm, hb1.trans (hB1.mono hb1.size)⟩
      · have HN : Hid (∀ (i : Nat) (b : Sn), i < j + 1 → k[i]? = some b → ¬ b.wait ≤ 0) := Lib.hid (fun i c h1 h2 => by
          rcases Nat.lt_or_ge i j with d | d
          · exact hall.out i c d h2
          · obtain rfl : i = j := by omega
            rw [hla] at h2; cases h2; exact hw)
        clear hall hla hkV
        go_wp2
        go_roundw
        case rel => exact ⟨j + 1, by omega, by go_num, HN, hB1⟩
        case measure => simp [intOf]; omega
    · have HN := Lib.hid (nextS_none (l := k) fun i b h2 => hall.out i b (by have := (List.getElem?_eq_some_iff.1 h2).1; omega) h2)
      clear hall
      go_wp2
      go_ret
      exact ⟨ret_int HN.out.symm, hb1.trans (hbr.mono hb1.size)⟩

set_option maxHeartbeats 2000000 in
theorem next16 (A : Option Addr) (n cap : Nat) (l : List Sn) (w : World) (hcap : n ≤ 9223372036854775807) (hr : Rd w ES A n l) :
    Calls Try.prog 16 #[.slice A n cap] w fun e w' => e = .returned (.int .i64 (nextS (l.take 16))) ∧ Below w.heap.size w w' := by
  have h16 : (l.take 16).length ≤ 16 := by rw [List.length_take]; omega
  have QX := Lib.hid (first25 A n cap l w hcap hr)
  clear hr
  generalize l.take 16 = k at *
  go_enter Try.func16, Try.ntmps16
  go_wp2_with fail
  refine QX.out.mono ?_
  rintro e w1 ⟨B, m, c, rfl, ho, hb1⟩
  have hm : m ≤ 16 := by rw [← ho.1]; exact h16
  have hrd := ho.rd
  have hl := ho.1
  clear QX ho h16
  go_wp2
  go_loop [4] (fun i => ∃ j : Nat, j ≤ m ∧ i = .int .i64 j ∧ Hid (∀ (i : Nat) (b : Sn), i < j → k[i]? = some b → ¬ b.wait ≤ 0)) (fun i => m - (intOf i).toNat)
  case atStart => exact ⟨0, by omega, rfl, Lib.hid (fun i b h => by omega)⟩
  case round =>
    obtain ⟨j, hj, rfl, hall⟩ := hrel
    by_cases hlt : j < m
    · obtain ⟨b, off, a, rfl, hla, q0, q1, q2, q3, q4, q5, q6, q7, q8, q9, q10⟩ := snd_at hrd hlt
      by_cases hw : a.wait ≤ 0
      · have HN := Lib.hid (nextS_at hall.out hla hw)
        clear hall hla
        go_wp2
        go_ret
        exact ⟨ret_int HN.out.symm, hb1⟩
      · have HN : Hid (∀ (i : Nat) (b : Sn), i < j + 1 → k[i]? = some b → ¬ b.wait ≤ 0) := Lib.hid (fun i c h1 h2 => by
          rcases Nat.lt_or_ge i j with d | d
          · exact hall.out i c d h2
          · obtain rfl : i = j := by omega
            rw [hla] at h2; cases h2; exact hw)
        clear hall hla
        go_wp2
        go_round
        case rel => exact ⟨j + 1, by omega, by go_num, HN⟩
        case measure => simp [intOf]; omega
    · have HN := Lib.hid (nextS_none (l := k) fun i b h2 => hall.out i b (by have := (List.getElem?_eq_some_iff.1 h2).1; omega) h2)
      clear hall
      go_wp2
      go_ret
      exact ⟨ret_int HN.out.symm, hb1⟩

/-- the first j entries after a tick -/
def tickN (k : List Sn) (j : Nat) : List Sn := (k.take j).map tick1 ++ k.drop j
theorem tickN_at {k : List Sn} {j : Nat} {a : Sn} (h : k[j]? = some a) : (tickN k j)[j]? = some a := by
  have hlt : j < k.length := (List.getElem?_eq_some_iff.1 h).1
  have hl : ((k.take j).map tick1).length = j := by simp; omega
  unfold tickN
  rw [List.getElem?_append_right (by omega), hl, Nat.sub_self, List.getElem?_drop]; exact h
theorem tickN_next {k : List Sn} {j : Nat} {a : Sn} (h : k[j]? = some a) : tickN k (j + 1) = (tickN k j).set j (tick1 a) := by
  have hlt : j < k.length := (List.getElem?_eq_some_iff.1 h).1
  have hl : ((k.take j).map tick1).length = j := by simp; omega
  unfold tickN
  rw [List.set_append_right _ _ (by omega), hl, Nat.sub_self, take_snoc h, List.map_append]
  rw [show k.drop j = a :: k.drop (j + 1) by rw [List.drop_eq_getElem_cons hlt, (List.getElem?_eq_some_iff.1 h).2]]
  simp
theorem tickN_zero (k : List Sn) : tickN k 0 = k := rfl
theorem tickN_all {k : List Sn} {j : Nat} (h : j = k.length) : tickN k j = k.map tick1 := by
  subst h; simp [tickN]
theorem set_self {α : Type} {k : List α} {j : Nat} {a : α} (h : k[j]? = some a) : k.set j a = k := by
  obtain ⟨h1, h2⟩ := List.getElem?_eq_some_iff.1 h
  rw [← h2]; exact List.set_getElem_self h1

set_option maxHeartbeats 2000000 in
theorem tick17 (A : Option Addr) (n cap : Nat) (l : List Sn) (w : World) (hn : n ≤ cap) (hcap : cap ≤ 9223372036854775807) (hr : Rd w ES A n l) :
    Calls Try.prog 17 #[.slice A n cap] w (SlEnd w ((l.take 16).map tick1)) := by
  have h16 : (l.take 16).length ≤ 16 := by rw [List.length_take]; omega
  have QX := Lib.hid (queue22 A n cap l w hn hcap hr)
  clear hr
  generalize l.take 16 = k at *
  go_enter Try.func17, Try.ntmps17
  go_wp2_with fail
  refine QX.out.mono ?_
  rintro e w1 ⟨B, m, c, rfl, ho, hb1⟩
  have hm : m ≤ 16 := by rw [← ho.1]; exact h16
  have hl := ho.1
  clear QX h16
  go_wp2
  go_loopw [9] (fun i wr => ∃ j : Nat, j ≤ m ∧ i = .int .i64 j ∧ Ow wr w.heap.size 35 ES (.slice B m c) m (tickN k j) ∧ Below w.heap.size w wr) (fun i _ => m - (intOf i).toNat)
  case atStart => exact ⟨0, by omega, rfl, ho, hb1⟩
  case round =>
    clear ho hb1
    obtain ⟨j, hj, rfl, ho, hbr⟩ := hrel
    by_cases hlt : j < m
    · obtain ⟨a, hka⟩ : ∃ a, k[j]? = some a := ⟨_, List.getElem?_eq_getElem (by omega)⟩
      have hta := tickN_at hka
      obtain ⟨g, hBg, hgb, hgl⟩ := ho.at0 (by omega)
      subst hBg
      obtain ⟨b, off, a', hA, hla, q0, q1, q2, q3, q4, q5, q6, q7, q8, q9, q10⟩ := snd_at ho.rd hlt
      obtain ⟨rfl, rfl⟩ : g = b ∧ 0 = off := by cases hA; exact ⟨rfl, rfl⟩
      obtain rfl : a = a' := by rw [hta] at hla; exact Option.some.inj hla
      simp only [Nat.zero_add] at q10
      have z10 := ho.free (by omega) (j * 11 + 10)
      clear hA hla q0 q1 q2 q3 q4 q5 q6 q7 q8 q9
      by_cases hw : 0 < a.wait
      · have HS := Lib.hid (show Ow (wr.setCell ⟨g, j * 11 + 10, none⟩ (.int .i64 (wrap64 (a.wait - 1)))) w.heap.size 35 ES (.slice (some ⟨g, 0, none⟩) m c) m (tickN k (j + 1)) from by
          rw [tickN_next hka]
          refine ho.setField hta (j := 10) (by decide) _ ?_
          unfold tick1; rw [if_pos hw]; rfl)
        clear hka hta ho
        go_wp2
        go_roundw
        case rel => exact ⟨j + 1, by omega, by go_num, HS.out, hbr.setCell (p := ⟨g, j * 11 + 10, none⟩) hgb _⟩
        case measure => simp [intOf]; omega
      · have HS := Lib.hid (show Ow wr w.heap.size 35 ES (.slice (some ⟨g, 0, none⟩) m c) m (tickN k (j + 1)) from by
          rw [tickN_next hka, show tick1 a = a by unfold tick1; rw [if_neg hw], set_self hta]; exact ho)
        clear hka hta ho
        go_wp2
        go_roundw
        case rel => exact ⟨j + 1, by omega, by go_num, HS.out, hbr⟩
        case measure => simp [intOf]; omega
    · rw [tickN_all (show j = k.length by omega)] at ho
      go_wp2
      go_ret
      exact ⟨B, m, c, rfl, ho, hbr⟩
set_option maxHeartbeats 2000000 in
theorem tick18 (A : Option Addr) (n cap : Nat) (l : List Sn) (w : World) (hcap : n ≤ 9223372036854775807) (hr : Rd w ES A n l) :
    Calls Try.prog 18 #[.slice A n cap] w (SlEnd w ((l.take 16).map tick1)) := by
  have h16 : (l.take 16).length ≤ 16 := by rw [List.length_take]; omega
  have QX := Lib.hid (first25 A n cap l w hcap hr)
  clear hr
  generalize l.take 16 = k at *
  go_enter Try.func18, Try.ntmps18
  go_wp2_with fail
  refine QX.out.mono ?_
  rintro e w1 ⟨B, m, c, rfl, ho, hb1⟩
  have hm : m ≤ 16 := by rw [← ho.1]; exact h16
  have hl := ho.1
  clear QX h16
  go_wp2
  go_loopw [4] (fun i wr => ∃ j : Nat, j ≤ m ∧ i = .int .i64 j ∧ Ow wr w.heap.size 35 ES (.slice B m c) m (tickN k j) ∧ Below w.heap.size w wr) (fun i _ => m - (intOf i).toNat)
  case atStart => exact ⟨0, by omega, rfl, ho, hb1⟩
  case round =>
    clear ho hb1
    obtain ⟨j, hj, rfl, ho, hbr⟩ := hrel
    by_cases hlt : j < m
    · obtain ⟨a, hka⟩ : ∃ a, k[j]? = some a := ⟨_, List.getElem?_eq_getElem (by omega)⟩
      have hta := tickN_at hka
      obtain ⟨g, hBg, hgb, hgl⟩ := ho.at0 (by omega)
      subst hBg
      obtain ⟨b, off, a', hA, hla, q0, q1, q2, q3, q4, q5, q6, q7, q8, q9, q10⟩ := snd_at ho.rd hlt
      obtain ⟨rfl, rfl⟩ : g = b ∧ 0 = off := by cases hA; exact ⟨rfl, rfl⟩
      obtain rfl : a = a' := by rw [hta] at hla; exact Option.some.inj hla
      simp only [Nat.zero_add] at q10
      have z10 := ho.free (by omega) (j * 11 + 10)
      clear hA hla q0 q1 q2 q3 q4 q5 q6 q7 q8 q9
      by_cases hw : 0 < a.wait
      · have HS := Lib.hid (show Ow (wr.setCell ⟨g, j * 11 + 10, none⟩ (.int .i64 (wrap64 (a.wait - 1)))) w.heap.size 35 ES (.slice (some ⟨g, 0, none⟩) m c) m (tickN k (j + 1)) from by
          rw [tickN_next hka]
          refine ho.setField hta (j := 10) (by decide) _ ?_
          unfold tick1; rw [if_pos hw]; rfl)
        clear hka hta ho
        go_wp2
        go_roundw
        case rel => exact ⟨j + 1, by omega, by go_num, HS.out, hbr.setCell (p := ⟨g, j * 11 + 10, none⟩) hgb _⟩
        case measure => simp [intOf]; omega
      · have HS := Lib.hid (show Ow wr w.heap.size 35 ES (.slice (some ⟨g, 0, none⟩) m c) m (tickN k (j + 1)) from by
          rw [tickN_next hka, show tick1 a = a by unfold tick1; rw [if_neg hw], set_self hta]; exact ho)
        clear hka hta ho
        go_wp2
        go_roundw
        case rel => exact ⟨j + 1, by omega, by go_num, HS.out, hbr⟩
        case measure => simp [intOf]; omega
    · rw [tickN_all (show j = k.length by omega)] at ho
      go_wp2
      go_ret
      exact ⟨B, m, c, rfl, ho, hbr⟩
end Go.Proofs.Ytjdhgokcbcidlaa
