/- Best of the program, over a contract of the sort; Same of numbers. -/
import Derived.Test.YtipghbpkpnkmnaaWh
namespace Go.Proofs.Ytipghbpkpnkmnaa
open Go.RowKit Go.BigFrame
set_option linter.unusedVariables false

/-- the nodes with a cost, as they stand -/
def bestU (t k : List Link) : List Int := (k.filter (fun a => costT t a.node != 255)).map (fun a => a.node)
theorem bestU_yes {t k : List Link} {j : Nat} {a : Link} (h : k[j]? = some a) (ha : ¬ costT t a.node = 255) : bestU t (k.take (j + 1)) = bestU t (k.take j) ++ [a.node] := by
  have : (costT t a.node != 255) = true := by rw [bne_iff_ne]; exact ha
  rw [take_snoc h]; simp [bestU, this]
theorem bestU_no {t k : List Link} {j : Nat} {a : Link} (h : k[j]? = some a) (ha : costT t a.node = 255) : bestU t (k.take (j + 1)) = bestU t (k.take j) := by
  rw [take_snoc h]; simp [bestU, ha]
theorem bestU_len (t k : List Link) : (bestU t k).length ≤ k.length := by unfold bestU; rw [List.length_map]; exact List.length_filter_le _ _
/-- A result that is a slice of numbers of the call's own. -/
def IlEnd (w : World) (l : List Int) (en : Ending) (w' : World) : Prop :=
  ∃ (A : Option Addr) (n cap : Nat), en = .returned (.slice A n cap) ∧ Ow w' w.heap.size 3 EI (.slice A n cap) n l ∧ Below w.heap.size w w'
/-- the sort does its work -/
def SortOk (A : Option Addr) (n cap : Nat) (w0 : World) (R R' : List Int) : Prop :=
  ∀ (wr : World) (A' : Option Addr) (m c : Nat), Below w0.heap.size w0 wr → wr.cell? ⟨w0.heap.size, 0, none⟩ = some (.slice A n cap) → w0.heap.size < wr.heap.size → Ow wr (w0.heap.size + 1) 3 EI (.slice A' m c) m R →
    Calls Try.prog 37 #[.slice A' m c, .func (.func 38) #[] #[.pointer (some ⟨w0.heap.size, 0, none⟩)]] wr fun e w' => e = .returned (.tuple #[]) ∧ Ow w' (w0.heap.size + 1) 3 EI (.slice A' m c) m R' ∧ Below (w0.heap.size + 1) wr w'
theorem sortOk_tiny (A : Option Addr) (n cap : Nat) (w0 : World) (R : List Int) (hR : R.length ≤ 1) : SortOk A n cap w0 R R := by
  intro wr A' m c _ _ _ ho
  refine (sort37_tiny A' m c _ wr (by rw [← ho.1]; exact hR)).mono ?_
  rintro e w' ⟨rfl, rfl⟩
  exact ⟨rfl, ho, Below.refl _ _⟩

set_option maxRecDepth 20000 in
set_option maxHeartbeats 4000000 in
theorem best22 (A : Option Addr) (n cap : Nat) (l : List Link) (R' : List Int) (w : World) (hn : n ≤ 9223372036854775807) (hr : Rd w EL A n l) (hS : SortOk A n cap w (bestU (tab l) (tab l)) R') :
    Calls Try.prog 22 #[.slice A n cap] w (IlEnd w R') := by
  obtain ⟨i0, hi0, hz0, hz1, hz2⟩ := info_parts info3
  have HS := Lib.hid hS
  have hl24 := tab_len l
  have TB := Lib.hid (fun w hr => table24 A n cap l w hn hr)
  have CO := Lib.hid (fun v w hr => cost16 A n cap l v w hn hr)
  generalize tab l = t at *
  obtain ⟨W, hW, hB, hz, hk⟩ := boxed w #[.slice A n cap] 22
  have hrW := hr.later hB
  have s0 := hk.at 0 (v := .slice A n cap) rfl
  clear hS
  go_enter Try.func22, Try.ntmps22
  go_wp2_with fail
  refine (TB.out _ hrW).mono ?_
  rintro e w1 ⟨A1, n1, c1, rfl, ho1, hb1⟩
  have hn1 : n1 ≤ 24 := by rw [← ho1.1]; exact hl24
  have hr1 := ho1.rd
  have hl1 := ho1.1
  have hB1 := hB.trans (hb1.mono (Nat.le_of_lt hz))
  have hrw1 := hrW.later hb1
  have hk1 := hk.later hb1
  have hwl := hk1.lt
  clear TB ho1 hb1 hW s0 hk hrW hB
  go_wp2
  go_loopw [3, 9] (fun o i wr => ∃ (j m' cap' : Nat) (A' : Option Addr), j ≤ n1 ∧ m' ≤ j ∧ i = .int .i64 j ∧ o = .slice A' m' cap' ∧ Ow wr w1.heap.size 3 EI (.slice A' m' cap') m' (bestU t (t.take j)) ∧ Below w1.heap.size w1 wr) (fun _ i _ => n1 - (intOf i).toNat)
  case atStart => exact ⟨0, 0, 0, none, by omega, by omega, rfl, rfl, by simpa [bestU] using Ow.nil w1 w1.heap.size 3 EI, Below.refl _ _⟩
  case round =>
    obtain ⟨j, m', cap', A', hj, hmj, rfl, rfl, hown, hbr⟩ := hrel
    have hkr := hk1.later hbr
    by_cases hlt : j < n1
    · obtain ⟨b, off, a, rfl, hla, q0, q1, q2⟩ := link_at (hr1.later hbr) hlt
      obtain ⟨V, hV, hBV, hzV, hkV⟩ := boxed wr #[.int .i64 a.node, .int .i64 a.bits, .int .i64 a.count] 38
      have p0 := hkV.at 0 (v := .int .i64 a.node) rfl
      have sV := (hkr.later hBV).at 0 (v := .slice A n cap) rfl
      have hBV1 := hbr.trans (hBV.mono hbr.size)
      have hoV := hown.later hBV
      have hrV := (hrw1.later hbr).later hBV
      have CV := Lib.hid (CO.out a.node V hrV)
      clear hkV hown
      by_cases hc : costT t a.node = 255
      · have HC := Lib.hid (bestU_no (t := t) hla hc)
        rw [hc] at CV
        clear hc hla
        go_wp2_with fail
        refine CV.out.mono ?_
        rintro e w2 ⟨rfl, hb2⟩
        have hB2 := hBV1.trans (hb2.mono hBV1.size)
        have ho2 := hoV.later hb2
        rw [← HC.out] at ho2
        clear hoV hb2 hBV1 p0 sV q0 q1 q2 hbr hV hBV
        go_wp2
        go_roundw
        case rel => exact ⟨j + 1, m', cap', A', by omega, by omega, by go_num, rfl, ho2, hB2⟩
        case measure => simp [intOf]; omega
      · have HC := Lib.hid (bestU_yes (t := t) hla hc)
        have hcb : (costT t a.node == 255) = false := by simpa using hc
        have hcb' : (costT t a.node != 255) = true := by rw [bne_iff_ne]; exact hc
        clear hla
        generalize costT t a.node = ca at *
        clear hc
        go_wp2_with fail
        refine CV.out.mono ?_
        rintro e w2 ⟨rfl, hb2⟩
        have hB2 := hBV1.trans (hb2.mono hBV1.size)
        have ho2 := hoV.later hb2
        have p2 := keep hb2 p0
        clear hoV hb2 hBV1 p0 sV q0 q1 q2 hbr hV hBV CV
        go_wp2_with (at_builtin; refine wpList_append_rd _ rfl (.tmp 18) (.tmp 21) 34 rfl w1.heap.size 3 i0 _ EI Try.underlying34 hi0 hz0 hz1 rfl (.slice A' m' cap') m' (bestU t (t.take j)) rfl (ho2.later ((Below.refl _ _).alloc (Nat.le_refl _) _)) (some ⟨w2.heap.size, 0, none⟩) 1 1 [a.node] rfl (int_one a.node w2 3) (by unfold maxLen; omega) (by rw [hz2]; omega) (by have := hB2.size; simp; omega) ?_; intro A3 cap3 w3 hown3 hg)
        have hB3 : Below w1.heap.size w1 w3 := Below.row (hB2.alloc hB2.size _) hg (by have := hB2.size; simp; omega) (Nat.le_refl _) (ho2.later ((Below.refl _ _).alloc (Nat.le_refl _) _)).lt
        rw [← HC.out] at hown3
        clear hg ho2 hB2 p2
        go_wp2
        go_roundw
        case rel => exact ⟨j + 1, m' + 1, cap3, A3, by omega, by omega, by go_num, rfl, hown3, hB3⟩
        case measure => simp [intOf]; omega
    · have HE := Lib.hid (show t.take j = t by rw [List.take_of_length_le (by rw [hl1]; omega)])
      rw [HE.out] at hown
      have hw1 : w.heap.size + 1 ≤ w1.heap.size := hwl
      have SX := Lib.hid (HS.out wr A' m' cap' (hB1.trans (hbr.mono hB1.size)) (hkr.at 0 rfl) hkr.lt (hown.rebase hw1))
      clear HE CO HS
      go_wp2_with fail
      refine SX.out.mono ?_
      rintro e w4 ⟨rfl, ho4, hb4⟩
      go_wp2
      go_ret
      have hB4 := hB1.trans (hbr.mono hB1.size)
      exact ⟨A', m', cap', rfl, ho4.rebase (Nat.le_succ _), hB4.trans (hb4.mono (Nat.le_succ _))⟩

theorem neq3_same (x : Int) : (x != x) = false := by simp
set_option maxHeartbeats 1000000 in
theorem same21 (A B : Option Addr) (n c d : Nat) (l : List Int) (w : World) (hn : n ≤ 9223372036854775807) (hr : Rd w EI A n l) (hs : Rd w EI B n l) :
    Calls Try.prog 21 #[.slice A n c, .slice B n d] w fun e w' => e = .returned (.bool true) ∧ Below w.heap.size w w' := by
  go_enter Try.func21, Try.ntmps21
  go_wp2
  go_loopw [5] (fun i wr => ∃ j : Nat, j ≤ n ∧ i = .int .i64 j ∧ Below w.heap.size w wr) (fun i _ => n - (intOf i).toNat)
  case atStart => exact ⟨0, by omega, rfl, Below.refl _ _⟩
  case round =>
    obtain ⟨j, hj, rfl, hbr⟩ := hrel
    by_cases hlt : j < n
    · obtain ⟨b, off, a, rfl, hla, q0⟩ := int_at (hr.later hbr) hlt
      obtain ⟨b', off', a', rfl, hla', p0⟩ := int_at (hs.later hbr) hlt
      obtain rfl : a = a' := by rw [hla] at hla'; exact Option.some.inj hla'
      have Q0 := After.cell q0
      have P0 := After.cell p0
      clear q0 p0 hr hs hla hla'
      go_wp2
      refine wp_region_after (by kernel_rfl) (by kernel_rfl) ?_
      repeat (go_big_quiet_step (fail))
      refine wpQuiet_nil ?_
      intro w1 hb1
      have hB1 := hbr.trans (hb1.mono hbr.size)
      clear Q0 P0 hb1
      go_wp2
      go_roundw
      case rel => exact ⟨j + 1, by omega, by go_num, hB1⟩
      case measure => simp [intOf]; omega
    · go_wp2
      go_ret
      exact ⟨rfl, hbr⟩
end Go.Proofs.Ytipghbpkpnkmnaa
