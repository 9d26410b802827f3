/- find: slices.BinarySearchFunc at an ascending table. -/
import Derived.Test.YtlmoeempblgdkaaWd
namespace Go.Proofs.Ytlmoeempblgdkaa
open Go.RowKit Go.BigFrame
set_option linter.unusedVariables false
set_option linter.unusedSimpArgs false

theorem diff50 (r : Rt) (x : Int) (w : World) (h1 : 0 ≤ r.d) (h2 : r.d ≤ 250) (h3 : 0 ≤ x) (h4 : x ≤ 250) : Calls Try.prog 50 #[rtV r, .int .i64 x] w fun e w' => e = .returned (.int .i64 (r.d - x)) ∧ Below w.heap.size w w' := by
  obtain ⟨W, hW, hB, hz, hk⟩ := boxeds w (rtC r) 40
  have p0 := hk.at 0 (v := .int .i64 r.d) rfl
  clear hz hk
  go_enter Try.func50, Try.ntmps50
  go_wp2
  go_ret
  exact ⟨rfl, hB⟩
/-- the place of x -/
def CutAt (t : List Rt) (x : Int) (k : Nat) : Prop := (∀ i r, i < k → t[i]? = some r → r.d < x) ∧ (∀ i r, k ≤ i → t[i]? = some r → x ≤ r.d)
def dIn (t : List Rt) : Prop := ∀ r ∈ t, 0 ≤ r.d ∧ r.d ≤ 250
set_option maxRecDepth 20000 in
set_option maxHeartbeats 4000000 in
theorem bin49 (A : Option Addr) (n cap : Nat) (t : List Rt) (x : Int) (w : World) (hn : n ≤ 1000) (hr : Rd w ER A n t) (hasc : Asc t) (hd : dIn t) (h3 : 0 ≤ x) (h4 : x ≤ 250) :
    Calls Try.prog 49 #[.slice A n cap, .int .i64 x, .func (.func 50) #[] #[]] w fun e w' => ∃ (k : Nat) (b : Bool), k ≤ n ∧ CutAt t x k ∧ (b = true ↔ ∃ r, t[k]? = some r ∧ r.d = x) ∧ e = .returned (.tuple #[.int .i64 k, .bool b]) ∧ Below w.heap.size w w' := by
  have hlen : t.length = n := hr.1
  have hB0 := Below.refl w.heap.size w
  go_enter Try.func49, Try.ntmps49
  go_wp2
  go_loopw [9, 10, 11] (fun i j h wr => ∃ a b : Nat, a ≤ b ∧ b ≤ n ∧ i = .int .i64 a ∧ j = .int .i64 b ∧ (∀ k r, k < a → t[k]? = some r → r.d < x) ∧ (∀ k r, b ≤ k → t[k]? = some r → x ≤ r.d) ∧ Below w.heap.size w wr) (fun i j _ _ => (intOf j).toNat - (intOf i).toNat)
  case atStart => exact ⟨0, n, Nat.zero_le _, Nat.le_refl _, rfl, rfl, fun k r h => absurd h (by omega), fun k r h h2 => absurd (List.getElem?_eq_some_iff.1 h2).1 (by omega), hB0⟩
  case round =>
    clear hB0
    obtain ⟨a, b, hab, hbn, rfl, rfl, hlo, hhi, hbr⟩ := hrel
    by_cases hlt : a < b
    · obtain ⟨m, hm⟩ : ∃ m, m = (a + b) / 2 := ⟨_, rfl⟩
      have hmm : ((a : Int) + (b : Int)) / 2 = (m : Int) := by omega
      have hma : a ≤ m := by omega
      have hmb : m < b := by omega
      have HM := Lib.hid (And.intro hma hmb)
      obtain ⟨bb, off, r, hA, hla, e0, e1, e2, e3⟩ := rt_at (hr.later hbr) (show m < n by omega)
      rw [hA]
      have HLO := Lib.hid hlo
      have HHI := Lib.hid hhi
      have HLA := Lib.hid hla
      have HMM := Lib.hid hmm
      have hrd := hd r (List.mem_of_getElem? hla)
      have D := Lib.hid (diff50 r x wr hrd.1 hrd.2 h3 h4)
      clear hlo hhi hla hm hmm hrd
      go_upto_region 5 with fail
      rw [HMM.out]
      by_cases hlt2 : r.d < x
      · have HL := Lib.hid (show ∀ k q, k < m + 1 → t[k]? = some q → q.d < x from fun k q hk hq => by
          rcases Nat.lt_or_ge k m with h | h
          · have := asc_lt hasc hq HLA.out h
            omega
          · obtain rfl : k = m := by omega
            rw [HLA.out] at hq; cases hq; exact hlt2)
        have hneg : r.d - x < 0 := by omega
        clear hlt2
        go_wp2_with fail
        refine D.out.mono ?_
        rintro e w1 ⟨rfl, hb1⟩
        have hb2 := hbr.trans (hb1.mono hbr.size)
        clear hb1 e0 e1 e2 e3
        go_wp2
        go_roundw
        case rel => exact ⟨m + 1, b, by omega, hbn, by go_num, rfl, HL.out, HHI.out, hb2⟩
        case measure => simp [intOf]; omega
      · have HH := Lib.hid (show ∀ k q, m ≤ k → t[k]? = some q → x ≤ q.d from fun k q hk hq => by
          rcases Nat.lt_or_ge m k with h | h
          · have := asc_lt hasc HLA.out hq h
            omega
          · obtain rfl : k = m := by omega
            rw [HLA.out] at hq; cases hq; omega)
        have hneg : ¬ (r.d - x < 0) := by omega
        clear hlt2
        go_wp2_with fail
        refine D.out.mono ?_
        rintro e w1 ⟨rfl, hb1⟩
        have hb2 := hbr.trans (hb1.mono hbr.size)
        clear hb1 e0 e1 e2 e3
        go_wp2
        go_roundw
        case rel => exact ⟨a, m, hma, by omega, rfl, rfl, HLO.out, HH.out, hb2⟩
        case measure => simp [intOf]; omega
    · obtain hab' : a = b := by omega
      have HC := Lib.hid (show CutAt t x b from ⟨fun k r hk hq => hlo k r (by omega) hq, hhi⟩)
      have hbn' := hbn
      clear hlo hhi
      by_cases hbe : b < n
      · obtain ⟨bb, off, r, hA, hla, e0, e1, e2, e3⟩ := rt_at (hr.later hbr) hbe
        rw [hA]
        have hrd := hd r (List.mem_of_getElem? hla)
        have D := Lib.hid (diff50 r x wr hrd.1 hrd.2 h3 h4)
        have HLA := Lib.hid hla
        clear hla hrd
        subst hab'
        by_cases hq : r.d = x
        · have HB := Lib.hid (show ∃ r, t[a]? = some r ∧ r.d = x from ⟨r, HLA.out, hq⟩)
          have hz : r.d - x = 0 := by omega
          rw [hz] at D
          clear hq hz
          go_wp2_with fail
          refine D.out.mono ?_
          rintro e w1 ⟨rfl, hb1⟩
          have hb2 := hbr.trans (hb1.mono hbr.size)
          clear hb1 e0 e1 e2 e3
          go_wp2
          refine bodyPost_ret (v := .tuple #[.int .i64 a, .bool true]) (by simp [results, Try.results49, go_sem]) rfl ?_
          exact ⟨a, true, hbn, HC.out, ⟨fun _ => HB.out, fun _ => rfl⟩, rfl, hb2⟩
        · have HB := Lib.hid (show false = true ↔ ∃ r, t[a]? = some r ∧ r.d = x from ⟨nofun, fun ⟨q, h1, h2⟩ => by rw [HLA.out] at h1; cases h1; exact absurd h2 hq⟩)
          have hz : (r.d - x == 0) = false := by rw [beq_eq_false_iff_ne]; omega
          clear hq
          go_wp2_with fail
          refine D.out.mono ?_
          rintro e w1 ⟨rfl, hb1⟩
          have hb2 := hbr.trans (hb1.mono hbr.size)
          clear hb1 e0 e1 e2 e3
          go_wp2
          refine bodyPost_ret (v := .tuple #[.int .i64 a, .bool false]) (by simp [results, Try.results49, go_sem]) rfl ?_
          exact ⟨a, false, hbn, HC.out, HB.out, rfl, hb2⟩
      · have HB := Lib.hid (show false = true ↔ ∃ r, t[b]? = some r ∧ r.d = x from ⟨nofun, fun ⟨q, h1, _⟩ => absurd (List.getElem?_eq_some_iff.1 h1).1 (by omega)⟩)
        subst hab'
        go_wp2
        refine bodyPost_ret (v := .tuple #[.int .i64 a, .bool false]) (by simp [results, Try.results49, go_sem]) rfl ?_
        exact ⟨a, false, hbn, HC.out, HB.out, rfl, hbr⟩
theorem find43 (A : Option Addr) (n cap : Nat) (t : List Rt) (x : Int) (w : World) (hn : n ≤ 1000) (hr : Rd w ER A n t) (hasc : Asc t) (hd : dIn t) (h3 : 0 ≤ x) (h4 : x ≤ 250) :
    Calls Try.prog 43 #[.slice A n cap, .int .i64 x] w fun e w' => ∃ (k : Nat) (b : Bool), k ≤ n ∧ CutAt t x k ∧ (b = true ↔ ∃ r, t[k]? = some r ∧ r.d = x) ∧ e = .returned (.tuple #[.int .i64 k, .bool b]) ∧ Below w.heap.size w w' := by
  have B := Lib.hid (bin49 A n cap t x w hn hr hasc hd h3 h4)
  clear hr hasc hd
  go_enter Try.func43, Try.ntmps43
  go_wp2_with fail
  refine B.out.mono ?_
  rintro e w1 ⟨k, b, hk, hc, hb, rfl, hb1⟩
  have HC := Lib.hid hc
  have HB := Lib.hid hb
  clear hc hb
  go_wp2
  refine bodyPost_ret (v := .tuple #[.int .i64 k, .bool b]) (by simp [results, Try.results43, go_sem]) rfl ?_
  exact ⟨k, b, hk, HC.out, HB.out, rfl, hb1⟩
end Go.Proofs.Ytlmoeempblgdkaa
