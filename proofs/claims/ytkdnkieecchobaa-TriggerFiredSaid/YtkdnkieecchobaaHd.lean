/- Minutes of the day, weekdays; Index and Contains of keys, events, texts. -/
import Derived.Test.YtkdnkieecchobaaHc
import Derived.Deep.CutBlock
namespace Go.Proofs.Ytkdnkieecchobaa
open Go.RowKit Go.BigFrame
set_option linter.unusedVariables false

theorem clamp76 (n : Int) (w : World) (h0 : 0 ≤ n) (h1 : n ≤ 1073741824) :
    Calls Try.prog 76 #[.int .i64 n, .int .i64 0, .int .i64 1073741824] w fun e w' => e = .returned (.int .i64 n) ∧ w = w' := by
  have g0 : ¬ n < 0 := by omega
  have g1 : ¬ 1073741824 < n := by omega
  clear h0 h1
  go_enter Try.func76, Try.ntmps76
  go_wp2
  go_ret
  exact ⟨rfl, rfl⟩
theorem clamp68 (n : Int) (w : World) (h0 : 0 ≤ n) (h1 : n ≤ 1073741824) :
    Calls Try.prog 68 #[.int .i64 n, .int .i64 0, .int .i64 1073741824] w fun e w' => e = .returned (.int .i64 n) ∧ w = w' := by
  have g0 : ¬ n < 0 := by omega
  have g1 : ¬ 1073741824 < n := by omega
  clear h0 h1
  go_enter Try.func68, Try.ntmps68
  go_wp2
  go_ret
  exact ⟨rfl, rfl⟩
theorem valid72 (n : Int) (w : World) (h0 : 0 ≤ n) (h1 : n ≤ 1073741824) :
    Calls Try.prog 72 #[.int .i64 n] w fun e w' => e = .returned (.int .i64 n) ∧ w = w' := by
  have H := Lib.hid (clamp76 n w h0 h1)
  clear h0 h1
  go_enter Try.func72, Try.ntmps72
  go_wp2_with (go_at_call 76; refine H.out.mono ?_; rintro e w' ⟨rfl, rfl⟩)
  go_ret
  exact ⟨rfl, rfl⟩
theorem valid53 (n : Int) (w : World) (h0 : 0 ≤ n) (h1 : n ≤ 1073741824) :
    Calls Try.prog 53 #[.int .i64 n] w fun e w' => e = .returned (.int .i64 n) ∧ w = w' := by
  have H := Lib.hid (clamp68 n w h0 h1)
  clear h0 h1
  go_enter Try.func53, Try.ntmps53
  go_wp2_with (go_at_call 68; refine H.out.mono ?_; rintro e w' ⟨rfl, rfl⟩)
  go_ret
  exact ⟨rfl, rfl⟩
theorem ofday65 (n : Int) (w : World) (h0 : 0 ≤ n) (h1 : n ≤ 1073741824) :
    Calls Try.prog 65 #[.int .i64 n] w fun e w' => e = .returned (.int .i64 (n % 1440)) ∧ w = w' := by
  have H := Lib.hid (valid72 n w h0 h1)
  go_enter Try.func65, Try.ntmps65
  go_wp2_with (go_at_call 72; refine H.out.mono ?_; rintro e w' ⟨rfl, rfl⟩)
  go_ret
  exact ⟨ret_int (by omega), rfl⟩
theorem ofday37 (n : Int) (w : World) (h0 : 0 ≤ n) (h1 : n ≤ 1073741824) :
    Calls Try.prog 37 #[.int .i64 n] w fun e w' => e = .returned (.int .i64 (n % 1440)) ∧ w = w' := by
  have H := Lib.hid (valid53 n w h0 h1)
  go_enter Try.func37, Try.ntmps37
  go_wp2_with (go_at_call 53; refine H.out.mono ?_; rintro e w' ⟨rfl, rfl⟩)
  go_ret
  exact ⟨ret_int (by omega), rfl⟩
theorem wday66 (n : Int) (w : World) (h0 : 0 ≤ n) (h1 : n ≤ 1073741824) :
    Calls Try.prog 66 #[.int .i64 n] w fun e w' => e = .returned (.int .i64 ((n / 1440 + 5) % 7)) ∧ w = w' := by
  have H := Lib.hid (valid72 n w h0 h1)
  go_enter Try.func66, Try.ntmps66
  go_wp2_with (go_at_call 72; refine H.out.mono ?_; rintro e w' ⟨rfl, rfl⟩)
  go_ret
  exact ⟨ret_int (by omega), rfl⟩
theorem wday38 (n : Int) (w : World) (h0 : 0 ≤ n) (h1 : n ≤ 1073741824) :
    Calls Try.prog 38 #[.int .i64 n] w fun e w' => e = .returned (.int .i64 ((n / 1440 + 5) % 7)) ∧ w = w' := by
  have H := Lib.hid (valid53 n w h0 h1)
  go_enter Try.func38, Try.ntmps38
  go_wp2_with (go_at_call 53; refine H.out.mono ?_; rintro e w' ⟨rfl, rfl⟩)
  go_ret
  exact ⟨ret_int (by omega), rfl⟩

def bitB (k m : Int) : Bool := bits BinOp.and IntKind.i64 (k / 2 ^ ((m / 1440 + 5) % 7).toNat) 1 == 1
def hit (n k m : Int) : Prop := m % 1440 = n ∧ bitB k m = true
def strk (f t n k : Int) : Prop := 1 ≤ k ∧ k ≤ 127 ∧ ∃ m, f < m ∧ m ≤ t ∧ hit n k m
def winOk (f t : Int) : Prop := (0 ≤ f ∧ f ≤ t ∧ t ≤ 1073741824) ∨ (f = -1 ∧ t = -1)

set_option maxRecDepth 20000 in
set_option maxHeartbeats 4000000 in
theorem strikes51 (f t n k : Int) (w : World) (b : Bool) (hwin : winOk f t) (hb : b = true ↔ strk f t n k) :
    Calls Try.prog 51 #[.int .i64 f, .int .i64 t, .int .i64 n, .int .i64 k] w fun e w' => e = .returned (.bool b) ∧ w = w' := by
  by_cases h1 : n < 0 ∨ 1440 ≤ n ∨ k < 1 ∨ 127 < k ∨ f < 0
  · have HB := Lib.hid (show false = b by
      cases b with
      | false => rfl
      | true =>
        obtain ⟨k1, k2, m, m1, m2, hm, _⟩ := hb.1 rfl
        rcases hwin with ⟨_, _, _⟩ | ⟨_, _⟩ <;> omega)
    have h' : n < 0 ∨ (¬ n < 0 ∧ 1440 ≤ n) ∨ (¬ n < 0 ∧ ¬ 1440 ≤ n ∧ k < 1) ∨ (¬ n < 0 ∧ ¬ 1440 ≤ n ∧ ¬ k < 1 ∧ 127 < k) ∨ (¬ n < 0 ∧ ¬ 1440 ≤ n ∧ ¬ k < 1 ∧ ¬ 127 < k ∧ f < 0) := by omega
    clear h1 hb hwin
    rcases h' with h1 | ⟨h1, h2⟩ | ⟨h1, h2, h3⟩ | ⟨h1, h2, h3, h4⟩ | ⟨h1, h2, h3, h4, h5⟩
    all_goals
      go_enter Try.func51, Try.ntmps51
      go_wp2
      go_ret
      exact ⟨ret_bool HB.out, rfl⟩
  · obtain ⟨g1, g2, g3, g4, g5⟩ : ¬ n < 0 ∧ ¬ 1440 ≤ n ∧ ¬ k < 1 ∧ ¬ 127 < k ∧ ¬ f < 0 := by omega
    have hft : f ≤ t ∧ t ≤ 1073741824 := by rcases hwin with ⟨_, _, _⟩ | ⟨_, _⟩ <;> omega
    obtain ⟨hf1, hf2⟩ := hft
    have HB := Lib.hid hb
    clear h1 hb hwin
    have hwr : wrap64 (f + 1) = f + 1 := by unfold wrap64; omega
    go_enter Try.func51, Try.ntmps51
    go_wp2
    go_loopw [9] (fun i wr => wr = w ∧ ∃ m : Int, f < m ∧ m ≤ t + 1 ∧ i = .int .i64 m ∧ ∀ m', f < m' → m' < m → ¬ hit n k m') (fun i _ => (t + 1 - intOf i).toNat)
    case atStart => exact ⟨rfl, f + 1, by omega, by omega, by go_num, fun m' _ _ => by omega⟩
    case round =>
      clear hwr
      obtain ⟨rfl, m, hm1, hm2, rfl, hno⟩ := hrel
      by_cases hlt : m ≤ t
      · have H1 := Lib.hid (ofday65 m wr (by omega) (by omega))
        have H2 := Lib.hid (wday66 m wr (by omega) (by omega))
        by_cases hd : m % 1440 = n
        · have hd' : (m % 1440 == n) = true := by rw [hd]; simp
          have hk : 0 ≤ (m / 1440 + 5) % 7 := by omega
          cases hbit : bitB k m with
          | true =>
            have HF := Lib.hid (HB.out.2 ⟨by omega, by omega, m, hm1, hlt, hd, hbit⟩)
            have hbit' : (bits BinOp.and IntKind.i64 (k / 2 ^ ((m / 1440 + 5) % 7).toNat) 1 == 1) = true := hbit
            clear hno hd hbit
            generalize hx : (m / 1440 + 5) % 7 = x at *
            go_wp2_with (first | (go_at_call 65; refine H1.out.mono ?_; rintro e w' ⟨rfl, rfl⟩) | (go_at_call 66; refine H2.out.mono ?_; rintro e w' ⟨rfl, rfl⟩))
            go_ret
            exact ⟨ret_bool HF.out.symm, rfl⟩
          | false =>
            have HN : Hid (∀ m', f < m' → m' < m + 1 → ¬ hit n k m') := Lib.hid (fun m' h1 h2 h3 => by
              rcases Int.lt_or_le m' m with h | h
              · exact hno m' h1 h h3
              · obtain rfl : m' = m := by omega
                have := h3.2; rw [hbit] at this; cases this)
            have hbit' : (bits BinOp.and IntKind.i64 (k / 2 ^ ((m / 1440 + 5) % 7).toNat) 1 == 1) = false := hbit
            clear hno hd hbit
            generalize hx : (m / 1440 + 5) % 7 = x at *
            go_wp2_with (first | (go_at_call 65; refine H1.out.mono ?_; rintro e w' ⟨rfl, rfl⟩) | (go_at_call 66; refine H2.out.mono ?_; rintro e w' ⟨rfl, rfl⟩))
            go_roundw
            case rel => exact ⟨trivial, m + 1, by omega, by omega, by go_num, HN.out⟩
            case measure => simp [intOf]; omega
        · have hd' : (m % 1440 == n) = false := by rw [beq_eq_false_iff_ne]; exact hd
          have HN : Hid (∀ m', f < m' → m' < m + 1 → ¬ hit n k m') := Lib.hid (fun m' h1 h2 h3 => by
              rcases Int.lt_or_le m' m with h | h
              · exact hno m' h1 h h3
              · obtain rfl : m' = m := by omega
                exact hd h3.1)
          clear hno hd
          go_wp2_with (first | (go_at_call 65; refine H1.out.mono ?_; rintro e w' ⟨rfl, rfl⟩) | (go_at_call 66; refine H2.out.mono ?_; rintro e w' ⟨rfl, rfl⟩))
          go_roundw
          case rel => exact ⟨trivial, m + 1, by omega, by omega, by go_num, HN.out⟩
          case measure => simp [intOf]; omega
      · have HF := Lib.hid (show false = b by
          cases b with
          | false => rfl
          | true =>
            obtain ⟨k1, k2, m', m1, m2, hm⟩ := HB.out.1 rfl
            exact absurd hm (hno m' m1 (by omega)))
        clear hno
        go_wp2
        go_ret
        exact ⟨ret_bool HF.out, rfl⟩

theorem eql32_same {a b : Ky} (h : a = b) (w : World) : (binOp .eql 32 (kyV a) (kyV b)).run Try.prog w = .ok (.bool true) w := by
  subst h
  rw [run_eql_struct, run_equalIn_struct w 9999 32 _ _ (by kernel_rfl) (by kernel_rfl)]
  simp [go_sem]
theorem eql32_diff {a b : Ky} (h : a ≠ b) (w : World) : (binOp .eql 32 (kyV a) (kyV b)).run Try.prog w = .ok (.bool false) w := by
  rw [run_eql_struct, run_equalIn_struct w 9999 32 _ _ (by kernel_rfl) (by kernel_rfl)]
  simp [go_sem]
  intro h0 h1 h2
  exact h (ky_ext h0 (bytes_toList h1) (bytes_toList h2))

set_option maxHeartbeats 1000000 in
theorem index63 (A : Option Addr) (n c : Nat) (l : List Ky) (x : Ky) (w : World) (hn : n ≤ 9223372036854775807) (hr : Rd w EK A n l) :
    Calls Try.prog 63 #[.slice A n c, kyV x] w fun e w' => (∃ i : Int, e = .returned (.int .i64 i) ∧ (0 ≤ i ↔ x ∈ l)) ∧ Below w.heap.size w w' := by
  obtain ⟨W, hW, hB, hz, hk⟩ := boxed w #[.int .i64 x.dev, .string x.a, .string x.b] 32
  go_enter Try.func63, Try.ntmps63
  go_wp2
  go_loopw [8] (fun i wr => ∃ j : Nat, j ≤ n ∧ i = .int .i64 j ∧ x ∉ l.take j ∧ Blk wr w.heap.size 32 #[.int .i64 x.dev, .string x.a, .string x.b] ∧ Below w.heap.size w wr) (fun i _ => n - (intOf i).toNat)
  case atStart => exact ⟨0, by omega, rfl, by simp, hk, hB⟩
  case round =>
    clear hk hB hW
    obtain ⟨j, hj, rfl, hnot, hkr, hbr⟩ := hrel
    by_cases hlt : j < n
    · obtain ⟨b, off, a, rfl, hla, q0, q1, q2⟩ := ky_at (hr.later hbr) hlt
      have Q0 := After.cell q0
      have Q1 := After.cell q1
      have Q2 := After.cell q2
      have P0 := After.cell (hkr.at 0 (v := .int .i64 x.dev) rfl)
      have P1 := After.cell (hkr.at 1 (v := .string x.a) rfl)
      have P2 := After.cell (hkr.at 2 (v := .string x.b) rfl)
      clear q0 q1 q2
      by_cases hax : x = a
      · have he := fun w => eql32_same hax w
        have HL := Lib.hid (show x ∈ l from List.mem_of_getElem? (by rw [hla, hax]))
        clear hax hla hnot hr
        go_wp2
        refine wp_region_after (by kernel_rfl) (by kernel_rfl) ?_
        repeat (go_big_quiet_step (fail))
        refine wpQuiet_nil ?_
        intro w1 hb1
        have hB1 := hbr.trans (hb1.mono hbr.size)
        clear Q0 Q1 Q2 P0 P1 P2 hb1 hbr he hkr
        go_wp2
        go_ret
        exact ⟨⟨_, rfl, ⟨fun _ => HL.out, fun _ => by omega⟩⟩, hB1⟩
      · have he := fun w => eql32_diff hax w
        have HN := Lib.hid (show x ∉ l.take (j + 1) by rw [take_snoc hla]; simp [hnot]; exact hax)
        clear hax hla hnot
        go_wp2
        refine wp_region_after (by kernel_rfl) (by kernel_rfl) ?_
        repeat (go_big_quiet_step (fail))
        refine wpQuiet_nil ?_
        intro w1 hb1
        have hB1 := hbr.trans (hb1.mono hbr.size)
        have hk1 := hkr.later hb1
        clear Q0 Q1 Q2 P0 P1 P2 hb1 hbr he hkr
        go_wp2
        go_roundw
        case rel => exact ⟨j + 1, by omega, by go_num, HN.out, hk1, hB1⟩
        case measure => simp [intOf]; omega
    · have HN := Lib.hid (show x ∉ l by rwa [List.take_of_length_le (by rw [hr.1]; omega)] at hnot)
      clear hnot hkr
      go_wp2
      go_ret
      exact ⟨⟨_, rfl, ⟨fun h => absurd h (by decide), fun h => absurd h HN.out⟩⟩, hbr⟩

set_option maxHeartbeats 1000000 in
theorem index64 (A : Option Addr) (n c : Nat) (l : List Ky) (x : Ky) (w : World) (hn : n ≤ 9223372036854775807) (hr : Rd w EK A n l) :
    Calls Try.prog 64 #[.slice A n c, kyV x] w fun e w' => (∃ i : Int, e = .returned (.int .i64 i) ∧ (0 ≤ i ↔ x ∈ l)) ∧ Below w.heap.size w w' := by
  obtain ⟨W, hW, hB, hz, hk⟩ := boxed w #[.int .i64 x.dev, .string x.a, .string x.b] 34
  go_enter Try.func64, Try.ntmps64
  go_wp2
  go_loopw [8] (fun i wr => ∃ j : Nat, j ≤ n ∧ i = .int .i64 j ∧ x ∉ l.take j ∧ Blk wr w.heap.size 34 #[.int .i64 x.dev, .string x.a, .string x.b] ∧ Below w.heap.size w wr) (fun i _ => n - (intOf i).toNat)
  case atStart => exact ⟨0, by omega, rfl, by simp, hk, hB⟩
  case round =>
    clear hk hB hW
    obtain ⟨j, hj, rfl, hnot, hkr, hbr⟩ := hrel
    by_cases hlt : j < n
    · obtain ⟨b, off, a, rfl, hla, q0, q1, q2⟩ := ky_at (hr.later hbr) hlt
      have Q0 := After.cell q0
      have Q1 := After.cell q1
      have Q2 := After.cell q2
      have P0 := After.cell (hkr.at 0 (v := .int .i64 x.dev) rfl)
      have P1 := After.cell (hkr.at 1 (v := .string x.a) rfl)
      have P2 := After.cell (hkr.at 2 (v := .string x.b) rfl)
      clear q0 q1 q2
      by_cases hax : x = a
      · have he := fun w => eql34_same hax w
        have HL := Lib.hid (show x ∈ l from List.mem_of_getElem? (by rw [hla, hax]))
        clear hax hla hnot hr
        go_wp2
        refine wp_region_after (by kernel_rfl) (by kernel_rfl) ?_
        repeat (go_big_quiet_step (fail))
        refine wpQuiet_nil ?_
        intro w1 hb1
        have hB1 := hbr.trans (hb1.mono hbr.size)
        clear Q0 Q1 Q2 P0 P1 P2 hb1 hbr he hkr
        go_wp2
        go_ret
        exact ⟨⟨_, rfl, ⟨fun _ => HL.out, fun _ => by omega⟩⟩, hB1⟩
      · have he := fun w => eql34_diff hax w
        have HN := Lib.hid (show x ∉ l.take (j + 1) by rw [take_snoc hla]; simp [hnot]; exact hax)
        clear hax hla hnot
        go_wp2
        refine wp_region_after (by kernel_rfl) (by kernel_rfl) ?_
        repeat (go_big_quiet_step (fail))
        refine wpQuiet_nil ?_
        intro w1 hb1
        have hB1 := hbr.trans (hb1.mono hbr.size)
        have hk1 := hkr.later hb1
        clear Q0 Q1 Q2 P0 P1 P2 hb1 hbr he hkr
        go_wp2
        go_roundw
        case rel => exact ⟨j + 1, by omega, by go_num, HN.out, hk1, hB1⟩
        case measure => simp [intOf]; omega
    · have HN := Lib.hid (show x ∉ l by rwa [List.take_of_length_le (by rw [hr.1]; omega)] at hnot)
      clear hnot hkr
      go_wp2
      go_ret
      exact ⟨⟨_, rfl, ⟨fun h => absurd h (by decide), fun h => absurd h HN.out⟩⟩, hbr⟩

theorem contains49 (A : Option Addr) (n c : Nat) (l : List Ky) (x : Ky) (w : World) (b : Bool) (hn : n ≤ 9223372036854775807) (hr : Rd w EK A n l) (hb : b = true ↔ x ∈ l) :
    Calls Try.prog 49 #[.slice A n c, kyV x] w fun e w' => e = .returned (.bool b) ∧ Below w.heap.size w w' := by
  obtain ⟨W, hW, hB, hz, hk⟩ := boxed w #[.int .i64 x.dev, .string x.a, .string x.b] 32
  have p0 := hk.at 0 (v := .int .i64 x.dev) rfl
  have p1 := hk.at 1 (v := .string x.a) rfl
  have p2 := hk.at 2 (v := .string x.b) rfl
  have H := Lib.hid (index63 A n c l x W hn (hr.later hB))
  have HB := Lib.hid hb
  clear hb hk
  go_enter Try.func49, Try.ntmps49
  go_wp2_with fail
  refine H.out.mono ?_
  rintro e w1 ⟨⟨i, rfl, hi⟩, hb1⟩
  have hB1 := hB.trans (hb1.mono hB.size)
  have HI := Lib.hid hi
  clear hi hb1 p0 p1 p2 hB H
  cases b with
  | true =>
    have hd : (0 : Int) ≤ i := HI.out.2 (HB.out.1 rfl)
    go_wp2
    go_ret
    exact ⟨rfl, hB1⟩
  | false =>
    have hd : ¬ (0 : Int) ≤ i := fun h => by have := HB.out.2 (HI.out.1 h); cases this
    go_wp2
    go_ret
    exact ⟨ret_bool (decide_eq_false (by omega)), hB1⟩

theorem contains50 (A : Option Addr) (n c : Nat) (l : List Ky) (x : Ky) (w : World) (b : Bool) (hn : n ≤ 9223372036854775807) (hr : Rd w EK A n l) (hb : b = true ↔ x ∈ l) :
    Calls Try.prog 50 #[.slice A n c, kyV x] w fun e w' => e = .returned (.bool b) ∧ Below w.heap.size w w' := by
  obtain ⟨W, hW, hB, hz, hk⟩ := boxed w #[.int .i64 x.dev, .string x.a, .string x.b] 34
  have p0 := hk.at 0 (v := .int .i64 x.dev) rfl
  have p1 := hk.at 1 (v := .string x.a) rfl
  have p2 := hk.at 2 (v := .string x.b) rfl
  have H := Lib.hid (index64 A n c l x W hn (hr.later hB))
  have HB := Lib.hid hb
  clear hb hk
  go_enter Try.func50, Try.ntmps50
  go_wp2_with fail
  refine H.out.mono ?_
  rintro e w1 ⟨⟨i, rfl, hi⟩, hb1⟩
  have hB1 := hB.trans (hb1.mono hB.size)
  have HI := Lib.hid hi
  clear hi hb1 p0 p1 p2 hB H
  cases b with
  | true =>
    have hd : (0 : Int) ≤ i := HI.out.2 (HB.out.1 rfl)
    go_wp2
    go_ret
    exact ⟨rfl, hB1⟩
  | false =>
    have hd : ¬ (0 : Int) ≤ i := fun h => by have := HB.out.2 (HI.out.1 h); cases this
    go_wp2
    go_ret
    exact ⟨ret_bool (decide_eq_false (by omega)), hB1⟩

set_option maxHeartbeats 1000000 in
theorem index67 (A : Option Addr) (n c : Nat) (l : List ByteArray) (x : ByteArray) (w : World) (hn : n ≤ 9223372036854775807) (hr : Rd w ET A n l) :
    Calls Try.prog 67 #[.slice A n c, .string x] w fun e w' => (∃ i : Int, e = .returned (.int .i64 i) ∧ (0 ≤ i ↔ x ∈ l)) ∧ w = w' := by
  go_enter Try.func67, Try.ntmps67
  go_wp2
  go_loopw [8] (fun i wr => wr = w ∧ ∃ j : Nat, j ≤ n ∧ i = .int .i64 j ∧ x ∉ l.take j) (fun i _ => n - (intOf i).toNat)
  case atStart => exact ⟨rfl, 0, by omega, rfl, by simp⟩
  case round =>
    obtain ⟨rfl, j, hj, rfl, hnot⟩ := hrel
    by_cases hlt : j < n
    · obtain ⟨b, off, a, rfl, hla, q0⟩ := tx_at hr hlt
      by_cases hax : x = a
      · have he : (x.toList == a.toList) = true := by rw [hax]; simp
        have HL := Lib.hid (show x ∈ l from List.mem_of_getElem? (by rw [hla, hax]))
        clear hax hla hnot hr
        go_wp2
        go_ret
        exact ⟨⟨_, rfl, ⟨fun _ => HL.out, fun _ => by omega⟩⟩, rfl⟩
      · have he : (x.toList == a.toList) = false := by rw [beq_eq_false_iff_ne]; exact fun e => hax (bytes_toList e)
        have HN := Lib.hid (show x ∉ l.take (j + 1) by rw [take_snoc hla]; simp [hnot]; exact hax)
        clear hax hla hnot
        go_wp2
        go_roundw
        case rel => exact ⟨trivial, j + 1, by omega, by go_num, HN.out⟩
        case measure => simp [intOf]; omega
    · have HN := Lib.hid (show x ∉ l by rwa [List.take_of_length_le (by rw [hr.1]; omega)] at hnot)
      clear hnot
      go_wp2
      go_ret
      exact ⟨⟨_, rfl, ⟨fun h => absurd h (by decide), fun h => absurd h HN.out⟩⟩, rfl⟩

theorem contains52 (A : Option Addr) (n c : Nat) (l : List ByteArray) (x : ByteArray) (w : World) (b : Bool) (hn : n ≤ 9223372036854775807) (hr : Rd w ET A n l) (hb : b = true ↔ x ∈ l) :
    Calls Try.prog 52 #[.slice A n c, .string x] w fun e w' => e = .returned (.bool b) ∧ w = w' := by
  have H := Lib.hid (index67 A n c l x w hn hr)
  have HB := Lib.hid hb
  clear hb
  go_enter Try.func52, Try.ntmps52
  go_wp2_with fail
  refine H.out.mono ?_
  rintro e w1 ⟨⟨i, rfl, hi⟩, rfl⟩
  have HI := Lib.hid hi
  clear hi H
  cases b with
  | true =>
    have hd : (0 : Int) ≤ i := HI.out.2 (HB.out.1 rfl)
    go_wp2
    go_ret
    exact ⟨rfl, rfl⟩
  | false =>
    have hd : ¬ (0 : Int) ≤ i := fun h => by have := HB.out.2 (HI.out.1 h); cases this
    go_wp2
    go_ret
    exact ⟨ret_bool (decide_eq_false (by omega)), rfl⟩
end Go.Proofs.Ytkdnkieecchobaa
