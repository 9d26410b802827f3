/- Pairs, how they lie in memory, and what Fresh does with them. -/
import Derived.Test.YtjdhgokcbcidlaaWa
import Derived.Test.YtjdhgokcbcidlaaOff
import Derived.Deep.DeepCutAuto
import Derived.Outline
namespace Go.Proofs.Ytjdhgokcbcidlaa
open Go.RowKit Go.BigFrame
set_option linter.unusedVariables false

structure Pr where
  source : Int
  seq : Int
deriving DecidableEq
def encP (p : Pr) : List Value := [.int .i64 p.source, .int .i64 p.seq]
abbrev prV (p : Pr) : Value := .agg #[.int .i64 p.source, .int .i64 p.seq]
theorem encP_one (m : Pr) : ∀ u ∈ encP m, u.oneCell' = true := by
  intro u hu
  simp [encP] at hu
  rcases hu with rfl | rfl <;> rfl
def EP : Enc Pr := ⟨encP, 2, by omega, fun _ => rfl, encP_one⟩
theorem info43 : (Try.prog.info? 43).map (fun i => (i.zero, i.size, i.bytes)) = some (some (.agg #[.int .i64 0, .int .i64 0]), 2, 16) := by kernel_rfl
theorem pr_at {w : World} {A : Option Addr} {n : Nat} {l : List Pr} (h : Rd w EP A n l) {k : Nat} (hk : k < n) :
    ∃ (b off : Nat) (a : Pr), A = some ⟨b, off, none⟩ ∧ l[k]? = some a ∧ w.cell? ⟨b, off + k * 2, none⟩ = some (.int .i64 a.source) ∧ w.cell? ⟨b, off + k * 2 + 1, none⟩ = some (.int .i64 a.seq) := by
  obtain ⟨b, off, a, e1, e2, hc⟩ := h.elem hk
  exact ⟨b, off, a, e1, e2, hc 0 _ rfl, hc 1 _ rfl⟩
theorem pr_one (a : Pr) (w : World) (t : TypeId) : Rd (w.alloc (.cells #[.int .i64 a.source, .int .i64 a.seq] t)) EP (some ⟨w.heap.size, 0, none⟩) 1 [a] := Rd.one_new w EP a t
theorem pr_ext {a b : Pr} (h0 : a.source = b.source) (h1 : a.seq = b.seq) : a = b := by
  obtain ⟨⟩ := a; obtain ⟨⟩ := b
  simp at h0 h1
  subst h0 h1; rfl
theorem eql43 (a b : Pr) (w : World) : (binOp .eql 43 (prV a) (prV b)).run Try.prog w = .ok (.bool (decide (a = b))) w := by
  rw [run_eql_struct, run_equalIn_struct w 9999 43 _ _ (by kernel_rfl) (by kernel_rfl)]
  by_cases h : a = b
  · subst h; simp [go_sem]
  · rw [show decide (a = b) = false from decide_eq_false h]
    simp [go_sem]
    intro h0 h1
    exact h (pr_ext h0 h1)
theorem neq43 (a b : Pr) (w : World) : (binOp .neq 43 (prV a) (prV b)).run Try.prog w = .ok (.bool (!decide (a = b))) w := by
  rw [run_neq_struct, run_equalIn_struct w 9999 43 _ _ (by kernel_rfl) (by kernel_rfl)]
  by_cases h : a = b
  · subst h; simp [go_sem]
  · rw [show decide (a = b) = false from decide_eq_false h]
    simp [go_sem]
    intro h0 h1
    exact h (pr_ext h0 h1)

/-- Fresh -/
def last32 (l : List Pr) : List Pr := l.drop (l.length - 32)
def frs (l : List Pr) (p : Pr) : List Pr × Bool := if p ∈ last32 l then (last32 l, false) else (last32 (last32 l ++ [p]), true)
theorem last32_len (l : List Pr) : (last32 l).length = min l.length 32 := by unfold last32; rw [List.length_drop]; omega
theorem frs_len (l : List Pr) (p : Pr) : (frs l p).1.length ≤ 32 := by
  unfold frs
  split <;> (rw [last32_len]; omega)

/-- a result that is a list of pairs, and a bool -/
def FrEnd (w : World) (r : List Pr × Bool) (en : Ending) (w' : World) : Prop :=
  ∃ (A : Option Addr) (n cap : Nat), en = .returned (.tuple #[.slice A n cap, .bool r.2]) ∧ Rd w' EP A n r.1 ∧ n ≤ cap ∧ cap ≤ 9223372036854775807 ∧ Below w.heap.size w w'
def PsEnd (w : World) (l : List Pr) (en : Ending) (w' : World) : Prop :=
  ∃ (A : Option Addr) (n cap : Nat), en = .returned (.slice A n cap) ∧ Ow w' w.heap.size 43 EP (.slice A n cap) n l ∧ Below w.heap.size w w'

set_option maxHeartbeats 400000 in
theorem clone27 (A : Option Addr) (n cap : Nat) (l : List Pr) (w : World) (hn : n ≤ 100) (hr : Rd w EP A n l) : Calls Try.prog 27 #[.slice A n cap] w (PsEnd w l) := by
  obtain ⟨i0, hi0, hz0, hz1, hz2⟩ := info_parts info43
  rcases A with _ | a
  · have h1 : n = 0 := by
      rcases Nat.eq_zero_or_pos n with h0 | h0
      · exact h0
      · obtain ⟨b, off, e1, _⟩ := hr.2 h0
        cases e1
    subst h1
    obtain rfl : l = [] := List.eq_nil_of_length_eq_zero hr.1
    have he := fun (w : World) => Lib.run_eql_slice_nil (P := Try.prog) w 41 43 none 0 cap 0 0 Try.underlying41
    go_enter Try.func27, Try.ntmps27
    go_wp2
    go_ret
    exact ⟨none, 0, 0, rfl, Ow.nil _ _ _ _, Below.refl _ _⟩
  · have he := fun (w : World) => Lib.run_eql_slice_nil (P := Try.prog) w 41 43 (some a) n cap 0 0 Try.underlying41
    go_enter Try.func27, Try.ntmps27
    go_wp2_with (at_builtin; refine wpList_append_rd _ rfl (.tmp 5) (.tmp 6) 41 rfl w.heap.size 43 i0 _ EP Try.underlying41 hi0 hz0 hz1 rfl (.slice (some ⟨w.heap.size, 0, none⟩) 0 0) 0 [] rfl ⟨rfl, World.ownsRow_made w #[] 0 (Nat.le_refl _) (Nat.zero_le _) rfl⟩ (some a) n cap l rfl (hr.later ((Below.refl _ _).alloc (Nat.le_refl _) _)) (by unfold maxLen; omega) (by rw [hz2]; omega) (by simp) ?_; intro A1 cap1 w1 hown hg)
    go_ret
    exact ⟨A1, n, cap1, (by simp), by simpa using hown, ((Below.refl _ _).alloc (Nat.le_refl _) _).grown hg (by simp) (fun k hk => by simp [Value.ownBlock] at hk; omega)⟩

set_option maxHeartbeats 1000000 in
theorem index32 (A : Option Addr) (n cap : Nat) (l : List Pr) (p : Pr) (w : World) (hn : n ≤ 100) (hr : Rd w EP A n l) :
    Calls Try.prog 32 #[.slice A n cap, prV p] w fun e w' => (∃ i : Int, e = .returned (.int .i64 i) ∧ decide (0 ≤ i) = decide (p ∈ l)) ∧ Below w.heap.size w w' := by
  obtain ⟨W, hW, hB, hz, hk⟩ := boxed w #[.int .i64 p.source, .int .i64 p.seq] 43
  go_enter Try.func32, Try.ntmps32
  go_wp2
  go_loopw [8] (fun i wr => ∃ j : Nat, j ≤ n ∧ i = .int .i64 j ∧ p ∉ l.take j ∧ Blk wr w.heap.size 43 #[.int .i64 p.source, .int .i64 p.seq] ∧ Below w.heap.size w wr) (fun i _ => n - (intOf i).toNat)
  case atStart => exact ⟨0, by omega, rfl, by simp, hk, hB⟩
  case round =>
    clear hk hB hz hW
    obtain ⟨j, hj, rfl, hnot, hkr, hbr⟩ := hrel
    have hrr := hr.later hbr
    by_cases hlt : j < n
    · obtain ⟨b, off, a, rfl, hla, q0, q1⟩ := pr_at hrr hlt
      have Q0 := After.cell q0
      have Q1 := After.cell q1
      have P0 := After.cell (hkr.at 0 (v := .int .i64 p.source) rfl)
      have P1 := After.cell (hkr.at 1 (v := .int .i64 p.seq) rfl)
      by_cases hpa : p = a
      · have he := fun w => (eql43 p a w).trans (by rw [decide_eq_true hpa])
        have HI := Lib.hid (show p ∈ l by rw [hpa]; exact List.mem_of_getElem? hla)
        clear q0 q1 hrr hnot hla hpa hr
        go_wp2
        refine wp_region_after (by kernel_rfl) (by kernel_rfl) ?_
        repeat (go_big_quiet_step (fail))
        refine wpQuiet_nil ?_
        intro w1 hb1
        have hB1 := hbr.trans (hb1.mono hbr.size)
        clear Q0 Q1 P0 P1 hb1
        go_wp2
        go_ret
        exact ⟨⟨_, rfl, by rw [decide_eq_true HI.out]; simp⟩, hB1⟩
      · have he := fun w => (eql43 p a w).trans (by rw [decide_eq_false hpa])
        have HI := Lib.hid (show p ∉ l.take (j + 1) by
          rw [take_snoc hla]
          simp [hnot, hpa])
        clear q0 q1 hrr hnot hla hpa
        go_wp2
        refine wp_region_after (by kernel_rfl) (by kernel_rfl) ?_
        repeat (go_big_quiet_step (fail))
        refine wpQuiet_nil ?_
        intro w1 hb1
        have hB1 := hbr.trans (hb1.mono hbr.size)
        have hk1 := hkr.later hb1
        clear Q0 Q1 P0 P1 hb1
        go_wp2
        go_roundw
        case rel => exact ⟨j + 1, by omega, by go_num, HI.out, hk1, hB1⟩
        case measure => simp [intOf]; omega
    · have HI := Lib.hid (show p ∉ l by rwa [List.take_of_length_le (by rw [hr.1]; omega)] at hnot)
      clear hnot
      go_wp2
      go_ret
      exact ⟨⟨_, rfl, by rw [decide_eq_false HI.out]; simp⟩, hbr⟩
end Go.Proofs.Ytjdhgokcbcidlaa
