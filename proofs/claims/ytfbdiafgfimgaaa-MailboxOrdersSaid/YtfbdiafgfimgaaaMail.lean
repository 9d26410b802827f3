/- Frames and mails, and how they lie in memory. -/
import Derived.Test.YtfbdiafgfimgaaaRow
import Derived.Lib.SliceRun
import Derived.Laws.StructEq
namespace Go.Proofs.Ytfbdiafgfimgaaa
open Go.RowKit

structure Fr where
  kind : Int
  src : Int
  to : Int
  source : Int
  target : Int
  seq : Int
  hops : Int
  urgent : Bool
  data : ByteArray
structure Mail where
  f : Fr
  since : Int

def encF (f : Fr) : List Value := [.int .i64 f.kind, .int .i64 f.src, .int .i64 f.to, .int .i64 f.source, .int .i64 f.target, .int .i64 f.seq, .int .i64 f.hops, .bool f.urgent, .string f.data]
def encM (m : Mail) : List Value := [.int .i64 m.f.kind, .int .i64 m.f.src, .int .i64 m.f.to, .int .i64 m.f.source, .int .i64 m.f.target, .int .i64 m.f.seq, .int .i64 m.f.hops, .bool m.f.urgent, .string m.f.data, .int .i64 m.since]
abbrev frV (f : Fr) : Value := .agg #[.int .i64 f.kind, .int .i64 f.src, .int .i64 f.to, .int .i64 f.source, .int .i64 f.target, .int .i64 f.seq, .int .i64 f.hops, .bool f.urgent, .string f.data]
abbrev maV (m : Mail) : Value := .agg #[.int .i64 m.f.kind, .int .i64 m.f.src, .int .i64 m.f.to, .int .i64 m.f.source, .int .i64 m.f.target, .int .i64 m.f.seq, .int .i64 m.f.hops, .bool m.f.urgent, .string m.f.data, .int .i64 m.since]
theorem encM_one (m : Mail) : ∀ u ∈ encM m, u.oneCell' = true := by
  intro u hu
  simp [encM] at hu
  rcases hu with rfl | rfl | rfl | rfl | rfl | rfl | rfl | rfl | rfl | rfl <;> rfl
theorem encF_one (m : Fr) : ∀ u ∈ encF m, u.oneCell' = true := by
  intro u hu
  simp [encF] at hu
  rcases hu with rfl | rfl | rfl | rfl | rfl | rfl | rfl | rfl | rfl <;> rfl
def EM : Enc Mail := ⟨encM, 10, by omega, fun _ => rfl, encM_one⟩
def EF : Enc Fr := ⟨encF, 9, by omega, fun _ => rfl, encF_one⟩
def m0 : Mail := ⟨⟨0, 0, 0, 0, 0, 0, 0, false, .empty⟩, 0⟩

theorem EM_size : EM.size = 10 := rfl
theorem info33 : (Try.prog.info? 33).map (fun i => (i.zero, i.size, i.bytes)) = some (some (.agg #[.int .i64 0, .int .i64 0, .int .i64 0, .int .i64 0, .int .i64 0, .int .i64 0, .int .i64 0, .bool false, .string .empty, .int .i64 0]), 10, 88) := by kernel_rfl

/-- The ten cells of a mail that is read. -/
theorem mail_at {w : World} {A : Option Addr} {n : Nat} {l : List Mail} (h : Rd w EM A n l) {k : Nat} (hk : k < n) :
    ∃ (b off : Nat) (a : Mail), A = some ⟨b, off, none⟩ ∧ l[k]? = some a ∧
      w.cell? ⟨b, off + k * 10, none⟩ = some (.int .i64 a.f.kind) ∧ w.cell? ⟨b, off + k * 10 + 1, none⟩ = some (.int .i64 a.f.src) ∧ w.cell? ⟨b, off + k * 10 + 2, none⟩ = some (.int .i64 a.f.to) ∧
      w.cell? ⟨b, off + k * 10 + 3, none⟩ = some (.int .i64 a.f.source) ∧ w.cell? ⟨b, off + k * 10 + 4, none⟩ = some (.int .i64 a.f.target) ∧ w.cell? ⟨b, off + k * 10 + 5, none⟩ = some (.int .i64 a.f.seq) ∧
      w.cell? ⟨b, off + k * 10 + 6, none⟩ = some (.int .i64 a.f.hops) ∧ w.cell? ⟨b, off + k * 10 + 7, none⟩ = some (.bool a.f.urgent) ∧ w.cell? ⟨b, off + k * 10 + 8, none⟩ = some (.string a.f.data) ∧
      w.cell? ⟨b, off + k * 10 + 9, none⟩ = some (.int .i64 a.since) := by
  obtain ⟨b, off, a, e1, e2, hc⟩ := h.elem hk
  exact ⟨b, off, a, e1, e2, hc 0 _ rfl, hc 1 _ rfl, hc 2 _ rfl, hc 3 _ rfl, hc 4 _ rfl, hc 5 _ rfl, hc 6 _ rfl, hc 7 _ rfl, hc 8 _ rfl, hc 9 _ rfl⟩

/-- A result that is a slice of mails of the call's own. -/
def SlEnd (w : World) (l : List Mail) (en : Ending) (w' : World) : Prop :=
  ∃ (A : Option Addr) (n cap : Nat), en = .returned (.slice A n cap) ∧ Ow w' w.heap.size 33 EM (.slice A n cap) n l ∧ Below w.heap.size w w'

/-- a tick, limited -/
def lim (n : Int) : Int := if n < 0 then 0 else if 1099511627776 < n then 1099511627776 else n
theorem lim_bd (n : Int) : 0 ≤ lim n ∧ lim n ≤ 1099511627776 := by
  unfold lim
  split
  · omega
  · split <;> omega
theorem tick21 (n : Int) (w : World) : Calls Try.prog 21 #[.int .i64 n] w fun e w' => e = .returned (.int .i64 (lim n)) ∧ w = w' := by
  go_enter Try.func21, Try.ntmps21
  go_wp2
  all_goals go_ret
  all_goals go_light
  all_goals refine ⟨ret_int ?_, rfl⟩
  all_goals (unfold lim; (repeat' split) <;> omega)
theorem limit30 (n : Int) (w : World) : Calls Try.prog 30 #[.int .i64 n] w fun e w' => e = .returned (.int .i64 (lim n)) ∧ w = w' := by
  go_enter Try.func30, Try.ntmps30
  go_wp2
  all_goals go_ret
  all_goals go_light
  all_goals refine ⟨ret_int ?_, rfl⟩
  all_goals (unfold lim; (repeat' split) <;> omega)
set_option maxHeartbeats 400000 in
theorem clone22 (A : Option Addr) (n cap : Nat) (l : List Mail) (w : World) (hn : n ≤ 100) (hr : Rd w EM A n l) : Calls Try.prog 22 #[.slice A n cap] w (SlEnd w l) := by
  obtain ⟨i0, hi0, hz0, hz1, hz2⟩ := info_parts info33
  rcases A with _ | a
  · have h1 : n = 0 := by
      rcases Nat.eq_zero_or_pos n with h0 | h0
      · exact h0
      · obtain ⟨b, off, e1, _⟩ := hr.2 h0
        cases e1
    subst h1
    obtain rfl : l = [] := List.eq_nil_of_length_eq_zero hr.1
    have he := fun (w : World) => Lib.run_eql_slice_nil (P := Try.prog) w 22 33 none 0 cap 0 0 Try.underlying22
    go_enter Try.func22, Try.ntmps22
    go_wp2
    go_ret
    exact ⟨none, 0, 0, rfl, Ow.nil _ _ _ _, Below.refl _ _⟩
  · have he := fun (w : World) => Lib.run_eql_slice_nil (P := Try.prog) w 22 33 (some a) n cap 0 0 Try.underlying22
    go_enter Try.func22, Try.ntmps22
    go_wp2_with (at_builtin; refine wpList_append_rd _ rfl (.tmp 5) (.tmp 6) 22 rfl w.heap.size 33 i0 _ EM Try.underlying22 hi0 hz0 hz1 rfl (.slice (some ⟨w.heap.size, 0, none⟩) 0 0) 0 [] rfl ⟨rfl, World.ownsRow_made w #[] 0 (Nat.le_refl _) (Nat.zero_le _) rfl⟩ (some a) n cap l rfl (hr.later ((Below.refl _ _).alloc (Nat.le_refl _) _)) (by unfold maxLen; omega) (by rw [hz2]; omega) (by simp) ?_; intro A1 cap1 w1 hown hg)
    go_ret
    exact ⟨A1, n, cap1, (by simp), by simpa using hown, ((Below.refl _ _).alloc (Nat.le_refl _) _).grown hg (by simp) (fun k hk => by simp [Value.ownBlock] at hk; omega)⟩

theorem take_snoc {l : List Mail} {k : Nat} {a : Mail} (h : l[k]? = some a) : l.take (k + 1) = l.take k ++ [a] := by
  have hlt : k < l.length := (List.getElem?_eq_some_iff.1 h).1
  rw [List.take_succ_eq_append_getElem hlt, (List.getElem?_eq_some_iff.1 h).2]
theorem mail_one (a : Mail) (w : World) (t : TypeId) : Rd (w.alloc (.cells #[.int .i64 a.f.kind, .int .i64 a.f.src, .int .i64 a.f.to, .int .i64 a.f.source, .int .i64 a.f.target, .int .i64 a.f.seq, .int .i64 a.f.hops, .bool a.f.urgent, .string a.f.data, .int .i64 a.since] t)) EM (some ⟨w.heap.size, 0, none⟩) 1 [a] := Rd.one_new w EM a t

set_option maxHeartbeats 1000000 in
theorem first28 (A : Option Addr) (n cap : Nat) (l : List Mail) (w : World) (hn : n ≤ 9223372036854775807) (hr : Rd w EM A n l) : Calls Try.prog 28 #[.slice A n cap] w (SlEnd w (l.take 16)) := by
  obtain ⟨i0, hi0, hz0, hz1, hz2⟩ := info_parts info33
  go_enter Try.func28, Try.ntmps28
  go_wp2
  go_loopw [3, 4] (fun v i wr => ∃ (k m cap' : Nat) (A' : Option Addr), k ≤ n ∧ k ≤ 16 ∧ i = .int .i64 k ∧ v = .slice A' k cap' ∧ Ow wr w.heap.size 33 EM (.slice A' k cap') k (l.take k) ∧ Below w.heap.size w wr) (fun _ i _ => 16 - (intOf i).toNat)
  case atStart => exact ⟨0, 0, 0, none, by omega, by omega, rfl, rfl, Ow.nil _ _ _ _, Below.refl _ _⟩
  case round =>
    obtain ⟨k, m, cap', A', hk, hk16, rfl, rfl, hown, hbr⟩ := hrel
    have hrr := hr.later hbr
    by_cases hlt : k < n ∧ k < 16
    · obtain ⟨hlt, hl16⟩ := hlt
      obtain ⟨b, off, a, rfl, hla, q0, q1, q2, q3, q4, q5, q6, q7, q8, q9⟩ := mail_at hrr hlt
      have HT := Lib.hid (take_snoc hla)
      go_wp2_with (at_builtin; refine wpList_append_rd _ rfl (.tmp 15) (.tmp 20) 22 rfl w.heap.size 33 i0 _ EM Try.underlying22 hi0 hz0 hz1 rfl (.slice A' k cap') k (l.take k) rfl (hown.later ((Below.refl _ _).alloc (Nat.le_refl _) _)) (some ⟨wr.heap.size, 0, none⟩) 1 1 [a] rfl (mail_one a wr 33) (by unfold maxLen; omega) (by rw [hz2]; omega) (by have := hbr.size; simp; omega) ?_; intro A1 cap1 w1 hown1 hg)
      have hb1 : Below w.heap.size w w1 := Below.row (hbr.alloc hbr.size _) hg (by have := hbr.size; simp; omega) (Nat.le_refl _) (hown.later ((Below.refl _ _).alloc (Nat.le_refl _) _)).lt
      rw [← HT.out] at hown1
      clear hg hown hbr hrr
      go_wp2
      go_roundw
      case rel => exact ⟨k + 1, 0, cap1, A1, by omega, by omega, by go_num, rfl, hown1, hb1⟩
      case measure => simp [intOf]; omega
    · have HE := Lib.hid (show l.take k = l.take 16 by
        rcases Nat.lt_or_ge k 16 with c | c
        · rw [List.take_of_length_le (by rw [hr.1]; omega), List.take_of_length_le (by rw [hr.1]; omega)]
        · rw [show k = 16 by omega])
      by_cases hlt2 : k < n
      all_goals
        go_wp2
        go_ret
        exact ⟨A', k, cap', rfl, by rw [← HE.out]; exact hown, hbr⟩

theorem bytes_toList {a b : ByteArray} (h : a.toList = b.toList) : a = b := by
  rw [ByteArray.toList_eq, ByteArray.toList_eq] at h
  obtain ⟨⟨x⟩⟩ := a
  obtain ⟨⟨y⟩⟩ := b
  simp at h
  subst h; rfl
theorem fr_ext {a b : Fr} (h0 : a.kind = b.kind) (h1 : a.src = b.src) (h2 : a.to = b.to) (h3 : a.source = b.source) (h4 : a.target = b.target) (h5 : a.seq = b.seq) (h6 : a.hops = b.hops) (h7 : a.urgent = b.urgent) (h8 : a.data = b.data) : a = b := by
  obtain ⟨⟩ := a; obtain ⟨⟩ := b
  simp at h0 h1 h2 h3 h4 h5 h6 h7 h8
  subst h0 h1 h2 h3 h4 h5 h6 h7 h8; rfl
theorem mail_ext {a b : Mail} (h0 : a.f = b.f) (h1 : a.since = b.since) : a = b := by
  obtain ⟨⟩ := a; obtain ⟨⟩ := b
  simp at h0 h1
  subst h0 h1; rfl
theorem neq33_same {a b : Mail} (h : a = b) (w : World) : (binOp .neq 33 (maV a) (maV b)).run Try.prog w = .ok (.bool false) w := by
  subst h
  rw [run_neq_struct, run_equalIn_struct w 9999 33 _ _ (by kernel_rfl) (by kernel_rfl)]
  simp [go_sem]
theorem neq33_diff {a b : Mail} (h : a ≠ b) (w : World) : (binOp .neq 33 (maV a) (maV b)).run Try.prog w = .ok (.bool true) w := by
  rw [run_neq_struct, run_equalIn_struct w 9999 33 _ _ (by kernel_rfl) (by kernel_rfl)]
  simp [go_sem]
  intro h0 h1 h2 h3 h4 h5 h6 h7 h8 h9
  exact h (mail_ext (fr_ext h0 h1 h2 h3 h4 h5 h6 h7 (bytes_toList h8)) h9)
theorem eql24_same {a b : Fr} (h : a = b) (w : World) : (binOp .eql 24 (frV a) (frV b)).run Try.prog w = .ok (.bool true) w := by
  subst h
  rw [run_eql_struct, run_equalIn_struct w 9999 24 _ _ (by kernel_rfl) (by kernel_rfl)]
  simp [go_sem]
theorem eql24_diff {a b : Fr} (h : a ≠ b) (w : World) : (binOp .eql 24 (frV a) (frV b)).run Try.prog w = .ok (.bool false) w := by
  rw [run_eql_struct, run_equalIn_struct w 9999 24 _ _ (by kernel_rfl) (by kernel_rfl)]
  simp [go_sem]
  intro h0 h1 h2 h3 h4 h5 h6 h7 h8
  exact h (fr_ext h0 h1 h2 h3 h4 h5 h6 h7 (bytes_toList h8))
theorem neq24_same {a b : Fr} (h : a = b) (w : World) : (binOp .neq 24 (frV a) (frV b)).run Try.prog w = .ok (.bool false) w := by
  subst h
  rw [run_neq_struct, run_equalIn_struct w 9999 24 _ _ (by kernel_rfl) (by kernel_rfl)]
  simp [go_sem]
theorem neq24_diff {a b : Fr} (h : a ≠ b) (w : World) : (binOp .neq 24 (frV a) (frV b)).run Try.prog w = .ok (.bool true) w := by
  rw [run_neq_struct, run_equalIn_struct w 9999 24 _ _ (by kernel_rfl) (by kernel_rfl)]
  simp [go_sem]
  intro h0 h1 h2 h3 h4 h5 h6 h7 h8
  exact h (fr_ext h0 h1 h2 h3 h4 h5 h6 h7 (bytes_toList h8))
end Go.Proofs.Ytfbdiafgfimgaaa
