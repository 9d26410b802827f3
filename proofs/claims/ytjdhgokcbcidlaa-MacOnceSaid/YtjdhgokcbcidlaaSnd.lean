/- Frames and mails, and how they lie in memory. -/
import Derived.Test.YtjdhgokcbcidlaaRow
import Derived.Lib.SliceRun
import Derived.Laws.StructEq
namespace Go.Proofs.Ytjdhgokcbcidlaa
open Go.RowKit

structure Fr where
  kind : Int
  src : Int
  to : Int
  source : Int
  target : Int
  seq : Int
  hops : Int
  urgent : Bool
  data : ByteArray
structure Sn where
  f : Fr
  tries : Int
  wait : Int

def encF (f : Fr) : List Value := [.int .i64 f.kind, .int .i64 f.src, .int .i64 f.to, .int .i64 f.source, .int .i64 f.target, .int .i64 f.seq, .int .i64 f.hops, .bool f.urgent, .string f.data]
def encS (m : Sn) : List Value := [.int .i64 m.f.kind, .int .i64 m.f.src, .int .i64 m.f.to, .int .i64 m.f.source, .int .i64 m.f.target, .int .i64 m.f.seq, .int .i64 m.f.hops, .bool m.f.urgent, .string m.f.data, .int .i64 m.tries, .int .i64 m.wait]
abbrev frV (f : Fr) : Value := .agg #[.int .i64 f.kind, .int .i64 f.src, .int .i64 f.to, .int .i64 f.source, .int .i64 f.target, .int .i64 f.seq, .int .i64 f.hops, .bool f.urgent, .string f.data]
abbrev snV (m : Sn) : Value := .agg #[.int .i64 m.f.kind, .int .i64 m.f.src, .int .i64 m.f.to, .int .i64 m.f.source, .int .i64 m.f.target, .int .i64 m.f.seq, .int .i64 m.f.hops, .bool m.f.urgent, .string m.f.data, .int .i64 m.tries, .int .i64 m.wait]
theorem encS_one (m : Sn) : ∀ u ∈ encS m, u.oneCell' = true := by
  intro u hu
  simp [encS] at hu
  rcases hu with rfl | rfl | rfl | rfl | rfl | rfl | rfl | rfl | rfl | rfl | rfl <;> rfl
theorem encF_one (m : Fr) : ∀ u ∈ encF m, u.oneCell' = true := by
  intro u hu
  simp [encF] at hu
  rcases hu with rfl | rfl | rfl | rfl | rfl | rfl | rfl | rfl | rfl <;> rfl
def ES : Enc Sn := ⟨encS, 11, by omega, fun _ => rfl, encS_one⟩
def EF : Enc Fr := ⟨encF, 9, by omega, fun _ => rfl, encF_one⟩
def m0 : Sn := ⟨⟨0, 0, 0, 0, 0, 0, 0, false, .empty⟩, 0, 0⟩

theorem ES_size : ES.size = 11 := rfl
theorem info35 : (Try.prog.info? 35).map (fun i => (i.zero, i.size, i.bytes)) = some (some (.agg #[.int .i64 0, .int .i64 0, .int .i64 0, .int .i64 0, .int .i64 0, .int .i64 0, .int .i64 0, .bool false, .string .empty, .int .i64 0, .int .i64 0]), 11, 96) := by kernel_rfl

/-- The ten cells of a mail that is read. -/
theorem snd_at {w : World} {A : Option Addr} {n : Nat} {l : List Sn} (h : Rd w ES A n l) {k : Nat} (hk : k < n) :
    ∃ (b off : Nat) (a : Sn), A = some ⟨b, off, none⟩ ∧ l[k]? = some a ∧
      w.cell? ⟨b, off + k * 11, none⟩ = some (.int .i64 a.f.kind) ∧ w.cell? ⟨b, off + k * 11 + 1, none⟩ = some (.int .i64 a.f.src) ∧ w.cell? ⟨b, off + k * 11 + 2, none⟩ = some (.int .i64 a.f.to) ∧
      w.cell? ⟨b, off + k * 11 + 3, none⟩ = some (.int .i64 a.f.source) ∧ w.cell? ⟨b, off + k * 11 + 4, none⟩ = some (.int .i64 a.f.target) ∧ w.cell? ⟨b, off + k * 11 + 5, none⟩ = some (.int .i64 a.f.seq) ∧
      w.cell? ⟨b, off + k * 11 + 6, none⟩ = some (.int .i64 a.f.hops) ∧ w.cell? ⟨b, off + k * 11 + 7, none⟩ = some (.bool a.f.urgent) ∧ w.cell? ⟨b, off + k * 11 + 8, none⟩ = some (.string a.f.data) ∧
      w.cell? ⟨b, off + k * 11 + 9, none⟩ = some (.int .i64 a.tries) ∧ w.cell? ⟨b, off + k * 11 + 10, none⟩ = some (.int .i64 a.wait) := by
  obtain ⟨b, off, a, e1, e2, hc⟩ := h.elem hk
  exact ⟨b, off, a, e1, e2, hc 0 _ rfl, hc 1 _ rfl, hc 2 _ rfl, hc 3 _ rfl, hc 4 _ rfl, hc 5 _ rfl, hc 6 _ rfl, hc 7 _ rfl, hc 8 _ rfl, hc 9 _ rfl, hc 10 _ rfl⟩

/-- A result that is a slice of mails of the call's own. -/
def SlEnd (w : World) (l : List Sn) (en : Ending) (w' : World) : Prop :=
  ∃ (A : Option Addr) (n cap : Nat), en = .returned (.slice A n cap) ∧ Ow w' w.heap.size 35 ES (.slice A n cap) n l ∧ Below w.heap.size w w'

set_option maxHeartbeats 400000 in
theorem clone29 (A : Option Addr) (n cap : Nat) (l : List Sn) (w : World) (hn : n ≤ 100) (hr : Rd w ES A n l) : Calls Try.prog 29 #[.slice A n cap] w (SlEnd w l) := by
  obtain ⟨i0, hi0, hz0, hz1, hz2⟩ := info_parts info35
  rcases A with _ | a
  · have h1 : n = 0 := by
      rcases Nat.eq_zero_or_pos n with h0 | h0
      · exact h0
      · obtain ⟨b, off, e1, _⟩ := hr.2 h0
        cases e1
    subst h1
    obtain rfl : l = [] := List.eq_nil_of_length_eq_zero hr.1
    have he := fun (w : World) => Lib.run_eql_slice_nil (P := Try.prog) w 22 35 none 0 cap 0 0 Try.underlying22
    go_enter Try.func29, Try.ntmps29
    go_wp2
    go_ret
    exact ⟨none, 0, 0, rfl, Ow.nil _ _ _ _, Below.refl _ _⟩
  · have he := fun (w : World) => Lib.run_eql_slice_nil (P := Try.prog) w 22 35 (some a) n cap 0 0 Try.underlying22
    go_enter Try.func29, Try.ntmps29
    go_wp2_with (at_builtin; refine wpList_append_rd _ rfl (.tmp 5) (.tmp 6) 22 rfl w.heap.size 35 i0 _ ES Try.underlying22 hi0 hz0 hz1 rfl (.slice (some ⟨w.heap.size, 0, none⟩) 0 0) 0 [] rfl ⟨rfl, World.ownsRow_made w #[] 0 (Nat.le_refl _) (Nat.zero_le _) rfl⟩ (some a) n cap l rfl (hr.later ((Below.refl _ _).alloc (Nat.le_refl _) _)) (by unfold maxLen; omega) (by rw [hz2]; omega) (by simp) ?_; intro A1 cap1 w1 hown hg)
    go_ret
    exact ⟨A1, n, cap1, (by simp), by simpa using hown, ((Below.refl _ _).alloc (Nat.le_refl _) _).grown hg (by simp) (fun k hk => by simp [Value.ownBlock] at hk; omega)⟩

theorem take_snoc {α : Type} {l : List α} {k : Nat} {a : α} (h : l[k]? = some a) : l.take (k + 1) = l.take k ++ [a] := by
  have hlt : k < l.length := (List.getElem?_eq_some_iff.1 h).1
  rw [List.take_succ_eq_append_getElem hlt, (List.getElem?_eq_some_iff.1 h).2]
theorem snd_one (a : Sn) (w : World) (t : TypeId) : Rd (w.alloc (.cells #[.int .i64 a.f.kind, .int .i64 a.f.src, .int .i64 a.f.to, .int .i64 a.f.source, .int .i64 a.f.target, .int .i64 a.f.seq, .int .i64 a.f.hops, .bool a.f.urgent, .string a.f.data, .int .i64 a.tries, .int .i64 a.wait] t)) ES (some ⟨w.heap.size, 0, none⟩) 1 [a] := Rd.one_new w ES a t

set_option maxHeartbeats 1000000 in
theorem first25 (A : Option Addr) (n cap : Nat) (l : List Sn) (w : World) (hn : n ≤ 9223372036854775807) (hr : Rd w ES A n l) : Calls Try.prog 25 #[.slice A n cap] w (SlEnd w (l.take 16)) := by
  obtain ⟨i0, hi0, hz0, hz1, hz2⟩ := info_parts info35
  go_enter Try.func25, Try.ntmps25
  go_wp2
  go_loopw [3, 4] (fun v i wr => ∃ (k m cap' : Nat) (A' : Option Addr), k ≤ n ∧ k ≤ 16 ∧ i = .int .i64 k ∧ v = .slice A' k cap' ∧ Ow wr w.heap.size 35 ES (.slice A' k cap') k (l.take k) ∧ Below w.heap.size w wr) (fun _ i _ => 16 - (intOf i).toNat)
  case atStart => exact ⟨0, 0, 0, none, by omega, by omega, rfl, rfl, Ow.nil _ _ _ _, Below.refl _ _⟩
  case round =>
    obtain ⟨k, m, cap', A', hk, hk16, rfl, rfl, hown, hbr⟩ := hrel
    have hrr := hr.later hbr
    by_cases hlt : k < n ∧ k < 16
    · obtain ⟨hlt, hl16⟩ := hlt
      obtain ⟨b, off, a, rfl, hla, q0, q1, q2, q3, q4, q5, q6, q7, q8, q9, q10⟩ := snd_at hrr hlt
      have HT := Lib.hid (take_snoc hla)
      go_wp2_with (at_builtin; refine wpList_append_rd _ rfl (.tmp 15) (.tmp 20) 22 rfl w.heap.size 35 i0 _ ES Try.underlying22 hi0 hz0 hz1 rfl (.slice A' k cap') k (l.take k) rfl (hown.later ((Below.refl _ _).alloc (Nat.le_refl _) _)) (some ⟨wr.heap.size, 0, none⟩) 1 1 [a] rfl (snd_one a wr 35) (by unfold maxLen; omega) (by rw [hz2]; omega) (by have := hbr.size; simp; omega) ?_; intro A1 cap1 w1 hown1 hg)
      have hb1 : Below w.heap.size w w1 := Below.row (hbr.alloc hbr.size _) hg (by have := hbr.size; simp; omega) (Nat.le_refl _) (hown.later ((Below.refl _ _).alloc (Nat.le_refl _) _)).lt
      rw [← HT.out] at hown1
      clear hg hown hbr hrr
      go_wp2
      go_roundw
      case rel => exact ⟨k + 1, 0, cap1, A1, by omega, by omega, by go_num, rfl, hown1, hb1⟩
      case measure => simp [intOf]; omega
    · have HE := Lib.hid (show l.take k = l.take 16 by
        rcases Nat.lt_or_ge k 16 with c | c
        · rw [List.take_of_length_le (by rw [hr.1]; omega), List.take_of_length_le (by rw [hr.1]; omega)]
        · rw [show k = 16 by omega])
      by_cases hlt2 : k < n
      all_goals
        go_wp2
        go_ret
        exact ⟨A', k, cap', rfl, by rw [← HE.out]; exact hown, hbr⟩

theorem bytes_toList {a b : ByteArray} (h : a.toList = b.toList) : a = b := by
  rw [ByteArray.toList_eq, ByteArray.toList_eq] at h
  obtain ⟨⟨x⟩⟩ := a
  obtain ⟨⟨y⟩⟩ := b
  simp at h
  subst h; rfl
theorem fr_ext {a b : Fr} (h0 : a.kind = b.kind) (h1 : a.src = b.src) (h2 : a.to = b.to) (h3 : a.source = b.source) (h4 : a.target = b.target) (h5 : a.seq = b.seq) (h6 : a.hops = b.hops) (h7 : a.urgent = b.urgent) (h8 : a.data = b.data) : a = b := by
  obtain ⟨⟩ := a; obtain ⟨⟩ := b
  simp at h0 h1 h2 h3 h4 h5 h6 h7 h8
  subst h0 h1 h2 h3 h4 h5 h6 h7 h8; rfl
theorem snd_ext {a b : Sn} (h0 : a.f = b.f) (h1 : a.tries = b.tries) (h2 : a.wait = b.wait) : a = b := by
  obtain ⟨⟩ := a; obtain ⟨⟩ := b
  simp at h0 h1 h2
  subst h0 h1 h2; rfl
theorem neq35_same {a b : Sn} (h : a = b) (w : World) : (binOp .neq 35 (snV a) (snV b)).run Try.prog w = .ok (.bool false) w := by
  subst h
  rw [run_neq_struct, run_equalIn_struct w 9999 35 _ _ (by kernel_rfl) (by kernel_rfl)]
  simp [go_sem]
theorem eql24_same {a b : Fr} (h : a = b) (w : World) : (binOp .eql 24 (frV a) (frV b)).run Try.prog w = .ok (.bool true) w := by
  subst h
  rw [run_eql_struct, run_equalIn_struct w 9999 24 _ _ (by kernel_rfl) (by kernel_rfl)]
  simp [go_sem]
theorem eql24_diff {a b : Fr} (h : a ≠ b) (w : World) : (binOp .eql 24 (frV a) (frV b)).run Try.prog w = .ok (.bool false) w := by
  rw [run_eql_struct, run_equalIn_struct w 9999 24 _ _ (by kernel_rfl) (by kernel_rfl)]
  simp [go_sem]
  intro h0 h1 h2 h3 h4 h5 h6 h7 h8
  exact h (fr_ext h0 h1 h2 h3 h4 h5 h6 h7 (bytes_toList h8))
theorem neq24_same {a b : Fr} (h : a = b) (w : World) : (binOp .neq 24 (frV a) (frV b)).run Try.prog w = .ok (.bool false) w := by
  subst h
  rw [run_neq_struct, run_equalIn_struct w 9999 24 _ _ (by kernel_rfl) (by kernel_rfl)]
  simp [go_sem]
theorem neq24_diff {a b : Fr} (h : a ≠ b) (w : World) : (binOp .neq 24 (frV a) (frV b)).run Try.prog w = .ok (.bool true) w := by
  rw [run_neq_struct, run_equalIn_struct w 9999 24 _ _ (by kernel_rfl) (by kernel_rfl)]
  simp [go_sem]
  intro h0 h1 h2 h3 h4 h5 h6 h7 h8
  exact h (fr_ext h0 h1 h2 h3 h4 h5 h6 h7 (bytes_toList h8))
end Go.Proofs.Ytjdhgokcbcidlaa
