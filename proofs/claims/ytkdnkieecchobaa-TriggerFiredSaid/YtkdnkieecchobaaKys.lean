/- Keys, events, texts: how they lie in memory, their order; the walks of the functions that compare them. -/
import Derived.Test.YtkdnkieecchobaaRdx
import Derived.Test.YtkdnkieecchobaaSrt
import Derived.Test.YtkdnkieecchobaaSet
import Derived.Lib.SliceRun
import Derived.Laws.StructEq
import Derived.Deep.DeepCutAuto
import Derived.Outline
namespace Go.Proofs.Ytkdnkieecchobaa
open Go.RowKit Go.BigFrame
set_option linter.unusedVariables false

structure Ky where
  dev : Int
  a : ByteArray
  b : ByteArray
def encK (p : Ky) : List Value := [.int .i64 p.dev, .string p.a, .string p.b]
def encT (s : ByteArray) : List Value := [.string s]
abbrev kyV (p : Ky) : Value := .agg #[.int .i64 p.dev, .string p.a, .string p.b]
theorem encK_one (m : Ky) : ∀ u ∈ encK m, u.oneCell' = true := by
  intro u hu
  simp [encK] at hu
  rcases hu with rfl | rfl | rfl <;> rfl
theorem encT_one (m : ByteArray) : ∀ u ∈ encT m, u.oneCell' = true := by
  intro u hu
  simp [encT] at hu
  subst hu; rfl
def EK : Enc Ky := ⟨encK, 3, by omega, fun _ => rfl, encK_one⟩
def ET : Enc ByteArray := ⟨encT, 1, by omega, fun _ => rfl, encT_one⟩
theorem info32 : (Try.prog.info? 32).map (fun i => (i.zero, i.size, i.bytes)) = some (some (.agg #[.int .i64 0, .string .empty, .string .empty]), 3, 40) := by kernel_rfl
theorem info34 : (Try.prog.info? 34).map (fun i => (i.zero, i.size, i.bytes)) = some (some (.agg #[.int .i64 0, .string .empty, .string .empty]), 3, 40) := by kernel_rfl
theorem info9 : (Try.prog.info? 9).map (fun i => (i.zero, i.size, i.bytes)) = some (some (.string .empty), 1, 16) := by kernel_rfl
theorem ky_at {w : World} {A : Option Addr} {n : Nat} {l : List Ky} (h : Rd w EK A n l) {k : Nat} (hk : k < n) :
    ∃ (b off : Nat) (x : Ky), A = some ⟨b, off, none⟩ ∧ l[k]? = some x ∧ w.cell? ⟨b, off + k * 3, none⟩ = some (.int .i64 x.dev) ∧ w.cell? ⟨b, off + k * 3 + 1, none⟩ = some (.string x.a) ∧ w.cell? ⟨b, off + k * 3 + 2, none⟩ = some (.string x.b) := by
  obtain ⟨b, off, x, e1, e2, hc⟩ := h.elem hk
  exact ⟨b, off, x, e1, e2, hc 0 _ rfl, hc 1 _ rfl, hc 2 _ rfl⟩
theorem tx_at {w : World} {A : Option Addr} {n : Nat} {l : List ByteArray} (h : Rd w ET A n l) {k : Nat} (hk : k < n) :
    ∃ (b off : Nat) (x : ByteArray), A = some ⟨b, off, none⟩ ∧ l[k]? = some x ∧ w.cell? ⟨b, off + k, none⟩ = some (.string x) := by
  obtain ⟨b, off, x, e1, e2, hc⟩ := h.elem hk
  have := hc 0 _ rfl
  rw [show k * ET.size = k from Nat.mul_one k, Nat.add_zero] at this
  exact ⟨b, off, x, e1, e2, this⟩
theorem ky_one (x : Ky) (w : World) (t : TypeId) : Rd (w.alloc (.cells #[.int .i64 x.dev, .string x.a, .string x.b] t)) EK (some ⟨w.heap.size, 0, none⟩) 1 [x] := Rd.one_new w EK x t
theorem tx_one (x : ByteArray) (w : World) (t : TypeId) : Rd (w.alloc (.cells #[.string x] t)) ET (some ⟨w.heap.size, 0, none⟩) 1 [x] := Rd.one_new w ET x t
theorem take_snoc {α : Type} {l : List α} {k : Nat} {a : α} (h : l[k]? = some a) : l.take (k + 1) = l.take k ++ [a] := by
  have hlt : k < l.length := (List.getElem?_eq_some_iff.1 h).1
  rw [List.take_succ_eq_append_getElem hlt, (List.getElem?_eq_some_iff.1 h).2]
theorem bytes_toList {a b : ByteArray} (h : a.toList = b.toList) : a = b := by
  rw [ByteArray.toList_eq, ByteArray.toList_eq] at h
  obtain ⟨⟨x⟩⟩ := a
  obtain ⟨⟨y⟩⟩ := b
  simp at h
  subst h; rfl
theorem ky_ext {p q : Ky} (h0 : p.dev = q.dev) (h1 : p.a = q.a) (h2 : p.b = q.b) : p = q := by
  obtain ⟨⟩ := p; obtain ⟨⟩ := q
  simp at h0 h1 h2
  subst h0 h1 h2; rfl
def sLt (x y : ByteArray) : Bool := Op.bytesLess x.toList y.toList
def kLt (p q : Ky) : Bool := if p.dev = q.dev then (if p.a.toList = q.a.toList then sLt p.b q.b else sLt p.a q.a) else decide (p.dev < q.dev)
theorem sLin : Lin sLt := ⟨fun a => bl_irr _, fun a b c => bl_tra _ _ _, fun a b h1 h2 => bytes_toList (bl_tri _ _ h1 h2)⟩
theorem kLin : Lin kLt := by
  refine ⟨fun p => ?_, fun p q r h1 h2 => ?_, fun p q h1 h2 => ?_⟩
  · unfold kLt; rw [if_pos rfl, if_pos rfl]; exact sLin.irr _
  · unfold kLt at h1 h2 ⊢
    by_cases e1 : p.dev = q.dev
    · by_cases e2 : q.dev = r.dev
      · rw [if_pos e1] at h1
        rw [if_pos e2] at h2
        rw [if_pos (e1.trans e2)]
        by_cases a1 : p.a.toList = q.a.toList
        · rw [if_pos a1] at h1
          by_cases a2 : q.a.toList = r.a.toList
          · rw [if_pos a2] at h2
            rw [if_pos (a1.trans a2)]
            exact sLin.tra _ _ _ h1 h2
          · rw [if_neg a2] at h2
            rw [if_neg (by rw [a1]; exact a2)]
            unfold sLt at h2 ⊢
            rw [a1]; exact h2
        · rw [if_neg a1] at h1
          by_cases a2 : q.a.toList = r.a.toList
          · rw [if_pos a2] at h2
            rw [if_neg (by rw [← a2]; exact a1)]
            unfold sLt at h1 ⊢
            rw [← a2]; exact h1
          · rw [if_neg a2] at h2
            have h3 := sLin.tra _ _ _ h1 h2
            rw [if_neg (fun e => by have := sLin.ne h3; exact this (bytes_toList e))]
            exact h3
      · rw [if_neg e2] at h2
        rw [if_neg (by rw [e1]; exact e2), e1]; exact h2
    · rw [if_neg e1] at h1
      by_cases e2 : q.dev = r.dev
      · rw [if_neg (by rw [← e2]; exact e1), ← e2]; exact h1
      · rw [if_neg e2] at h2
        have g1 := of_decide_eq_true h1
        have g2 := of_decide_eq_true h2
        rw [if_neg (by omega)]
        exact decide_eq_true (by omega)
  · unfold kLt at h1 h2
    by_cases e1 : p.dev = q.dev
    · rw [if_pos e1] at h1
      rw [if_pos e1.symm] at h2
      by_cases a1 : p.a.toList = q.a.toList
      · rw [if_pos a1] at h1
        rw [if_pos a1.symm] at h2
        exact ky_ext e1 (bytes_toList a1) (sLin.tri _ _ h1 h2)
      · rw [if_neg a1] at h1
        rw [if_neg (fun e => a1 e.symm)] at h2
        exact absurd (by rw [sLin.tri _ _ h1 h2]) a1
    · rw [if_neg e1] at h1
      rw [if_neg (fun e => e1 e.symm)] at h2
      have g1 := of_decide_eq_false h1
      have g2 := of_decide_eq_false h2
      omega

set_option maxHeartbeats 1000000 in
theorem less26 (p q : Ky) (w : World) : Calls Try.prog 26 #[kyV p, kyV q] w fun e w' => e = .returned (.bool (kLt p q)) ∧ Below w.heap.size w w' := by
  obtain ⟨W1, hW1, hB1, hz1, hk1⟩ := boxed w #[.int .i64 p.dev, .string p.a, .string p.b] 32
  obtain ⟨W2, hW2, hB2, hz2, hk2⟩ := boxed W1 #[.int .i64 q.dev, .string q.a, .string q.b] 32
  have hk1' := hk1.later hB2
  have hB := hB1.trans (hB2.mono hB1.size)
  have p0 := hk1'.at 0 (v := .int .i64 p.dev) rfl
  have p1 := hk1'.at 1 (v := .string p.a) rfl
  have p2 := hk1'.at 2 (v := .string p.b) rfl
  have q0 := hk2.at 0 (v := .int .i64 q.dev) rfl
  have q1 := hk2.at 1 (v := .string q.a) rfl
  have q2 := hk2.at 2 (v := .string q.b) rfl
  clear hk1 hk2 hk1' hB1 hB2
  by_cases hd : p.dev = q.dev
  · have h1 : (p.dev != q.dev) = false := by rw [hd]; simp
    by_cases ha : p.a.toList = q.a.toList
    · have h2 : (p.a.toList == q.a.toList) = true := by rw [ha]; simp
      have hr := Lib.hid (show kLt p q = Op.bytesLess p.b.toList q.b.toList by unfold kLt sLt; rw [if_pos hd, if_pos ha])
      clear hd ha
      go_enter Try.func26, Try.ntmps26
      go_wp2
      go_ret
      exact ⟨by rw [hr.out]; rfl, hB⟩
    · have h2 : (p.a.toList == q.a.toList) = false := by rw [beq_eq_false_iff_ne]; exact ha
      have hr := Lib.hid (show kLt p q = Op.bytesLess p.a.toList q.a.toList by unfold kLt sLt; rw [if_pos hd, if_neg ha])
      clear hd ha
      go_enter Try.func26, Try.ntmps26
      go_wp2
      go_ret
      exact ⟨by rw [hr.out]; rfl, hB⟩
  · have h1 : (p.dev != q.dev) = true := by rw [bne_iff_ne]; exact hd
    have hr := Lib.hid (show kLt p q = decide (p.dev < q.dev) by unfold kLt; rw [if_neg hd])
    clear hd
    go_enter Try.func26, Try.ntmps26
    go_wp2
    go_ret
    exact ⟨by rw [hr.out]; rfl, hB⟩

set_option maxHeartbeats 1000000 in
theorem less28 (p q : Ky) (w : World) : Calls Try.prog 28 #[kyV p, kyV q] w fun e w' => e = .returned (.bool (kLt p q)) ∧ Below w.heap.size w w' := by
  obtain ⟨W1, hW1, hB1, hz1, hk1⟩ := boxed w #[.int .i64 p.dev, .string p.a, .string p.b] 34
  obtain ⟨W2, hW2, hB2, hz2, hk2⟩ := boxed W1 #[.int .i64 q.dev, .string q.a, .string q.b] 34
  have hk1' := hk1.later hB2
  have hB := hB1.trans (hB2.mono hB1.size)
  have p0 := hk1'.at 0 (v := .int .i64 p.dev) rfl
  have p1 := hk1'.at 1 (v := .string p.a) rfl
  have p2 := hk1'.at 2 (v := .string p.b) rfl
  have q0 := hk2.at 0 (v := .int .i64 q.dev) rfl
  have q1 := hk2.at 1 (v := .string q.a) rfl
  have q2 := hk2.at 2 (v := .string q.b) rfl
  clear hk1 hk2 hk1' hB1 hB2
  by_cases hd : p.dev = q.dev
  · have h1 : (p.dev != q.dev) = false := by rw [hd]; simp
    by_cases ha : p.a.toList = q.a.toList
    · have h2 : (p.a.toList == q.a.toList) = true := by rw [ha]; simp
      have hr := Lib.hid (show kLt p q = Op.bytesLess p.b.toList q.b.toList by unfold kLt sLt; rw [if_pos hd, if_pos ha])
      clear hd ha
      go_enter Try.func28, Try.ntmps28
      go_wp2
      go_ret
      exact ⟨by rw [hr.out]; rfl, hB⟩
    · have h2 : (p.a.toList == q.a.toList) = false := by rw [beq_eq_false_iff_ne]; exact ha
      have hr := Lib.hid (show kLt p q = Op.bytesLess p.a.toList q.a.toList by unfold kLt sLt; rw [if_pos hd, if_neg ha])
      clear hd ha
      go_enter Try.func28, Try.ntmps28
      go_wp2
      go_ret
      exact ⟨by rw [hr.out]; rfl, hB⟩
  · have h1 : (p.dev != q.dev) = true := by rw [bne_iff_ne]; exact hd
    have hr := Lib.hid (show kLt p q = decide (p.dev < q.dev) by unfold kLt; rw [if_neg hd])
    clear hd
    go_enter Try.func28, Try.ntmps28
    go_wp2
    go_ret
    exact ⟨by rw [hr.out]; rfl, hB⟩

set_option maxHeartbeats 1000000 in
theorem less48 (p q : Ky) (w : World) : Calls Try.prog 48 #[kyV p, kyV q] w fun e w' => e = .returned (.bool (kLt p q)) ∧ Below w.heap.size w w' := by
  obtain ⟨W1, hW1, hB1, hz1, hk1⟩ := boxed w #[.int .i64 p.dev, .string p.a, .string p.b] 32
  obtain ⟨W2, hW2, hB2, hz2, hk2⟩ := boxed W1 #[.int .i64 q.dev, .string q.a, .string q.b] 32
  have hk1' := hk1.later hB2
  have hB := hB1.trans (hB2.mono hB1.size)
  have p0 := hk1'.at 0 (v := .int .i64 p.dev) rfl
  have p1 := hk1'.at 1 (v := .string p.a) rfl
  have p2 := hk1'.at 2 (v := .string p.b) rfl
  have q0 := hk2.at 0 (v := .int .i64 q.dev) rfl
  have q1 := hk2.at 1 (v := .string q.a) rfl
  have q2 := hk2.at 2 (v := .string q.b) rfl
  clear hk1 hk2 hk1' hB1 hB2
  by_cases hd : p.dev = q.dev
  · have h1 : (p.dev != q.dev) = false := by rw [hd]; simp
    by_cases ha : p.a.toList = q.a.toList
    · have h2 : (p.a.toList == q.a.toList) = true := by rw [ha]; simp
      have hr := Lib.hid (show kLt p q = Op.bytesLess p.b.toList q.b.toList by unfold kLt sLt; rw [if_pos hd, if_pos ha])
      clear hd ha
      go_enter Try.func48, Try.ntmps48
      go_wp2
      go_ret
      exact ⟨by rw [hr.out]; rfl, hB⟩
    · have h2 : (p.a.toList == q.a.toList) = false := by rw [beq_eq_false_iff_ne]; exact ha
      have hr := Lib.hid (show kLt p q = Op.bytesLess p.a.toList q.a.toList by unfold kLt sLt; rw [if_pos hd, if_neg ha])
      clear hd ha
      go_enter Try.func48, Try.ntmps48
      go_wp2
      go_ret
      exact ⟨by rw [hr.out]; rfl, hB⟩
  · have h1 : (p.dev != q.dev) = true := by rw [bne_iff_ne]; exact hd
    have hr := Lib.hid (show kLt p q = decide (p.dev < q.dev) by unfold kLt; rw [if_neg hd])
    clear hd
    go_enter Try.func48, Try.ntmps48
    go_wp2
    go_ret
    exact ⟨by rw [hr.out]; rfl, hB⟩

set_option maxHeartbeats 1000000 in
theorem less47 (p q : Ky) (w : World) : Calls Try.prog 47 #[kyV p, kyV q] w fun e w' => e = .returned (.bool (kLt p q)) ∧ Below w.heap.size w w' := by
  obtain ⟨W1, hW1, hB1, hz1, hk1⟩ := boxed w #[.int .i64 p.dev, .string p.a, .string p.b] 34
  obtain ⟨W2, hW2, hB2, hz2, hk2⟩ := boxed W1 #[.int .i64 q.dev, .string q.a, .string q.b] 34
  have hk1' := hk1.later hB2
  have hB := hB1.trans (hB2.mono hB1.size)
  have p0 := hk1'.at 0 (v := .int .i64 p.dev) rfl
  have p1 := hk1'.at 1 (v := .string p.a) rfl
  have p2 := hk1'.at 2 (v := .string p.b) rfl
  have q0 := hk2.at 0 (v := .int .i64 q.dev) rfl
  have q1 := hk2.at 1 (v := .string q.a) rfl
  have q2 := hk2.at 2 (v := .string q.b) rfl
  clear hk1 hk2 hk1' hB1 hB2
  by_cases hd : p.dev = q.dev
  · have h1 : (p.dev != q.dev) = false := by rw [hd]; simp
    by_cases ha : p.a.toList = q.a.toList
    · have h2 : (p.a.toList == q.a.toList) = true := by rw [ha]; simp
      have hr := Lib.hid (show kLt p q = Op.bytesLess p.b.toList q.b.toList by unfold kLt sLt; rw [if_pos hd, if_pos ha])
      clear hd ha
      go_enter Try.func47, Try.ntmps47
      go_wp2
      go_ret
      exact ⟨by rw [hr.out]; rfl, hB⟩
    · have h2 : (p.a.toList == q.a.toList) = false := by rw [beq_eq_false_iff_ne]; exact ha
      have hr := Lib.hid (show kLt p q = Op.bytesLess p.a.toList q.a.toList by unfold kLt sLt; rw [if_pos hd, if_neg ha])
      clear hd ha
      go_enter Try.func47, Try.ntmps47
      go_wp2
      go_ret
      exact ⟨by rw [hr.out]; rfl, hB⟩
  · have h1 : (p.dev != q.dev) = true := by rw [bne_iff_ne]; exact hd
    have hr := Lib.hid (show kLt p q = decide (p.dev < q.dev) by unfold kLt; rw [if_neg hd])
    clear hd
    go_enter Try.func47, Try.ntmps47
    go_wp2
    go_ret
    exact ⟨by rw [hr.out]; rfl, hB⟩

theorem before30 (p q : ByteArray) (w : World) : Calls Try.prog 30 #[.string p, .string q] w fun e w' => e = .returned (.bool (sLt p q)) ∧ Below w.heap.size w w' := by
  go_enter Try.func30, Try.ntmps30
  go_wp2
  go_ret
  exact ⟨rfl, Below.refl _ _⟩
end Go.Proofs.Ytkdnkieecchobaa
