/- What the document's Put of keys computes: plain. -/
import Derived.Test.YtkdnkieecchobaaWa
namespace Go.Proofs.Ytkdnkieecchobaa
open Go.RowKit
set_option linter.unusedVariables false
variable {α : Type} {lt : α → α → Bool}

structure PutInv (lt : α → α → Bool) (l : List α) (k : α) (j : Nat) (d : Bool) (out : List α) : Prop where
  srt : Srt lt out
  mem : ∀ z, z ∈ out ↔ z ∈ l.take j ∨ (d = true ∧ z = k)
  no : d = false → ∀ z ∈ l.take j, lt z k = true
  yes : d = true → ∀ z ∈ l.drop j, lt z k = false
theorem srt_snoc {l : List α} {x : α} (h : Srt lt l) (hx : ∀ z ∈ l, lt z x = true) : Srt lt (l ++ [x]) := by
  refine List.pairwise_append.2 ⟨h, List.pairwise_singleton _ _, fun a ha b hb => ?_⟩
  rw [List.mem_singleton] at hb
  subst hb
  exact hx a ha
theorem srt_before {l : List α} {j : Nat} {x : α} (h : Srt lt l) (hj : l[j]? = some x) : ∀ z ∈ l.take j, lt z x = true := by
  intro z hz
  obtain ⟨i, hi, rfl⟩ := List.getElem_of_mem hz
  rw [List.length_take] at hi
  have hjl : j < l.length := (List.getElem?_eq_some_iff.1 hj).1
  have e : l[j] = x := (List.getElem?_eq_some_iff.1 hj).2
  rw [List.getElem_take, ← e]
  exact List.pairwise_iff_getElem.1 h i j (by omega) hjl (by omega)
theorem drop_cons_get {l : List α} {j : Nat} {x : α} (hj : l[j]? = some x) : l.drop j = x :: l.drop (j + 1) := by
  have hjl : j < l.length := (List.getElem?_eq_some_iff.1 hj).1
  rw [List.drop_eq_getElem_cons hjl, (List.getElem?_eq_some_iff.1 hj).2]
theorem put_start (l : List α) (k : α) : PutInv lt l k 0 false [] := ⟨List.Pairwise.nil, fun z => by simp, fun _ z hz => by simp at hz, fun h => by cases h⟩
theorem put_skip (h : Lin lt) {l out : List α} {k x : α} {j : Nat} (hl : Srt lt l) (hi : PutInv lt l k j false out) (hj : l[j]? = some x) (hx : lt x k = true) : PutInv lt l k (j + 1) false (out ++ [x]) := by
  refine ⟨srt_snoc hi.srt fun z hz => ?_, fun z => ?_, fun _ z hz => ?_, fun h => by cases h⟩
  · rcases (hi.mem z).1 hz with h1 | ⟨h1, _⟩
    · exact srt_before hl hj z h1
    · cases h1
  · rw [List.mem_append, hi.mem, take_snoc hj, List.mem_append]
    simp
  · rw [take_snoc hj, List.mem_append] at hz
    rcases hz with hz | hz
    · exact hi.no rfl z hz
    · rw [List.mem_singleton] at hz; rw [hz]; exact hx
/-- k goes in here -/
theorem put_now (h : Lin lt) {l out : List α} {k x : α} {j : Nat} (hl : Srt lt l) (hi : PutInv lt l k j false out) (hj : l[j]? = some x) (hx : lt x k = false) : PutInv lt l k j true (out ++ [k]) := by
  refine ⟨srt_snoc hi.srt fun z hz => ?_, fun z => ?_, fun h => (by cases h), fun _ z hz => ?_⟩
  · rcases (hi.mem z).1 hz with h1 | ⟨h1, _⟩
    · exact hi.no rfl z h1
    · cases h1
  · rw [List.mem_append, hi.mem, List.mem_singleton]
    simp
  · rw [drop_cons_get hj] at hz
    rcases List.mem_cons.1 hz with rfl | hz
    · exact hx
    · have hxz : lt x z = true := by
        have hs : Srt lt (l.drop j) := List.Pairwise.sublist (List.drop_sublist _ _) hl
        rw [drop_cons_get hj] at hs
        exact (List.pairwise_cons.1 hs).1 z hz
      cases hzk : lt z k with
      | false => rfl
      | true => rw [h.tra _ _ _ hxz hzk] at hx; cases hx
theorem put_more_same {l out : List α} {k : α} {j : Nat} (hi : PutInv lt l k j true out) (hj : l[j]? = some k) : PutInv lt l k (j + 1) true out := by
  refine ⟨hi.srt, fun z => ?_, fun h => (by cases h), fun _ z hz => hi.yes rfl z (by rw [drop_cons_get hj]; exact List.mem_cons_of_mem _ hz)⟩
  rw [hi.mem, take_snoc hj, List.mem_append, List.mem_singleton]
  constructor
  · rintro (h1 | h1)
    · exact .inl (.inl h1)
    · exact .inr h1
  · rintro ((h1 | h1) | h1)
    · exact .inl h1
    · exact .inr ⟨rfl, h1⟩
    · exact .inr h1
theorem put_more (h : Lin lt) {l out : List α} {k x : α} {j : Nat} (hl : Srt lt l) (hi : PutInv lt l k j true out) (hj : l[j]? = some x) (hx : x ≠ k) : PutInv lt l k (j + 1) true (out ++ [x]) := by
  have hkx : lt k x = true := by
    cases e : lt k x with
    | true => rfl
    | false => exact absurd (h.tri x k (hi.yes rfl x (by rw [drop_cons_get hj]; exact List.mem_cons_self)) e) hx
  refine ⟨srt_snoc hi.srt fun z hz => ?_, fun z => ?_, fun h => (by cases h), fun _ z hz => hi.yes rfl z (by rw [drop_cons_get hj]; exact List.mem_cons_of_mem _ hz)⟩
  · rcases (hi.mem z).1 hz with h1 | ⟨_, h1⟩
    · exact srt_before hl hj z h1
    · rw [h1]; exact hkx
  · rw [List.mem_append, hi.mem, take_snoc hj, List.mem_append, List.mem_singleton]
    constructor
    · rintro ((h1 | h1) | h1)
      · exact .inl (.inl h1)
      · exact .inr h1
      · exact .inl (.inr h1)
    · rintro ((h1 | h1) | h1)
      · exact .inl (.inl h1)
      · exact .inr h1
      · exact .inl (.inr h1)
theorem put_done (h : Lin lt) {l out : List α} {k : α} (hl : Srt lt l) (hi : PutInv lt l k l.length true out) : out = insO lt k l := by
  refine srt_eq h hi.srt (srt_insO h hl) fun z => ?_
  rw [hi.mem, mem_insO h, List.take_length]
  constructor
  · rintro (h1 | ⟨_, h1⟩)
    · exact .inr h1
    · exact .inl h1
  · rintro (h1 | h1)
    · exact .inr ⟨rfl, h1⟩
    · exact .inl h1
theorem put_last (h : Lin lt) {l out : List α} {k : α} (hl : Srt lt l) (hi : PutInv lt l k l.length false out) : out ++ [k] = insO lt k l := by
  refine srt_eq h (srt_snoc hi.srt fun z hz => ?_) (srt_insO h hl) fun z => ?_
  · rcases (hi.mem z).1 hz with h1 | ⟨h1, _⟩
    · exact hi.no rfl z h1
    · cases h1
  · rw [List.mem_append, hi.mem, mem_insO h, List.take_length, List.mem_singleton]
    constructor
    · rintro ((h1 | ⟨h1, _⟩) | h1)
      · exact .inr h1
      · cases h1
      · exact .inl h1
    · rintro (h1 | h1)
      · exact .inr h1
      · exact .inl (.inl h1)
end Go.Proofs.Ytkdnkieecchobaa
