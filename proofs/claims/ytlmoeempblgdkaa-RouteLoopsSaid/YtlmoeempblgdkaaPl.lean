/- The plain side of Check: ascending tables. -/
import Derived.Test.YtlmoeempblgdkaaRou
namespace Go.Proofs.Ytlmoeempblgdkaa
open Go.RowKit Go.BigFrame
set_option linter.unusedVariables false

def Asc (l : List Rt) : Prop := l.Pairwise (fun a b => a.d < b.d)
def pv (l : List Rt) : Option Int := l.getLast?.map Rt.d
theorem asc_snoc {l : List Rt} {r : Rt} (h : Asc l) (ho : ordB (pv l) r = true) : Asc (l ++ [r]) := by
  unfold Asc at *
  rw [List.pairwise_append]
  refine ⟨h, List.pairwise_singleton _ _, fun a ha b hb => ?_⟩
  rw [List.mem_singleton] at hb
  subst hb
  rcases List.eq_nil_or_concat l with rfl | ⟨l', q, rfl⟩
  · cases ha
  · have hq : q.d < b.d := by simpa [pv, ordB] using ho
    rw [List.concat_eq_append] at ha h
    rcases List.mem_append.1 ha with ha | ha
    · have := (List.pairwise_append.1 h).2.2 a ha q (List.mem_singleton.2 rfl)
      omega
    · rw [List.mem_singleton] at ha; subst ha; exact hq
theorem pv_snoc (l : List Rt) (r : Rt) : pv (l ++ [r]) = some r.d := by simp [pv]
theorem pv_take {l : List Rt} {j : Nat} {q : Rt} (h : l[j]? = some q) : pv (l.take (j + 1)) = some q.d := by rw [take_snoc h, pv_snoc]
theorem chk1_step {p : Option Int} {l : List Rt} {r : Rt} (h1 : rokB r = true) (h2 : ordB p r = true) : chk1 p (r :: l) = chk1 (some r.d) l := by
  show (if rokB r = false then (2 : Int) else if ordB p r = false then 14 else chk1 (some r.d) l) = _
  rw [h1, h2]
  simp
theorem chk1_bad {p : Option Int} {l : List Rt} {r : Rt} (h1 : rokB r = false) : chk1 p (r :: l) = 2 := by
  show (if rokB r = false then (2 : Int) else if ordB p r = false then 14 else chk1 (some r.d) l) = _
  rw [h1]
  simp
theorem chk1_ord {p : Option Int} {l : List Rt} {r : Rt} (h1 : rokB r = true) (h2 : ordB p r = false) : chk1 p (r :: l) = 14 := by
  show (if rokB r = false then (2 : Int) else if ordB p r = false then 14 else chk1 (some r.d) l) = _
  rw [h1, h2]
  simp
/-- an element stands at one place of an ascending list -/
theorem asc_at {l : List Rt} (h : Asc l) {i k : Nat} {a b : Rt} (ha : l[i]? = some a) (hb : l[k]? = some b) (hd : a.d = b.d) : i = k := by
  unfold Asc at h
  rw [List.pairwise_iff_getElem] at h
  obtain ⟨h1, rfl⟩ := List.getElem?_eq_some_iff.1 ha
  obtain ⟨h2, rfl⟩ := List.getElem?_eq_some_iff.1 hb
  rcases Nat.lt_trichotomy i k with hl | he | hl
  · have := h i k h1 h2 hl; omega
  · exact he
  · have := h k i h2 h1 hl; omega
theorem asc_lt {l : List Rt} (h : Asc l) {i k : Nat} {a b : Rt} (ha : l[i]? = some a) (hb : l[k]? = some b) (hl : i < k) : a.d < b.d := by
  unfold Asc at h
  rw [List.pairwise_iff_getElem] at h
  obtain ⟨h1, rfl⟩ := List.getElem?_eq_some_iff.1 ha
  obtain ⟨h2, rfl⟩ := List.getElem?_eq_some_iff.1 hb
  exact h i k h1 h2 hl
/-- what the first loop of Check knows of the routes it has seen -/
structure Seen (l : List Rt) : Prop where
  asc : Asc l
  ok : ∀ r ∈ l, rokB r = true
theorem Seen.snoc {l : List Rt} {r : Rt} (h : Seen l) (h1 : rokB r = true) (h2 : ordB (pv l) r = true) : Seen (l ++ [r]) :=
  ⟨asc_snoc h.asc h2, fun x hx => by
    rcases List.mem_append.1 hx with hx | hx
    · exact h.ok x hx
    · rw [List.mem_singleton] at hx; subst hx; exact h1⟩
theorem seen_of {l : List Rt} : chk1 none l = 0 → Seen l := by
  have key : ∀ (m k : List Rt), Seen k → chk1 (pv k) m = 0 → Seen (k ++ m) := by
    intro m
    induction m with
    | nil => intro k hk _; rw [List.append_nil]; exact hk
    | cons r m ih =>
      intro k hk h
      cases h1 : rokB r
      · rw [chk1_bad h1] at h; cases h
      · cases h2 : ordB (pv k) r
        · rw [chk1_ord h1 h2] at h; cases h
        · rw [chk1_step h1 h2, ← pv_snoc k r] at h
          have := ih (k ++ [r]) (hk.snoc h1 h2) h
          rwa [List.append_assoc] at this
  intro h
  exact key l [] ⟨List.Pairwise.nil, fun r hr => by cases hr⟩ h
theorem rok_node {r : Rt} (h : rokB r = true) : 0 ≤ r.d ∧ r.d ≤ 250 ∧ 0 ≤ r.s ∧ r.s ≤ 65535 := by
  unfold rokB usB nodeB at h
  simp at h
  omega
end Go.Proofs.Ytlmoeempblgdkaa
