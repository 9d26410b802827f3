/- What a mailbox that began empty holds: plain facts. -/
import Derived.Test.YtfbdiafgfimgaaaWg
namespace Go.Proofs.Ytfbdiafgfimgaaa
open Go.RowKit Go.BigFrame

def Rk (a b : Mail) : Prop := (b.f.urgent = true → a.f.urgent = true) ∧ (a.f.urgent = b.f.urgent → a.since < b.since)
def Inv (l : List Fr) (i : Nat) (M : List Mail) : Prop :=
  M.length ≤ 16 ∧ M.Pairwise Rk ∧ ∀ x ∈ M, ∃ k : Nat, k < i ∧ l[k]? = some x.f ∧ x.since = (k : Int)
theorem Inv.nil (l : List Fr) : Inv l 0 [] := ⟨by simp, .nil, fun x h => by simp at h⟩

theorem frst_split (k : List Mail) (hp : k.Pairwise Rk) : (∀ a ∈ k.take (frst k), a.f.urgent = true) ∧ (∀ a ∈ k.drop (frst k), a.f.urgent = false) := by
  induction k with
  | nil => simp
  | cons a r ih =>
    obtain ⟨h1, h2⟩ := List.pairwise_cons.1 hp
    cases hu : a.f.urgent with
    | true =>
      have hf : frst (a :: r) = frst r + 1 := by simp [frst, List.findIdx_cons, hu]
      rw [hf, List.take_succ_cons, List.drop_succ_cons]
      refine ⟨fun b hb => ?_, (ih h2).2⟩
      rcases List.mem_cons.1 hb with rfl | hb
      · exact hu
      · exact (ih h2).1 b hb
    | false =>
      have hf : frst (a :: r) = 0 := by simp [frst, List.findIdx_cons, hu]
      rw [hf]
      refine ⟨by simp, fun b hb => ?_⟩
      rcases List.mem_cons.1 (by simpa using hb) with rfl | hb
      · exact hu
      · cases hbu : b.f.urgent with
        | false => rfl
        | true => have := (h1 b hb).1 hbu; rw [hu] at this; cases this
theorem inv_ins {l : List Fr} {i : Nat} {k : List Mail} {f : Fr} (hp : k.Pairwise Rk) (hm : ∀ x ∈ k, ∃ j : Nat, j < i ∧ l[j]? = some x.f ∧ x.since = (j : Int)) (hl : k.length < 16) (hf : l[i]? = some f) (hu : f.urgent = true) : Inv l (i + 1) (ins k ⟨f, i⟩) := by
  obtain ⟨h1, h2⟩ := frst_split k hp
  have hpp : (k.take (frst k) ++ k.drop (frst k)).Pairwise Rk := by rw [List.take_append_drop]; exact hp
  obtain ⟨pa, pb, pc⟩ := List.pairwise_append.1 hpp
  refine ⟨by have := frst_le k; unfold ins; simp; omega, ?_, ?_⟩
  · refine List.pairwise_append.2 ⟨pa, List.pairwise_cons.2 ⟨fun b hb => ⟨fun _ => hu, fun e => ?_⟩, pb⟩, fun a ha b hb => ?_⟩
    · have h3 : f.urgent = b.f.urgent := e
      rw [hu, h2 b hb] at h3; cases h3
    · rcases List.mem_cons.1 hb with rfl | hb
      · obtain ⟨j, hj, _, hs⟩ := hm a (List.mem_of_mem_take ha)
        exact ⟨fun _ => h1 a ha, fun _ => by rw [hs]; show (j : Int) < (i : Int); omega⟩
      · exact pc a ha b hb
  · intro x hx
    unfold ins at hx
    rcases List.mem_append.1 hx with hx | hx
    · obtain ⟨j, hj, e⟩ := hm x (List.mem_of_mem_take hx)
      exact ⟨j, by omega, e⟩
    · rcases List.mem_cons.1 hx with rfl | hx
      · exact ⟨i, by omega, hf, rfl⟩
      · obtain ⟨j, hj, e⟩ := hm x (List.mem_of_mem_drop hx)
        exact ⟨j, by omega, e⟩
theorem inv_put {l : List Fr} {i : Nat} {M : List Mail} {f : Fr} (h : Inv l i M) (hf : l[i]? = some f) : Inv l (i + 1) (putM M ⟨f, i⟩).1 := by
  obtain ⟨h0, h1, h2⟩ := h
  have hkeep : Inv l (i + 1) M := ⟨h0, h1, fun x hx => by obtain ⟨k, hk, e⟩ := h2 x hx; exact ⟨k, by omega, e⟩⟩
  unfold putM
  by_cases hu : f.urgent = false
  · rw [if_pos hu]
    split
    · exact hkeep
    · refine ⟨by simp; omega, List.pairwise_append.2 ⟨h1, by simp, fun a ha b hb => ?_⟩, fun x hx => ?_⟩
      · obtain rfl : b = ⟨f, i⟩ := by simpa using hb
        obtain ⟨j, hj, _, hs⟩ := h2 a ha
        exact ⟨fun e => (by have e2 : f.urgent = true := e; rw [hu] at e2; cases e2), fun _ => (by rw [hs]; show (j : Int) < (i : Int); omega)⟩
      · rcases List.mem_append.1 hx with hx | hx
        · exact hkeep.2.2 x hx
        · obtain rfl : x = ⟨f, i⟩ := by simpa using hx
          exact ⟨i, by omega, hf, rfl⟩
  · rw [if_neg hu]
    have hu' : f.urgent = true := by cases h : f.urgent with | true => rfl | false => exact absurd h hu
    split
    · cases hn : lastN M with
      | none => exact hkeep
      | some j =>
        have hs := List.eraseIdx_sublist M j
        have hlt : (M.eraseIdx j).length < 16 := by
          rename_i h16
          have hjl : j < M.length := by
            rcases Nat.lt_or_ge j M.length with d | d
            · exact d
            · exfalso
              clear hs
              have : ∀ (k : List Mail) (q : Nat), lastN k = some q → q < k.length := by
                intro k
                induction k with
                | nil => intro q hq; simp [lastN] at hq
                | cons a r ih =>
                  intro q hq
                  rw [lastN] at hq
                  cases hr : lastN r with
                  | some z => rw [hr] at hq; cases hq; have := ih z hr; simp; omega
                  | none =>
                    rw [hr] at hq
                    simp only at hq
                    split at hq
                    · cases hq
                    · cases hq; simp
              have := this M j hn
              omega
          rw [List.length_eraseIdx_of_lt hjl]; omega
        exact inv_ins (h1.sublist hs) (fun x hx => h2 x (hs.subset hx)) hlt hf hu'
    · exact inv_ins h1 h2 (by omega) hf hu'
/-- what the second loop looks at -/
theorem Inv.at {l : List Fr} {i j : Nat} {M : List Mail} {a : Mail} (h : Inv l i M) (ha : M[j]? = some a) : ∃ k : Nat, k < i ∧ l[k]? = some a.f ∧ a.since = (k : Int) := h.2.2 a (List.mem_of_getElem? ha)
theorem Inv.two {l : List Fr} {i j : Nat} {M : List Mail} {a b : Mail} (h : Inv l i M) (ha : M[j]? = some a) (hb : M[j + 1]? = some b) : Rk a b := by
  obtain ⟨h1, rfl⟩ := List.getElem?_eq_some_iff.1 ha
  obtain ⟨h2, rfl⟩ := List.getElem?_eq_some_iff.1 hb
  exact List.pairwise_iff_getElem.1 h.2.1 _ _ h1 h2 (by omega)
end Go.Proofs.Ytfbdiafgfimgaaa
