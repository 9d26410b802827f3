/- The plain side of Update: tables stay ascending and short. -/
import Derived.Test.YtlmoeempblgdkaaWf
namespace Go.Proofs.Ytlmoeempblgdkaa
open Go.RowKit Go.BigFrame
set_option linter.unusedVariables false

theorem lo_cut {t : List Rt} {x : Int} : Asc t → CutAt t x (lo t x) ∧ lo t x ≤ t.length := by
  unfold lo
  induction t with
  | nil => intro _; exact ⟨⟨fun i r h _ => absurd h (by simp), fun i r _ h => by simp at h⟩, Nat.le_refl _⟩
  | cons r t ih =>
    intro h
    unfold Asc at h ih
    rw [List.pairwise_cons] at h
    obtain ⟨hi, hl⟩ := ih h.2
    by_cases hx : r.d < x
    · rw [List.takeWhile_cons, if_pos (by simp; omega), List.length_cons]
      refine ⟨⟨fun i q hq he => ?_, fun i q hq he => ?_⟩, by rw [List.length_cons]; omega⟩
      · rcases i with _ | i
        · simp at he; subst he; exact hx
        · exact hi.1 i q (by omega) (by simpa using he)
      · rcases i with _ | i
        · omega
        · exact hi.2 i q (by omega) (by simpa using he)
    · rw [List.takeWhile_cons, if_neg (by simp; omega)]
      refine ⟨⟨fun i q hq => absurd hq (by simp), fun i q _ he => ?_⟩, by simp⟩
      rcases i with _ | i
      · simp at he; subst he; omega
      · have := h.1 q (List.mem_of_getElem? (by simpa using he))
        omega
theorem asc_map {t : List Rt} : Asc t ↔ (t.map Rt.d).Pairwise (· < ·) := by
  unfold Asc
  rw [List.pairwise_map]
theorem asc_set {t : List Rt} {k : Nat} {q r : Rt} (h : Asc t) (hk : t[k]? = some q) (hd : q.d = r.d) : Asc (t.set k r) := by
  rw [asc_map] at h ⊢
  rw [List.map_set]
  have hlt : k < t.length := (List.getElem?_eq_some_iff.1 hk).1
  have he : t[k] = q := (List.getElem?_eq_some_iff.1 hk).2
  have : (t.map Rt.d).set k r.d = t.map Rt.d := by
    have h2 : r.d = (t.map Rt.d)[k]'(by simpa using hlt) := by simp [he, hd]
    rw [h2, List.set_getElem_self]
  rw [this]
  exact h
theorem asc_ins {t : List Rt} {k : Nat} {r : Rt} (h : Asc t) (hc : CutAt t r.d k) (hno : ¬ ∃ q, t[k]? = some q ∧ q.d = r.d) : Asc (t.take k ++ r :: t.drop k) := by
  have hup : ∀ q ∈ t.drop k, r.d < q.d := fun q hq => by
    obtain ⟨i, hi⟩ := List.getElem?_of_mem hq
    rw [List.getElem?_drop] at hi
    have h1 := hc.2 (k + i) q (by omega) hi
    rcases Nat.eq_zero_or_pos i with h0 | h0
    · subst h0
      have : q.d ≠ r.d := fun e => hno ⟨q, by simpa using hi, e⟩
      omega
    · have hk : k < t.length := by have := (List.getElem?_eq_some_iff.1 hi).1; omega
      have h2 := hc.2 k t[k] (Nat.le_refl _) (List.getElem?_eq_getElem hk)
      have h3 := asc_lt h (List.getElem?_eq_getElem hk) hi (by omega)
      omega
  have hdn : ∀ q ∈ t.take k, q.d < r.d := fun q hq => by
    obtain ⟨i, hi⟩ := List.getElem?_of_mem hq
    rw [List.getElem?_take] at hi
    split at hi
    · exact hc.1 i q (by assumption) hi
    · cases hi
  unfold Asc at *
  rw [List.pairwise_append, List.pairwise_cons]
  refine ⟨h.sublist (List.take_sublist _ _), ⟨hup, h.sublist (List.drop_sublist _ _)⟩, fun a ha b hb => ?_⟩
  rcases List.mem_cons.1 hb with rfl | hb
  · exact hdn a ha
  · have := hdn a ha; have := hup b hb; omega
/-- a table that is ascending, short, its destinations addresses -/
structure Tb (t : List Rt) : Prop where
  asc : Asc t
  din : dIn t
  le : t.length ≤ 24
theorem tb_lrn {t : List Rt} {fr : Int} {r : Rt} (h : Tb t) (h3 : 0 ≤ r.d) (h4 : r.d ≤ 250) : Tb (lrn t fr r) := by
  obtain ⟨hc, hk⟩ := lo_cut (x := r.d) h.asc
  rw [lrn_at hk hc]
  generalize lo t r.d = k at hc hk
  by_cases hf : ∃ q, t[k]? = some q ∧ q.d = r.d
  · obtain ⟨q, hq, hd⟩ := hf
    have hset : Tb (t.set k r) := ⟨asc_set h.asc hq hd, fun x hx => by
      rcases List.mem_or_eq_of_mem_set hx with hx | rfl
      · exact h.din x hx
      · exact ⟨h3, h4⟩, by rw [List.length_set]; exact h.le⟩
    rw [lrnAt_yes hq hd]
    split
    · split
      · exact hset
      · exact h
    · split
      · exact hset
      · exact h
  · rw [lrnAt_no hf]
    split
    · rename_i hh
      exact ⟨asc_ins h.asc hc hf, fun x hx => by
        rcases List.mem_append.1 hx with hx | hx
        · exact h.din x (List.mem_of_mem_take hx)
        · rcases List.mem_cons.1 hx with rfl | hx
          · exact ⟨h3, h4⟩
          · exact h.din x (List.mem_of_mem_drop hx), by simp; omega⟩
    · exact h
theorem us_node {r : Rt} (h : usB r = true) : 0 ≤ r.d ∧ r.d ≤ 250 ∧ 0 ≤ r.s ∧ r.s ≤ 65535 := by
  unfold usB nodeB at h
  simp at h
  omega
theorem adv_d (fr cost : Int) (a : Rt) : (adv fr cost a).d = a.d ∧ (adv fr cost a).s = a.s := by unfold adv; split <;> exact ⟨rfl, rfl⟩
theorem tb_step {t : List Rt} {self fr cost : Int} {a : Rt} (h : Tb t) : Tb (step self fr cost t a) := by
  unfold step
  split
  · rename_i hh
    have := us_node hh.1
    exact tb_lrn h (by rw [(adv_d fr cost a).1]; exact this.1) (by rw [(adv_d fr cost a).1]; exact this.2.1)
  · exact h
theorem lim_in (n : Int) : 0 ≤ lim n ∧ lim n ≤ 250 := by unfold lim; split <;> (try split) <;> omega
theorem tb_tab (t : List Rt) (self : Int) : Tb (tab t self) := by
  unfold tab
  split
  · rename_i h
    have h24 : ¬ 24 < t.length := fun h2 => by rw [chk_long h2] at h; cases h
    have hn : nodeB (lim self) = true := by rw [node_lim, lim_lim]; simp
    have hs : Seen t := by
      refine seen_of ?_
      rcases Classical.em (chk1 none t = 0) with h1 | h1
      · exact h1
      · rw [chk_one h24 hn h1] at h; exact absurd h h1
    exact ⟨hs.asc, fun r hr => by have := rok_node (hs.ok r hr); exact ⟨this.1, this.2.1⟩, by omega⟩
  · exact ⟨List.pairwise_singleton _ _, fun r hr => by rw [List.mem_singleton] at hr; subst hr; exact lim_in self, by simp⟩
theorem tb_fold {self fr cost : Int} (l : List Rt) : ∀ {t : List Rt}, Tb t → Tb (l.foldl (step self fr cost) t) := by
  induction l with
  | nil => intro t h; exact h
  | cons a l ih => intro t h; exact ih (tb_step h)
theorem foldl_snoc {α β : Type} (f : β → α → β) (b : β) {l : List α} {j : Nat} {a : α} (h : l[j]? = some a) : (l.take (j + 1)).foldl f b = f ((l.take j).foldl f b) a := by
  rw [take_snoc h, List.foldl_append]; rfl
end Go.Proofs.Ytlmoeempblgdkaa
