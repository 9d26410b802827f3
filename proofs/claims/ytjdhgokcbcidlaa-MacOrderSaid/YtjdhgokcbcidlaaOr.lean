/- What a queue that began empty holds: plain facts. -/
import Derived.Test.YtjdhgokcbcidlaaWf
namespace Go.Proofs.Ytjdhgokcbcidlaa
open Go.RowKit Go.BigFrame

def Uf (a b : Sn) : Prop := b.f.urgent = true → a.f.urgent = true
def OkS (a : Sn) : Prop := (a.f.urgent = true → a.wait = 0) ∧ 0 ≤ a.wait ∧ a.wait ≤ 4 ∧ 0 ≤ a.tries ∧ a.tries ≤ 7
def OInv (M : List Sn) : Prop := M.length ≤ 16 ∧ M.Pairwise Uf ∧ ∀ a ∈ M, OkS a
theorem OInv.nil : OInv [] := ⟨by simp, .nil, by simp⟩
theorem ok_nw (f : Fr) : OkS (nw f) := ⟨fun _ => rfl, Int.le_refl 0, (by show (0 : Int) ≤ 4; decide), Int.le_refl 0, (by show (0 : Int) ≤ 7; decide)⟩
theorem ok_again {a : Sn} (h : ¬ 7 ≤ a.tries) : OkS (again a) := by
  unfold again OkS
  simp only []
  refine ⟨fun h => by rw [h]; rfl, ?_, ?_, by omega, by omega⟩
  · split <;> omega
  · split <;> omega
theorem wrap_small {x : Int} (h0 : 0 ≤ x) (h1 : x ≤ 4) : wrap64 x = x := by
  have : x = 0 ∨ x = 1 ∨ x = 2 ∨ x = 3 ∨ x = 4 := by omega
  rcases this with rfl | rfl | rfl | rfl | rfl <;> decide +kernel
theorem tick_wait {a : Sn} (h : OkS a) : (tick1 a).wait = max (a.wait - 1) 0 ∧ (tick1 a).f = a.f ∧ (tick1 a).tries = a.tries := by
  unfold tick1
  by_cases hw : 0 < a.wait
  · rw [if_pos hw, wrap_small (by omega) (by have := h.2.2.1; omega)]
    exact ⟨by simp only []; omega, rfl, rfl⟩
  · rw [if_neg hw]
    exact ⟨by have := h.2.1; omega, rfl, rfl⟩
theorem ok_tick {a : Sn} (h : OkS a) : OkS (tick1 a) := by
  obtain ⟨h1, h2, h3⟩ := tick_wait h
  obtain ⟨a1, a2, a3, a4, a5⟩ := h
  refine ⟨fun hu => ?_, by omega, by omega, by omega, by omega⟩
  rw [h2] at hu
  have := a1 hu
  omega
theorem OInv.tick {M : List Sn} (h : OInv M) : OInv (M.map tick1) := by
  obtain ⟨h1, h2, h3⟩ := h
  refine ⟨by simpa using h1, ?_, fun a ha => ?_⟩
  · rw [List.pairwise_map]
    refine h2.imp_of_mem fun {a b} ha hb hab => ?_
    unfold Uf at hab ⊢
    rw [(tick_wait (h3 a ha)).2.1, (tick_wait (h3 b hb)).2.1]; exact hab
  · obtain ⟨b, hb, rfl⟩ := List.mem_map.1 ha
    exact ok_tick (h3 b hb)
theorem OInv.erase {M : List Sn} (h : OInv M) (i : Nat) : OInv (M.eraseIdx i) := by
  have hs := List.eraseIdx_sublist M i
  exact ⟨Nat.le_trans hs.length_le h.1, h.2.1.sublist hs, fun a ha => h.2.2 a (hs.subset ha)⟩
theorem frst_split (k : List Sn) (hp : k.Pairwise Uf) : (∀ a ∈ k.take (frst k), a.f.urgent = true) ∧ (∀ a ∈ k.drop (frst k), a.f.urgent = false) := by
  induction k with
  | nil => simp
  | cons a r ih =>
    obtain ⟨h1, h2⟩ := List.pairwise_cons.1 hp
    cases hu : a.f.urgent with
    | true =>
      have hf : frst (a :: r) = frst r + 1 := by simp [frst, List.findIdx_cons, hu]
      rw [hf, List.take_succ_cons, List.drop_succ_cons]
      refine ⟨fun b hb => ?_, (ih h2).2⟩
      rcases List.mem_cons.1 hb with rfl | hb
      · exact hu
      · exact (ih h2).1 b hb
    | false =>
      have hf : frst (a :: r) = 0 := by simp [frst, List.findIdx_cons, hu]
      rw [hf]
      refine ⟨by simp, fun b hb => ?_⟩
      rcases List.mem_cons.1 (by simpa using hb) with rfl | hb
      · exact hu
      · cases hbu : b.f.urgent with
        | false => rfl
        | true => have := h1 b hb hbu; rw [hu] at this; cases this
theorem OInv.ins {k : List Sn} (h : OInv k) (hl : k.length < 16) (f : Fr) (hu : f.urgent = true) : OInv (ins k (nw f)) := by
  obtain ⟨_, hp, ho⟩ := h
  obtain ⟨h1, h2⟩ := frst_split k hp
  have hpp : (k.take (frst k) ++ k.drop (frst k)).Pairwise Uf := by rw [List.take_append_drop]; exact hp
  obtain ⟨pa, pb, pc⟩ := List.pairwise_append.1 hpp
  unfold Go.Proofs.Ytjdhgokcbcidlaa.ins
  refine ⟨by have := frst_le k; simp; omega, ?_, ?_⟩
  · refine List.pairwise_append.2 ⟨pa, List.pairwise_cons.2 ⟨fun b hb _ => hu, pb⟩, fun a ha b hb => ?_⟩
    rcases List.mem_cons.1 hb with rfl | hb
    · exact fun _ => h1 a ha
    · exact pc a ha b hb
  · intro x hx
    rcases List.mem_append.1 hx with hx | hx
    · exact ho x (List.mem_of_mem_take hx)
    · rcases List.mem_cons.1 hx with rfl | hx
      · exact ok_nw f
      · exact ho x (List.mem_of_mem_drop hx)
theorem OInv.put {k : List Sn} (h : OInv k) (f : Fr) : OInv (putS k f).1 := by
  unfold putS
  by_cases hu : f.urgent = false
  · rw [if_pos hu]
    split
    · exact h
    · rename_i h16
      obtain ⟨h1, h2, h3⟩ := h
      refine ⟨by simp; omega, List.pairwise_append.2 ⟨h2, by simp, fun a _ b hb => ?_⟩, fun x hx => ?_⟩
      · obtain rfl : b = nw f := by simpa using hb
        intro e
        have : f.urgent = true := e
        rw [hu] at this; cases this
      · rcases List.mem_append.1 hx with hx | hx
        · exact h3 x hx
        · obtain rfl : x = nw f := by simpa using hx
          exact ok_nw f
  · rw [if_neg hu]
    have hu' : f.urgent = true := by cases h : f.urgent with | true => rfl | false => exact absurd h hu
    split
    · cases hn : lastF k with
      | none => exact h
      | some j =>
        rename_i h16
        have hlt := lastF_lt hn
        exact (h.erase j).ins (by rw [List.length_eraseIdx_of_lt hlt]; omega) f hu'
    · rename_i h16
      have := h.1
      exact h.ins (by omega) f hu'
theorem uf_map {M : List Sn} : M.Pairwise Uf ↔ (M.map (fun a => a.f.urgent)).Pairwise (fun a b => b = true → a = true) := by
  rw [List.pairwise_map]; rfl
theorem OInv.res {k : List Sn} (h : OInv k) (i : Int) (ok : Bool) : OInv (resS k i ok).1 := by
  unfold resS
  split
  · exact h
  · split
    · exact h.erase _
    · cases hk : k[i.toNat]? with
      | none => exact h
      | some a =>
        simp only []
        split
        · exact h.erase _
        · rename_i h7
          obtain ⟨h1, h2, h3⟩ := h
          refine ⟨by simpa using h1, ?_, fun x hx => ?_⟩
          · rw [uf_map] at h2 ⊢
            rw [List.map_set, set_self (by rw [List.getElem?_map, hk]; rfl)]; exact h2
          · rcases List.mem_or_eq_of_mem_set hx with hx | rfl
            · exact h3 x hx
            · exact ok_again h7
/-- after so many ticks -/
def ticks (M : List Sn) : Nat → List Sn
  | 0 => M
  | n + 1 => (ticks M n).map tick1
theorem ticks_inv {M : List Sn} (h : OInv M) (n : Nat) : OInv (ticks M n) := by
  induction n with
  | zero => exact h
  | succ n ih => exact ih.tick
theorem ticks_wait {M : List Sn} (h : OInv M) (n : Nat) : ∀ a ∈ ticks M n, a.wait ≤ max (4 - (n : Int)) 0 := by
  induction n with
  | zero => intro a ha; have := (h.2.2 a ha).2.2.1; omega
  | succ n ih =>
    intro a ha
    obtain ⟨b, hb, rfl⟩ := List.mem_map.1 ha
    have h1 := (tick_wait ((ticks_inv h n).2.2 b hb)).1
    have h2 := ih b hb
    omega
theorem four {M : List Sn} (h : OInv M) : ∀ a ∈ ticks M 4, a.wait = 0 := fun a ha => by
  have h1 := ticks_wait h 4 a ha
  have h2 := ((ticks_inv h 4).2.2 a ha).2.1
  omega
theorem next_zero {M : List Sn} (h : ∀ a ∈ M, a.wait = 0) : nextS M = if M.length = 0 then -1 else 0 := by
  cases M with
  | nil => rfl
  | cons a r => rw [nextS, if_pos (by have := h a (by simp); omega)]; rfl
end Go.Proofs.Ytjdhgokcbcidlaa
