/- Freedom from loops: plain. -/
import Derived.Test.YtlmoeempblgdkaaKr
namespace Go.Proofs.Ytlmoeempblgdkaa
open Go.RowKit Go.BigFrame
set_option linter.unusedVariables false
set_option linter.unusedSimpArgs false

structure LInv (ts : Nat → List Rt) : Prop where
  ok : ∀ x : Nat, x < 6 → TOk (ts x) (x : Int)
  nx : ∀ x : Nat, x < 6 → ∀ r ∈ ts x, finB r = true → r.d ≠ (x : Int) → ∃ m : Nat, m < 6 ∧ r.n = (m : Int) ∧ ∃ q ∈ ts m, q.d = r.d ∧ betB q r = true
def putT (ts : Nat → List Rt) (a : Nat) (u : List Rt) : Nat → List Rt := fun x => if x = a then u else ts x
theorem putT_same (ts : Nat → List Rt) (a : Nat) (u : List Rt) : putT ts a u a = u := if_pos rfl
theorem putT_other {ts : Nat → List Rt} {a x : Nat} {u : List Rt} (h : x ≠ a) : putT ts a u x = ts x := if_neg h
theorem tok_own {x : Nat} (h : x < 6) : TOk [own (x : Int) 0] (x : Int) := by
  refine ⟨by simp, node_iff.2 (by omega), List.pairwise_singleton _ _, fun r hr => ?_, ⟨_, List.mem_singleton.2 rfl, rfl⟩, fun r hr => ?_⟩
  · rw [List.mem_singleton] at hr
    subst hr
    rw [rok_iff, us_iff]
    unfold own
    simp only
    omega
  · rw [List.mem_singleton] at hr
    subst hr
    exact (bad_own rfl).2 ⟨rfl, rfl⟩
theorem linv_init {ts : Nat → List Rt} (h : ∀ x : Nat, x < 6 → ts x = [own (x : Int) 0]) : LInv ts :=
  ⟨fun x hx => by rw [h x hx]; exact tok_own hx, fun x hx r hr _ hd => by
    rw [h x hx, List.mem_singleton] at hr
    subst hr
    exact absurd rfl hd⟩
theorem bet_trans {a b c : Rt} (h1 : betB a b = true) (h2 : betB b c = true) : betB a c = true := by
  rw [bet_iff] at *
  omega
theorem bet_irr (a : Rt) : betB a a = false := by
  cases h : betB a a
  · rfl
  · rw [bet_iff] at h; omega
theorem ge_bet {p q r : Rt} (h : geB p q = true) (hd : q.d = r.d) (hb : betB q r = true) : p.d = r.d ∧ betB p r = true := by
  rcases ge_iff.1 h with rfl | ⟨h1, h2⟩
  · exact ⟨hd, hb⟩
  · exact ⟨h1.trans hd, bet_trans (bet_iff.2 h2) hb⟩
theorem LInv.put {ts : Nat → List Rt} {a : Nat} {u : List Rt} (h : LInv ts) (ha : a < 6) (hu : TOk u (a : Int)) (hk : Kept (ts a) u)
    (hnew : ∀ r ∈ u, finB r = true → r.d ≠ (a : Int) → r ∈ ts a ∨ ∃ m : Nat, m < 6 ∧ m ≠ a ∧ r.n = (m : Int) ∧ ∃ q ∈ ts m, q.d = r.d ∧ betB q r = true) : LInv (putT ts a u) := by
  refine ⟨fun x hx => ?_, fun x hx r hr hf hd => ?_⟩
  · by_cases hxa : x = a
    · subst hxa; rw [putT_same]; exact hu
    · rw [putT_other hxa]; exact h.ok x hx
  · by_cases hxa : x = a
    · subst hxa
      rw [putT_same] at hr
      have key : ∃ m : Nat, m < 6 ∧ m ≠ x ∧ r.n = (m : Int) ∧ ∃ q ∈ ts m, q.d = r.d ∧ betB q r = true := by
        rcases hnew r hr hf hd with h1 | h1
        · obtain ⟨m, hm, hn, hq⟩ := h.nx x hx r h1 hf hd
          refine ⟨m, hm, fun e => ?_, hn, hq⟩
          subst e
          exact ((bad_no hd).1 ((h.ok m hx).bad r h1)).2 hn
        · exact h1
      obtain ⟨m, hm, hne, hn, q, hq, h1⟩ := key
      exact ⟨m, hm, hn, q, by rw [putT_other hne]; exact hq, h1⟩
    · rw [putT_other hxa] at hr
      obtain ⟨m, hm, hn, q, hq, h1, h2⟩ := h.nx x hx r hr hf hd
      refine ⟨m, hm, hn, ?_⟩
      by_cases hma : m = a
      · subst hma
        obtain ⟨p, hp, hge⟩ := hk q hq
        exact ⟨p, by rw [putT_same]; exact hp, ge_bet hge h1 h2⟩
      · exact ⟨q, by rw [putT_other hma]; exact hq, h1, h2⟩
theorem kept_put {ts : Nat → List Rt} {a : Nat} {u : List Rt} (hk : Kept (ts a) u) (x : Nat) : Kept (ts x) (putT ts a u x) := by
  by_cases hxa : x = a
  · subst hxa; rw [putT_same]; exact hk
  · rw [putT_other hxa]; exact Kept.refl _
theorem linv_bump {ts : Nat → List Rt} {a : Nat} (h : LInv ts) (ha : a < 6) : LInv (putT ts a (bump (ts a) (a : Int))) ∧ Kept (ts a) (bump (ts a) (a : Int)) := by
  obtain ⟨h1, h2, h3⟩ := (h.ok a ha).bump
  exact ⟨h.put ha h1 h2 (fun r hr hf hd => .inl ((h3 r hr).resolve_right hd)), h2⟩
theorem linv_brk {ts : Nat → List Rt} {a : Nat} (h : LInv ts) (ha : a < 6) (next : Int) : LInv (putT ts a (brk (ts a) (a : Int) next)) ∧ Kept (ts a) (brk (ts a) (a : Int) next) := by
  obtain ⟨h1, h2, h3⟩ := (h.ok a ha).brk next
  exact ⟨h.put ha h1 h2 (fun r hr hf hd => .inl (h3 r hr hf)), h2⟩
theorem linv_upd {ts : Nat → List Rt} {a b : Nat} (h : LInv ts) (ha : a < 6) (hb : b < 6) (cost : Int) {src : List Rt} (hs : Kept src (ts b)) : LInv (putT ts a (upd (ts a) (a : Int) (b : Int) cost src)) ∧ Kept (ts a) (upd (ts a) (a : Int) (b : Int) cost src) := by
  obtain ⟨h1, h2, h3⟩ := (h.ok a ha).upd (b : Int) cost src
  refine ⟨h.put ha h1 h2 (fun r hr hf hd => ?_), h2⟩
  rcases h3 r hr with h4 | ⟨hu, x, hx, hus, hxd, rfl⟩
  · exact .inl h4
  · right
    obtain ⟨u1, u2, u3, u4⟩ := hu
    rw [(h.ok a ha).lim] at u2
    refine ⟨b, hb, fun e => u2 (by rw [e]), ?_, ?_⟩
    · unfold adv at hf ⊢
      split
      · rfl
      · rename_i hc
        rw [if_neg hc, fin_iff] at hf
        have h5 : (0 : Int) ≤ 255 ∧ (255 : Int) ≤ 200 := hf
        omega
    · obtain ⟨q, hq, hge⟩ := hs x hx
      refine ⟨q, hq, ?_⟩
      have hb' : betB x (adv (b : Int) cost x) = true ∧ x.d = (adv (b : Int) cost x).d := by
        refine ⟨?_, ((adv_d (b : Int) cost x).1).symm⟩
        rw [bet_iff]
        right
        refine ⟨((adv_d (b : Int) cost x).2).symm, ?_⟩
        unfold adv at hf ⊢
        split
        · show x.c < x.c + cost
          omega
        · rename_i hc
          rw [if_neg hc, fin_iff] at hf
          have h5 : (0 : Int) ≤ 255 ∧ (255 : Int) ≤ 200 := hf
          omega
      exact ge_bet hge hb'.2 hb'.1
/-! hops -/
theorem find_some {t : List Rt} {q : Rt} {x : Int} (ha : Asc t) (hq : q ∈ t) (hd : q.d = x) : t.find? (fun r => decide (r.d = x)) = some q := by
  cases h : t.find? (fun r => decide (r.d = x)) with
  | none =>
    rw [List.find?_eq_none] at h
    exact absurd (by simpa using hd) (h q hq)
  | some p =>
    have h1 := List.mem_of_find?_eq_some h
    have h2 := List.find?_some h
    simp only [decide_eq_true_eq] at h2
    obtain ⟨i, hi⟩ := List.getElem?_of_mem h1
    obtain ⟨k, hk⟩ := List.getElem?_of_mem hq
    have := asc_at ha hi hk (h2.trans hd.symm)
    subst this
    rw [hi] at hk
    exact hk
/-- m's route to d is better than n's -/
def bt (ts : Nat → List Rt) (d : Int) (n m : Nat) : Bool := match (ts m).find? (fun r => decide (r.d = d)), (ts n).find? (fun r => decide (r.d = d)) with
  | some q, some r => betB q r
  | _, _ => false
def rank (ts : Nat → List Rt) (d : Int) (n : Nat) : Nat := (List.range 6).countP (bt ts d n)
theorem rank_le (ts : Nat → List Rt) (d : Int) (n : Nat) : rank ts d n ≤ 6 := by
  unfold rank
  exact Nat.le_trans List.countP_le_length (by simp)
theorem bt_irr (ts : Nat → List Rt) (d : Int) (n : Nat) : bt ts d n n = false := by
  unfold bt
  cases (ts n).find? (fun r => decide (r.d = d)) with
  | none => rfl
  | some q => exact bet_irr q
theorem bt_trans {ts : Nat → List Rt} {d : Int} {n m k : Nat} (h1 : bt ts d n m = true) (h2 : bt ts d m k = true) : bt ts d n k = true := by
  unfold bt at *
  cases e1 : (ts m).find? (fun r => decide (r.d = d)) with
  | none => rw [e1] at h1; cases h1
  | some q =>
    cases e2 : (ts n).find? (fun r => decide (r.d = d)) with
    | none => rw [e1, e2] at h1; cases h1
    | some r =>
      cases e3 : (ts k).find? (fun r => decide (r.d = d)) with
      | none => rw [e1, e3] at h2; cases h2
      | some p =>
        rw [e1, e2] at h1
        rw [e1, e3] at h2
        exact bet_trans h2 h1
theorem countP_lt {α : Type} {p q : α → Bool} : ∀ {l : List α}, (∀ x ∈ l, p x = true → q x = true) → (∃ x ∈ l, q x = true ∧ p x = false) → l.countP p < l.countP q := by
  intro l
  induction l with
  | nil => rintro _ ⟨x, hx, _⟩; cases hx
  | cons a l ih =>
    intro h1 h2
    have hle : l.countP p ≤ l.countP q := List.countP_mono_left (fun x hx => h1 x (List.mem_cons_of_mem _ hx))
    rw [List.countP_cons, List.countP_cons]
    obtain ⟨x, hx, hq, hp⟩ := h2
    rcases List.mem_cons.1 hx with rfl | hx
    · rw [hq, hp]; simp; omega
    · have := ih (fun y hy => h1 y (List.mem_cons_of_mem _ hy)) ⟨x, hx, hq, hp⟩
      have h3 := h1 a (List.mem_cons_self ..)
      cases hpa : p a
      · simp; omega
      · rw [h3 hpa]; simp; omega
theorem rank_lt {ts : Nat → List Rt} {d : Int} {n m : Nat} (hm : m < 6) (h : bt ts d n m = true) : rank ts d m < rank ts d n :=
  countP_lt (fun x _ hx => bt_trans h hx) ⟨m, List.mem_range.2 hm, h, bt_irr ts d m⟩
/-- a hop leads to another node that knows a better route, or nowhere -/
theorem hop_next {ts : Nat → List Rt} (h : LInv ts) {n : Nat} (hn : n < 6) {d : Int} (hd : (n : Int) ≠ d) : hop (ts n) d = (0, false) ∨ ∃ m : Nat, m < 6 ∧ m ≠ n ∧ hop (ts n) d = ((m : Int), true) ∧ rank ts d m < rank ts d n := by
  unfold hop
  cases e : (ts n).find? (fun r => decide (r.d = d)) with
  | none => exact .inl rfl
  | some r =>
    have h1 := List.mem_of_find?_eq_some e
    have h2 := List.find?_some e
    simp only [decide_eq_true_eq] at h2
    cases hf : finB r with
    | false => left; simp [hf]
    | true =>
      right
      have hrd : r.d ≠ (n : Int) := fun h3 => hd (by rw [← h3, h2])
      obtain ⟨m, hm, hrn, q, hq, hqd, hb⟩ := h.nx n hn r h1 hf hrd
      refine ⟨m, hm, fun e2 => ?_, by simp [hf, hrn], rank_lt hm ?_⟩
      · subst e2
        exact ((bad_no hrd).1 ((h.ok m hn).bad r h1)).2 hrn
      · unfold bt
        rw [find_some (h.ok m hm).asc hq (hqd.trans h2), e]
        exact hb
end Go.Proofs.Ytlmoeempblgdkaa
