/- What Bump, Update and Break keep: plain. -/
import Derived.Test.YtlmoeempblgdkaaLg
namespace Go.Proofs.Ytlmoeempblgdkaa
open Go.RowKit Go.BigFrame
set_option linter.unusedVariables false
set_option linter.unusedSimpArgs false

/-- q is r, or the better route to r's destination -/
def geB (q r : Rt) : Bool := decide (q = r) || (decide (q.d = r.d) && betB q r)
def Kept (t u : List Rt) : Prop := ∀ r ∈ t, ∃ q ∈ u, geB q r = true
theorem bet_iff {a b : Rt} : betB a b = true ↔ b.s < a.s ∨ (a.s = b.s ∧ a.c < b.c) := by
  unfold betB
  simp
theorem ge_iff {q r : Rt} : geB q r = true ↔ q = r ∨ (q.d = r.d ∧ (r.s < q.s ∨ (q.s = r.s ∧ q.c < r.c))) := by
  unfold geB
  rw [Bool.or_eq_true, Bool.and_eq_true, bet_iff]
  simp
theorem ge_refl (r : Rt) : geB r r = true := ge_iff.2 (.inl rfl)
theorem ge_trans {a b c : Rt} (h1 : geB a b = true) (h2 : geB b c = true) : geB a c = true := by
  rw [ge_iff] at *
  rcases h1 with rfl | ⟨h1, h3⟩
  · exact h2
  · rcases h2 with rfl | ⟨h2, h4⟩
    · exact .inr ⟨h1, h3⟩
    · exact .inr ⟨h1.trans h2, by omega⟩
theorem Kept.refl (t : List Rt) : Kept t t := fun r hr => ⟨r, hr, ge_refl r⟩
theorem Kept.trans {a b c : List Rt} (h1 : Kept a b) (h2 : Kept b c) : Kept a c := fun r hr => by
  obtain ⟨q, hq, h⟩ := h1 r hr
  obtain ⟨p, hp, h'⟩ := h2 q hq
  exact ⟨p, hp, ge_trans h' h⟩
/-- a table without an error -/
structure TOk (t : List Rt) (me : Int) : Prop where
  le : t.length ≤ 24
  node : nodeB me = true
  asc : Asc t
  rok : ∀ r ∈ t, rokB r = true
  own : ∃ r ∈ t, r.d = me
  bad : ∀ r ∈ t, badB me r = false
theorem tok_of {t : List Rt} {self : Int} (h : chk t self = 0) : TOk t self := by
  obtain ⟨h1, h2, h3, h4, h5⟩ := chk_zero h
  refine ⟨h1, h2, h3.asc, h3.ok, ?_, fun r hr => ?_⟩
  · rw [List.all_eq_false] at h4
    obtain ⟨r, hr, hd⟩ := h4
    exact ⟨r, hr, by simpa using hd⟩
  · rw [List.any_eq_false] at h5
    simpa using h5 r hr
theorem chk1_zero : ∀ (l : List Rt) (p : Option Int), (∀ r ∈ l, rokB r = true) → Asc l → (∀ q, p = some q → ∀ r ∈ l, q < r.d) → chk1 p l = 0 := by
  intro l
  induction l with
  | nil => intro p _ _ _; cases p <;> rfl
  | cons r l ih =>
    intro p h1 h2 h3
    unfold Asc at h2
    rw [List.pairwise_cons] at h2
    have ho : ordB p r = true := by
      cases p with
      | none => rfl
      | some q => exact decide_eq_true (h3 q rfl r (List.mem_cons_self ..))
    rw [chk1_step (h1 r (List.mem_cons_self ..)) ho]
    exact ih _ (fun q hq => h1 q (List.mem_cons_of_mem _ hq)) h2.2 (fun q hq x hx => by cases hq; exact h2.1 x hx)
theorem TOk.chk {t : List Rt} {self : Int} (h : TOk t self) : chk t self = 0 := by
  have h1 : chk1 none t = 0 := chk1_zero t none h.rok h.asc (fun q hq => by cases hq)
  rw [chk_two (by have := h.le; omega) h.node h1]
  have e1 : t.all (fun r => decide (r.d ≠ self)) = false := by
    rw [List.all_eq_false]
    obtain ⟨r, hr, hd⟩ := h.own
    exact ⟨r, hr, by simp [hd]⟩
  have e2 : t.any (badB self) = false := by
    rw [List.any_eq_false]
    intro r hr
    rw [h.bad r hr]
    simp
  rw [e1, e2]
  rfl
theorem lim_node {self : Int} (h : nodeB self = true) : lim self = self := by
  rw [node_lim] at h
  exact (of_decide_eq_true h).symm
theorem TOk.lim {t : List Rt} {self : Int} (h : TOk t self) : lim self = self := lim_node h.node
theorem TOk.tab {t : List Rt} {self : Int} (h : TOk t self) : tab t self = t := tab_yes (by rw [h.lim]; exact h.chk)
theorem TOk.set {t : List Rt} {self : Int} {k : Nat} {q r : Rt} (h : TOk t self) (hk : t[k]? = some q) (hd : q.d = r.d) (h1 : rokB r = true) (h2 : badB self r = false) : TOk (t.set k r) self := by
  refine ⟨by rw [List.length_set]; exact h.le, h.node, asc_set h.asc hk hd, fun x hx => ?_, ?_, fun x hx => ?_⟩
  · rcases List.mem_or_eq_of_mem_set hx with hx | rfl
    · exact h.rok x hx
    · exact h1
  · obtain ⟨p, hp, hpd⟩ := h.own
    obtain ⟨i, hi⟩ := List.getElem?_of_mem hp
    by_cases hik : i = k
    · subst hik
      rw [hk] at hi
      cases hi
      exact ⟨r, List.mem_set (List.getElem?_eq_some_iff.1 hk).1 r, by rw [← hd]; exact hpd⟩
    · exact ⟨p, List.mem_of_getElem? (i := i) (by rw [List.getElem?_set, if_neg (fun e => hik e.symm)]; exact hi), hpd⟩
  · rcases List.mem_or_eq_of_mem_set hx with hx | rfl
    · exact h.bad x hx
    · exact h2
theorem kept_set {t : List Rt} {k : Nat} {q r : Rt} (hk : t[k]? = some q) (hg : geB r q = true) : Kept t (t.set k r) := by
  intro x hx
  obtain ⟨i, hi⟩ := List.getElem?_of_mem hx
  by_cases hik : i = k
  · subst hik
    rw [hk] at hi
    cases hi
    exact ⟨r, List.mem_set (List.getElem?_eq_some_iff.1 hk).1 r, hg⟩
  · exact ⟨x, List.mem_of_getElem? (i := i) (by rw [List.getElem?_set, if_neg (fun e => hik e.symm)]; exact hi), ge_refl x⟩
theorem mem_ins {t : List Rt} {k : Nat} {r x : Rt} : x ∈ t.take k ++ r :: t.drop k ↔ x = r ∨ x ∈ t := by
  conv => rhs; rw [← List.take_append_drop k t]
  simp only [List.mem_append, List.mem_cons]
  constructor
  · rintro (h | h | h)
    · exact .inr (.inl h)
    · exact .inl h
    · exact .inr (.inr h)
  · rintro (h | h | h)
    · exact .inr (.inl h)
    · exact .inl h
    · exact .inr (.inr h)
theorem TOk.ins {t : List Rt} {self : Int} {k : Nat} {r : Rt} (h : TOk t self) (hc : CutAt t r.d k) (hno : ¬ ∃ q, t[k]? = some q ∧ q.d = r.d) (hl : t.length < 24) (h1 : rokB r = true) (h2 : badB self r = false) : TOk (t.take k ++ r :: t.drop k) self := by
  refine ⟨by simp; omega, h.node, asc_ins h.asc hc hno, fun x hx => ?_, ?_, fun x hx => ?_⟩
  · rcases mem_ins.1 hx with rfl | hx
    · exact h1
    · exact h.rok x hx
  · obtain ⟨p, hp, hpd⟩ := h.own
    exact ⟨p, mem_ins.2 (.inr hp), hpd⟩
  · rcases mem_ins.1 hx with rfl | hx
    · exact h2
    · exact h.bad x hx
/-- a route that is learnt: what comes of the table -/
theorem TOk.lrn {t : List Rt} {self fr : Int} {r : Rt} (h : TOk t self) (h1 : rokB r = true) (h2 : badB self r = false) : TOk (lrn t fr r) self ∧ Kept t (lrn t fr r) ∧ ∀ x ∈ Ytlmoeempblgdkaa.lrn t fr r, x ∈ t ∨ x = r := by
  obtain ⟨hc, hk⟩ := lo_cut (x := r.d) h.asc
  rw [lrn_at hk hc]
  generalize lo t r.d = k at hc hk
  have hsame : TOk t self ∧ Kept t t ∧ ∀ x ∈ t, x ∈ t ∨ x = r := ⟨h, Kept.refl t, fun x hx => .inl hx⟩
  by_cases hf : ∃ q, t[k]? = some q ∧ q.d = r.d
  · obtain ⟨q, hq, hd⟩ := hf
    have hset : geB r q = true → TOk (t.set k r) self ∧ Kept t (t.set k r) ∧ ∀ x ∈ t.set k r, x ∈ t ∨ x = r := fun hg =>
      ⟨h.set hq hd h1 h2, kept_set hq hg, fun x hx => List.mem_or_eq_of_mem_set hx⟩
    rw [lrnAt_yes hq hd]
    split
    · split
      · rename_i hb
        exact hset (ge_iff.2 (.inr ⟨hd.symm, bet_iff.1 hb⟩))
      · exact hsame
    · split
      · rename_i hb
        exact hset (ge_iff.2 (.inr ⟨hd.symm, .inl hb.2⟩))
      · exact hsame
  · rw [lrnAt_no hf]
    split
    · rename_i hh
      exact ⟨h.ins hc hf hh.2 h1 h2, fun x hx => ⟨x, mem_ins.2 (.inr hx), ge_refl x⟩, fun x hx => (mem_ins.1 hx).symm⟩
    · exact hsame
theorem us_iff {r : Rt} : usB r = true ↔ (0 ≤ r.d ∧ r.d ≤ 250) ∧ 0 ≤ r.s ∧ r.s ≤ 65535 ∧ ((0 ≤ r.c ∧ r.c ≤ 200 ∧ r.s % 2 = 0) ∨ r.c = 255) := by
  unfold usB nodeB finB
  simp
  omega
theorem fin_iff {r : Rt} : finB r = true ↔ 0 ≤ r.c ∧ r.c ≤ 200 := by
  unfold finB
  simp
theorem node_iff {n : Int} : nodeB n = true ↔ 0 ≤ n ∧ n ≤ 250 := by
  unfold nodeB
  simp
theorem rok_iff {r : Rt} : rokB r = true ↔ usB r = true ∧ ((0 ≤ r.c ∧ r.c ≤ 200 ∧ 0 ≤ r.n ∧ r.n ≤ 250) ∨ (¬ (0 ≤ r.c ∧ r.c ≤ 200) ∧ r.n = 255)) := by
  unfold rokB
  rw [Bool.and_eq_true]
  refine and_congr_right fun _ => ?_
  split
  · rename_i hf
    rw [fin_iff] at hf
    rw [node_iff]
    omega
  · rename_i hf
    rw [fin_iff] at hf
    simp
    omega
theorem bad_no {self : Int} {r : Rt} (h : r.d ≠ self) : badB self r = false ↔ r.c ≠ 0 ∧ r.n ≠ self := by
  unfold badB
  rw [if_neg h]
  simp
theorem bad_own {self : Int} {r : Rt} (h : r.d = self) : badB self r = false ↔ r.c = 0 ∧ r.n = self := by
  unfold badB
  rw [if_pos h]
  simp
theorem adv_ok {self fr cost : Int} {a : Rt} (hu : updOk self fr cost) (hl : lim self = self) (h1 : usB a = true) (h2 : a.d ≠ self) (h3 : nodeB self = true) : rokB (adv fr cost a) = true ∧ badB self (adv fr cost a) = false := by
  obtain ⟨u1, u2, u3, u4⟩ := hu
  rw [hl] at u2
  rw [node_iff] at u1 h3
  rw [us_iff] at h1
  obtain ⟨d1, d2⟩ := adv_d fr cost a
  rw [rok_iff, us_iff, bad_no (by rw [d1]; exact h2)]
  unfold adv
  split
  · rename_i hf
    rw [fin_iff] at hf
    refine ⟨⟨⟨h1.1, h1.2.1, h1.2.2.1, .inl ?_⟩, .inl ?_⟩, ?_, u2⟩
    · show (0 : Int) ≤ a.c + cost ∧ a.c + cost ≤ 200 ∧ a.s % 2 = 0
      omega
    · show (0 : Int) ≤ a.c + cost ∧ a.c + cost ≤ 200 ∧ 0 ≤ fr ∧ fr ≤ 250
      omega
    · show a.c + cost ≠ 0
      omega
  · refine ⟨⟨⟨h1.1, h1.2.1, h1.2.2.1, .inr rfl⟩, .inr ⟨?_, rfl⟩⟩, ?_, ?_⟩
    · show ¬ ((0 : Int) ≤ 255 ∧ (255 : Int) ≤ 200)
      omega
    · show (255 : Int) ≠ 0
      omega
    · show (255 : Int) ≠ self
      omega
theorem TOk.fold {self fr cost : Int} (hu : updOk self fr cost) : ∀ (l t : List Rt), TOk t self → TOk (l.foldl (step self fr cost) t) self ∧ Kept t (l.foldl (step self fr cost) t) ∧ ∀ x ∈ l.foldl (step self fr cost) t, x ∈ t ∨ ∃ a ∈ l, usB a = true ∧ a.d ≠ self ∧ x = adv fr cost a := by
  intro l
  induction l with
  | nil => intro t h; exact ⟨h, Kept.refl t, fun x hx => .inl hx⟩
  | cons a l ih =>
    intro t h
    rw [List.foldl_cons]
    by_cases hh : usB a = true ∧ a.d ≠ self
    · have e : step self fr cost t a = Ytlmoeempblgdkaa.lrn t fr (adv fr cost a) := by unfold step; rw [if_pos hh]
      rw [e]
      obtain ⟨r1, r2⟩ := adv_ok hu h.lim hh.1 hh.2 h.node
      obtain ⟨h1, h2, h3⟩ := h.lrn (fr := fr) r1 r2
      obtain ⟨k1, k2, k3⟩ := ih _ h1
      refine ⟨k1, h2.trans k2, fun x hx => ?_⟩
      rcases k3 x hx with hx | ⟨b, hb, hr⟩
      · rcases h3 x hx with hx | hx
        · exact .inl hx
        · exact .inr ⟨a, List.mem_cons_self .., hh.1, hh.2, hx⟩
      · exact .inr ⟨b, List.mem_cons_of_mem _ hb, hr⟩
    · have e : step self fr cost t a = t := by unfold step; rw [if_neg hh]
      rw [e]
      obtain ⟨k1, k2, k3⟩ := ih _ h
      refine ⟨k1, k2, fun x hx => ?_⟩
      rcases k3 x hx with hx | ⟨b, hb, hr⟩
      · exact .inl hx
      · exact .inr ⟨b, List.mem_cons_of_mem _ hb, hr⟩
theorem TOk.upd {t : List Rt} {self : Int} (h : TOk t self) (fr cost : Int) (l : List Rt) : TOk (upd t self fr cost l) self ∧ Kept t (upd t self fr cost l) ∧ ∀ x ∈ Ytlmoeempblgdkaa.upd t self fr cost l, x ∈ t ∨ (updOk self fr cost ∧ ∃ a ∈ l, usB a = true ∧ a.d ≠ self ∧ x = adv fr cost a) := by
  unfold Ytlmoeempblgdkaa.upd
  rw [h.tab, h.lim]
  split
  · rename_i hu
    obtain ⟨k1, k2, k3⟩ := TOk.fold hu l t h
    exact ⟨k1, k2, fun x hx => (k3 x hx).imp id (fun hr => ⟨hu, hr⟩)⟩
  · exact ⟨h, Kept.refl t, fun x hx => .inl hx⟩
/-- a table whose routes are each turned into better ones -/
theorem TOk.map {t : List Rt} {self : Int} {f : Rt → Rt} (h : TOk t self) (hf : ∀ r ∈ t, (f r).d = r.d ∧ rokB (f r) = true ∧ badB self (f r) = false ∧ geB (f r) r = true) : TOk (t.map f) self ∧ Kept t (t.map f) := by
  refine ⟨⟨by rw [List.length_map]; exact h.le, h.node, ?_, fun x hx => ?_, ?_, fun x hx => ?_⟩, fun r hr => ⟨f r, List.mem_map_of_mem hr, (hf r hr).2.2.2⟩⟩
  · have := h.asc
    unfold Asc at this ⊢
    rw [List.pairwise_map]
    refine this.imp_of_mem (fun {a b} ha hb hab => ?_)
    rw [(hf a ha).1, (hf b hb).1]
    exact hab
  · obtain ⟨r, hr, rfl⟩ := List.mem_map.1 hx
    exact (hf r hr).2.1
  · obtain ⟨p, hp, hpd⟩ := h.own
    exact ⟨f p, List.mem_map_of_mem hp, (hf p hp).1.trans hpd⟩
  · obtain ⟨r, hr, rfl⟩ := List.mem_map.1 hx
    exact (hf r hr).2.2.1
theorem TOk.bump {t : List Rt} {self : Int} (h : TOk t self) : TOk (bump t self) self ∧ Kept t (bump t self) ∧ ∀ x ∈ Ytlmoeempblgdkaa.bump t self, x ∈ t ∨ x.d = self := by
  unfold Ytlmoeempblgdkaa.bump
  rw [h.tab, h.lim]
  have key : ∀ r ∈ t, (bump1 self r).d = r.d ∧ rokB (bump1 self r) = true ∧ badB self (bump1 self r) = false ∧ geB (bump1 self r) r = true := by
    intro r hr
    have r1 := h.rok r hr
    have r2 := h.bad r hr
    unfold bump1
    split
    · rename_i hb
      rw [bad_own hb.1] at r2
      rw [rok_iff, us_iff] at r1
      refine ⟨rfl, ?_, (bad_own hb.1).2 r2, ge_iff.2 (.inr ⟨rfl, .inl ?_⟩)⟩
      · rw [rok_iff, us_iff]
        refine ⟨⟨r1.1.1, ?_, ?_, .inl ?_⟩, .inl ?_⟩
        · show (0 : Int) ≤ r.s + 2; omega
        · show r.s + 2 ≤ (65535 : Int); omega
        · show (0 : Int) ≤ r.c ∧ r.c ≤ 200 ∧ (r.s + 2) % 2 = 0; omega
        · show (0 : Int) ≤ r.c ∧ r.c ≤ 200 ∧ 0 ≤ r.n ∧ r.n ≤ 250; omega
      · show r.s < r.s + 2; omega
    · exact ⟨rfl, r1, r2, ge_refl r⟩
  obtain ⟨h1, h2⟩ := h.map key
  refine ⟨h1, h2, fun x hx => ?_⟩
  obtain ⟨r, hr, rfl⟩ := List.mem_map.1 hx
  unfold bump1
  split
  · rename_i hb
    exact .inr hb.1
  · exact .inl hr
theorem TOk.brk {t : List Rt} {self : Int} (h : TOk t self) (next : Int) : TOk (brk t self next) self ∧ Kept t (brk t self next) ∧ ∀ x ∈ Ytlmoeempblgdkaa.brk t self next, finB x = true → x ∈ t := by
  unfold Ytlmoeempblgdkaa.brk
  rw [h.tab, h.lim]
  split
  · rename_i hn
    rw [node_iff] at hn
    have hself := node_iff.1 h.node
    have key : ∀ r ∈ t, (brk1 self next r).d = r.d ∧ rokB (brk1 self next r) = true ∧ badB self (brk1 self next r) = false ∧ geB (brk1 self next r) r = true := by
      intro r hr
      have r1 := h.rok r hr
      have r2 := h.bad r hr
      unfold brk1
      split
      · rename_i hb
        rw [bad_no hb.2] at r2
        rw [rok_iff, us_iff] at r1
        refine ⟨rfl, ?_, (bad_no (r := ⟨r.d, r.s + 1, 255, 255⟩) hb.2).2 ⟨?_, ?_⟩, ge_iff.2 (.inr ⟨rfl, .inl ?_⟩)⟩
        · rw [rok_iff, us_iff]
          refine ⟨⟨r1.1.1, ?_, ?_, .inr rfl⟩, .inr ⟨?_, rfl⟩⟩
          · show (0 : Int) ≤ r.s + 1; omega
          · show r.s + 1 ≤ (65535 : Int); omega
          · show ¬ ((0 : Int) ≤ 255 ∧ (255 : Int) ≤ 200); omega
        · show (255 : Int) ≠ 0; omega
        · show (255 : Int) ≠ self; omega
        · show r.s < r.s + 1; omega
      · exact ⟨rfl, r1, r2, ge_refl r⟩
    obtain ⟨h1, h2⟩ := h.map key
    refine ⟨h1, h2, fun x hx hf => ?_⟩
    obtain ⟨r, hr, rfl⟩ := List.mem_map.1 hx
    unfold brk1 at hf ⊢
    split at hf
    · rw [fin_iff] at hf
      have h3 : (0 : Int) ≤ 255 ∧ (255 : Int) ≤ 200 := hf
      omega
    · rename_i hb
      rw [if_neg hb]
      exact hr
  · exact ⟨h, Kept.refl t, fun x hx _ => hx⟩
end Go.Proofs.Ytlmoeempblgdkaa
