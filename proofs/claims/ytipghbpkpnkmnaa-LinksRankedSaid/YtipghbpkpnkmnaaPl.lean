/- What the link functions compute: plain facts. -/
import Derived.Test.YtipghbpkpnkmnaaWc
namespace Go.Proofs.Ytipghbpkpnkmnaa
open Go.RowKit Go.BigFrame

def Sorted (l : List Link) : Prop := l.Pairwise (fun a b => a.node < b.node)
def Good (l : List Link) : Prop := l.length ≤ 24 ∧ Sorted l ∧ ∀ a ∈ l, ¬ bad a
theorem errF_zero : ∀ {l : List Link} {p : Option Int}, errF l p = 0 ↔ (∀ a ∈ l, ¬ bad a) ∧ Sorted l ∧ (∀ q, p = some q → ∀ a ∈ l, q < a.node) := by
  intro l
  induction l with
  | nil => intro p; simp [errF, Sorted]
  | cons a r ih =>
    intro p
    rw [errF_cons]
    by_cases hb : bad a
    · rw [if_pos hb]
      refine ⟨fun h => by omega, fun h => absurd hb (h.1 a (by simp))⟩
    · rw [if_neg hb]
      have hgo : errF r (some a.node) = 0 ↔ (∀ b ∈ a :: r, ¬ bad b) ∧ Sorted (a :: r) := by
        rw [ih]
        constructor
        · rintro ⟨h1, h2, h3⟩
          refine ⟨fun b hb' => ?_, List.pairwise_cons.2 ⟨fun b hb' => h3 _ rfl b hb', h2⟩⟩
          rcases List.mem_cons.1 hb' with rfl | h
          · exact hb
          · exact h1 b h
        · rintro ⟨h1, h2⟩
          obtain ⟨h3, h4⟩ := List.pairwise_cons.1 h2
          exact ⟨fun b hb' => h1 b (by simp [hb']), h4, fun q hq b hb' => by cases hq; exact h3 b hb'⟩
      cases p with
      | none =>
        simp only []
        rw [hgo]
        exact ⟨fun h => ⟨h.1, h.2, fun q hq => by cases hq⟩, fun h => ⟨h.1, h.2.1⟩⟩
      | some q =>
        simp only []
        by_cases ho : a.node ≤ q
        · rw [if_pos ho]
          refine ⟨fun h => by omega, fun h => ?_⟩
          have := h.2.2 q rfl a (by simp)
          omega
        · rw [if_neg ho, hgo]
          refine ⟨fun h => ⟨h.1, h.2, fun q' hq b hb' => ?_⟩, fun h => ⟨h.1, h.2.1⟩⟩
          cases hq
          rcases List.mem_cons.1 hb' with rfl | hm
          · omega
          · have := (List.pairwise_cons.1 h.2).1 b hm
            omega
theorem chk_good {l : List Link} : chk l = 0 ↔ Good l := by
  unfold chk Good
  by_cases h : 24 < l.length
  · rw [if_pos h]; exact ⟨fun h' => by omega, fun h' => by omega⟩
  · rw [if_neg h, errF_zero]
    exact ⟨fun h' => ⟨by omega, h'.2.1, h'.1⟩, fun h' => ⟨h'.2.2, h'.2.1, fun q hq => by cases hq⟩⟩
theorem good_nil : Good [] := ⟨by simp, .nil, by simp⟩
theorem tab_good (l : List Link) : Good (tab l) := by
  by_cases h : chk l = 0
  · rw [tab_ok h]; exact chk_good.1 h
  · rw [tab_no h]; exact good_nil
theorem tab_of_good {l : List Link} (h : Good l) : tab l = l := tab_ok (chk_good.2 h)
theorem tab_tab (l : List Link) : tab (tab l) = tab l := tab_of_good (tab_good l)
theorem good_bits {a : Link} (h : ¬ bad a) : 0 ≤ a.node ∧ a.node ≤ 250 ∧ 0 ≤ a.count ∧ a.count ≤ 16 ∧ 0 ≤ a.bits ∧ a.bits < 2 ^ a.count.toNat ∧ a.bits < 65536 := by
  have c1 : ¬ a.node < 0 := fun c => h (.inl c)
  have c2 : ¬ 250 < a.node := fun c => h (.inr (.inl c))
  have c3 : ¬ a.count < 0 := fun c => h (.inr (.inr (.inl c)))
  have c4 : ¬ 16 < a.count := fun c => h (.inr (.inr (.inr (.inl c))))
  have c5 : ¬ a.bits < 0 := fun c => h (.inr (.inr (.inr (.inr (.inl c)))))
  have c6 : ¬ (2 : Int) ^ a.count.toNat ≤ a.bits := fun c => h (.inr (.inr (.inr (.inr (.inr c)))))
  have hp : ((2 ^ a.count.toNat : Nat) : Int) ≤ ((2 ^ 16 : Nat) : Int) := by exact_mod_cast Nat.pow_le_pow_right (show 2 > 0 by decide) (show a.count.toNat ≤ 16 by omega)
  have hp2 : ((2 ^ a.count.toNat : Nat) : Int) = (2 : Int) ^ a.count.toNat := by simp
  rw [hp2] at hp
  have h65 : (((2 ^ 16 : Nat)) : Int) = 65536 := by decide
  rw [h65] at hp
  exact ⟨by omega, by omega, by omega, by omega, by omega, by omega, by omega⟩

/-- where a node is, or would be -/
def pos (l : List Link) (v : Int) : Nat := l.findIdx (fun a => decide (v ≤ a.node))
def fnd (l : List Link) (v : Int) : Bool := match l[pos l v]? with | some a => a.node == v | none => false
theorem pos_le (l : List Link) (v : Int) : pos l v ≤ l.length := List.findIdx_le_length
theorem pos_at {l : List Link} {v : Int} {j : Nat} {a : Link} (h : ∀ (i : Nat) (b : Link), i < j → l[i]? = some b → b.node < v) (hj : l[j]? = some a) (ha : ¬ a.node < v) : pos l v = j := by
  have hlt : j < l.length := (List.getElem?_eq_some_iff.1 hj).1
  have he : l[j] = a := (List.getElem?_eq_some_iff.1 hj).2
  refine (List.findIdx_eq hlt).2 ⟨by rw [he]; exact decide_eq_true (by omega), fun i hi => ?_⟩
  exact decide_eq_false (by have := h i l[i] hi (List.getElem?_eq_getElem _); omega)
theorem pos_none {l : List Link} {v : Int} (h : ∀ (i : Nat) (b : Link), l[i]? = some b → b.node < v) : pos l v = l.length := by
  refine List.findIdx_eq_length.2 fun a ha => ?_
  obtain ⟨i, hi, rfl⟩ := List.getElem_of_mem ha
  exact decide_eq_false (by have := h i _ (List.getElem?_eq_getElem hi); omega)
theorem pos_cons_lt {a : Link} {r : List Link} {v : Int} (h : a.node < v) : pos (a :: r) v = pos r v + 1 := by
  have : decide (v ≤ a.node) = false := decide_eq_false (by omega)
  simp [pos, List.findIdx_cons, this]
theorem pos_cons_ge {a : Link} {r : List Link} {v : Int} (h : ¬ a.node < v) : pos (a :: r) v = 0 := by
  have : decide (v ≤ a.node) = true := decide_eq_true (by omega)
  simp [pos, List.findIdx_cons, this]
theorem fnd_cons_lt {a : Link} {r : List Link} {v : Int} (h : a.node < v) : fnd (a :: r) v = fnd r v := by
  unfold fnd; rw [pos_cons_lt h]; simp
theorem fnd_some {l : List Link} {v : Int} (h : fnd l v = true) : ∃ a, l[pos l v]? = some a ∧ a.node = v := by
  unfold fnd at h
  cases hq : l[pos l v]? with
  | none => rw [hq] at h; cases h
  | some a => rw [hq] at h; exact ⟨a, rfl, by simpa using h⟩

/-- one more result -/
def upd (a : Link) (ok : Bool) : Link := ⟨a.node, (2 * a.bits + (if ok then 1 else 0)) % 65536, if 16 < a.count + 1 then 16 else a.count + 1⟩
def seenT (t : List Link) (v : Int) (ok : Bool) : List Link :=
  if v < 0 ∨ 250 < v then t
  else if fnd t v = true then t.modify (pos t v) (fun a => upd a ok)
  else if t.length = 24 then t else t.take (pos t v) ++ upd ⟨v, 0, 0⟩ ok :: t.drop (pos t v)
def forgT (t : List Link) (v : Int) : List Link := if fnd t v = true then t.eraseIdx (pos t v) else t
/-- what the reference computes -/
def atR (t : List Link) (v : Int) : Option Link := t.find? (fun a => a.node == v)
def outR (t : List Link) (v : Int) : List Link := t.filter (fun a => a.node != v)
def seenR (t : List Link) (v : Int) (ok : Bool) : List Link :=
  if v < 0 ∨ 250 < v ∨ (atR t v = none ∧ 24 ≤ t.length) then t
  else (outR t v).takeWhile (fun a => decide (a.node < v)) ++ upd ⟨v, ((atR t v).getD l0).bits, ((atR t v).getD l0).count⟩ ok :: (outR t v).drop ((outR t v).takeWhile (fun a => decide (a.node < v))).length

theorem not_fnd_out {t : List Link} {v : Int} (hs : Sorted t) (h : fnd t v = false) : outR t v = t ∧ atR t v = none ∧ (t.takeWhile (fun a => decide (a.node < v))) = t.take (pos t v) := by
  induction t with
  | nil => exact ⟨rfl, rfl, rfl⟩
  | cons a r ih =>
    obtain ⟨h1, h2⟩ := List.pairwise_cons.1 hs
    by_cases ha : a.node < v
    · rw [fnd_cons_lt ha] at h
      obtain ⟨e1, e2, e3⟩ := ih h2 h
      have hne : (a.node != v) = true := by rw [bne_iff_ne]; omega
      have hne' : (a.node == v) = false := by rw [beq_eq_false_iff_ne]; omega
      refine ⟨by unfold outR at e1 ⊢; rw [List.filter_cons_of_pos (p := fun (x : Link) => x.node != v) hne, e1], by unfold atR at e2 ⊢; rw [List.find?_cons_of_neg (by rw [hne']; decide), e2], ?_⟩
      rw [pos_cons_lt ha, List.take_succ_cons, List.takeWhile_cons_of_pos (by exact decide_eq_true ha), e3]
    · have hp := pos_cons_ge (r := r) ha
      have hne : ¬ a.node = v := by
        intro e
        unfold fnd at h
        rw [hp] at h
        simp [e] at h
      have hall : ∀ b ∈ a :: r, v < b.node := by
        intro b hb
        rcases List.mem_cons.1 hb with rfl | hb
        · omega
        · have := h1 b hb; omega
      refine ⟨List.filter_eq_self.2 fun b hb => by have := hall b hb; rw [bne_iff_ne]; omega, List.find?_eq_none.2 fun b hb => by have := hall b hb; simp; omega, ?_⟩
      rw [hp, List.take_zero, List.takeWhile_cons_of_neg (by rw [decide_eq_false ha]; decide)]
theorem fnd_out {t : List Link} {v : Int} (hs : Sorted t) (h : fnd t v = true) : ∃ a, t[pos t v]? = some a ∧ a.node = v ∧ atR t v = some a ∧ outR t v = t.eraseIdx (pos t v) ∧
    (outR t v).takeWhile (fun a => decide (a.node < v)) = t.take (pos t v) ∧ (outR t v).drop (pos t v) = t.drop (pos t v + 1) := by
  induction t with
  | nil => cases h
  | cons a r ih =>
    obtain ⟨h1, h2⟩ := List.pairwise_cons.1 hs
    by_cases ha : a.node < v
    · rw [fnd_cons_lt ha] at h
      obtain ⟨b, e1, e2, e3, e4, e5, e6⟩ := ih h2 h
      have hne : (a.node != v) = true := by rw [bne_iff_ne]; omega
      have hne' : (a.node == v) = false := by rw [beq_eq_false_iff_ne]; omega
      have ho : outR (a :: r) v = a :: outR r v := by unfold outR; rw [List.filter_cons_of_pos (p := fun (x : Link) => x.node != v) hne]
      refine ⟨b, by rw [pos_cons_lt ha]; simpa using e1, e2, by unfold atR at e3 ⊢; rw [List.find?_cons_of_neg (by rw [hne']; decide), e3], ?_, ?_, ?_⟩
      · rw [ho, pos_cons_lt ha, List.eraseIdx_cons_succ, e4]
      · rw [ho, pos_cons_lt ha, List.take_succ_cons, List.takeWhile_cons_of_pos (by exact decide_eq_true ha), e5]
      · rw [ho, pos_cons_lt ha, List.drop_succ_cons, e6]; rfl
    · have hp := pos_cons_ge (r := r) ha
      have he : a.node = v := by
        unfold fnd at h
        rw [hp] at h
        simpa using h
      have hall : ∀ b ∈ r, v < b.node := fun b hb => by have := h1 b hb; omega
      have ho : outR (a :: r) v = r := by
        unfold outR
        rw [List.filter_cons_of_neg (by rw [he]; simp)]
        exact List.filter_eq_self.2 fun b hb => by have := hall b hb; rw [bne_iff_ne]; omega
      refine ⟨a, by rw [hp]; rfl, he, by unfold atR; rw [List.find?_cons_of_pos (by rw [he]; simp)], by rw [ho, hp]; rfl, ?_, by rw [ho, hp]; rfl⟩
      rw [ho, hp, List.take_zero]
      cases r with
      | nil => rfl
      | cons b r' => rw [List.takeWhile_cons_of_neg (by have := hall b (by simp); rw [decide_eq_false (by omega)]; decide)]
theorem forg_eq {t : List Link} {v : Int} (hs : Sorted t) : forgT t v = outR t v := by
  unfold forgT
  cases h : fnd t v with
  | true => obtain ⟨a, _, _, _, e4, _⟩ := fnd_out hs h; rw [if_pos rfl, e4]
  | false => rw [if_neg (by decide), (not_fnd_out hs h).1]
theorem seen_eq {t : List Link} {v : Int} {ok : Bool} (hg : Good t) : seenT t v ok = seenR t v ok := by
  unfold seenT seenR
  by_cases hv : v < 0 ∨ 250 < v
  · rw [if_pos hv, if_pos (by omega)]
  · rw [if_neg hv]
    cases h : fnd t v with
    | true =>
      obtain ⟨a, e1, e2, e3, e4, e5, e6⟩ := fnd_out hg.2.1 h
      have hlt : pos t v < t.length := (List.getElem?_eq_some_iff.1 e1).1
      have hta : t[pos t v] = a := (List.getElem?_eq_some_iff.1 e1).2
      rw [if_pos rfl, if_neg (by rw [e3]; simp; omega), e5, e3, List.length_take, Nat.min_eq_left (by omega), e6]
      rw [List.modify_eq_take_cons_drop hlt, hta]
      simp only [Option.getD_some]
      congr 2
      obtain ⟨⟩ := a
      simp at e2
      subst e2; rfl
    | false =>
      obtain ⟨e1, e2, e3⟩ := not_fnd_out hg.2.1 h
      rw [if_neg (by decide)]
      by_cases h24 : t.length = 24
      · rw [if_pos h24, if_pos (.inr (.inr ⟨e2, by omega⟩))]
      · have := hg.1
        rw [if_neg h24, if_neg (by rw [e2]; simp; omega), e1, e3, e2, List.length_take, Nat.min_eq_left (pos_le t v)]
        rfl
end Go.Proofs.Ytipghbpkpnkmnaa
