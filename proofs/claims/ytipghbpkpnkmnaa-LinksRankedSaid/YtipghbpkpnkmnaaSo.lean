/- Sorting in place by swaps: plain facts about lists of numbers. Nothing of the program. -/
import Derived.Test.YtipghbpkpnkmnaaSrt
namespace Go.Proofs.Ytipghbpkpnkmnaa

/-- what stands at a place -/
def gv (L : List Int) (i : Nat) : Int := L.getD i 0
/-- two places are swapped -/
def sw (L : List Int) (i j : Nat) : List Int := (L.set i (gv L j)).set j (gv L i)
theorem len_sw (L : List Int) (i j : Nat) : (sw L i j).length = L.length := by simp [sw]
theorem gv_set {L : List Int} {i : Nat} (hi : i < L.length) (x : Int) (k : Nat) : gv (L.set i x) k = if k = i then x else gv L k := by
  unfold gv
  rw [List.getD_eq_getElem?_getD, List.getD_eq_getElem?_getD, List.getElem?_set]
  by_cases h : i = k
  · subst h; simp [hi]
  · rw [if_neg h, if_neg (fun e => h e.symm)]
theorem gv_sw {L : List Int} {i j : Nat} (hi : i < L.length) (hj : j < L.length) (k : Nat) : gv (sw L i j) k = if k = j then gv L i else if k = i then gv L j else gv L k := by
  unfold sw
  rw [gv_set (by simpa using hj), gv_set hi]
theorem gv_at {L : List Int} {i : Nat} (hi : i < L.length) : L[i]? = some (gv L i) := by
  unfold gv
  rw [List.getD_eq_getElem?_getD, List.getElem?_eq_getElem hi]; rfl

/-- what stands in [a, b) has moved within [a, b) -/
structure Mv (a b : Nat) (L L' : List Int) : Prop where
  len : L'.length = L.length
  out : ∀ k, k < a ∨ b ≤ k → gv L' k = gv L k
  fwd : ∀ k, a ≤ k → k < b → ∃ k', a ≤ k' ∧ k' < b ∧ gv L' k = gv L k'
  bwd : ∀ k, a ≤ k → k < b → ∃ k', a ≤ k' ∧ k' < b ∧ gv L k = gv L' k'
theorem Mv.refl (a b : Nat) (L : List Int) : Mv a b L L := ⟨rfl, fun _ _ => rfl, fun k h1 h2 => ⟨k, h1, h2, rfl⟩, fun k h1 h2 => ⟨k, h1, h2, rfl⟩⟩
theorem Mv.trans {a b : Nat} {L M N : List Int} (h : Mv a b L M) (g : Mv a b M N) : Mv a b L N := by
  refine ⟨g.len.trans h.len, fun k hk => (g.out k hk).trans (h.out k hk), fun k h1 h2 => ?_, fun k h1 h2 => ?_⟩
  · obtain ⟨k1, p1, p2, p3⟩ := g.fwd k h1 h2
    obtain ⟨k2, q1, q2, q3⟩ := h.fwd k1 p1 p2
    exact ⟨k2, q1, q2, p3.trans q3⟩
  · obtain ⟨k1, p1, p2, p3⟩ := h.bwd k h1 h2
    obtain ⟨k2, q1, q2, q3⟩ := g.bwd k1 p1 p2
    exact ⟨k2, q1, q2, p3.trans q3⟩
theorem Mv.wide {a b c d : Nat} {L M : List Int} (h : Mv a b L M) (hc : c ≤ a) (hd : b ≤ d) : Mv c d L M := by
  refine ⟨h.len, fun k hk => h.out k (by omega), fun k h1 h2 => ?_, fun k h1 h2 => ?_⟩
  · by_cases hin : a ≤ k ∧ k < b
    · obtain ⟨k1, p1, p2, p3⟩ := h.fwd k hin.1 hin.2
      exact ⟨k1, by omega, by omega, p3⟩
    · exact ⟨k, h1, h2, h.out k (by omega)⟩
  · by_cases hin : a ≤ k ∧ k < b
    · obtain ⟨k1, p1, p2, p3⟩ := h.bwd k hin.1 hin.2
      exact ⟨k1, by omega, by omega, p3⟩
    · exact ⟨k, h1, h2, (h.out k (by omega)).symm⟩
theorem mv_sw {a b i j : Nat} {L : List Int} (hb : b ≤ L.length) (hi : a ≤ i ∧ i < b) (hj : a ≤ j ∧ j < b) : Mv a b L (sw L i j) := by
  have G := fun k => gv_sw (L := L) (i := i) (j := j) (by omega) (by omega) k
  refine ⟨len_sw L i j, fun k hk => ?_, fun k h1 h2 => ?_, fun k h1 h2 => ?_⟩
  · rw [G, if_neg (by omega), if_neg (by omega)]
  · rw [G]
    by_cases e1 : k = j
    · rw [if_pos e1]; exact ⟨i, hi.1, hi.2, rfl⟩
    · rw [if_neg e1]
      by_cases e2 : k = i
      · rw [if_pos e2]; exact ⟨j, hj.1, hj.2, rfl⟩
      · rw [if_neg e2]; exact ⟨k, h1, h2, rfl⟩
  · by_cases e1 : k = i
    · refine ⟨j, hj.1, hj.2, ?_⟩
      rw [G, if_pos rfl, e1]
    · by_cases e2 : k = j
      · refine ⟨i, hi.1, hi.2, ?_⟩
        rw [G, e2]
        by_cases e3 : i = j
        · rw [if_pos e3, e3]
        · rw [if_neg e3, if_pos rfl]
      · refine ⟨k, h1, h2, ?_⟩
        rw [G, if_neg e2, if_neg e1]

variable {cs : Int → Int}
/-- in order of cost and number -/
def lx (cs : Int → Int) (x y : Int) : Prop := cs x < cs y ∨ (cs x = cs y ∧ x < y)
theorem lx_trans {x y z : Int} (h : lx cs x y) (g : lx cs y z) : lx cs x z := by unfold lx at *; omega
/-- of two numbers x below y the cost decides -/
theorem lx_of_lt {x y : Int} (h : x < y) (hc : ¬ cs y < cs x) : lx cs x y := by unfold lx; omega
theorem lx_of_cost {x y : Int} (hc : cs y < cs x) : lx cs y x := .inl hc
theorem cost_of_lx {x y : Int} (h : x < y) (hl : lx cs y x) : cs y < cs x := by unfold lx at hl; omega

def Sd (cs : Int → Int) (L : List Int) (a b : Nat) : Prop := ∀ i j, a ≤ i → i < j → j < b → lx cs (gv L i) (gv L j)
def Up (L : List Int) (a b : Nat) : Prop := ∀ i j, a ≤ i → i < j → j < b → gv L i < gv L j
def Lo (L : List Int) (a m b : Nat) : Prop := ∀ i j, a ≤ i → i < m → m ≤ j → j < b → gv L i < gv L j

/-- insertion sort: the value at j goes down -/
structure Bub (cs : Int → Int) (L0 L : List Int) (a i j : Nat) : Prop where
  mv : Mv a (i + 1) L0 L
  lo : a ≤ j
  hi : j ≤ i
  rest : ∀ p q, a ≤ p → p < q → q ≤ i → p ≠ j → q ≠ j → lx cs (gv L p) (gv L q)
  up : ∀ q, j < q → q ≤ i → lx cs (gv L j) (gv L q)
  nod : ∀ p, a ≤ p → p ≤ i → p ≠ j → gv L p < gv L j
theorem Bub.start {L0 L : List Int} {a b i : Nat} (hm : Mv a i L0 L) (hs : Sd cs L a i) (hu : Up L0 a b) (ha : a ≤ i) (hi : i < b) : Bub cs L0 L a i i := by
  refine ⟨hm.wide (Nat.le_refl _) (Nat.le_succ _), ha, Nat.le_refl _, fun p q h1 h2 h3 h4 h5 => hs p q h1 h2 (by omega), fun q h1 h2 => by omega, fun p h1 h2 h3 => ?_⟩
  obtain ⟨k, p1, p2, p3⟩ := hm.fwd p h1 (by omega)
  rw [p3, hm.out i (by omega)]
  exact hu k i p1 p2 hi
theorem Bub.step {L0 L : List Int} {a i j : Nat} (h : Bub cs L0 L a i j) (hl : i < L.length) (hj : a < j) (hc : cs (gv L j) < cs (gv L (j - 1))) : Bub cs L0 (sw L j (j - 1)) a i (j - 1) := by
  have h2 := h.hi
  have G := fun k => gv_sw (L := L) (i := j) (j := j - 1) (by omega) (by omega) k
  have Gj : gv (sw L j (j - 1)) (j - 1) = gv L j := by rw [G, if_pos rfl]
  have G1 : gv (sw L j (j - 1)) j = gv L (j - 1) := by rw [G, if_neg (by omega), if_pos rfl]
  have Go : ∀ k, k ≠ j - 1 → k ≠ j → gv (sw L j (j - 1)) k = gv L k := fun k e1 e2 => by rw [G, if_neg e1, if_neg e2]
  refine ⟨h.mv.trans (mv_sw (by omega) ⟨h.lo, by omega⟩ ⟨by omega, by omega⟩), by omega, by omega, fun p q p1 p2 p3 p4 p5 => ?_, fun q p1 p2 => ?_, fun p p1 p2 p3 => ?_⟩
  · by_cases e1 : p = j
    · subst e1
      rw [G1, Go q (by omega) (by omega)]
      exact h.rest (p - 1) q (by omega) (by omega) p3 (by omega) (by omega)
    · rw [Go p p4 e1]
      by_cases e2 : q = j
      · subst e2
        rw [G1]
        exact h.rest p (q - 1) p1 (by omega) (by omega) e1 (by omega)
      · rw [Go q p5 e2]
        exact h.rest p q p1 p2 p3 e1 e2
  · rw [Gj]
    by_cases e : q = j
    · subst e; rw [G1]; exact .inl hc
    · rw [Go q (by omega) e]; exact h.up q (by omega) p2
  · rw [Gj]
    by_cases e : p = j
    · subst e; rw [G1]; exact h.nod (p - 1) (by omega) (by omega) (by omega)
    · rw [Go p p3 e]; exact h.nod p p1 p2 e
theorem Bub.stop {L0 L : List Int} {a i j : Nat} (h : Bub cs L0 L a i j) (hc : a < j → ¬ cs (gv L j) < cs (gv L (j - 1))) : Mv a (i + 1) L0 L ∧ Sd cs L a (i + 1) := by
  refine ⟨h.mv, fun p q p1 p2 p3 => ?_⟩
  by_cases e1 : p = j
  · subst e1; exact h.up q p2 (by omega)
  · by_cases e2 : q = j
    · subst e2
      have hl : lx cs (gv L (q - 1)) (gv L q) := lx_of_lt (h.nod (q - 1) (by omega) (by omega) (by omega)) (hc (by omega))
      by_cases e3 : p = q - 1
      · rw [e3]; exact hl
      · exact lx_trans (h.rest p (q - 1) p1 (by omega) (by omega) e1 (by omega)) hl
    · exact h.rest p q p1 p2 (by omega) e1 e2

/-- two neighbouring blocks have changed places -/
def Rot (a m b : Nat) (L L' : List Int) : Prop := L'.length = L.length ∧ ∀ k, gv L' k = if a ≤ k ∧ k < b then (if k < a + (b - m) then gv L (k + (m - a)) else gv L (k - (b - m))) else gv L k
theorem Rot.mv {a m b : Nat} {L L' : List Int} (h : Rot a m b L L') (h1 : a ≤ m) (h2 : m ≤ b) : Mv a b L L' := by
  refine ⟨h.1, fun k hk => by rw [h.2, if_neg (by omega)], fun k p1 p2 => ?_, fun k p1 p2 => ?_⟩
  · rw [h.2, if_pos ⟨p1, p2⟩]
    by_cases e : k < a + (b - m)
    · rw [if_pos e]; exact ⟨_, by omega, by omega, rfl⟩
    · rw [if_neg e]; exact ⟨_, by omega, by omega, rfl⟩
  · by_cases e : k < m
    · refine ⟨k + (b - m), by omega, by omega, ?_⟩
      rw [h.2, if_pos (by omega), if_neg (by omega)]
      congr 1; omega
    · refine ⟨k - (m - a), by omega, by omega, ?_⟩
      rw [h.2, if_pos (by omega), if_pos (by omega)]
      congr 1; omega
theorem Rot.refl_left (a b : Nat) (L : List Int) : Rot a a b L L := by
  refine ⟨rfl, fun k => ?_⟩
  repeat' split
  all_goals first | rfl | (congr 1; omega) | (exfalso; omega)
theorem Rot.refl_right (a m : Nat) (L : List Int) : Rot a m m L L := by
  refine ⟨rfl, fun k => ?_⟩
  repeat' split
  all_goals first | rfl | (congr 1; omega) | (exfalso; omega)
/-- the value at a goes up -/
theorem Rot.up {a k : Nat} {L L' : List Int} (h : Rot a (a + 1) (k + 1) L L') (ha : a ≤ k) (hk : k + 1 < L.length) : Rot a (a + 1) (k + 2) L (sw L' k (k + 1)) := by
  refine ⟨by rw [len_sw, h.1], fun q => ?_⟩
  have hl := h.1
  rw [gv_sw (by omega) (by omega), h.2, h.2, h.2]
  repeat' split
  all_goals first | rfl | (congr 1; omega) | (exfalso; omega)
/-- the value at m goes down -/
theorem Rot.down {k m : Nat} {L L' : List Int} (h : Rot (k + 1) m (m + 1) L L') (hk : k + 1 ≤ m) (hm : m < L.length) : Rot k m (m + 1) L (sw L' (k + 1) k) := by
  refine ⟨by rw [len_sw, h.1], fun q => ?_⟩
  have hl := h.1
  rw [gv_sw (by omega) (by omega), h.2, h.2, h.2]
  repeat' split
  all_goals first | rfl | (congr 1; omega) | (exfalso; omega)
/-- two blocks of equal length are swapped, i numbers of them already -/
def Sr (a b i : Nat) (L L' : List Int) : Prop := L'.length = L.length ∧ ∀ k, gv L' k = if a ≤ k ∧ k < a + i then gv L (k - a + b) else if b ≤ k ∧ k < b + i then gv L (k - b + a) else gv L k
theorem Sr.zero (a b : Nat) (L : List Int) : Sr a b 0 L L := ⟨rfl, fun k => by rw [if_neg (by omega), if_neg (by omega)]⟩
theorem Sr.step {a b i n : Nat} {L L' : List Int} (h : Sr a b i L L') (hab : a + n ≤ b) (hi : i < n) (hb : b + n ≤ L.length) : Sr a b (i + 1) L (sw L' (a + i) (b + i)) := by
  refine ⟨by rw [len_sw, h.1], fun k => ?_⟩
  have hl := h.1
  rw [gv_sw (by omega) (by omega), h.2, h.2, h.2]
  repeat' split
  all_goals first | rfl | (congr 1; omega) | (exfalso; omega)
/-- what rotate still has to do: [m - i, m) and [m, m + j) -/
def Rq (a m b i j : Nat) (L0 L : List Int) : Prop := L.length = L0.length ∧ ∀ L', Rot (m - i) m (m + j) L L' → Rot a m b L0 L'
theorem Rq.start {a m b : Nat} (L : List Int) (h1 : a ≤ m) (h2 : m ≤ b) : Rq a m b (m - a) (b - m) L L := by
  refine ⟨rfl, fun L' h => ?_⟩
  rw [show m - (m - a) = a by omega, show m + (b - m) = b by omega] at h
  exact h
theorem Rq.left {a m b i j : Nat} {L0 L M : List Int} (h : Rq a m b i j L0 L) (hi : i ≤ m) (hij : j < i) (hs : Sr (m - i) m j L M) : Rq a m b (i - j) j L0 M := by
  refine ⟨hs.1.trans h.1, fun L' hr => h.2 L' ⟨hr.1.trans hs.1, fun k => ?_⟩⟩
  rw [hr.2, hs.2, hs.2, hs.2]
  repeat' split
  all_goals first | rfl | (congr 1; omega) | (exfalso; omega)
theorem Rq.right {a m b i j : Nat} {L0 L M : List Int} (h : Rq a m b i j L0 L) (hi : i ≤ m) (hij : i < j) (hs : Sr (m - i) (m + j - i) i L M) : Rq a m b i (j - i) L0 M := by
  refine ⟨hs.1.trans h.1, fun L' hr => h.2 L' ⟨hr.1.trans hs.1, fun k => ?_⟩⟩
  rw [hr.2, hs.2, hs.2, hs.2]
  repeat' split
  all_goals first | rfl | (congr 1; omega) | (exfalso; omega)
theorem Rq.last {a m b i : Nat} {L0 L M : List Int} (h : Rq a m b i i L0 L) (hi : i ≤ m) (hs : Sr (m - i) m i L M) : Rot a m b L0 M := by
  refine h.2 M ⟨hs.1, fun k => ?_⟩
  rw [hs.2]
  repeat' split
  all_goals first | rfl | (congr 1; omega) | (exfalso; omega)
end Go.Proofs.Ytipghbpkpnkmnaa
