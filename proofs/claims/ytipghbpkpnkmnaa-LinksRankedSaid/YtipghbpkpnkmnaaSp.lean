/- Merging in place: plain facts. Nothing of the program. -/
import Derived.Test.YtipghbpkpnkmnaaSo
namespace Go.Proofs.Ytipghbpkpnkmnaa
variable {cs : Int → Int}
set_option linter.unusedVariables false

/-- the left block and the right one are in order, and the left numbers are below the right ones -/
structure Pre (cs : Int → Int) (L : List Int) (a m b : Nat) : Prop where
  l : Sd cs L a m
  r : Sd cs L m b
  n : Lo L a m b
theorem Pre.kept {L M : List Int} {a m b c d : Nat} (h : Pre cs L a m b) (hm : Mv c d L M) (hd : d ≤ a) (ham : a ≤ m) : Pre cs M a m b := by
  refine ⟨fun i j h1 h2 h3 => ?_, fun i j h1 h2 h3 => ?_, fun i j h1 h2 h3 h4 => ?_⟩
  · rw [hm.out i (by omega), hm.out j (by omega)]; exact h.l i j h1 h2 h3
  · rw [hm.out i (by omega), hm.out j (by omega)]; exact h.r i j h1 h2 h3
  · rw [hm.out i (by omega), hm.out j (by omega)]; exact h.n i j h1 h2 h3 h4
/-- two places of a turned row -/
theorem Rot.g1 {s m e : Nat} {L L' : List Int} (h : Rot s m e L L') {k : Nat} (hk : k < s ∨ e ≤ k) : gv L' k = gv L k := by rw [h.2, if_neg (by omega)]
theorem Rot.g2 {s m e : Nat} {L L' : List Int} (h : Rot s m e L L') {k : Nat} (h0 : m ≤ e) (h1 : s ≤ m) (hk : s ≤ k ∧ k < s + (e - m)) : gv L' k = gv L (k + (m - s)) := by rw [h.2, if_pos (by omega), if_pos (by omega)]
theorem Rot.g3 {s m e : Nat} {L L' : List Int} (h : Rot s m e L L') {k : Nat} (h0 : m ≤ e) (h1 : s ≤ m) (hk : s + (e - m) ≤ k ∧ k < e) : gv L' k = gv L (k - (e - m)) := by rw [h.2, if_pos (by omega), if_neg (by omega)]
theorem cut_pre {L L' : List Int} {a m b s e mid : Nat} (h : Pre cs L a m b) (hR : Rot s m e L L') (h1 : a ≤ s) (h2 : s ≤ m) (h3 : m ≤ e) (h4 : e ≤ b) (hm : mid = s + (e - m)) : Pre cs L' a s mid ∧ Pre cs L' mid e b := by
  subst hm
  refine ⟨⟨fun i j p1 p2 p3 => ?_, fun i j p1 p2 p3 => ?_, fun i j p1 p2 p3 p4 => ?_⟩, ⟨fun i j p1 p2 p3 => ?_, fun i j p1 p2 p3 => ?_, fun i j p1 p2 p3 p4 => ?_⟩⟩
  · rw [hR.g1 (by omega), hR.g1 (by omega)]; exact h.l _ _ (by omega) (by omega) (by omega)
  · rw [hR.g2 h3 h2 (by omega), hR.g2 h3 h2 (by omega)]; exact h.r _ _ (by omega) (by omega) (by omega)
  · rw [hR.g1 (by omega), hR.g2 h3 h2 (by omega)]; exact h.n _ _ (by omega) (by omega) (by omega) (by omega)
  · rw [hR.g3 h3 h2 (by omega), hR.g3 h3 h2 (by omega)]; exact h.l _ _ (by omega) (by omega) (by omega)
  · rw [hR.g1 (by omega), hR.g1 (by omega)]; exact h.r _ _ (by omega) (by omega) (by omega)
  · rw [hR.g3 h3 h2 (by omega), hR.g1 (by omega)]; exact h.n _ _ (by omega) (by omega) (by omega) (by omega)
def Cross (cs : Int → Int) (L : List Int) (a m b : Nat) : Prop := ∀ i j, a ≤ i → i < m → m ≤ j → j < b → lx cs (gv L i) (gv L j)
theorem Sd.le {L : List Int} {a b i j : Nat} (h : Sd cs L a b) (h1 : a ≤ i) (h2 : i ≤ j) (h3 : j < b) {x : Int} (hx : lx cs x (gv L i)) : lx cs x (gv L j) := by
  by_cases e : i = j
  · subst e; exact hx
  · exact lx_trans hx (h i j h1 (by omega) h3)
theorem Sd.ge {L : List Int} {a b i j : Nat} (h : Sd cs L a b) (h1 : a ≤ i) (h2 : i ≤ j) (h3 : j < b) {x : Int} (hx : lx cs (gv L j) x) : lx cs (gv L i) x := by
  by_cases e : i = j
  · subst e; exact hx
  · exact lx_trans (h i j h1 (by omega) h3) hx
theorem cut_cross {L L' : List Int} {a m b s e mid : Nat} (h : Pre cs L a m b) (hR : Rot s m e L L') (h1 : a ≤ s) (h2 : s ≤ m) (h3 : m ≤ e) (h4 : e ≤ b) (hm : mid = s + (e - m))
    (c1 : a < s → e < b → lx cs (gv L (s - 1)) (gv L e)) (c2 : s < m → m < e → lx cs (gv L (e - 1)) (gv L s)) : Cross cs L' a mid b := by
  subst hm
  intro i j p1 p2 p3 p4
  by_cases hi : i < s
  · rw [hR.g1 (.inl hi)]
    by_cases hj : j < e
    · rw [hR.g3 h3 h2 ⟨p3, hj⟩]; exact h.l _ _ p1 (by omega) (by omega)
    · rw [hR.g1 (.inr (by omega))]
      exact h.l.ge p1 (by omega) (by omega) (h.r.le (by omega) (by omega) p4 (c1 (by omega) (by omega)))
  · rw [hR.g2 h3 h2 (by omega)]
    by_cases hj : j < e
    · rw [hR.g3 h3 h2 ⟨p3, hj⟩]
      exact h.r.ge (by omega) (by omega) (by omega) (h.l.le (by omega) (by omega) (by omega) (c2 (by omega) (by omega)))
    · rw [hR.g1 (.inr (by omega))]; exact h.r _ _ (by omega) (by omega) p4
theorem cross_join {L M N : List Int} {a mid b : Nat} (h : Cross cs L a mid b) (hm : a ≤ mid) (hb : mid ≤ b) (v1 : Mv a mid L M) (s1 : Sd cs M a mid) (v2 : Mv mid b M N) (s2 : Sd cs N mid b) : Mv a b L N ∧ Sd cs N a b := by
  refine ⟨(v1.wide (Nat.le_refl _) hb).trans (v2.wide hm (Nat.le_refl _)), fun i j p1 p2 p3 => ?_⟩
  by_cases hi : mid ≤ i
  · exact s2 i j hi p2 p3
  · rw [v2.out i (by omega)]
    by_cases hj : j < mid
    · rw [v2.out j (by omega)]; exact s1 i j p1 p2 hj
    · obtain ⟨i', q1, q2, q3⟩ := v1.fwd i p1 (by omega)
      obtain ⟨j', r1, r2, r3⟩ := v2.fwd j (by omega) p3
      rw [q3, r3, v1.out j' (by omega)]
      exact h i' j' q1 q2 r1 r2

/-- a search that halves -/
structure Bs (P : Nat → Prop) (lo hi i j : Nat) : Prop where
  h0 : lo ≤ i
  h1 : i ≤ j
  h2 : j ≤ hi
  no : ∀ k, lo ≤ k → k < i → ¬ P k
  yes : ∀ k, j ≤ k → k < hi → P k
def Mono (P : Nat → Prop) (lo hi : Nat) : Prop := ∀ k q, lo ≤ k → k ≤ q → q < hi → P k → P q
theorem Bs.start (P : Nat → Prop) {lo hi : Nat} (h : lo ≤ hi) : Bs P lo hi lo hi := ⟨Nat.le_refl _, h, Nat.le_refl _, fun k _ _ => by omega, fun k _ _ => by omega⟩
theorem Bs.left {P : Nat → Prop} {lo hi i j h : Nat} (b : Bs P lo hi i j) (hm : Mono P lo hi) (h1 : i ≤ h) (h2 : h < j) (hp : P h) : Bs P lo hi i h := by
  have e0 := b.h0; have e2 := b.h2
  exact ⟨b.h0, h1, by omega, b.no, fun k p1 p2 => hm h k (by omega) p1 p2 hp⟩
theorem Bs.right {P : Nat → Prop} {lo hi i j h : Nat} (b : Bs P lo hi i j) (hm : Mono P lo hi) (h1 : i ≤ h) (h2 : h < j) (hp : ¬ P h) : Bs P lo hi (h + 1) j := by
  have e0 := b.h0; have e2 := b.h2
  exact ⟨by omega, by omega, b.h2, fun k p1 p2 hk => hp (hm k h p1 (by omega) (by omega) hk), b.yes⟩
theorem Sd.cost {L : List Int} {a b i j : Nat} (h : Sd cs L a b) (h1 : a ≤ i) (h2 : i ≤ j) (h3 : j < b) : cs (gv L i) ≤ cs (gv L j) := by
  by_cases e : i = j
  · subst e; exact Int.le_refl _
  · have := h i j h1 (by omega) h3; unfold lx at this; omega

/-- one number on the left -/
def P1 (cs : Int → Int) (L : List Int) (a : Nat) (k : Nat) : Prop := ¬ cs (gv L k) < cs (gv L a)
theorem P1.mono {L : List Int} {a b : Nat} (h : Pre cs L a (a + 1) b) : Mono (P1 cs L a) (a + 1) b := fun k q h1 h2 h3 h4 => by
  have := h.r.cost h1 h2 h3; unfold P1 at *; omega
theorem one_left {L L' : List Int} {a b s : Nat} (h : Pre cs L a (a + 1) b) (hs : Bs (P1 cs L a) (a + 1) b s s) (hR : Rot a (a + 1) s L L') : Mv a b L L' ∧ Sd cs L' a b := by
  have e0 := hs.h0; have e2 := hs.h2
  refine ⟨(hR.mv (by omega) e0).wide (Nat.le_refl _) e2, fun i j p1 p2 p3 => ?_⟩
  have H1 : ∀ k, a + 1 ≤ k → k < s → lx cs (gv L k) (gv L a) := fun k q1 q2 => lx_of_cost (by have := hs.no k q1 q2; unfold P1 at this; omega)
  have H2 : ∀ k, s ≤ k → k < b → lx cs (gv L a) (gv L k) := fun k q1 q2 => lx_of_lt (h.n a k (by omega) (by omega) (by omega) q2) (hs.yes k q1 q2)
  by_cases hi : i < a + (s - (a + 1))
  · rw [hR.g2 e0 (by omega) ⟨p1, hi⟩]
    by_cases hj : j < a + (s - (a + 1))
    · rw [hR.g2 e0 (by omega) ⟨by omega, hj⟩]; exact h.r _ _ (by omega) (by omega) (by omega)
    · by_cases hj2 : j < s
      · rw [hR.g3 e0 (by omega) ⟨by omega, hj2⟩, show j - (s - (a + 1)) = a by omega]; exact H1 _ (by omega) (by omega)
      · rw [hR.g1 (.inr (by omega))]; exact h.r _ _ (by omega) (by omega) p3
  · by_cases hi2 : i < s
    · rw [hR.g3 e0 (by omega) ⟨by omega, hi2⟩, hR.g1 (.inr (by omega)), show i - (s - (a + 1)) = a by omega]; exact H2 _ (by omega) p3
    · rw [hR.g1 (.inr (by omega)), hR.g1 (.inr (by omega))]; exact h.r _ _ (by omega) p2 p3
/-- one number on the right -/
def P2 (cs : Int → Int) (L : List Int) (m : Nat) (k : Nat) : Prop := cs (gv L m) < cs (gv L k)
theorem P2.mono {L : List Int} {a m : Nat} (h : Pre cs L a m (m + 1)) : Mono (P2 cs L m) a m := fun k q h1 h2 h3 h4 => by
  have := h.l.cost h1 h2 h3; unfold P2 at *; omega
theorem one_right {L L' : List Int} {a m s : Nat} (h : Pre cs L a m (m + 1)) (hs : Bs (P2 cs L m) a m s s) (hR : Rot s m (m + 1) L L') : Mv a (m + 1) L L' ∧ Sd cs L' a (m + 1) := by
  have e0 := hs.h0; have e2 := hs.h2
  refine ⟨(hR.mv e2 (by omega)).wide e0 (Nat.le_refl _), fun i j p1 p2 p3 => ?_⟩
  have H1 : ∀ k, a ≤ k → k < s → lx cs (gv L k) (gv L m) := fun k q1 q2 => lx_of_lt (h.n k m q1 (by omega) (by omega) (by omega)) (hs.no k q1 q2)
  have H2 : ∀ k, s ≤ k → k < m → lx cs (gv L m) (gv L k) := fun k q1 q2 => lx_of_cost (hs.yes k q1 q2)
  by_cases hi : i < s
  · rw [hR.g1 (.inl hi)]
    by_cases hj : j < s
    · rw [hR.g1 (.inl hj)]; exact h.l _ _ p1 p2 (by omega)
    · by_cases hj2 : j = s
      · rw [hR.g2 (by omega) e2 ⟨by omega, by omega⟩, show j + (m - s) = m by omega]; exact H1 _ p1 hi
      · rw [hR.g3 (by omega) e2 ⟨by omega, p3⟩]; exact h.l _ _ p1 (by omega) (by omega)
  · by_cases hi2 : i = s
    · rw [hR.g2 (by omega) e2 ⟨by omega, by omega⟩, hR.g3 (by omega) e2 ⟨by omega, p3⟩, show i + (m - s) = m by omega]; exact H2 _ (by omega) (by omega)
    · rw [hR.g3 (by omega) e2 ⟨by omega, by omega⟩, hR.g3 (by omega) e2 ⟨by omega, p3⟩]; exact h.l _ _ (by omega) (by omega) (by omega)
/-- the general cut: n = mid + m -/
def P3 (cs : Int → Int) (L : List Int) (n : Nat) (c : Nat) : Prop := cs (gv L (n - 1 - c)) < cs (gv L c)
def loOf (a m b : Nat) : Nat := if (a + b) / 2 < m then (a + b) / 2 + m - b else a
def hiOf (a m b : Nat) : Nat := if (a + b) / 2 < m then (a + b) / 2 else m
theorem lohi {a m b : Nat} (h1 : a < m) (h2 : m < b) : a ≤ loOf a m b ∧ loOf a m b ≤ hiOf a m b ∧ hiOf a m b ≤ m ∧ hiOf a m b ≤ (a + b) / 2 ∧ (∀ c, loOf a m b ≤ c → c < hiOf a m b → m ≤ (a + b) / 2 + m - 1 - c ∧ (a + b) / 2 + m - 1 - c < b) ∧
    (∀ c, loOf a m b ≤ c → c ≤ hiOf a m b → m ≤ (a + b) / 2 + m - c ∧ (a + b) / 2 + m - c ≤ b) ∧ (loOf a m b = a ∨ (a + b) / 2 + m - loOf a m b = b) ∧ (hiOf a m b = m ∨ (a + b) / 2 + m - hiOf a m b = m) := by
  unfold loOf hiOf
  by_cases h : (a + b) / 2 < m
  · rw [if_pos h, if_pos h]
    refine ⟨by omega, by omega, by omega, by omega, fun c q1 q2 => ⟨by omega, by omega⟩, fun c q1 q2 => ⟨by omega, by omega⟩, by omega, by omega⟩
  · rw [if_neg h, if_neg h]
    refine ⟨by omega, by omega, by omega, by omega, fun c q1 q2 => ⟨by omega, by omega⟩, fun c q1 q2 => ⟨by omega, by omega⟩, by omega, by omega⟩
theorem P3.mono {L : List Int} {a m b : Nat} (h : Pre cs L a m b) (h1 : a < m) (h2 : m < b) : Mono (P3 cs L ((a + b) / 2 + m)) (loOf a m b) (hiOf a m b) := fun k q g1 g2 g3 g4 => by
  obtain ⟨e1, e2, e3, e4, e5, e6, _⟩ := lohi h1 h2
  have c1 := h.l.cost (i := k) (j := q) (by omega) g2 (by omega)
  have c2 := h.r.cost (i := (a + b) / 2 + m - 1 - q) (j := (a + b) / 2 + m - 1 - k) (e5 q (by omega) g3).1 (by omega) (e5 k g1 (by omega)).2
  unfold P3 at *; omega
theorem gen_cut {L : List Int} {a m b s : Nat} (h : Pre cs L a m b) (h1 : a < m) (h2 : m < b) (hs : Bs (P3 cs L ((a + b) / 2 + m)) (loOf a m b) (hiOf a m b) s s) :
    a ≤ s ∧ s ≤ m ∧ s ≤ (a + b) / 2 ∧ m ≤ (a + b) / 2 + m - s ∧ (a + b) / 2 + m - s ≤ b ∧ (a < s → (a + b) / 2 + m - s < b → lx cs (gv L (s - 1)) (gv L ((a + b) / 2 + m - s))) ∧
      (s < m → m < (a + b) / 2 + m - s → lx cs (gv L ((a + b) / 2 + m - s - 1)) (gv L s)) := by
  obtain ⟨e1, e2, e3, e4, e5, e6, e7, e8⟩ := lohi h1 h2
  have f0 := hs.h0; have f2 := hs.h2
  obtain ⟨g1, g2⟩ := e6 s f0 f2
  refine ⟨by omega, by omega, by omega, g1, g2, fun q1 q2 => ?_, fun q1 q2 => ?_⟩
  · have hlo : loOf a m b < s := by omega
    have hn := hs.no (s - 1) (by omega) (by omega)
    unfold P3 at hn
    rw [show (a + b) / 2 + m - 1 - (s - 1) = (a + b) / 2 + m - s by omega] at hn
    exact lx_of_lt (h.n _ _ (by omega) (by omega) g1 q2) hn
  · have hy := hs.yes s (Nat.le_refl _) (by omega)
    unfold P3 at hy
    rw [show (a + b) / 2 + m - 1 - s = (a + b) / 2 + m - s - 1 by omega] at hy
    exact lx_of_cost hy
theorem Sd.small {L : List Int} {a b : Nat} (h : b ≤ a + 1) : Sd cs L a b := fun i j h1 h2 h3 => by omega
theorem Sd.ext {L M : List Int} {a b : Nat} (h : Sd cs L a b) (he : ∀ k, a ≤ k → k < b → gv M k = gv L k) : Sd cs M a b := fun i j h1 h2 h3 => by
  rw [he i h1 (by omega), he j (by omega) h3]; exact h i j h1 h2 h3
/-- two sorted blocks of a row that went up -/
theorem pre_blocks {L0 L1 L2 : List Int} {m n : Nat} (hu : Up L0 0 n) (h1 : Mv 0 m L0 L1) (s1 : Sd cs L1 0 m) (h2 : Mv m n L1 L2) (s2 : Sd cs L2 m n) (hm : m ≤ n) : Pre cs L2 0 m n := by
  refine ⟨s1.ext (fun k _ hk => h2.out k (.inl hk)), s2, fun i j p1 p2 p3 p4 => ?_⟩
  rw [h2.out i (.inl p2)]
  obtain ⟨i', q1, q2, q3⟩ := h1.fwd i p1 p2
  obtain ⟨j', r1, r2, r3⟩ := h2.fwd j p3 p4
  rw [q3, r3, h1.out j' (.inr r1)]
  exact hu i' j' q1 (by omega) r2
end Go.Proofs.Ytipghbpkpnkmnaa
