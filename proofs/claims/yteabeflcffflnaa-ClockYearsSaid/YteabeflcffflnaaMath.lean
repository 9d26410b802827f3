/- Plain arithmetic of the calendar: no program. -/
namespace Go.Proofs.Yteabeflcffflnaa.Cal
def MM : Int := 1073741824
def lp (y : Int) : Bool := decide (y % 4 = 0 ∧ (y % 100 ≠ 0 ∨ y % 400 = 0))
def lpi (y : Int) : Int := if y % 4 = 0 ∧ (y % 100 ≠ 0 ∨ y % 400 = 0) then 1 else 0
def since (y : Int) : Int := 365 * (y - 2000) + ((y - 1) / 4 - (y - 1) / 100 + (y - 1) / 400 - 484)
theorem since_succ (y : Int) : since (y + 1) = since y + 365 + lpi y := by
  unfold since lpi; split <;> omega
theorem since_mono (a b : Int) (h : a ≤ b) : since a ≤ since b := by unfold since; omega
theorem since_lt {a b : Int} (h : since a < since b) : a < b := by
  rcases Int.lt_or_le a b with h1 | h1
  · exact h1
  · have := since_mono b a h1; omega
theorem lpi_01 (y : Int) : 0 ≤ lpi y ∧ lpi y ≤ 1 := by unfold lpi; split <;> omega
def dim (y m : Int) : Int := if m = 2 then 28 + lpi y else if m = 4 ∨ m = 6 ∨ m = 9 ∨ m = 11 then 30 else 31
def bef (y m : Int) : Int :=
  if m = 1 then 0 else if m = 2 then 31 else
  (if m = 3 then 59 else if m = 4 then 90 else if m = 5 then 120 else if m = 6 then 151 else if m = 7 then 181 else if m = 8 then 212 else if m = 9 then 243 else if m = 10 then 273 else if m = 11 then 304 else if m = 12 then 334 else 365) + lpi y
theorem bef_succ (y m : Int) (h1 : 1 ≤ m) (h2 : m ≤ 12) : bef y (m + 1) = bef y m + dim y m := by
  obtain rfl | rfl | rfl | rfl | rfl | rfl | rfl | rfl | rfl | rfl | rfl | rfl : m = 1 ∨ m = 2 ∨ m = 3 ∨ m = 4 ∨ m = 5 ∨ m = 6 ∨ m = 7 ∨ m = 8 ∨ m = 9 ∨ m = 10 ∨ m = 11 ∨ m = 12 := by omega
  all_goals simp [bef, dim]
  all_goals omega
theorem dim_pos (y m : Int) : 28 ≤ dim y m ∧ dim y m ≤ 31 := by
  have := lpi_01 y; unfold dim; split
  · omega
  · split <;> omega
theorem bef_mono (y a b : Int) (h1 : 1 ≤ a) (h : a ≤ b) (h2 : b ≤ 13) : bef y a ≤ bef y b := by
  have key : ∀ k : Nat, a + k ≤ 13 → bef y a ≤ bef y (a + k) := by
    intro k
    induction k with
    | zero => intro _; simp
    | succ k ih =>
      intro hk
      have h3 := ih (by omega)
      have h4 := bef_succ y (a + k) (by omega) (by omega)
      have h5 := dim_pos y (a + k)
      have e : a + ((k + 1 : Nat) : Int) = a + k + 1 := by omega
      rw [e]; omega
  have := key (b - a).toNat (by omega)
  rwa [show a + ((b - a).toNat : Int) = b by omega] at this
theorem bef_1 (y : Int) : bef y 1 = 0 := rfl
theorem bef_13 (y : Int) : bef y 13 = 365 + lpi y := rfl
/-- the date of a day number -/
structure OfDay (day y m d : Int) : Prop where
  y0 : 2000 ≤ y
  m1 : 1 ≤ m
  m2 : m ≤ 12
  d1 : 1 ≤ d
  d2 : d ≤ dim y m
  num : since y + bef y m + d - 1 = day
theorem OfDay.year {day y m d : Int} (h : OfDay day y m d) : since y ≤ day ∧ day < since (y + 1) := by
  have h1 := bef_mono y 1 m (by omega) h.m1 (by have := h.m2; omega)
  have h2 := bef_mono y (m + 1) 13 (by have := h.m1; omega) (by have := h.m2; omega) (by omega)
  rw [bef_1] at h1; rw [bef_13, bef_succ y m h.m1 h.m2] at h2
  have := since_succ y; have := h.num; have := h.d1; have := h.d2
  omega
theorem OfDay.uniq {day y m d y' m' d' : Int} (h : OfDay day y m d) (h' : OfDay day y' m' d') : y = y' ∧ m = m' ∧ d = d' := by
  have e1 := h.year; have e2 := h'.year
  have l1 : y < y' + 1 := since_lt (by omega)
  have l2 : y' < y + 1 := since_lt (by omega)
  obtain rfl : y = y' := by omega
  have n1 := h.num; have n2 := h'.num; have := h.d1; have := h'.d1; have := h.d2; have := h'.d2
  have b1 := bef_succ y m h.m1 h.m2; have b2 := bef_succ y m' h'.m1 h'.m2
  have hm : m = m' := by
    rcases Int.lt_trichotomy m m' with c | c | c
    · have := bef_mono y (m + 1) m' (by have := h.m1; omega) (by omega) (by have := h'.m2; omega); omega
    · exact c
    · have := bef_mono y (m' + 1) m (by have := h'.m1; omega) (by omega) (by have := h.m2; omega); omega
  subst hm
  exact ⟨rfl, rfl, by omega⟩
end Go.Proofs.Yteabeflcffflnaa.Cal
