/- Sorted lists without repetition. Nothing of the program. -/
import Derived.Test.YtipghbpkpnkmnaaRow
namespace Go.Proofs.Ytipghbpkpnkmnaa
variable {α : Type} {lt : α → α → Bool}
structure Lin (lt : α → α → Bool) : Prop where
  irr : ∀ a, lt a a = false
  tra : ∀ a b c, lt a b = true → lt b c = true → lt a c = true
  tri : ∀ a b, lt a b = false → lt b a = false → a = b
def Srt (lt : α → α → Bool) (l : List α) : Prop := l.Pairwise (fun a b => lt a b = true)
def insO (lt : α → α → Bool) (x : α) : List α → List α
  | [] => [x]
  | y :: r => if lt y x = true then y :: insO lt x r else if lt x y = true then x :: y :: r else y :: r
def setO (lt : α → α → Bool) (l : List α) : List α := l.foldl (fun k x => insO lt x k) []
theorem Lin.asy (h : Lin lt) {a b : α} (hab : lt a b = true) : lt b a = false := by
  cases hb : lt b a with
  | false => rfl
  | true => have := h.tra a b a hab hb; rw [h.irr] at this; cases this
theorem Lin.ne (h : Lin lt) {a b : α} (hab : lt a b = true) : a ≠ b := by
  intro e; subst e; rw [h.irr] at hab; cases hab
theorem mem_insO (h : Lin lt) {x z : α} {l : List α} : z ∈ insO lt x l ↔ z = x ∨ z ∈ l := by
  induction l with
  | nil => simp [insO]
  | cons y r ih =>
    unfold insO
    split
    · rw [List.mem_cons, ih, List.mem_cons]
      constructor
      · rintro (h1 | h1 | h1)
        · exact .inr (.inl h1)
        · exact .inl h1
        · exact .inr (.inr h1)
      · rintro (h1 | h1 | h1)
        · exact .inr (.inl h1)
        · exact .inl h1
        · exact .inr (.inr h1)
    · split
      · rw [List.mem_cons]
      · rename_i h1 h2
        have e : y = x := h.tri y x (by simpa using h1) (by simpa using h2)
        subst e
        constructor
        · exact fun h => .inr h
        · rintro (rfl | h3)
          · exact List.mem_cons_self
          · exact h3
theorem srt_insO (h : Lin lt) {x : α} {l : List α} (hs : Srt lt l) : Srt lt (insO lt x l) := by
  induction l with
  | nil => exact List.pairwise_singleton _ _
  | cons y r ih =>
    have hs' := List.pairwise_cons.1 hs
    unfold insO
    split
    · rename_i h1
      refine List.pairwise_cons.2 ⟨fun z hz => ?_, ih hs'.2⟩
      rcases (mem_insO h).1 hz with rfl | hz
      · exact h1
      · exact hs'.1 z hz
    · split
      · rename_i h1 h2
        refine List.pairwise_cons.2 ⟨fun z hz => ?_, hs⟩
        rcases List.mem_cons.1 hz with rfl | hz
        · exact h2
        · exact h.tra _ _ _ h2 (hs'.1 z hz)
      · exact hs
theorem len_insO (x : α) (l : List α) : (insO lt x l).length ≤ l.length + 1 := by
  induction l with
  | nil => simp [insO]
  | cons y r ih =>
    unfold insO
    split
    · simp; exact ih
    · split <;> simp
theorem setO_snoc (l : List α) (x : α) : setO lt (l ++ [x]) = insO lt x (setO lt l) := by simp [setO]
theorem list_snoc_ind {p : List α → Prop} (h0 : p []) (h1 : ∀ l x, p l → p (l ++ [x])) (l : List α) : p l := by
  have : ∀ n, ∀ l : List α, l.length = n → p l := by
    intro n
    induction n with
    | zero => intro l hl; rw [List.eq_nil_of_length_eq_zero hl]; exact h0
    | succ n ih =>
      intro l hl
      have hne : l ≠ [] := by intro e; subst e; simp at hl
      rw [← List.dropLast_concat_getLast hne]
      exact h1 _ _ (ih _ (by rw [List.length_dropLast]; omega))
  exact this _ l rfl
theorem mem_setO (h : Lin lt) {z : α} (l : List α) : z ∈ setO lt l ↔ z ∈ l := by
  refine list_snoc_ind (p := fun l => z ∈ setO lt l ↔ z ∈ l) (by simp [setO]) (fun l x ih => ?_) l
  rw [setO_snoc, mem_insO h, ih]
  simp [or_comm]
theorem srt_setO (h : Lin lt) (l : List α) : Srt lt (setO lt l) := by
  refine list_snoc_ind (p := fun l => Srt lt (setO lt l)) List.Pairwise.nil (fun l x ih => ?_) l
  rw [setO_snoc]
  exact srt_insO h ih
theorem len_setO (l : List α) : (setO lt l).length ≤ l.length := by
  refine list_snoc_ind (p := fun l => (setO lt l).length ≤ l.length) (by simp [setO]) (fun l x ih => ?_) l
  rw [setO_snoc, List.length_append]
  exact Nat.le_trans (len_insO _ _) (by simpa using ih)
theorem srt_eq (h : Lin lt) {k l : List α} (hk : Srt lt k) (hl : Srt lt l) (hm : ∀ z, z ∈ k ↔ z ∈ l) : k = l := by
  induction k generalizing l with
  | nil =>
    cases l with
    | nil => rfl
    | cons b l => exact absurd ((hm b).2 List.mem_cons_self) (by simp)
  | cons a k ih =>
    cases l with
    | nil => exact absurd ((hm a).1 List.mem_cons_self) (by simp)
    | cons b l =>
      have hk' := List.pairwise_cons.1 hk
      have hl' := List.pairwise_cons.1 hl
      have hab : a = b := by
        rcases List.mem_cons.1 ((hm a).1 List.mem_cons_self) with e | h1
        · exact e
        · rcases List.mem_cons.1 ((hm b).2 List.mem_cons_self) with e | h2
          · exact e.symm
          · have := h.asy (hl'.1 a h1)
            rw [hk'.1 b h2] at this; cases this
      subst hab
      rw [ih hk'.2 hl'.2 (fun z => ?_)]
      constructor
      · intro hz
        rcases List.mem_cons.1 ((hm z).1 (List.mem_cons_of_mem _ hz)) with e | h1
        · exact absurd e.symm (h.ne (hk'.1 z hz))
        · exact h1
      · intro hz
        rcases List.mem_cons.1 ((hm z).2 (List.mem_cons_of_mem _ hz)) with e | h1
        · exact absurd e.symm (h.ne (hl'.1 z hz))
        · exact h1
theorem setO_eq (h : Lin lt) {k l : List α} (hk : Srt lt k) (hm : ∀ z, z ∈ k ↔ z ∈ l) : k = setO lt l := srt_eq h hk (srt_setO h l) (fun z => (hm z).trans (mem_setO h l).symm)
/-- the place of x in a sorted list -/
theorem insO_at (h : Lin lt) {x : α} {k : List α} (hk : Srt lt k) {j : Nat} (hj : j ≤ k.length) (hb : ∀ i y, i < j → k[i]? = some y → lt y x = true) (ha : ∀ y, k[j]? = some y → lt y x = false) :
    (k[j]? = some x → insO lt x k = k) ∧ (k[j]? ≠ some x → insO lt x k = k.take j ++ x :: k.drop j) := by
  induction k generalizing j with
  | nil =>
    obtain rfl : j = 0 := by simpa using hj
    exact ⟨fun e => by simp at e, fun _ => rfl⟩
  | cons y r ih =>
    have hs' := List.pairwise_cons.1 hk
    cases j with
    | zero =>
      have hy := ha y rfl
      unfold insO
      rw [if_neg (by rw [hy]; decide)]
      by_cases hxy : lt x y = true
      · rw [if_pos hxy]
        exact ⟨fun e => absurd (by simpa using e) (fun e : y = x => h.ne hxy e.symm), fun _ => rfl⟩
      · have e : y = x := h.tri y x hy (by simpa using hxy)
        subst e
        rw [if_neg hxy]
        exact ⟨fun _ => rfl, fun e => absurd rfl e⟩
    | succ j =>
      have hy := hb 0 y (by omega) rfl
      have hi := ih hs'.2 (j := j) (by simpa using hj) (fun i z hi hz => hb (i + 1) z (by omega) hz) (fun z hz => ha z hz)
      unfold insO
      rw [if_pos hy]
      have e : (y :: r)[j + 1]? = r[j]? := rfl
      rw [e]
      exact ⟨fun he => by rw [hi.1 he], fun he => by rw [hi.2 he]; rfl⟩
/-- strings, as bytes -/
theorem bl_irr (a : List UInt8) : Op.bytesLess a a = false := by
  induction a with
  | nil => rfl
  | cons x a ih => simp [Op.bytesLess, ih]
theorem bl_tra (a b c : List UInt8) (h1 : Op.bytesLess a b = true) (h2 : Op.bytesLess b c = true) : Op.bytesLess a c = true := by
  induction a generalizing b c with
  | nil =>
    cases c with
    | nil => cases b <;> simp [Op.bytesLess] at h2
    | cons z c => rfl
  | cons x a ih =>
    cases b with
    | nil => simp [Op.bytesLess] at h1
    | cons y b =>
      cases c with
      | nil => simp [Op.bytesLess] at h2
      | cons z c =>
        simp only [Op.bytesLess, Bool.or_eq_true, Bool.and_eq_true, decide_eq_true_eq, beq_iff_eq] at h1 h2 ⊢
        rcases h1 with h1 | ⟨rfl, h1⟩
        · rcases h2 with h2 | ⟨rfl, h2⟩
          · exact .inl (UInt8.lt_trans h1 h2)
          · exact .inl h1
        · rcases h2 with h2 | ⟨rfl, h2⟩
          · exact .inl h2
          · exact .inr ⟨rfl, ih b c h1 h2⟩
theorem bl_tri (a b : List UInt8) (h1 : Op.bytesLess a b = false) (h2 : Op.bytesLess b a = false) : a = b := by
  induction a generalizing b with
  | nil =>
    cases b with
    | nil => rfl
    | cons y b => simp [Op.bytesLess] at h1
  | cons x a ih =>
    cases b with
    | nil => simp [Op.bytesLess] at h2
    | cons y b =>
      simp only [Op.bytesLess, Bool.or_eq_false_iff, decide_eq_false_iff_not] at h1 h2
      have e : x = y := by
        rcases UInt8.lt_or_eq_of_le (UInt8.not_lt.1 h1.1) with h | h
        · exact absurd h h2.1
        · exact h.symm
      subst e
      have t1 := h1.2
      have t2 := h2.2
      simp at t1 t2
      rw [ih b t1 t2]
end Go.Proofs.Ytipghbpkpnkmnaa
