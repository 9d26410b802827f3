/- There and back: the plain side of RouteBack. -/
import Derived.Test.YtlmoeempblgdkaaLe
namespace Go.Proofs.Ytlmoeempblgdkaa
open Go.RowKit Go.BigFrame
set_option linter.unusedVariables false
set_option linter.unusedSimpArgs false

theorem son_nums (s : ByteArray) : strOfNums (nums s) = s := by
  apply ByteArray.ext
  apply Array.toList_inj.1
  rw [strOfNums_data]
  unfold nums
  rw [List.map_map]
  have : ((fun n : Int => UInt8.ofNat n.toNat) ∘ fun b : UInt8 => ((b.toNat : Nat) : Int)) = id := by
    funext b
    simp
  rw [this, List.map_id]
theorem nums_son {xs : List Int} (h : ∀ x ∈ xs, 0 ≤ x ∧ x < 256) : nums (strOfNums xs) = xs := by
  unfold nums
  rw [strOfNums_data, List.map_map]
  refine (List.map_congr_left (g := id) (fun x hx => ?_)).trans (List.map_id xs)
  have := h x hx
  simp only [Function.comp, id]
  rw [UInt8.toNat_ofNat', Nat.mod_eq_of_lt (by omega)]
  omega
theorem nums_byte (s : ByteArray) : ∀ x ∈ nums s, 0 ≤ x ∧ x < 256 := by
  intro x hx
  unfold nums at hx
  rw [List.mem_map] at hx
  obtain ⟨b, _, rfl⟩ := hx
  exact byte_lt b
theorem ebs_flat : ∀ (t : List Rt) (b : List Int), (∀ r ∈ t, usB r = true) → b.length + 4 * t.length ≤ 96 → t.foldl ebs1 b = b ++ t.flatMap four := by
  intro t
  induction t with
  | nil => intro b _ _; simp
  | cons r t ih =>
    intro b hu hb
    rw [List.length_cons] at hb
    have e : ebs1 b r = b ++ four r := by
      unfold ebs1
      rw [if_pos ⟨hu r (List.mem_cons_self ..), by omega⟩]
    rw [List.foldl_cons, e, ih _ (fun q hq => hu q (List.mem_cons_of_mem _ hq)) (by simp [four]; omega), List.flatMap_cons, List.append_assoc]
theorem four_ofB {a b c d : Int} (hb : 0 ≤ c ∧ c < 256) : four (ofB a b c d) = [a, b, c, d] := by
  unfold four ofB
  simp only
  rw [show (b * 256 + c) / 256 = b from by omega, show (b * 256 + c) % 256 = c from by omega]
theorem dec1_back : ∀ (k : Nat) (l : List Int) (acc x : List Rt), l.length ≤ k → dec1 acc l = (x, 0) → l.length % 4 = 0 → (∀ b ∈ l, 0 ≤ b ∧ b < 256) → (∀ r ∈ acc, usB r = true) →
    (∀ r ∈ x, usB r = true) ∧ x.flatMap four = acc.flatMap four ++ l := by
  intro k
  induction k with
  | zero =>
    intro l acc x hk h _ _ hacc
    have hl : l = [] := List.eq_nil_of_length_eq_zero (by omega)
    subst hl
    rw [dec1_nil] at h
    cases h
    exact ⟨hacc, by simp⟩
  | succ k ih =>
    intro l acc x hk h hm hb hacc
    by_cases h4 : l.length < 4
    · have hl : l = [] := List.eq_nil_of_length_eq_zero (by omega)
      subst hl
      rw [dec1_nil] at h
      cases h
      exact ⟨hacc, by simp⟩
    · rcases l with _ | ⟨a, _ | ⟨b, _ | ⟨c, _ | ⟨d, l⟩⟩⟩⟩
      case cons.cons.cons.cons =>
        simp only [List.length_cons] at hk hm
        rw [dec1] at h
        split at h
        · cases h
        · rename_i hu
          split at h
          · cases h
          · have hu' : usB (ofB a b c d) = true := by simpa using hu
            obtain ⟨h1, h2⟩ := ih l _ x (by omega) h (by omega) (fun q hq => hb q (by simp [hq])) (by
              intro r hr
              rcases List.mem_append.1 hr with hr | hr
              · exact hacc r hr
              · rw [List.mem_singleton] at hr; subst hr; exact hu')
            refine ⟨h1, ?_⟩
            rw [h2, List.flatMap_append, List.append_assoc]
            congr 1
            simp only [List.flatMap_cons, List.flatMap_nil, List.append_nil]
            rw [four_ofB (hb c (by simp))]
            rfl
      all_goals (exfalso; simp at h4)
/-- decoded routes give back the string -/
theorem dec_enc {s : ByteArray} (h : (decs s).2 = 0) : strOfNums (ebs (decs s).1) = s := by
  unfold decs at h ⊢
  split at h
  · cases h
  · split at h
    · cases h
    · rename_i h4 h96
      rw [if_neg h4, if_neg h96]
      have hn := nums_len s
      have hx : dec1 [] (nums s) = ((dec1 [] (nums s)).1, 0) := by rw [← h]
      obtain ⟨h1, h2⟩ := dec1_back _ _ _ _ (Nat.le_refl _) hx (by omega) (nums_byte s) (by simp)
      have hfl : ∀ x : List Rt, (x.flatMap four).length = 4 * x.length := by
        intro x
        induction x with
        | nil => rfl
        | cons a x ih => rw [List.flatMap_cons, List.length_append, ih, List.length_cons]; simp [four]; omega
      have hl := hfl (dec1 [] (nums s)).1
      rw [h2] at hl
      unfold ebs
      rw [ebs_flat _ _ h1 (by simp at hl ⊢; omega), h2]
      exact son_nums s
def bare (r : Rt) : Rt := ⟨r.d, r.s, r.c, 255⟩
theorem us_bare (r : Rt) : usB (bare r) = usB r := rfl
theorem dec1_flat : ∀ (t acc : List Rt), (∀ r ∈ t, usB r = true) → Asc (acc ++ t.map bare) → dec1 acc (t.flatMap four) = (acc ++ t.map bare, 0) := by
  intro t
  induction t with
  | nil => intro acc _ _; simp [dec1_nil]
  | cons r t ih =>
    intro acc hu ha
    have hr := hu r (List.mem_cons_self ..)
    have hb := us_all hr
    have eo : ofB r.d (r.s / 256) (r.s % 256) r.c = bare r := by
      unfold ofB bare
      rw [show r.s / 256 * 256 + r.s % 256 = r.s from by omega]
    have e : (r :: t).flatMap four = r.d :: (r.s / 256) :: (r.s % 256) :: r.c :: t.flatMap four := by simp [List.flatMap_cons, four]
    rw [List.map_cons] at ha ⊢
    have ho : ordB (pv acc) (bare r) = true := by
      rcases List.eq_nil_or_concat acc with rfl | ⟨l', q, rfl⟩
      · rfl
      · rw [List.concat_eq_append] at ha ⊢
        rw [pv_snoc]
        have := (List.pairwise_append.1 ha).2.2 q (by simp) (bare r) (by simp)
        simpa [ordB] using this
    rw [e, dec1_go (by rw [eo]; exact hr) (by rw [eo]; exact ho), eo, ih _ (fun q hq => hu q (List.mem_cons_of_mem _ hq)) (by rw [List.append_assoc]; exact ha), List.append_assoc]
    rfl
theorem us_of_rok {r : Rt} (h : rokB r = true) : usB r = true := by
  unfold rokB at h
  rw [Bool.and_eq_true] at h
  exact h.1
theorem chk_zero {t : List Rt} {self : Int} (h : chk t self = 0) : t.length ≤ 24 ∧ nodeB self = true ∧ Seen t ∧ t.all (fun r => decide (r.d ≠ self)) = false ∧ t.any (badB self) = false := by
  unfold chk at h
  split at h
  · cases h
  · split at h
    · cases h
    · split at h
      · contradiction
      · rename_i h1 h2 h3
        split at h
        · cases h
        · rename_i h4
          split at h
          · cases h
          · rename_i h5
            exact ⟨by omega, by simpa using h2, seen_of (by simpa using h3), by simpa using h4, by simpa using h5⟩
/-- a table's bytes give back its routes but for the next hops -/
theorem enc_dec {t : List Rt} {self : Int} (h : chk t self = 0) : decs (strOfNums (ebs t)) = (t.map bare, 0) := by
  obtain ⟨hl, _, hs, _⟩ := chk_zero h
  have hu : ∀ r ∈ t, usB r = true := fun r hr => us_of_rok (hs.ok r hr)
  have he : ebs t = t.flatMap four := by
    unfold ebs
    rw [ebs_flat t [] hu (by simp; omega)]
    rfl
  have hfl : ∀ x : List Rt, (x.flatMap four).length = 4 * x.length := by
    intro x
    induction x with
    | nil => rfl
    | cons a x ih => rw [List.flatMap_cons, List.length_append, ih, List.length_cons]; simp [four]; omega
  have hb : ∀ x ∈ t.flatMap four, 0 ≤ x ∧ x < 256 := by
    intro x hx
    obtain ⟨r, hr, hx⟩ := List.mem_flatMap.1 hx
    have := us_all (hu r hr)
    simp only [four, List.mem_cons, List.not_mem_nil, or_false] at hx
    rcases hx with rfl | rfl | rfl | rfl <;> omega
  have ha : Asc ([] ++ t.map bare) := by
    have := hs.asc
    unfold Asc at this ⊢
    rw [List.nil_append, List.pairwise_map]
    exact this
  unfold decs
  rw [strOfNums_size, he, hfl, if_neg (by omega), if_neg (by omega), nums_son hb, dec1_flat t [] hu ha]
  rfl
end Go.Proofs.Ytlmoeempblgdkaa
