/- What a success, a failure, a removal does to costs: plain facts. -/
import Derived.Test.YtipghbpkpnkmnaaWg
namespace Go.Proofs.Ytipghbpkpnkmnaa
open Go.RowKit Go.BigFrame

/-- pc counts bits below 2^16: how it behaves under a shift in of one bit -/
theorem pcN_le_of (f n : Nat) (g : Nat) (h : n < 2 ^ g) : pcN f n ≤ g := by
  induction g generalizing f n with
  | zero => obtain rfl : n = 0 := by simpa using h
            rw [pcN_zero]; exact Nat.le_refl _
  | succ g ih =>
    cases f with
    | zero => exact Nat.zero_le _
    | succ f =>
      have := ih f (n / 2) (by rw [Nat.pow_succ] at h; omega)
      simp only [pcN]; omega
/-- dropping what lies at or above bit f -/
theorem pcN_mod (f : Nat) : ∀ n : Nat, pcN f (n % 2 ^ f) = pcN f n := by
  induction f with
  | zero => intro n; rfl
  | succ f ih =>
    intro n
    have h1 : n % 2 ^ (f + 1) % 2 = n % 2 := by rw [Nat.pow_succ]; exact Nat.mod_mod_of_dvd n ⟨2 ^ f, by rw [Nat.mul_comm]⟩
    have h2 : n % 2 ^ (f + 1) / 2 = n / 2 % 2 ^ f := by
      rw [Nat.pow_succ, Nat.mul_comm, Nat.mod_mul_right_div_self]
    rw [pcN, pcN, h1, h2, ih]
/-- the top bit apart -/
theorem pcN_top (f : Nat) : ∀ n : Nat, pcN (f + 1) n = pcN f n + (n / 2 ^ f) % 2 := by
  induction f with
  | zero => intro n; simp [pcN]
  | succ f ih =>
    intro n
    rw [pcN, ih (n / 2), pcN, Nat.div_div_eq_div_mul, Nat.pow_succ, Nat.mul_comm 2]
    omega
/-- bits after one more result -/
theorem pc_shift (k b : Nat) (hb : b ≤ 1) : pcN 16 ((2 * k + b) % 65536) + (k / 32768) % 2 = pcN 16 k + b := by
  have h1 : pcN 16 ((2 * k + b) % 65536) = pcN 16 (2 * k + b) := pcN_mod 16 (2 * k + b)
  have h2 : pcN 16 (2 * k + b) = (2 * k + b) % 2 + pcN 15 ((2 * k + b) / 2) := rfl
  have h3 : (2 * k + b) % 2 = b := by omega
  have h4 : (2 * k + b) / 2 = k := by omega
  have h5 := pcN_top 15 k
  rw [h1, h2, h3, h4]
  have h6 : (2 : Nat) ^ 15 = 32768 := by decide
  rw [h6] at h5
  have h7 : pcN (15 + 1) k = pcN 16 k := rfl
  omega
theorem upd_bits (a : Link) (ok : Bool) (h0 : 0 ≤ a.bits) (h1 : a.bits < 65536) : ∃ k : Nat, k < 65536 ∧ a.bits = (k : Int) ∧ (upd a ok).bits = (((2 * k + (if ok then 1 else 0)) % 65536 : Nat) : Int) := by
  refine ⟨a.bits.toNat, by omega, by omega, ?_⟩
  unfold upd
  cases ok <;> simp <;> omega
/-- one more result keeps an entry good -/
theorem upd_good {a : Link} (h : ¬ bad a) (ok : Bool) : ¬ bad (upd a ok) := by
  obtain ⟨n0, n1, c0, c1, b0, b1, b2⟩ := good_bits h
  obtain ⟨k, hk, hak, hu⟩ := upd_bits a ok b0 b2
  obtain ⟨c, hc⟩ : ∃ c : Nat, a.count = c := ⟨a.count.toNat, by omega⟩
  have hcl : c ≤ 16 := by omega
  have hk2 : k < 2 ^ c := by
    rw [hc, hak, Int.toNat_natCast] at b1
    have : ((2 : Int) ^ c) = ((2 ^ c : Nat) : Int) := by simp
    rw [this] at b1
    exact_mod_cast b1
  have hcount : (upd a ok).count = ((min (c + 1) 16 : Nat) : Int) := by
    unfold upd
    simp only [hc]
    split <;> omega
  have hlt : (2 * k + (if ok then 1 else 0)) % 65536 < 2 ^ (min (c + 1) 16) := by
    rcases Nat.lt_or_ge c 16 with d | d
    · rw [Nat.min_eq_left (by omega)]
      refine Nat.lt_of_le_of_lt (Nat.mod_le _ _) ?_
      rw [Nat.pow_succ]
      cases ok <;> simp <;> omega
    · rw [Nat.min_eq_right (by omega)]
      exact Nat.mod_lt _ (by decide)
  intro hb
  unfold bad at hb
  rw [hcount, hu, Int.toNat_natCast] at hb
  have h2 : ((2 : Int) ^ (min (c + 1) 16)) = ((2 ^ (min (c + 1) 16) : Nat) : Int) := by simp
  rw [h2] at hb
  have hn : (upd a ok).node = a.node := rfl
  rw [hn] at hb
  have h3 : ((2 ^ (min (c + 1) 16) : Nat) : Int) ≤ (((2 * k + (if ok then 1 else 0)) % 65536 : Nat) : Int) → False := fun h => by
    have : 2 ^ (min (c + 1) 16) ≤ (2 * k + (if ok then 1 else 0)) % 65536 := by exact_mod_cast h
    omega
  rcases hb with hb | hb | hb | hb | hb | hb
  · omega
  · omega
  · omega
  · omega
  · omega
  · exact h3 hb

/-- a table cut at a node -/
theorem split_at {t : List Link} (v : Int) (hs : Sorted t) : ∃ A B : List Link, (∀ a ∈ A, a.node < v) ∧ (∀ b ∈ B, v < b.node) ∧
    ((fnd t v = false ∧ t = A ++ B ∧ pos t v = A.length) ∨ (∃ a : Link, fnd t v = true ∧ a.node = v ∧ t = A ++ a :: B ∧ pos t v = A.length)) := by
  induction t with
  | nil => exact ⟨[], [], by simp, by simp, .inl ⟨rfl, rfl, rfl⟩⟩
  | cons a r ih =>
    obtain ⟨h1, h2⟩ := List.pairwise_cons.1 hs
    by_cases ha : a.node < v
    · obtain ⟨A, B, hA, hB, h⟩ := ih h2
      refine ⟨a :: A, B, fun b hb => ?_, hB, ?_⟩
      · rcases List.mem_cons.1 hb with rfl | hb
        · exact ha
        · exact hA b hb
      · rw [fnd_cons_lt ha, pos_cons_lt ha]
        rcases h with ⟨e1, e2, e3⟩ | ⟨c, e1, e2, e3, e4⟩
        · exact .inl ⟨e1, by rw [e2]; rfl, by rw [e3]; rfl⟩
        · exact .inr ⟨c, e1, e2, by rw [e3]; rfl, by rw [e4]; rfl⟩
    · have hp := pos_cons_ge (r := r) ha
      by_cases he : a.node = v
      · refine ⟨[], r, by simp, fun b hb => by have := h1 b hb; omega, .inr ⟨a, ?_, he, rfl, hp⟩⟩
        unfold fnd
        rw [hp]
        simp [he]
      · refine ⟨[], a :: r, by simp, fun b hb => ?_, .inl ⟨?_, rfl, hp⟩⟩
        · rcases List.mem_cons.1 hb with rfl | hb
          · omega
          · have := h1 b hb; omega
        · unfold fnd
          rw [hp]
          simp [he]
theorem sorted_mid {A B : List Link} {x : Link} (hA : ∀ a ∈ A, a.node < x.node) (hB : ∀ b ∈ B, x.node < b.node) (h : Sorted (A ++ B)) : Sorted (A ++ x :: B) := by
  obtain ⟨h1, h2, h3⟩ := List.pairwise_append.1 h
  refine List.pairwise_append.2 ⟨h1, List.pairwise_cons.2 ⟨hB, h2⟩, fun a ha b hb => ?_⟩
  rcases List.mem_cons.1 hb with rfl | hb
  · exact hA a ha
  · exact h3 a ha b hb
theorem good_drop_mid {A B : List Link} {x : Link} (h : Good (A ++ x :: B)) : Good (A ++ B) := by
  obtain ⟨h1, h2, h3⟩ := h
  refine ⟨by simp at h1 ⊢; omega, h2.sublist (List.Sublist.append_left (List.sublist_cons_self x B) A), fun a ha => h3 a ?_⟩
  rcases List.mem_append.1 ha with h | h
  · exact List.mem_append_left _ h
  · exact List.mem_append_right _ (List.mem_cons_of_mem _ h)
theorem good_mid {A B : List Link} {x : Link} (hA : ∀ a ∈ A, a.node < x.node) (hB : ∀ b ∈ B, x.node < b.node) (h : Good (A ++ B)) (hl : (A ++ B).length < 24) (hx : ¬ bad x) : Good (A ++ x :: B) := by
  refine ⟨by simp at hl ⊢; omega, sorted_mid hA hB h.2.1, fun a ha => ?_⟩
  rcases List.mem_append.1 ha with h' | h'
  · exact h.2.2 a (List.mem_append_left _ h')
  · rcases List.mem_cons.1 h' with rfl | h'
    · exact hx
    · exact h.2.2 a (List.mem_append_right _ h')
theorem atR_mid {A B : List Link} {x : Link} {v : Int} (hA : ∀ a ∈ A, a.node < v) (hx : x.node = v) : atR (A ++ x :: B) v = some x := by
  unfold atR
  rw [List.find?_append, List.find?_eq_none.2 (fun a ha => by have := hA a ha; simp; omega), Option.none_or, List.find?_cons_of_pos (by simp [hx])]
theorem atR_away {A B : List Link} {x : Link} {u : Int} (hu : x.node ≠ u) : atR (A ++ x :: B) u = atR (A ++ B) u := by
  unfold atR
  rw [List.find?_append, List.find?_append, List.find?_cons_of_neg (by simp [hu])]
theorem atR_out {A B : List Link} {v : Int} (hA : ∀ a ∈ A, a.node < v) (hB : ∀ b ∈ B, v < b.node) : atR (A ++ B) v = none := by
  refine List.find?_eq_none.2 fun a ha => ?_
  rcases List.mem_append.1 ha with h | h
  · have := hA a h; simp; omega
  · have := hB a h; simp; omega
theorem modify_mid {A B : List Link} {x : Link} (f : Link → Link) : (A ++ x :: B).modify A.length f = A ++ f x :: B := by
  induction A with
  | nil => rfl
  | cons a r ih => rw [List.cons_append, List.length_cons, List.modify_succ_cons, ih]; rfl
theorem erase_mid {A B : List Link} {x : Link} : (A ++ x :: B).eraseIdx A.length = A ++ B := by
  induction A with
  | nil => rfl
  | cons a r ih => rw [List.cons_append, List.length_cons, List.eraseIdx_cons_succ, ih]; rfl

/-- successes, by entry -/
def sU : Option Link → Int × Int
  | some a => ((pc a.bits : Int), a.count)
  | none => (0, 0)
theorem succT_at {t : List Link} (hs : Sorted t) (v : Int) : succT t v = sU (atR t v) := by
  cases h : fnd t v with
  | false => rw [succT_no h, (not_fnd_out hs h).2.1]; rfl
  | true =>
    obtain ⟨a, e1, e2, e3, _⟩ := fnd_out hs h
    rw [succT_yes h e1, e3]; rfl
/-- what Seen and Forget leave -/
theorem new_good {v : Int} (h0 : ¬ v < 0) (h1 : ¬ 250 < v) : ¬ bad ⟨v, 0, 0⟩ := by
  unfold bad
  simp only []
  intro h
  rcases h with h | h | h | h | h | h
  · omega
  · omega
  · omega
  · omega
  · omega
  · simp at h
theorem seen_facts {t : List Link} (hg : Good t) (v : Int) (ok : Bool) : Good (seenT t v ok) ∧ (∀ u, u ≠ v → atR (seenT t v ok) u = atR t u) ∧
    (atR (seenT t v ok) v = atR t v ∧ atR t v = none ∨ atR (seenT t v ok) v = some (upd ((atR t v).getD ⟨v, 0, 0⟩) ok)) ∧
    (t.length < 24 → 0 ≤ v → v ≤ 250 → atR (seenT t v ok) v = some (upd ((atR t v).getD ⟨v, 0, 0⟩) ok) ∧ (seenT t v ok).length ≤ t.length + (if atR t v = none then 1 else 0)) := by
  obtain ⟨A, B, hA, hB, h⟩ := split_at v hg.2.1
  unfold seenT
  by_cases hv : v < 0 ∨ 250 < v
  · rw [if_pos hv]
    have hno : atR t v = none := by
      rcases h with ⟨_, e2, _⟩ | ⟨a, _, e2, e3, _⟩
      · rw [e2]; exact atR_out hA hB
      · exfalso
        have := good_bits (hg.2.2 a (by rw [e3]; simp))
        omega
    exact ⟨hg, fun u _ => rfl, .inl ⟨rfl, hno⟩, fun _ h0 h1 => by omega⟩
  · rw [if_neg hv]
    rcases h with ⟨e1, e2, e3⟩ | ⟨a, e1, e2, e3, e4⟩
    · rw [e1, if_neg (by decide)]
      have hno : atR t v = none := by rw [e2]; exact atR_out hA hB
      by_cases h24 : t.length = 24
      · rw [if_pos h24]
        exact ⟨hg, fun u _ => rfl, .inl ⟨rfl, hno⟩, fun h _ _ => by omega⟩
      · have hl := hg.1
        rw [if_neg h24, e3, e2, List.take_left, List.drop_left, ← e2, hno]
        have hx : (upd ⟨v, 0, 0⟩ ok).node = v := rfl
        have hgx := upd_good (new_good (v := v) (by omega) (by omega)) ok
        rw [e2] at hg hl h24
        refine ⟨good_mid hA hB hg (by omega) hgx, fun u hu => by rw [e2]; exact atR_away (by rw [hx]; exact fun c => hu c.symm), .inr (atR_mid hA hx), fun _ _ _ => ⟨atR_mid hA hx, by rw [e2]; simp; omega⟩⟩
    · rw [e1, if_pos rfl, e4, e3, modify_mid]
      have hat : atR (A ++ a :: B) v = some a := atR_mid hA e2
      have hx : (upd a ok).node = v := e2
      rw [e3] at hg
      have hgx := upd_good (hg.2.2 a (by simp)) ok
      have hgd := good_drop_mid hg
      have hl := hg.1
      rw [hat]
      refine ⟨good_mid (by rw [hx]; exact hA) (by rw [hx]; exact hB) hgd (by simp at hl ⊢; omega) hgx, fun u hu => ?_, .inr (atR_mid hA hx), fun _ _ _ => ⟨atR_mid hA hx, by simp⟩⟩
      rw [atR_away (by rw [hx]; exact fun c => hu c.symm), atR_away (by rw [e2]; exact fun c => hu c.symm)]
theorem forg_facts {t : List Link} (hg : Good t) (v : Int) : Good (forgT t v) ∧ (∀ u, u ≠ v → atR (forgT t v) u = atR t u) ∧ atR (forgT t v) v = none := by
  obtain ⟨A, B, hA, hB, h⟩ := split_at v hg.2.1
  unfold forgT
  rcases h with ⟨e1, e2, e3⟩ | ⟨a, e1, e2, e3, e4⟩
  · rw [e1, if_neg (by decide)]
    exact ⟨hg, fun u _ => rfl, by rw [e2]; exact atR_out hA hB⟩
  · rw [e1, if_pos rfl, e4, e3, erase_mid]
    rw [e3] at hg
    exact ⟨good_drop_mid hg, fun u hu => (atR_away (by rw [e2]; exact fun c => hu c.symm)).symm, atR_out hA hB⟩

/-- the cost of so many results and successes -/
def costF (c n : Nat) : Int := if n = 0 then 255 else ceilD (10 * (c : Int)) (n : Int)
theorem m1 : ∀ c : Fin 16, ∀ n : Fin 17, n.val ≤ c.val → costF (c.val + 1) (n.val + 1) ≤ costF c.val n.val := by decide +kernel
theorem m2 : ∀ n : Fin 17, costF 16 (n.val + 1) ≤ costF 16 n.val := by decide +kernel
theorem m3 : ∀ c : Fin 16, ∀ n : Fin 17, n.val ≤ c.val → costF c.val n.val ≤ costF (c.val + 1) n.val := by decide +kernel
theorem m4 : ∀ n : Fin 17, costF 16 n.val ≤ costF 16 (n.val - 1) := by decide +kernel
theorem m5 : ∀ c : Fin 17, ∀ n : Fin 17, n.val ≤ c.val → costF c.val n.val = 255 ∨ (10 ≤ costF c.val n.val ∧ costF c.val n.val ≤ 160) := by decide +kernel
def costO : Option Link → Int := fun o => if (sU o).1 = 0 then 255 else ceilD (10 * (sU o).2) (sU o).1
theorem costT_at {t : List Link} (hs : Sorted t) (v : Int) : costT t v = costO (atR t v) := by
  unfold costT costO; rw [succT_at hs]
theorem costO_some {a : Link} (h : ¬ bad a) : ∃ c k : Nat, c ≤ 16 ∧ a.count = (c : Int) ∧ a.bits = (k : Int) ∧ k < 65536 ∧ k < 2 ^ c ∧ pcN 16 k ≤ c ∧ costO (some a) = costF c (pcN 16 k) := by
  obtain ⟨n0, n1, c0, c1, b0, b1, b2⟩ := good_bits h
  refine ⟨a.count.toNat, a.bits.toNat, by omega, by omega, by omega, by omega, ?_, ?_, ?_⟩
  · have : ((2 : Int) ^ a.count.toNat) = ((2 ^ a.count.toNat : Nat) : Int) := by simp
    rw [this] at b1
    have h3 : ((a.bits.toNat : Nat) : Int) < ((2 ^ a.count.toNat : Nat) : Int) := by omega
    exact_mod_cast h3
  · refine pcN_le_of 16 _ _ ?_
    have : ((2 : Int) ^ a.count.toNat) = ((2 ^ a.count.toNat : Nat) : Int) := by simp
    rw [this] at b1
    have h3 : ((a.bits.toNat : Nat) : Int) < ((2 ^ a.count.toNat : Nat) : Int) := by omega
    exact_mod_cast h3
  · unfold costO costF sU pc
    simp only []
    rw [show ((a.count.toNat : Nat) : Int) = a.count by omega]
    by_cases hz : pcN 16 a.bits.toNat = 0
    · rw [if_pos (by rw [hz]; rfl), if_pos hz]
    · rw [if_neg (by omega), if_neg hz]
/-- a success does not increase, a failure does not decrease -/
theorem cost_upd {a : Link} (h : ¬ bad a) : costO (some (upd a true)) ≤ costO (some a) ∧ costO (some a) ≤ costO (some (upd a false)) := by
  obtain ⟨c, k, hc, hac, hak, hk, hkc, hp, he⟩ := costO_some h
  have key : ∀ ok : Bool, costO (some (upd a ok)) = costF (min (c + 1) 16) (pcN 16 ((2 * k + (if ok then 1 else 0)) % 65536)) := fun ok => by
    obtain ⟨c', k', _, hac', hak', _, _, _, he'⟩ := costO_some (upd_good h ok)
    rw [he']
    have h1 : c' = min (c + 1) 16 := by
      have : (upd a ok).count = ((min (c + 1) 16 : Nat) : Int) := by unfold upd; simp only [hac]; split <;> omega
      omega
    have h2 : k' = (2 * k + (if ok then 1 else 0)) % 65536 := by
      have : (upd a ok).bits = (((2 * k + (if ok then 1 else 0)) % 65536 : Nat) : Int) := by
        unfold upd; simp only [hak]; cases ok <;> simp <;> omega
      omega
    rw [h1, h2]
  have s1 := pc_shift k 1 (by omega)
  have s0 := pc_shift k 0 (by omega)
  rw [key true, key false, he]
  simp only [if_true, Bool.false_eq_true, if_false]
  rcases Nat.lt_or_ge c 16 with d | d
  · rw [Nat.min_eq_left (by omega)]
    have hk15 : k < 32768 := Nat.lt_of_lt_of_le hkc (by
      have := Nat.pow_le_pow_right (show 2 > 0 by decide) (show c ≤ 15 by omega)
      simpa using this)
    have ht : k / 32768 % 2 = 0 := by omega
    rw [ht] at s1 s0
    have e1 : pcN 16 ((2 * k + 1) % 65536) = pcN 16 k + 1 := by omega
    have e0 : pcN 16 ((2 * k + 0) % 65536) = pcN 16 k := by omega
    rw [e1, e0]
    exact ⟨m1 ⟨c, d⟩ ⟨pcN 16 k, by omega⟩ hp, m3 ⟨c, d⟩ ⟨pcN 16 k, by omega⟩ hp⟩
  · obtain rfl : c = 16 := by omega
    rw [show min (16 + 1) 16 = 16 from rfl]
    have hn := pcN_le 16 k
    refine ⟨?_, ?_⟩
    · rcases (show k / 32768 % 2 = 0 ∨ k / 32768 % 2 = 1 by omega) with ht | ht
      · rw [show pcN 16 ((2 * k + 1) % 65536) = pcN 16 k + 1 by omega]
        exact m2 ⟨pcN 16 k, by omega⟩
      · rw [show pcN 16 ((2 * k + 1) % 65536) = pcN 16 k by omega]
        exact Int.le_refl _
    · rcases (show k / 32768 % 2 = 0 ∨ k / 32768 % 2 = 1 by omega) with ht | ht
      · rw [show pcN 16 ((2 * k + 0) % 65536) = pcN 16 k by omega]
        exact Int.le_refl _
      · rw [show pcN 16 ((2 * k + 0) % 65536) = pcN 16 k - 1 by omega]
        exact m4 ⟨pcN 16 k, by omega⟩
theorem cost_new (v : Int) (h0 : ¬ v < 0) (h1 : ¬ 250 < v) : costO (some (upd ⟨v, 0, 0⟩ true)) ≤ 255 ∧ costO (some (upd ⟨v, 0, 0⟩ false)) = 255 := by
  have h := cost_upd (new_good (v := v) h0 h1)
  have hz : ∀ a : Link, a.bits = 0 → costO (some a) = 255 := fun a ha => by
    unfold costO sU pc
    simp only [ha, Int.toNat_zero, pcN_zero]
    rfl
  rw [hz ⟨v, 0, 0⟩ rfl] at h
  exact ⟨h.1, hz _ rfl⟩
/-- the law, on valid tables -/
theorem mono_law {t : List Link} (hg : Good t) (v : Int) : costT (seenT t v true) v ≤ costT t v ∧ costT t v ≤ costT (seenT t v false) v := by
  obtain ⟨g1, _, a1, _⟩ := seen_facts hg v true
  obtain ⟨g0, _, a0, _⟩ := seen_facts hg v false
  rw [costT_at g1.2.1, costT_at g0.2.1, costT_at hg.2.1]
  have hgd : ∀ a, atR t v = some a → ¬ bad a := fun a ha => hg.2.2 a (List.mem_of_find?_eq_some ha)
  constructor
  · rcases a1 with ⟨e, _⟩ | e
    · rw [e]; exact Int.le_refl _
    · rw [e]
      cases hq : atR t v with
      | some a => exact (cost_upd (hgd a hq)).1
      | none =>
        show costO (some (upd ⟨v, 0, 0⟩ true)) ≤ 255
        have h1 := seen_facts hg v true
        have hx := g1.2.2 _ (List.mem_of_find?_eq_some e)
        rw [hq] at hx
        have hb := good_bits hx
        have hnode : (upd (Option.getD none ⟨v, 0, 0⟩) true).node = v := rfl
        rw [hnode] at hb
        exact (cost_new v (by omega) (by omega)).1
  · rcases a0 with ⟨e, _⟩ | e
    · rw [e]; exact Int.le_refl _
    · rw [e]
      cases hq : atR t v with
      | some a => exact (cost_upd (hgd a hq)).2
      | none =>
        show (255 : Int) ≤ costO (some (upd ⟨v, 0, 0⟩ false))
        have hx := g0.2.2 _ (List.mem_of_find?_eq_some e)
        rw [hq] at hx
        have hb := good_bits hx
        have hnode : (upd (Option.getD none ⟨v, 0, 0⟩) false).node = v := rfl
        rw [hnode] at hb
        rw [(cost_new v (by omega) (by omega)).2]
        exact Int.le_refl _
end Go.Proofs.Ytipghbpkpnkmnaa
