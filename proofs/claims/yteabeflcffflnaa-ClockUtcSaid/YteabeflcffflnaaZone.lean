/- Plain mathematics of time zones: no walk. -/
import Derived.Test.YteabeflcffflnaaWa
namespace Go.Proofs.Yteabeflcffflnaa

abbrev Ch := List (Int × Int)
/-- change k -/
def ct (l : Ch) (k : Nat) : Int := (l.getD k (0, 0)).1
def co (l : Ch) (k : Nat) : Int := (l.getD k (0, 0)).2
def wideI (x : Int) : Prop := x < -840 ∨ 840 < x
def badC (l : Ch) (k : Nat) : Prop := wideI (co l k) ∨ ct l k < 0 ∨ 1073741824 < ct l k
open Classical in
/-- what Check answers -/
noncomputable def chk (o : Int) (l : Ch) : Int :=
  if wideI o ∨ ∃ k, k < l.length ∧ badC l k then 2 else if 64 < l.length then 3 else if ∃ k, 1 ≤ k ∧ k < l.length ∧ ct l k ≤ ct l (k - 1) then 14 else 0
theorem chk_2 {o : Int} {l : Ch} (h : wideI o ∨ ∃ k, k < l.length ∧ badC l k) : chk o l = 2 := by unfold chk; rw [if_pos h]
theorem chk_3 {o : Int} {l : Ch} (h : ¬ (wideI o ∨ ∃ k, k < l.length ∧ badC l k)) (h2 : 64 < l.length) : chk o l = 3 := by unfold chk; rw [if_neg h, if_pos h2]
theorem chk_14 {o : Int} {l : Ch} (h : ¬ (wideI o ∨ ∃ k, k < l.length ∧ badC l k)) (h2 : ¬ 64 < l.length) (h3 : ∃ k, 1 ≤ k ∧ k < l.length ∧ ct l k ≤ ct l (k - 1)) : chk o l = 14 := by
  unfold chk; rw [if_neg h, if_neg h2, if_pos h3]
theorem chk_0 {o : Int} {l : Ch} (h : ¬ (wideI o ∨ ∃ k, k < l.length ∧ badC l k)) (h2 : ¬ 64 < l.length) (h3 : ¬ ∃ k, 1 ≤ k ∧ k < l.length ∧ ct l k ≤ ct l (k - 1)) : chk o l = 0 := by
  unfold chk; rw [if_neg h, if_neg h2, if_neg h3]
/-- a valid zone -/
structure Ok (o : Int) (l : Ch) : Prop where
  o0 : -840 ≤ o ∧ o ≤ 840
  each : ∀ k, k < l.length → (-840 ≤ co l k ∧ co l k ≤ 840) ∧ 0 ≤ ct l k ∧ ct l k ≤ 1073741824
  sorted : ∀ k, 1 ≤ k → k < l.length → ct l (k - 1) < ct l k
theorem chk_ok {o : Int} {l : Ch} (h : chk o l = 0) : Ok o l := by
  unfold chk at h
  split at h
  · cases h
  · rename_i h1
    split at h
    · cases h
    · split at h
      · cases h
      · rename_i h3
        refine ⟨?_, fun k hk => ?_, fun k hk hk2 => ?_⟩
        · have : ¬ wideI o := fun c => h1 (.inl c)
          unfold wideI at this; omega
        · have : ¬ badC l k := fun c => h1 (.inr ⟨k, hk, c⟩)
          unfold badC wideI at this; omega
        · rcases Int.lt_or_le (ct l (k - 1)) (ct l k) with c | c
          · exact c
          · exact absurd ⟨k, hk, hk2, c⟩ h3
theorem chk_vals (o : Int) (l : Ch) : chk o l = 0 ∨ chk o l = 2 ∨ chk o l = 3 ∨ chk o l = 14 := by
  unfold chk; split
  · simp
  · split
    · simp
    · split <;> simp
/-- the offset after the first k changes, at minute m -/
def fo (o : Int) (l : Ch) (m : Int) (k : Nat) : Int := (l.take k).foldl (fun a c => if c.1 ≤ m then c.2 else a) o
theorem fo_zero (o : Int) (l : Ch) (m : Int) : fo o l m 0 = o := rfl
theorem fo_succ {o : Int} {l : Ch} {m : Int} {k : Nat} (hk : k < l.length) : fo o l m (k + 1) = if ct l k ≤ m then co l k else fo o l m k := by
  unfold fo ct co
  rw [List.take_succ_eq_append_getElem hk, List.foldl_append]
  simp [hk]
theorem Ok.mono {o : Int} {l : Ch} (h : Ok o l) {i j : Nat} (hij : i < j) (hj : j < l.length) : ct l i < ct l j := by
  induction j with
  | zero => omega
  | succ j ih =>
    have hs := h.sorted (j + 1) (by omega) hj
    rw [Nat.add_sub_cancel] at hs
    rcases Nat.lt_or_ge i j with c | c
    · have := ih c (by omega); omega
    · obtain rfl : i = j := by omega
      exact hs
theorem fo_past {o : Int} {l : Ch} {m : Int} {k : Nat} (h : Ok o l) (hk : k < l.length) (hm : m < ct l k) : ∀ j, k ≤ j → j ≤ l.length → fo o l m j = fo o l m k := by
  intro j hkj
  induction j with
  | zero => intro _; rw [show k = 0 by omega]
  | succ j ih =>
    intro hj
    rcases Nat.lt_or_ge k (j + 1) with c | c
    · have e : m < ct l j := by
        rcases Nat.lt_or_ge k j with d | d
        · have := h.mono d (by omega); omega
        · obtain rfl : k = j := by omega
          exact hm
      rw [fo_succ (by omega), if_neg (by omega)]
      exact ih (by omega) (by omega)
    · obtain rfl : k = j + 1 := by omega
      rfl
/-- the segment k begins here, and has this offset -/
def frm (l : Ch) (k : Nat) : Int := if k = 0 then 0 else ct l (k - 1)
def offK (o : Int) (l : Ch) (k : Nat) : Int := if k = 0 then o else co l (k - 1)
theorem frm_succ (l : Ch) (k : Nat) : frm l (k + 1) = ct l k := by simp [frm]
theorem offK_succ (o : Int) (l : Ch) (k : Nat) : offK o l (k + 1) = co l k := by simp [offK]
theorem fo_seg {o : Int} {l : Ch} {m : Int} (h : Ok o l) {k : Nat} (hk : k ≤ l.length) (hf : frm l k ≤ m) (ht : k < l.length → m < ct l k) : fo o l m l.length = offK o l k := by
  have e1 : fo o l m l.length = fo o l m k := by
    rcases Nat.lt_or_ge k l.length with c | c
    · exact fo_past h c (ht c) _ hk (Nat.le_refl _)
    · obtain rfl : k = l.length := by omega
      rfl
  rw [e1]
  cases k with
  | zero => simp [offK, fo_zero]
  | succ k =>
    rw [frm_succ] at hf
    rw [offK_succ, fo_succ (by omega), if_pos hf]
open Classical in
noncomputable def offs (o : Int) (l : Ch) (m : Int) : Int := if chk o l = 0 then fo o l (clampM m) l.length else 0
noncomputable def loc (o : Int) (l : Ch) (m : Int) : Int := clampM (clampM m + offs o l m)
theorem fo_bd {o : Int} {l : Ch} {m : Int} (h : Ok o l) : ∀ k, k ≤ l.length → -840 ≤ fo o l m k ∧ fo o l m k ≤ 840 := by
  intro k
  induction k with
  | zero => intro _; exact h.o0
  | succ k ih =>
    intro hk
    rw [fo_succ (by omega)]
    split
    · exact (h.each k (by omega)).1
    · exact ih (by omega)
theorem offs_bd (o : Int) (l : Ch) (m : Int) : -840 ≤ offs o l m ∧ offs o l m ≤ 840 := by
  unfold offs; split
  · rename_i h; exact fo_bd (chk_ok h) _ (Nat.le_refl _)
  · omega
/-- Utc's answer -/
def IsUtc (f : Int → Int) (L a : Int) (ok : Bool) : Prop :=
  (ok = true ∧ 0 ≤ a ∧ a ≤ 1073741824 ∧ f a = L ∧ ∀ k, 0 ≤ k → k < a → f k ≠ L) ∨ (ok = false ∧ a = 0 ∧ ∀ k, 0 ≤ k → k ≤ 1073741824 → f k ≠ L)
theorem IsUtc.uniq {f : Int → Int} {L a b : Int} {p q : Bool} (h : IsUtc f L a p) (h' : IsUtc f L b q) : a = b ∧ p = q := by
  rcases h with ⟨rfl, h0, h1, h2, h3⟩ | ⟨rfl, h0, h1⟩ <;> rcases h' with ⟨rfl, k0, k1, k2, k3⟩ | ⟨rfl, k0, k1⟩
  · refine ⟨?_, rfl⟩
    rcases Int.lt_trichotomy a b with c | c | c
    · exact absurd h2 (k3 a h0 c)
    · exact c
    · exact absurd k2 (h3 b k0 c)
  · exact absurd h2 (k1 a h0 h1)
  · exact absurd k2 (h1 b k0 k1)
  · exact ⟨by omega, rfl⟩
/-- the candidate of a segment -/
def fstM (f off L : Int) : Int := if L = 0 ∧ f + off ≤ 0 then f else if L = 1073741824 then max (L - off) f else L - off
theorem fst_yes {f off L m : Int} (h0 : 0 ≤ L) (h1 : L ≤ 1073741824) (hm : fstM f off L = m) (hf : f ≤ m) : clampM (m + off) = L ∧ ∀ k, f ≤ k → k < m → clampM (k + off) ≠ L := by
  subst hm
  unfold fstM at *
  refine ⟨?_, fun k hk hk2 => ?_⟩
  · unfold clampM; (repeat' split) <;> (repeat' split at hf) <;> omega
  · intro hc; unfold clampM at hc; (repeat' split at hc) <;> (repeat' split at hk2) <;> (repeat' split at hf) <;> omega
theorem fst_no {f off L t : Int} (_h0 : 0 ≤ L) (_h1 : L ≤ 1073741824) (hn : ¬ (f ≤ fstM f off L ∧ fstM f off L < t)) : ∀ k, f ≤ k → k < t → clampM (k + off) ≠ L := by
  intro k hk hk2 hc
  unfold fstM at hn
  unfold clampM at hc; (repeat' split at hc) <;> (repeat' split at hn) <;> omega
/-- far from L no minute serves -/
theorem loc_near {o : Int} {l : Ch} {m L : Int} (h0 : 0 ≤ m) (h1 : m ≤ 1073741824) (h : loc o l m = L) : L - 840 ≤ m ∧ m ≤ L + 840 := by
  have := offs_bd o l m
  unfold loc at h
  rw [clampM_id h0 h1] at h
  unfold clampM at h
  (repeat' split at h) <;> omega
end Go.Proofs.Yteabeflcffflnaa
