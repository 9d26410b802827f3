/- Sixteen results in a row: plain facts. -/
import Derived.Test.YtipghbpkpnkmnaaMo
namespace Go.Proofs.Ytipghbpkpnkmnaa
open Go.RowKit Go.BigFrame

def it (l : List Link) (v : Int) (ok : Bool) : Nat → List Link
  | 0 => l
  | j + 1 => seenT (it l v ok j) v ok
def en (a : Link) (ok : Bool) : Nat → Link
  | 0 => a
  | j + 1 => upd (en a ok j) ok
theorem en_good {a : Link} (h : ¬ bad a) (ok : Bool) (j : Nat) : ¬ bad (en a ok j) := by
  induction j with
  | zero => exact h
  | succ j ih => exact upd_good ih ok
theorem it_good {l : List Link} (h : Good l) (v : Int) (ok : Bool) (j : Nat) : Good (it l v ok j) := by
  induction j with
  | zero => exact h
  | succ j ih => exact (seen_facts ih v ok).1
theorem it_at {l : List Link} (h : Good l) (hl : l.length < 24) {v : Int} (h0 : 0 ≤ v) (h1 : v ≤ 250) (ok : Bool) (j : Nat) : atR (it l v ok (j + 1)) v = some (en ((atR l v).getD ⟨v, 0, 0⟩) ok (j + 1)) := by
  induction j with
  | zero => exact ((seen_facts h v ok).2.2.2 hl h0 h1).1
  | succ j ih =>
    have hf := (seen_facts (it_good h v ok (j + 1)) v ok).2.2.1
    rcases hf with ⟨_, e⟩ | e
    · rw [ih] at e; cases e
    · rw [ih] at e; exact e
theorem en_facts {a : Link} (h : ¬ bad a) (ok : Bool) (j : Nat) : (en a ok j).bits = (((a.bits.toNat * 2 ^ j + (if ok then 2 ^ j - 1 else 0)) % 65536 : Nat) : Int) ∧ (en a ok j).count = ((min (a.count.toNat + j) 16 : Nat) : Int) := by
  obtain ⟨n0, n1, c0, c1, b0, b1, b2⟩ := good_bits h
  induction j with
  | zero =>
    refine ⟨?_, ?_⟩
    · cases ok <;> simp [en] <;> omega
    · simp [en]; omega
  | succ j ih =>
    obtain ⟨i1, i2⟩ := ih
    have hp : 0 < 2 ^ j := Nat.two_pow_pos j
    refine ⟨?_, ?_⟩
    · show (2 * (en a ok j).bits + (if ok then 1 else 0)) % 65536 = _
      rw [i1, Nat.pow_succ, ← Nat.mul_assoc]
      generalize a.bits.toNat * 2 ^ j = K
      generalize 2 ^ j = P at *
      cases ok <;> simp <;> omega
    · show (if 16 < (en a ok j).count + 1 then 16 else (en a ok j).count + 1) = _
      rw [i2]
      split <;> omega
theorem pc_ones : pcN 16 65535 = 16 := by decide +kernel
theorem six_good {a : Link} (h : ¬ bad a) : costO (some (en a true 16)) = 10 ∧ floorD (100 * (sU (some (en a true 16))).1) (sU (some (en a true 16))).2 = 100 := by
  obtain ⟨e1, e2⟩ := en_facts h true 16
  have hb : (en a true 16).bits = ((65535 : Nat) : Int) := by rw [e1]; simp
  have hc : (en a true 16).count = 16 := by rw [e2]; omega
  have hs : sU (some (en a true 16)) = (16, 16) := by
    unfold sU pc
    simp only []
    rw [hb, hc, Int.toNat_natCast, pc_ones]; rfl
  unfold costO
  rw [hs]
  decide +kernel
theorem six_bad {a : Link} (h : ¬ bad a) : costO (some (en a false 16)) = 255 ∧ floorD (100 * (sU (some (en a false 16))).1) (sU (some (en a false 16))).2 = 0 := by
  obtain ⟨e1, e2⟩ := en_facts h false 16
  have hb : (en a false 16).bits = 0 := by rw [e1]; simp
  have hc : (en a false 16).count = 16 := by rw [e2]; omega
  have hs : sU (some (en a false 16)) = (0, 16) := by
    unfold sU pc
    simp only []
    rw [hb, hc, Int.toNat_zero, pcN_zero]; rfl
  unfold costO
  rw [hs]
  decide +kernel
theorem six_law {l : List Link} (h : Good l) (hl : l.length < 24) {v : Int} (h0 : 0 ≤ v) (h1 : v ≤ 250) :
    qualT (it l v true 16) v = 100 ∧ costT (it l v true 16) v = 10 ∧ qualT (it l v false 16) v = 0 ∧ costT (it l v false 16) v = 255 := by
  have ha : ¬ bad ((atR l v).getD ⟨v, 0, 0⟩) := by
    cases hq : atR l v with
    | none => exact new_good (by omega) (by omega)
    | some a => exact h.2.2 a (List.mem_of_find?_eq_some hq)
  have g1 := it_good h v true 16
  have g0 := it_good h v false 16
  obtain ⟨p1, p2⟩ := six_good ha
  obtain ⟨q1, q2⟩ := six_bad ha
  unfold qualT
  rw [costT_at g1.2.1, costT_at g0.2.1, succT_at g1.2.1, succT_at g0.2.1, it_at h hl h0 h1 true 15, it_at h hl h0 h1 false 15]
  exact ⟨p2, p1, q2, q1⟩
end Go.Proofs.Ytipghbpkpnkmnaa
