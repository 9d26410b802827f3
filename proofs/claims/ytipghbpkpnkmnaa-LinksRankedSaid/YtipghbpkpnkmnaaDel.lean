/- slices.Delete of one element and slices.Insert of one, at a row of structs that is the call's own. -/
import Derived.Test.YtipghbpkpnkmnaaLnk
import Derived.Test.YtipghbpkpnkmnaaIns
import Derived.Shelf.RegionOpenPlain
namespace Go.Proofs.Ytipghbpkpnkmnaa
open Go.RowKit Go.Shelf
set_option linter.unusedVariables false

set_option maxHeartbeats 4000000 in
theorem delete29 (base : Nat) (A : Option Addr) (i m cap : Nat) (l : List Link) (w : World) (hown : Ow w base 38 EL (.slice A (i + 1 + m) cap) (i + 1 + m) l) :
    Calls Try.prog 29 #[.slice A (i + 1 + m) cap, .int .i64 i, .int .i64 (i + 1)] w fun e w' =>
      ∃ A' : Option Addr, e = .returned (.slice A' (i + m) cap) ∧ Ow w' base 38 EL (.slice A' (i + m) cap) (i + m) (l.eraseIdx i) ∧ w.grownBy w' (Value.ownBlock (.slice A (i + 1 + m) cap)) := by
  obtain ⟨i0, hi0, hz0, hz1, hz2⟩ := info_parts info38
  obtain ⟨g, cur, rfl, hb, hg, hnc, hcm, hcs, htk⟩ := hown.row (by omega)
  have hml : maxLen = 9223372036854775807 := rfl
  have hll := hown.1
  have hsz : EL.size = 3 := rfl
  -- the append
  have h1 : w.ownsRow base 38 3 (.slice (some ⟨g, 0, none⟩) i cap) i (EL.flat (l.take i)) := by
    refine ⟨by rw [EL.flat_length, List.length_take, hll, hsz]; congr 1; omega, .inr ⟨g, cap, cur, rfl, hb, hg, by omega, hcm, by rw [hcs, hsz], ?_⟩⟩
    rw [← EL.flat_take, ← htk, List.take_take, hsz]
    congr 1; omega
  have hcell : ∀ j u, (EL.flat l)[j]? = some u → w.cell? ⟨g, j, none⟩ = some u := fun j u hj => by
    rw [cell_of_row w g j cur 38 (0, 0) hg]
    rw [← htk, List.getElem?_take] at hj
    split at hj
    · simpa using hj
    · cases hj
  have h2 : ∀ ad : Addr, (m = 0 ∨ ad = ⟨g, (i + 1) * 3, none⟩) → ∀ j u, (EL.flat (l.drop (i + 1)))[j]? = some u → w.cell? (ad.add j) = some u := by
    intro ad had j u hj
    rcases had with rfl | rfl
    · rw [List.drop_eq_nil_of_le (by omega)] at hj
      simp [Enc.flat] at hj
    · rw [Addr.add_lit]
      apply hcell
      rw [← EL.flat_drop, List.getElem?_drop, hsz] at hj
      exact hj
  have h3 := fun ad had ty c => run_append_fits (P := Try.prog) w.drew base 22 ty 38 i0 3 Try.underlying22 hi0 hz1 g i cap _ h1 ad m c (EL.flat (l.drop (i + 1))) (by rw [EL.flat_length, List.length_drop, hll, hsz]; congr 1; omega) (h2 ad had) (EL.flat_one' _) (by omega)
  have h4 : ∀ (w1 : World), w1.ownsRow base 38 3 (.slice (some ⟨g, 0, none⟩) (i + m) cap) (i + m) (EL.flat (l.take i) ++ EL.flat (l.drop (i + 1))) → w.grownBy w1 (some g) →
      ∃ w2, (∀ ty, (Builtin.clear_ #[22] ty #[.slice (some ⟨g, (i + m) * 3, none⟩) 1 (cap - (i + m))]).run Try.prog w1 = .ok (.tuple #[]) w2) ∧ Ow w2 base 38 EL (.slice (some ⟨g, 0, none⟩) (i + m) cap) (i + m) (l.eraseIdx i) ∧ w.grownBy w2 (some g) := by
    intro w1 ho hgr
    obtain ⟨g', cap', cur1, hv, hb1, hg1, hn1, hcm1, hcs1, htk1⟩ := ho.2.resolve_left (by intro h; cases h.1)
    cases hv
    obtain ⟨vs, hvl, hrun⟩ := run_clear_rows (P := Try.prog) w1 22 38 22 i0 _ Try.underlying22 hi0 hz0 g ((i + m) * 3) 1 (cap - (i + m)) cur1 hg1 (by decide) (by rw [hcs1]; show (i + m) * 3 + 1 * 3 ≤ cap * 3; omega) (by omega)
    refine ⟨_, fun ty => hrun, ?_, grownBy_setRow hgr⟩
    have hvl' : vs.length = 3 := hvl
    refine Ow.mk_ (by rw [List.length_eraseIdx_of_lt (by omega)]; omega) hb1 (setRow_heap _ _ _ _ _ _ hg1) hn1 hcm1 ?_ ?_
    · rw [hsz, List.size_toArray, row_len _ _ _ (by rw [hvl', Array.length_toList, hcs1]; omega), Array.length_toList, hcs1]
    · rw [hsz, row_low _ _ _ _ (Nat.le_refl _) (by rw [Array.length_toList, hcs1]; omega), htk1, ← EL.flat_append, List.eraseIdx_eq_take_drop_succ]
  have mixed : Try.prog.follows .mixedOrders = true := by kernel_rfl
  have hb1 : (i : Int) ≤ (i : Int) + 1 := by omega
  have hb2 : (i : Int) ≤ (cap : Int) := by omega
  have hb3 : (i : Int) + 1 ≤ (i : Int) + 1 + (m : Int) := by omega
  have hb4 : (0 : Int) ≤ (i : Int) + 1 := by omega
  have htn : ((i : Int) + 1).toNat = i + 1 := by omega
  by_cases hc : cap = i + 1
  · obtain rfl : m = 0 := by omega
    subst hc
    obtain ⟨w1, hr, ho, hgr'⟩ := h3 ⟨g, 0, none⟩ (.inl rfl) 22 0
    have hgr : w.grownBy w1 (some g) := ⟨hgr'.os, hgr'.tape, hgr'.output, hgr'.size, hgr'.block⟩
    clear hgr'
    obtain ⟨w2, hr2, ho2, hgr2⟩ := h4 w1 ho hgr
    clear h3 h4 h2 h1 hcell htk
    go_enter Try.func29, Try.ntmps29
    go_wp2
    go_region_law_o (refine step_append_run rfl _ _ 22 22 rfl _ _ (by simp [Act.eval, Act.put]) (by simp [Act.eval, Act.put]) hr ?_)
    have hr3 : (Builtin.clear_ #[22] 0 #[.slice (some ⟨g, i * 3, none⟩) 1 1]).run Try.prog w1 = .ok (.tuple #[]) w2 := by
      have := hr2 0
      rwa [show i + 1 - (i + 0) = 1 by omega] at this
    go_wp2
    go_ret
    exact ⟨_, rfl, ho2, hgr2⟩
  · obtain ⟨w1, hr, ho, hgr'⟩ := h3 ⟨g, (i + 1) * 3, none⟩ (.inr rfl) 22 (cap - (i + 1))
    have hgr : w.grownBy w1 (some g) := ⟨hgr'.os, hgr'.tape, hgr'.output, hgr'.size, hgr'.block⟩
    clear hgr'
    obtain ⟨w2, hr2, ho2, hgr2⟩ := h4 w1 ho hgr
    clear h3 h4 h2 h1 hcell htk
    go_enter Try.func29, Try.ntmps29
    go_wp2
    go_region_law_o (refine step_append_run rfl _ _ 22 22 rfl _ _ (by simp [Act.eval, Act.put]) (by simp [Act.eval, Act.put]) hr ?_)
    have hr3 : (Builtin.clear_ #[22] 0 #[.slice (some ⟨g, (i + m) * 3, none⟩) (i + 1 + m - (i + m)) (cap - (i + m))]).run Try.prog w1 = .ok (.tuple #[]) w2 := by
      rw [show i + 1 + m - (i + m) = 1 by omega]
      exact hr2 0
    go_wp2
    go_ret
    exact ⟨_, rfl, ho2, hgr2⟩
end Go.Proofs.Ytipghbpkpnkmnaa
