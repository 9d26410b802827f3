/- The walks of the laws on zones. -/
import Derived.Test.YteabeflcffflnaaAw
namespace Go.Proofs.Yteabeflcffflnaa
open Go.RowKit Go.BigFrame
set_option linter.unusedVariables false

set_option maxHeartbeats 1000000 in
theorem lawZones (o : Int) (A : Option Addr) (l : Ch) (cap n : Nat) (m : Int) (w : World) (hc : Chg w A l) (hn : l.length = n) (hcap : n ≤ 9223372036854775807) :
    Calls Try.prog 5 #[.agg #[.int .i64 o, .slice A n cap], .int .i64 m] w fun e w' => e = .returned (.bool true) ∧ Below w.heap.size w w' := by
  obtain ⟨W, hW, hB, hz, hk⟩ := boxed w #[.int .i64 o, .slice A n cap] 34
  have hc' := hc.later hB
  have k0 := hk.at 0 (v := .int .i64 o) rfl
  have k1 := hk.at 1 (v := .slice A n cap) rfl
  by_cases hl : l.length ≤ 70
  · have hn70 : n ≤ 70 := by omega
    have C0 := After.cell k0
    have C1 := After.cell k1
    have A1 : ∀ p : After W, Calls Try.prog 22 #[.agg #[.int .i64 o, .slice A n cap]] p.w fun e w'' => e = .returned (.int .i64 (chk o l)) ∧ ∃ q : After W, w'' = q.w := fun p => p.of (check22_n o A l cap n p.w hl (hc'.later p.hb) hn)
    have A2 : ∀ p : After W, Calls Try.prog 23 #[.agg #[.int .i64 o, .slice A n cap]] p.w fun e w'' => e = .returned (.int .i64 (chk o l)) ∧ ∃ q : After W, w'' = q.w := fun p => p.of (check23_n o A l cap n p.w hl (hc'.later p.hb) hn)
    have A3 : ∀ p : After W, Calls Try.prog 24 #[.agg #[.int .i64 o, .slice A n cap], .int .i64 m] p.w fun e w'' => e = .returned (.int .i64 (offs o l m)) ∧ ∃ q : After W, w'' = q.w := fun p => p.of (offset24 o A l cap n m p.w hl (hc'.later p.hb) hn)
    have A4 : ∀ p : After W, Calls Try.prog 25 #[.agg #[.int .i64 o, .slice A n cap], .int .i64 m] p.w fun e w'' => e = .returned (.int .i64 (offs o l m)) ∧ ∃ q : After W, w'' = q.w := fun p => p.of (offset25 o A l cap n m p.w hl (hc'.later p.hb) hn)
    have A5 : ∀ p : After W, Calls Try.prog 26 #[.agg #[.int .i64 o, .slice A n cap], .int .i64 m] p.w fun e w'' => e = .returned (.int .i64 (loc o l m)) ∧ ∃ q : After W, w'' = q.w := fun p => p.of (local26 o A l cap n m p.w hl (hc'.later p.hb) hn)
    have A6 : ∀ p : After W, Calls Try.prog 27 #[.agg #[.int .i64 o, .slice A n cap], .int .i64 m] p.w fun e w'' => e = .returned (.int .i64 (loc o l m)) ∧ ∃ q : After W, w'' = q.w := fun p => p.of (local27 o A l cap n m p.w hl (hc'.later p.hb) hn)
    have A7 : ∀ p : After W, Calls Try.prog 15 #[] p.w fun e w'' => e = .returned (.bool true) ∧ ∃ q : After W, w'' = q.w := fun p => p.of (awake15 p.w)
    clear hn hl hk hc hc'
    go_enter Try.func5, Try.ntmps5
    go_wp2
    clear hW k0 k1
    refine wp_region_after_tail 26 (by kernel_rfl) (by kernel_rfl) ?_
    simp only [List.take_succ_cons, List.take_zero, List.drop_succ_cons, List.drop_zero]
    repeat (go_big_quiet_step (first | (with_reducible exact A1 _) | (with_reducible exact A2 _) | (with_reducible exact A3 _) | (with_reducible exact A4 _) | (with_reducible exact A5 _) | (with_reducible exact A6 _) | (with_reducible exact A7 _)))
    refine wpQuiet_nil ?_
    intro w4 hb4
    have hB4 := hB.trans (hb4.mono hB.size)
    clear hb4 hB C0 C1 A1 A2 A3 A4 A5 A6 A7
    go_wp2
    go_ret
    exact ⟨rfl, hB4⟩
  · have hn70 : 70 < n := by omega
    clear hn hl
    go_enter Try.func5, Try.ntmps5
    go_wp2_with fail
    refine (awake15 _).mono ?_
    rintro e w5 ⟨rfl, hb⟩
    have hB5 := hB.trans (hb.mono (Nat.le_of_lt hz))
    clear hb hB
    go_wp2
    go_ret
    exact ⟨rfl, hB5⟩

set_option maxHeartbeats 1000000 in
theorem lawUtc (o : Int) (A : Option Addr) (l : Ch) (cap n : Nat) (L : Int) (w : World) (hc : Chg w A l) (hn : l.length = n) (hcap : n ≤ 9223372036854775807) :
    Calls Try.prog 6 #[.agg #[.int .i64 o, .slice A n cap], .int .i64 L] w fun e w' => e = .returned (.bool true) ∧ Below w.heap.size w w' := by
  obtain ⟨W, hW, hB, hz, hk⟩ := boxed w #[.int .i64 o, .slice A n cap] 34
  have hc' := hc.later hB
  have k0 := hk.at 0 (v := .int .i64 o) rfl
  have k1 := hk.at 1 (v := .slice A n cap) rfl
  by_cases hl : l.length ≤ 70
  · have hn70 : n ≤ 70 := by omega
    have HN := Lib.hid hn
    clear hn
    go_enter Try.func6, Try.ntmps6
    go_wp2_with fail
    refine (utc28 o A l cap n L _ hl hc' HN.out).mono ?_
    rintro e w1 ⟨a, ok, rfl, hu, hb⟩
    have hB1 := hB.trans (hb.mono (Nat.le_of_lt hz))
    have hc1 := hc'.later hb
    have r0 := keep hb k0
    have r1 := keep hb k1
    have HU := Lib.hid hu
    clear hu hb hB hW k0 k1 hk hc hc'
    go_wp2_with fail
    refine (utc29 o A l cap n L _ hl hc1 HN.out).mono ?_
    rintro e w2 ⟨a2, ok2, rfl, hu, hb⟩
    obtain ⟨rfl, rfl⟩ := HU.out.uniq hu
    have hB2 := hB1.trans (hb.mono hB1.size)
    clear hu hb hB1 hc1 r0 r1 HU
    go_wp2_with fail
    refine (awake15 _).mono ?_
    rintro e w3 ⟨rfl, hb⟩
    have hB3 := hB2.trans (hb.mono hB2.size)
    clear hb hB2
    go_wp2
    go_ret
    exact ⟨rfl, hB3⟩
  · have hn70 : 70 < n := by omega
    clear hn hl
    go_enter Try.func6, Try.ntmps6
    go_wp2_with fail
    refine (awake15 _).mono ?_
    rintro e w5 ⟨rfl, hb⟩
    have hB5 := hB.trans (hb.mono (Nat.le_of_lt hz))
    clear hb hB
    go_wp2
    go_ret
    exact ⟨rfl, hB5⟩
end Go.Proofs.Yteabeflcffflnaa
