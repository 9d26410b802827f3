/- The walks of the reference's Check. -/
import Derived.Test.YteabeflcffflnaaZa
namespace Go.Proofs.Yteabeflcffflnaa
open Go.RowKit Go.BigFrame

theorem wide_cases (o : Int) : (decide (o < -840) = true ∧ decide (840 < o) = false ∧ wideI o) ∨ (decide (o < -840) = false ∧ decide (840 < o) = true ∧ wideI o) ∨ (decide (o < -840) = false ∧ decide (840 < o) = false ∧ ¬ wideI o) := by
  unfold wideI
  by_cases h : o < -840
  · exact .inl ⟨decide_eq_true h, decide_eq_false (by omega), .inl h⟩
  · by_cases h2 : 840 < o
    · exact .inr (.inl ⟨decide_eq_false h, decide_eq_true h2, .inr h2⟩)
    · exact .inr (.inr ⟨decide_eq_false h, decide_eq_false h2, by omega⟩)
theorem bad_start {o : Int} {l : Ch} : wideI o ↔ wideI o ∨ ∃ j, j < 0 ∧ badC l j :=
  ⟨.inl, fun h => h.elim id (fun ⟨j, hj, _⟩ => absurd hj (Nat.not_lt_zero j))⟩
theorem bad_yes {o : Int} {l : Ch} {k : Nat} (h : badC l k) : (true = true ↔ wideI o ∨ ∃ j, j < k + 1 ∧ badC l j) := ⟨fun _ => .inr ⟨k, by omega, h⟩, fun _ => rfl⟩
theorem bad_no {o : Int} {l : Ch} {k : Nat} {bb : Bool} (h : ¬ badC l k) (hb : bb = true ↔ wideI o ∨ ∃ j, j < k ∧ badC l j) : (bb = true ↔ wideI o ∨ ∃ j, j < k + 1 ∧ badC l j) := by
  rw [hb]
  constructor
  · rintro (c | ⟨j, hj, c⟩)
    · exact .inl c
    · exact .inr ⟨j, by omega, c⟩
  · rintro (c | ⟨j, hj, c⟩)
    · exact .inl c
    · rcases Nat.lt_or_ge j k with d | d
      · exact .inr ⟨j, d, c⟩
      · obtain rfl : j = k := by omega
        exact absurd c h

set_option maxHeartbeats 2000000 in
theorem check23 (o : Int) (A : Option Addr) (l : Ch) (cap : Nat) (w : World) (hl : l.length ≤ 70) (hc : Chg w A l) :
    Calls Try.prog 23 #[.agg #[.int .i64 o, .slice A l.length cap]] w fun e w' => e = .returned (.int .i64 (chk o l)) ∧ Below w.heap.size w w' := by
  obtain ⟨W, hW, hB, hz, hk⟩ := boxed w #[.int .i64 o, .slice A l.length cap] 34
  have hc' := hc.later hB
  have k0 := hk.at 0 (v := .int .i64 o) rfl
  have k1 := hk.at 1 (v := .slice A l.length cap) rfl
  generalize hn : l.length = n at *
  have HN := Lib.hid hn
  clear hn
  rcases wide_cases o with ⟨hd, hd2, hw⟩ | ⟨hd, hd2, hw⟩ | ⟨hd, hd2, hw⟩
  all_goals
    have HW := Lib.hid hw
    clear hw
    go_enter Try.func23, Try.ntmps23
    go_wp2
    clear hW
    go_loopw [3, 4] (fun t s wr => ∃ (k : Nat) (bb : Bool), k ≤ n ∧ s = .int .i64 k ∧ t = .bool bb ∧ (bb = true ↔ wideI o ∨ ∃ j, j < k ∧ badC l j) ∧ Below W.heap.size W wr) (fun _ s _ => n - (intOf s).toNat)
    case atStart =>
      refine ⟨0, _, Nat.zero_le _, rfl, rfl, ?_, Below.refl _ _⟩
      rw [← bad_start]
      first | exact ⟨fun _ => HW.out, fun _ => rfl⟩ | exact ⟨fun h => (nomatch h), fun h => absurd h HW.out⟩
    case round =>
      obtain ⟨k, bb, hkn, rfl, rfl, hbb, hbr⟩ := hrel
      have HG := Lib.hid hbb
      clear hbb
      have r1 := keep hbr k1
      have hBr : Below w.heap.size w wr := hB.trans (hbr.mono (by omega))
      have hcr := hc'.later hbr
      by_cases hlt : k < n
      · obtain ⟨b, off, rfl, hb, hcell⟩ := hcr.get (k := k) (by rw [HN.out]; exact hlt)
        rw [HN.out] at hcell
        obtain ⟨q0, q1⟩ := hcell k hlt
        clear hcell
        obtain ⟨V, hV, hBV, hzV, hkV⟩ := boxed wr #[.int .i64 (ct l k), .int .i64 (co l k)] 46
        have p0 := hkV.at 0 (v := .int .i64 (ct l k)) rfl
        have p1 := hkV.at 1 (v := .int .i64 (co l k)) rfl
        have hB1 : Below W.heap.size W V := hbr.trans (hBV.mono hbr.size)
        clear hkV hk hc hc' k0 k1 hbr hBV hcr hBr
        go_wp2
        all_goals go_roundw
        all_goals first
          | (case rel => go_light; first
              | exact ⟨k + 1, true, by omega, by go_num, rfl, bad_yes (by unfold badC wideI; omega), hB1⟩
              | exact ⟨k + 1, bb, by omega, by go_num, rfl, bad_no (by unfold badC wideI; omega) HG.out, hB1⟩)
          | (case measure => simp [intOf]; omega)
      · obtain rfl : k = n := by omega
        clear hk hc hc' k0 k1 hbr hB HW hd hd2
        cases bb
        · have HNB : Hid (¬ (wideI o ∨ ∃ j, j < l.length ∧ badC l j)) := Lib.hid (by rw [HN.out, ← HG.out]; simp)
          clear HG
          by_cases h64 : 64 < k
          · have HC := Lib.hid (chk_3 HNB.out (by rw [HN.out]; exact h64))
            go_wp2
            go_ret
            exact ⟨ret_int HC.out.symm, hBr⟩
          · have H64 : Hid (¬ 64 < l.length) := Lib.hid (by rw [HN.out]; exact h64)
            go_wp2
            generalize k = n at *
            obtain ⟨wo, rfl⟩ : ∃ wo : World, wo = wr := ⟨_, rfl⟩
            go_loopw [6] (fun s ws => ∃ k : Nat, 1 ≤ k ∧ (k ≤ n ∨ k = 1) ∧ s = .int .i64 k ∧ (∀ j, 1 ≤ j → j < k → ct l (j - 1) < ct l j) ∧ Below wo.heap.size wo ws) (fun s _ => n - (intOf s).toNat)
            case atStart => exact ⟨1, by omega, by omega, rfl, fun j hj hj2 => by omega, Below.refl _ _⟩
            case round =>
              obtain ⟨k, hk1, hkn, rfl, hord, hbs⟩ := hrel
              have HO := Lib.hid hord
              have r1s := keep hbs r1
              have hBs : Below w.heap.size w wr := hBr.trans (hbs.mono hBr.size)
              clear hord
              by_cases hlt : k < n
              · obtain ⟨b, off, rfl, hb, hcell⟩ := (hcr.later hbs).get (k := k) (by rw [HN.out]; exact hlt)
                rw [HN.out] at hcell
                have q0 := (hcell k hlt).1
                have p0 := (hcell (k - 1) (by omega)).1
                have D1 := After.cell r1s
                have D2 := After.cell q0
                have D3 := After.cell p0
                have hkk : 1 ≤ (k : Int) := by omega
                clear hcell hcr r1
                go_wp2_with fail
                refine wp_region_after (by kernel_rfl) (by kernel_rfl) ?_
                repeat (go_big_quiet_step (fail))
                refine wpQuiet_nil ?_
                intro w1 hb1
                have hB1 : Below wo.heap.size wo w1 := hbs.trans (hb1.mono hbs.size)
                have hB2 : Below w.heap.size w w1 := hBs.trans (hb1.mono hBs.size)
                clear D1 D2 D3 q0 p0 hb1
                by_cases hle : ct l k ≤ ct l (k - 1)
                · have HC := Lib.hid (chk_14 HNB.out H64.out ⟨k, hk1, by rw [HN.out]; exact hlt, hle⟩)
                  go_wp2
                  go_ret
                  exact ⟨ret_int HC.out.symm, hB2⟩
                · have HL := Lib.hid hle
                  go_wp2
                  go_roundw
                  case rel =>
                    refine ⟨k + 1, by omega, by omega, by go_num, ?_, hB1⟩
                    intro j hj hj2
                    rcases Nat.lt_or_ge j k with c | c
                    · exact HO.out j hj c
                    · obtain rfl : j = k := by omega
                      have := HL.out; omega
                  case measure => simp [intOf]; omega
              · have HC := Lib.hid (chk_0 HNB.out H64.out (by
                  rintro ⟨j, hj, hj2, hj3⟩
                  rw [HN.out] at hj2
                  have := HO.out j hj (by omega)
                  omega))
                go_wp2
                go_ret
                exact ⟨ret_int HC.out.symm, hBs⟩
        · have HC := Lib.hid (chk_2 (o := o) (l := l) (by rw [HN.out]; exact HG.out.1 rfl))
          clear HG
          go_wp2
          go_ret
          exact ⟨ret_int HC.out.symm, hBr⟩
end Go.Proofs.Yteabeflcffflnaa
