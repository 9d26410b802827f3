/- The walks of the reference's Offset and of both Locals. -/
import Derived.Test.YteabeflcffflnaaZc
namespace Go.Proofs.Yteabeflcffflnaa
open Go.RowKit Go.BigFrame

set_option maxHeartbeats 1000000 in
theorem offset25 (o : Int) (A : Option Addr) (l : Ch) (cap n : Nat) (m : Int) (w : World) (hl : l.length ≤ 70) (hc : Chg w A l) (hn : l.length = n) :
    Calls Try.prog 25 #[.agg #[.int .i64 o, .slice A n cap], .int .i64 m] w fun e w' => e = .returned (.int .i64 (offs o l m)) ∧ Below w.heap.size w w' := by
  obtain ⟨W, hW, hB, hz, hk⟩ := boxed w #[.int .i64 o, .slice A n cap] 34
  have hc' := hc.later hB
  have k0 := hk.at 0 (v := .int .i64 o) rfl
  have k1 := hk.at 1 (v := .slice A n cap) rfl
  have hn70 : n ≤ 70 := by omega
  have HN := Lib.hid hn
  by_cases h0 : chk o l = 0
  · have HF := Lib.hid (offs_ok (m := m) h0)
    have ck : ∀ w, Chg w A l → Calls Try.prog 23 #[.agg #[.int .i64 o, .slice A n cap]] w fun e w' => e = .returned (.int .i64 0) ∧ Below w.heap.size w w' := fun w hc => check23_ok o A l cap n w hl hc h0 hn
    have CK := Lib.hid ck
    have hmb := clampM_bd m
    clear h0 hn hl ck
    go_enter Try.func25, Try.ntmps25
    go_wp2_with fail
    refine (CK.out _ hc').mono ?_
    rintro e w1 ⟨rfl, hb1⟩
    clear CK hW
    have hB1 : Below w.heap.size w w1 := hB.trans (hb1.mono (by omega))
    have r0 := keep hb1 k0
    have r1 := keep hb1 k1
    have hc1 := hc'.later hb1
    clear hk k0 k1 hb1 hc hc' hB hz
    have MV : ∀ w, Calls Try.prog 37 #[.int .i64 m] w fun e w' => e = .returned (.int .i64 (clampM m)) ∧ w = w' := fun w => valid37 m w
    generalize clampM m = t at *
    have HM := Lib.hid MV
    clear MV
    go_wp2
    go_loopw [5, 6] (fun s i wr => ∃ k : Nat, k ≤ n ∧ i = .int .i64 k ∧ s = .int .i64 (fo o l t k) ∧ Below w1.heap.size w1 wr) (fun _ i _ => n - (intOf i).toNat)
    case atStart => exact ⟨0, by omega, rfl, rfl, Below.refl _ _⟩
    case round =>
      obtain ⟨k, hkn, rfl, rfl, hbr⟩ := hrel
      have hBr : Below w.heap.size w wr := hB1.trans (hbr.mono hB1.size)
      have s1 := keep hbr r1
      by_cases hlt : k < n
      · obtain ⟨b, off, rfl, hb, hcell⟩ := (hc1.later hbr).get (k := k) (by rw [HN.out]; exact hlt)
        rw [HN.out] at hcell
        obtain ⟨q0, q1⟩ := hcell k hlt
        have D1 := After.cell s1
        have D2 := After.cell q0
        have M : ∀ p : After wr, Calls Try.prog 37 #[.int .i64 m] p.w fun e w'' => e = .returned (.int .i64 t) ∧ ∃ q : After wr, w'' = q.w := fun p => p.same (HM.out p.w)
        clear hcell
        go_wp2_with fail
        refine wp_region_after (by kernel_rfl) (by kernel_rfl) ?_
        repeat (go_big_quiet_step (exact M _))
        refine wpQuiet_nil ?_
        intro w2 hb2
        have u1 := keep hb2 s1
        have v1 := keep hb2 q1
        have hB2 : Below w1.heap.size w1 w2 := hbr.trans (hb2.mono hbr.size)
        clear D1 D2 M q0 q1 s1 hb2 hbr hBr HM
        by_cases hle : ct l k ≤ t
        · have HS := Lib.hid (show fo o l t (k + 1) = co l k by rw [fo_succ (by rw [HN.out]; exact hlt), if_pos hle])
          go_wp2
          go_roundw
          case rel => exact ⟨k + 1, by omega, by go_num, by rw [HS.out], hB2⟩
          case measure => simp [intOf]; omega
        · have HS := Lib.hid (show fo o l t (k + 1) = fo o l t k by rw [fo_succ (by rw [HN.out]; exact hlt), if_neg hle])
          go_wp2
          go_roundw
          case rel => exact ⟨k + 1, by omega, by go_num, by rw [HS.out], hB2⟩
          case measure => simp [intOf]; omega
      · obtain rfl : k = n := by omega
        go_wp2
        go_ret
        exact ⟨ret_int (by rw [HF.out, HN.out]), hBr⟩
  · have HF := Lib.hid (offs_bad (m := m) h0)
    have hne : (chk o l != 0) = true := by rw [bne_iff_ne]; exact h0
    have ck : ∀ w, Chg w A l → Calls Try.prog 23 #[.agg #[.int .i64 o, .slice A n cap]] w fun e w' => e = .returned (.int .i64 (chk o l)) ∧ Below w.heap.size w w' := fun w hc => check23_n o A l cap n w hl hc hn
    have CK := Lib.hid ck
    clear ck hn h0
    go_enter Try.func25, Try.ntmps25
    go_wp2_with fail
    refine (CK.out _ hc').mono ?_
    rintro e w1 ⟨rfl, hb1⟩
    clear CK
    have hB1 : Below w.heap.size w w1 := hB.trans (hb1.mono (by omega))
    go_wp2
    go_ret
    exact ⟨ret_int HF.out.symm, hB1⟩

theorem offs_clamp (o : Int) (l : Ch) (m : Int) : offs o l (clampM m) = offs o l m := by
  unfold offs
  have := clampM_bd m
  rw [clampM_id this.1 this.2]

set_option maxHeartbeats 1000000 in
theorem local26 (o : Int) (A : Option Addr) (l : Ch) (cap n : Nat) (m : Int) (w : World) (hl : l.length ≤ 70) (hc : Chg w A l) (hn : l.length = n) :
    Calls Try.prog 26 #[.agg #[.int .i64 o, .slice A n cap], .int .i64 m] w fun e w' => e = .returned (.int .i64 (loc o l m)) ∧ Below w.heap.size w w' := by
  obtain ⟨W, hW, hB, hz, hk⟩ := boxed w #[.int .i64 o, .slice A n cap] 34
  have hc' := hc.later hB
  have k0 := hk.at 0 (v := .int .i64 o) rfl
  have k1 := hk.at 1 (v := .slice A n cap) rfl
  have of : ∀ w, Chg w A l → Calls Try.prog 24 #[.agg #[.int .i64 o, .slice A n cap], .int .i64 (clampM m)] w fun e w' => e = .returned (.int .i64 (offs o l m)) ∧ Below w.heap.size w w' := fun w hc => by
    have := offset24 o A l cap n (clampM m) w hl hc hn; rwa [offs_clamp] at this
  have OF := Lib.hid of
  have hmb := clampM_bd m
  have hob := offs_bd o l m
  clear of hn hl
  go_enter Try.func26, Try.ntmps26
  go_wp2_with (go_at_call 36; refine (valid36 _ _).mono ?_; rintro e w' ⟨rfl, rfl⟩)
  refine (OF.out _ hc').mono ?_
  rintro e w1 ⟨rfl, hb1⟩
  have hB1 : Below w.heap.size w w1 := hB.trans (hb1.mono (by omega))
  clear OF hW hb1 hB
  go_wp2_with (go_at_call 36; refine (valid36 _ _).mono ?_; rintro e w' ⟨rfl, rfl⟩)
  go_ret
  exact ⟨rfl, hB1⟩

set_option maxHeartbeats 1000000 in
theorem local27 (o : Int) (A : Option Addr) (l : Ch) (cap n : Nat) (m : Int) (w : World) (hl : l.length ≤ 70) (hc : Chg w A l) (hn : l.length = n) :
    Calls Try.prog 27 #[.agg #[.int .i64 o, .slice A n cap], .int .i64 m] w fun e w' => e = .returned (.int .i64 (loc o l m)) ∧ Below w.heap.size w w' := by
  obtain ⟨W, hW, hB, hz, hk⟩ := boxed w #[.int .i64 o, .slice A n cap] 34
  have hc' := hc.later hB
  have C0 := After.cell (hk.at 0 (v := .int .i64 o) rfl)
  have C1 := After.cell (hk.at 1 (v := .slice A n cap) rfl)
  have hmb := clampM_bd m
  have hob := offs_bd o l m
  have OF : ∀ p : After W, Calls Try.prog 25 #[.agg #[.int .i64 o, .slice A n cap], .int .i64 m] p.w fun e w'' => e = .returned (.int .i64 (offs o l m)) ∧ ∃ q : After W, w'' = q.w := fun p => p.of (offset25 o A l cap n m p.w hl (hc'.later p.hb) hn)
  have V1 : ∀ p : After W, Calls Try.prog 37 #[.int .i64 m] p.w fun e w'' => e = .returned (.int .i64 (clampM m)) ∧ ∃ q : After W, w'' = q.w := fun p => p.same (valid37 m p.w)
  have V2 : ∀ p : After W, Calls Try.prog 37 #[.int .i64 (clampM m + offs o l m)] p.w fun e w'' => e = .returned (.int .i64 (loc o l m)) ∧ ∃ q : After W, w'' = q.w := fun p => p.same (valid37 _ p.w)
  clear hn
  go_enter Try.func27, Try.ntmps27
  go_wp2
  refine wp_region_after_tail 7 (by kernel_rfl) (by kernel_rfl) ?_
  simp only [List.take_succ_cons, List.take_zero, List.drop_succ_cons, List.drop_zero]
  repeat (go_big_quiet_step (first | (with_reducible exact OF _) | (with_reducible exact V1 _) | (with_reducible exact V2 _)))
  refine wpQuiet_nil ?_
  intro w1 hb1
  have hB1 : Below w.heap.size w w1 := hB.trans (hb1.mono (by omega))
  clear OF V1 V2 C0 C1 hb1 hB hk hW
  go_wp2
  go_ret
  exact ⟨rfl, hB1⟩
end Go.Proofs.Yteabeflcffflnaa
