/- The walks of Offset and Local. -/
import Derived.Test.YteabeflcffflnaaZb
namespace Go.Proofs.Yteabeflcffflnaa
open Go.RowKit Go.BigFrame

theorem offs_bad {o : Int} {l : Ch} {m : Int} (h : chk o l ≠ 0) : offs o l m = 0 := by unfold offs; rw [if_neg h]
theorem offs_ok {o : Int} {l : Ch} {m : Int} (h : chk o l = 0) : offs o l m = fo o l (clampM m) l.length := by unfold offs; rw [if_pos h]
theorem check22_ok (o : Int) (A : Option Addr) (l : Ch) (cap n : Nat) (w : World) (hl : l.length ≤ 70) (hc : Chg w A l) (h : chk o l = 0) (hn : l.length = n) :
    Calls Try.prog 22 #[.agg #[.int .i64 o, .slice A n cap]] w fun e w' => e = .returned (.int .i64 0) ∧ Below w.heap.size w w' := by
  subst hn; have := check22 o A l cap w hl hc; rwa [h] at this
theorem check23_ok (o : Int) (A : Option Addr) (l : Ch) (cap n : Nat) (w : World) (hl : l.length ≤ 70) (hc : Chg w A l) (h : chk o l = 0) (hn : l.length = n) :
    Calls Try.prog 23 #[.agg #[.int .i64 o, .slice A n cap]] w fun e w' => e = .returned (.int .i64 0) ∧ Below w.heap.size w w' := by
  subst hn; have := check23 o A l cap w hl hc; rwa [h] at this
theorem check22_n (o : Int) (A : Option Addr) (l : Ch) (cap n : Nat) (w : World) (hl : l.length ≤ 70) (hc : Chg w A l) (hn : l.length = n) :
    Calls Try.prog 22 #[.agg #[.int .i64 o, .slice A n cap]] w fun e w' => e = .returned (.int .i64 (chk o l)) ∧ Below w.heap.size w w' := by
  subst hn; exact check22 o A l cap w hl hc
theorem check23_n (o : Int) (A : Option Addr) (l : Ch) (cap n : Nat) (w : World) (hl : l.length ≤ 70) (hc : Chg w A l) (hn : l.length = n) :
    Calls Try.prog 23 #[.agg #[.int .i64 o, .slice A n cap]] w fun e w' => e = .returned (.int .i64 (chk o l)) ∧ Below w.heap.size w w' := by
  subst hn; exact check23 o A l cap w hl hc

set_option maxHeartbeats 1000000 in
theorem offset24 (o : Int) (A : Option Addr) (l : Ch) (cap n : Nat) (m : Int) (w : World) (hl : l.length ≤ 70) (hc : Chg w A l) (hn : l.length = n) :
    Calls Try.prog 24 #[.agg #[.int .i64 o, .slice A n cap], .int .i64 m] w fun e w' => e = .returned (.int .i64 (offs o l m)) ∧ Below w.heap.size w w' := by
  obtain ⟨W, hW, hB, hz, hk⟩ := boxed w #[.int .i64 o, .slice A n cap] 34
  have hc' := hc.later hB
  have k0 := hk.at 0 (v := .int .i64 o) rfl
  have k1 := hk.at 1 (v := .slice A n cap) rfl
  have hn70 : n ≤ 70 := by omega
  have HN := Lib.hid hn
  by_cases h0 : chk o l = 0
  · have hok := chk_ok h0
    have HOK := Lib.hid hok
    have HF := Lib.hid (offs_ok (m := m) h0)
    have ck : ∀ w, Chg w A l → Calls Try.prog 22 #[.agg #[.int .i64 o, .slice A n cap]] w fun e w' => e = .returned (.int .i64 0) ∧ Below w.heap.size w w' := fun w hc => check22_ok o A l cap n w hl hc h0 hn
    have CK := Lib.hid ck
    have hmb := clampM_bd m
    clear h0 hn hl hok ck
    go_enter Try.func24, Try.ntmps24
    go_wp2_with fail
    refine (CK.out _ hc').mono ?_
    rintro e w1 ⟨rfl, hb1⟩
    clear CK hW
    have hB1 : Below w.heap.size w w1 := hB.trans (hb1.mono (by omega))
    have r0 := keep hb1 k0
    have r1 := keep hb1 k1
    have hc1 := hc'.later hb1
    have hz1 : w.heap.size < w1.heap.size := by have := hb1.size; omega
    clear hk k0 k1 hb1 hc hc' hB hz
    go_wp2_with (go_at_call 36; refine (valid36 _ _).mono ?_; rintro e w' ⟨rfl, rfl⟩)
    generalize clampM m = t at *
    go_loopw [5, 18] (fun s i wr => ∃ k : Nat, k ≤ n ∧ i = .int .i64 k ∧ s = .int .i64 (fo o l t k) ∧ Below w1.heap.size w1 wr) (fun _ i _ => n - (intOf i).toNat)
    case atStart => exact ⟨0, by omega, rfl, rfl, Below.refl _ _⟩
    case round =>
      obtain ⟨k, hkn, rfl, rfl, hbr⟩ := hrel
      have hBr : Below w.heap.size w wr := hB1.trans (hbr.mono hB1.size)
      by_cases hlt : k < n
      · obtain ⟨b, off, rfl, hb, hcell⟩ := (hc1.later hbr).get (k := k) (by rw [HN.out]; exact hlt)
        rw [HN.out] at hcell
        obtain ⟨q0, q1⟩ := hcell k hlt
        clear hcell
        obtain ⟨V, hV, hBV, hzV, hkV⟩ := boxed wr #[.int .i64 (ct l k), .int .i64 (co l k)] 46
        have p0 := hkV.at 0 (v := .int .i64 (ct l k)) rfl
        have p1 := hkV.at 1 (v := .int .i64 (co l k)) rfl
        have hBV1 : Below w1.heap.size w1 V := hbr.trans (hBV.mono hbr.size)
        have hBV2 : Below w.heap.size w V := hBr.trans (hBV.mono hBr.size)
        clear hkV hbr hBV hc1
        by_cases hgt : t < ct l k
        · have HP := Lib.hid (fo_past HOK.out (by rw [HN.out]; exact hlt) hgt l.length (by rw [HN.out]; omega) (Nat.le_refl _))
          go_wp2
          go_ret
          exact ⟨ret_int (by rw [HF.out, HP.out]), hBV2⟩
        · have HS := Lib.hid (show fo o l t (k + 1) = co l k by rw [fo_succ (by rw [HN.out]; exact hlt), if_pos (by omega)])
          go_wp2
          go_roundw
          case rel => exact ⟨k + 1, by omega, by go_num, by rw [HS.out], hBV1⟩
          case measure => simp [intOf]; omega
      · obtain rfl : k = n := by omega
        go_wp2
        go_ret
        exact ⟨ret_int (by rw [HF.out, HN.out]), hBr⟩
  · have HF := Lib.hid (offs_bad (m := m) h0)
    have hne : (chk o l != 0) = true := by rw [bne_iff_ne]; exact h0
    have ck : ∀ w, Chg w A l → Calls Try.prog 22 #[.agg #[.int .i64 o, .slice A n cap]] w fun e w' => e = .returned (.int .i64 (chk o l)) ∧ Below w.heap.size w w' := fun w hc => check22_n o A l cap n w hl hc hn
    have CK := Lib.hid ck
    clear ck hn h0
    go_enter Try.func24, Try.ntmps24
    go_wp2_with fail
    refine (CK.out _ hc').mono ?_
    rintro e w1 ⟨rfl, hb1⟩
    clear CK
    have hB1 : Below w.heap.size w w1 := hB.trans (hb1.mono (by omega))
    go_wp2
    go_ret
    exact ⟨ret_int HF.out.symm, hB1⟩
end Go.Proofs.Yteabeflcffflnaa
