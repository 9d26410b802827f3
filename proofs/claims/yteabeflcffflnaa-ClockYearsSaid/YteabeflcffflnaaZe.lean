/- The walks of first and both Utcs. -/
import Derived.Test.YteabeflcffflnaaZd
namespace Go.Proofs.Yteabeflcffflnaa
open Go.RowKit Go.BigFrame

def fstB (f t off L : Int) : Bool := decide (f ≤ fstM f off L ∧ fstM f off L < t)
theorem ret_fst {f t off L a : Int} {p : Bool} (h : fstM f off L = a) (h2 : p = decide (f ≤ a ∧ a < t)) :
    Ending.returned (.tuple #[.int .i64 a, .bool p]) = .returned (.tuple #[.int .i64 (fstM f off L), .bool (fstB f t off L)]) := by
  subst h2; unfold fstB; rw [h]
set_option maxHeartbeats 1000000 in
theorem first39 (f t off L : Int) (w : World) (hf : 0 ≤ f ∧ f ≤ 1073741824) (ho : -840 ≤ off ∧ off ≤ 840) (hL : 0 ≤ L ∧ L ≤ 1073741824) :
    Calls Try.prog 39 #[.int .i64 f, .int .i64 t, .int .i64 off, .int .i64 L] w fun e w' => e = .returned (.tuple #[.int .i64 (fstM f off L), .bool (fstB f t off L)]) ∧ w = w' := by
  go_enter Try.func39, Try.ntmps39
  go_wp2
  all_goals go_ret2
  all_goals go_light
  all_goals refine ⟨ret_fst ?_ ?_, rfl⟩
  all_goals try simp only [beq_iff_eq, beq_eq_false_iff_ne] at *
  all_goals first
    | (rw [decide_eq_decide]; omega) | exact (decide_eq_false (by omega)).symm | exact (decide_eq_true (by omega)).symm
    | (unfold fstM; (repeat' split) <;> omega)
theorem first_t (f t off L a : Int) (w : World) (hf : 0 ≤ f ∧ f ≤ 1073741824) (ho : -840 ≤ off ∧ off ≤ 840) (hL : 0 ≤ L ∧ L ≤ 1073741824) (ha : fstM f off L = a) (hb : f ≤ a ∧ a < t) :
    Calls Try.prog 39 #[.int .i64 f, .int .i64 t, .int .i64 off, .int .i64 L] w fun e w' => e = .returned (.tuple #[.int .i64 a, .bool true]) ∧ w = w' := by
  have := first39 f t off L w hf ho hL
  have e : fstB f t off L = true := by unfold fstB; rw [ha]; exact decide_eq_true hb
  rwa [e, ha] at this
theorem first_f (f t off L a : Int) (w : World) (hf : 0 ≤ f ∧ f ≤ 1073741824) (ho : -840 ≤ off ∧ off ≤ 840) (hL : 0 ≤ L ∧ L ≤ 1073741824) (ha : fstM f off L = a) (hb : ¬ (f ≤ a ∧ a < t)) :
    Calls Try.prog 39 #[.int .i64 f, .int .i64 t, .int .i64 off, .int .i64 L] w fun e w' => e = .returned (.tuple #[.int .i64 a, .bool false]) ∧ w = w' := by
  have := first39 f t off L w hf ho hL
  have e : fstB f t off L = false := by unfold fstB; rw [ha]; exact decide_eq_false hb
  rwa [e, ha] at this

/-- what Utc ends in -/
def UtcEnd (o : Int) (l : Ch) (L : Int) (w : World) (e : Ending) (w' : World) : Prop :=
  ∃ (a : Int) (ok : Bool), e = .returned (.tuple #[.int .i64 a, .bool ok]) ∧ IsUtc (loc o l) L a ok ∧ Below w.heap.size w w'
/-- out of range: no minute has it -/
theorem out_no {o : Int} {l : Ch} {L : Int} (h : ¬ (0 ≤ L ∧ L ≤ 1073741824)) : IsUtc (loc o l) L 0 false := by
  refine .inr ⟨rfl, rfl, fun k _ _ hc => ?_⟩
  have := clampM_bd (clampM k + offs o l k)
  unfold loc at hc; omega

set_option maxHeartbeats 1000000 in
theorem utc29 (o : Int) (A : Option Addr) (l : Ch) (cap n : Nat) (L : Int) (w : World) (hl : l.length ≤ 70) (hc : Chg w A l) (hn : l.length = n) :
    Calls Try.prog 29 #[.agg #[.int .i64 o, .slice A n cap], .int .i64 L] w (UtcEnd o l L w) := by
  obtain ⟨W, hW, hB, hz, hk⟩ := boxed w #[.int .i64 o, .slice A n cap] 34
  have hc' := hc.later hB
  have k0 := hk.at 0 (v := .int .i64 o) rfl
  have k1 := hk.at 1 (v := .slice A n cap) rfl
  have LO : Hid (∀ m w, Chg w A l → Calls Try.prog 27 #[.agg #[.int .i64 o, .slice A n cap], .int .i64 m] w fun e w' => e = .returned (.int .i64 (loc o l m)) ∧ Below w.heap.size w w') := Lib.hid (fun m w hc => local27 o A l cap n m w hl hc hn)
  by_cases hin : 0 ≤ L ∧ L ≤ 1073741824
  · obtain ⟨hL0, hL1⟩ := hin
    have hb1 := clampM_bd (L - 840)
    have hb2 := clampM_bd (L + 840)
    have HLO := Lib.hid (show clampM (L - 840) ≤ L ∧ ∀ m, 0 ≤ m → L - 840 ≤ m → clampM (L - 840) ≤ m by
      unfold clampM; refine ⟨?_, fun m => ?_⟩ <;> (repeat' split) <;> omega)
    have HHI := Lib.hid (show ∀ m, m ≤ 1073741824 → m ≤ L + 840 → m ≤ clampM (L + 840) by
      unfold clampM; intro m; (repeat' split) <;> omega)
    clear hn hl
    go_enter Try.func29, Try.ntmps29
    go_wp2_with (go_at_call 37; refine (valid37 _ _).mono ?_; rintro e w' ⟨rfl, rfl⟩)
    clear hW
    generalize clampM (L - 840) = lo at *
    have V : Hid (∀ w, Calls Try.prog 37 #[.int .i64 (L + 840)] w fun e w' => e = .returned (.int .i64 (clampM (L + 840))) ∧ w = w') := Lib.hid (fun w => valid37 _ w)
    generalize clampM (L + 840) = hi at *
    go_loopw [6] (fun s wr => ∃ m : Int, lo ≤ m ∧ m ≤ 1073741825 ∧ s = .int .i64 m ∧ (∀ k, lo ≤ k → k < m → loc o l k ≠ L) ∧ Below W.heap.size W wr) (fun s _ => (1073741826 - intOf s).toNat)
    case atStart => exact ⟨lo, by omega, by omega, rfl, fun k h1 h2 => by omega, Below.refl _ _⟩
    case round =>
      obtain ⟨m, hm0, hm1, rfl, hno, hbr⟩ := hrel
      have HNO := Lib.hid hno
      have hBr : Below w.heap.size w wr := hB.trans (hbr.mono (by omega))
      have r0 := keep hbr k0
      have r1 := keep hbr k1
      have hcr := hc'.later hbr
      clear hno
      by_cases hle : m ≤ hi
      · go_wp2_with fail
        refine (V.out _).mono ?_
        rintro e w' ⟨rfl, rfl⟩
        go_wp2_with fail
        refine (LO.out _ _ hcr).mono ?_
        rintro e w1 ⟨rfl, hb1⟩
        have hB1 : Below w.heap.size w w1 := hBr.trans (hb1.mono hBr.size)
        have hB2 : Below W.heap.size W w1 := hbr.trans (hb1.mono hbr.size)
        clear hb1 hbr hBr r0 r1
        by_cases he : loc o l m = L
        · have heb : (loc o l m == L) = true := by simp [he]
          have HE := Lib.hid he
          clear he
          go_wp2
          go_ret2
          exact ⟨m, true, rfl, .inl ⟨rfl, by omega, by omega, HE.out, fun k h0 h1 hk => HNO.out k (HLO.out.2 k h0 (loc_near h0 (by omega) hk).1) h1 hk⟩, hB1⟩
        · have heb : (loc o l m == L) = false := by simp [he]
          have HE := Lib.hid he
          clear he
          go_wp2
          go_roundw
          case rel =>
            refine ⟨m + 1, by omega, by omega, by go_num, ?_, hB2⟩
            intro k h0 h1
            rcases Int.lt_or_le k m with c | c
            · exact HNO.out k h0 c
            · obtain rfl : k = m := by omega
              exact HE.out
          case measure => simp [intOf]; omega
      · go_wp2_with fail
        refine (V.out _).mono ?_
        rintro e w' ⟨rfl, rfl⟩
        go_wp2
        go_ret2
        refine ⟨0, false, rfl, .inr ⟨rfl, rfl, fun k h0 h1 hk => ?_⟩, hBr⟩
        have hn := loc_near h0 h1 hk
        exact HNO.out k (HLO.out.2 k h0 hn.1) (by have := HHI.out k h1 hn.2; omega) hk
  · have HO := Lib.hid (out_no (o := o) (l := l) hin)
    clear hn hl
    by_cases h0 : L < 0
    · go_enter Try.func29, Try.ntmps29
      go_wp2
      go_ret2
      exact ⟨0, false, rfl, HO.out, hB⟩
    · have h1 : 1073741824 < L := by omega
      go_enter Try.func29, Try.ntmps29
      go_wp2
      go_ret2
      exact ⟨0, false, rfl, HO.out, hB⟩
end Go.Proofs.Yteabeflcffflnaa
