/- The law RouteUpdates. -/
import Derived.Test.YtlmoeempblgdkaaWn
namespace Go.Proofs.Ytlmoeempblgdkaa
open Go.RowKit Go.BigFrame
set_option linter.unusedVariables false
set_option linter.unusedSimpArgs false

theorem tb_upd (t : List Rt) (self fr cost : Int) (l : List Rt) : Tb (upd t self fr cost l) := by
  unfold upd
  split
  · exact tb_fold l (tb_tab t self)
  · exact tb_tab t self
theorem same_of {k : List Rt} (hk : k.length ≤ 1000) (w' : World) (A1 A2 : Option Addr) (m1 m2 c1 c2 : Nat) (r1 : Rd w' ER A1 m1 k) (r2 : Rd w' ER A2 m2 k) : Calls Try.prog 11 #[.slice A1 m1 c1, .slice A2 m2 c2] w' (fun e w'' => e = .returned (.bool true) ∧ Below w'.heap.size w' w'') := by
  obtain rfl : m1 = m2 := r1.1.symm.trans r2.1
  exact same11 A1 A2 m1 c1 c2 k w' (by have := r1.1; omega) r1 r2
set_option maxRecDepth 20000 in
set_option maxHeartbeats 8000000 in
theorem lawUpdates3 (A : Option Addr) (n cap : Nat) (t : List Rt) (self fr cost : Int) (B : Option Addr) (m c2 : Nat) (l : List Rt) (w : World) (hr : Rd w ER A n t) (hl : Rd w ER B m l) :
    Calls Try.prog 3 #[.slice A n cap, .int .i64 self, .agg #[.int .i64 fr, .int .i64 cost, .slice B m c2]] w fun e w' => e = .returned (.bool true) ∧ Below w.heap.size w w' := by
  obtain ⟨W, hW, hB, hz, hk⟩ := boxeds w #[.int .i64 fr, .int .i64 cost, .slice B m c2] 24
  have LV := Lib.hid awake10
  have HF := Lib.hid hB
  have hrW := hr.later hB
  have hlW := hl.later hB
  have p2 := hk.at 2 (v := .slice B m c2) rfl
  by_cases hn : 60 < n
  · clear hz hk hr hl hrW hlW
    go_enter Try.func3, Try.ntmps3
    go_wp2_with fail
    refine (LV.out W).mono ?_
    rintro e w2 ⟨rfl, hb2⟩
    have hBF := HF.out.trans (hb2.mono HF.out.size)
    go_wp2
    go_ret
    exact ⟨rfl, hBF⟩
  · by_cases hm : 60 < m
    · clear hz hk hr hl hrW hlW
      go_enter Try.func3, Try.ntmps3
      go_wp2_with fail
      refine (LV.out W).mono ?_
      rintro e w2 ⟨rfl, hb2⟩
      have hBF := HF.out.trans (hb2.mono HF.out.size)
      go_wp2
      go_ret
      exact ⟨rfl, hBF⟩
    · have U1 : Hid (∀ w', Below W.heap.size W w' → Calls Try.prog 12 #[.slice A n cap, .int .i64 self, .int .i64 fr, .int .i64 cost, .slice B m c2] w' (SlEnd w' (upd t self fr cost l))) := Lib.hid (fun w' hx => upd12 A n cap t self fr cost B m c2 l w' (by omega) (hrW.later hx) (by omega) (hlW.later hx))
      have U2 : Hid (∀ w', Below W.heap.size W w' → Calls Try.prog 13 #[.slice A n cap, .int .i64 self, .int .i64 fr, .int .i64 cost, .slice B m c2] w' (SlEnd w' (upd t self fr cost l))) := Lib.hid (fun w' hx => upd13 A n cap t self fr cost B m c2 l w' (by omega) (hrW.later hx) (by omega) (hlW.later hx))
      have S1 := Lib.hid (same_of (k := upd t self fr cost l) (Nat.le_trans (tb_upd t self fr cost l).le (by omega)))
      generalize upd t self fr cost l = x at U1 U2 S1
      have K0 : ∀ w', Below W.heap.size W w' → w'.cell? ⟨w.heap.size, 0, none⟩ = some (.int .i64 fr) := fun w' hb => keep hb (hk.at 0 rfl)
      have K1 : ∀ w', Below W.heap.size W w' → w'.cell? ⟨w.heap.size, 1, none⟩ = some (.int .i64 cost) := fun w' hb => keep hb (hk.at 1 rfl)
      have K2 : ∀ w', Below W.heap.size W w' → w'.cell? ⟨w.heap.size, 2, none⟩ = some (.slice B m c2) := fun w' hb => keep hb (hk.at 2 rfl)
      have hU0 := Below.refl W.heap.size W
      clear hz hk hr hl hrW hlW hB
      go_enter Try.func3, Try.ntmps3
      go_wp2
      clear p2
      go_region_held3 (fun w' => Below W.heap.size W w') (with_reducible (repeat (first | assumption | refine Below.drew ?_ | refine Below.trans ?_ (Below.mono hbA ?_) | refine Below.trans ?_ (Below.mono hbB ?_) | refine Below.trans ?_ (Below.mono hbS ?_) | refine Below.trans ?_ (Below.mono hbL ?_) | refine @Below.size W.heap.size W _ ?_)))
        (first
          | (go_at_call 12; refine (U1.out _ (by assumption)).mono ?_; rintro e wA ⟨A1, m1, c1, rfl, oA, hbA⟩; have rA := oA.rd)
          | (go_at_call 13; refine (U2.out _ (by assumption)).mono ?_; rintro e wB ⟨A2, m2, c2, rfl, oB, hbB⟩; have rB := oB.rd)
          | (go_at_call 11; refine (S1.out _ A1 A2 m1 m2 c1 _ (rA.later (by assumption)) rB).mono ?_; rintro e wS ⟨rfl, hbS⟩)
          | (go_at_call 10; refine (LV.out _).mono ?_; rintro e wL ⟨rfl, hbL⟩))
      have bhbA : Below W.heap.size W _ := Below.trans (Below.drew (Below.refl _ _)) hbA
      have bhbB := bhbA.trans (hbB.mono bhbA.size)
      have bhbS := bhbB.trans (hbS.mono bhbB.size)
      have bhbL := bhbS.trans (hbL.mono bhbS.size)
      have hfin := HF.out.trans (bhbL.mono HF.out.size)
      clear bhbA bhbB bhbS bhbL hbA hbB hbS hbL rA rB oA oB
      go_wp2
      go_ret
      exact ⟨rfl, hfin⟩
end Go.Proofs.Ytlmoeempblgdkaa
