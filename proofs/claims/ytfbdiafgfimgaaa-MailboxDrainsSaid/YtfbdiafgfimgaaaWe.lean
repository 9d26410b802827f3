/- IndexFunc with Put's closure: where the first mail that is not urgent stands. -/
import Derived.Test.YtfbdiafgfimgaaaWd
import Derived.Test.YtfbdiafgfimgaaaInz
import Derived.Test.YtfbdiafgfimgaaaDel
namespace Go.Proofs.Ytfbdiafgfimgaaa
open Go.RowKit Go.BigFrame
set_option linter.unusedVariables false

theorem closure26 (a : Mail) (w : World) : Calls Try.prog 26 #[maV a] w fun e w' => e = .returned (.bool (!a.f.urgent)) ∧ Below w.heap.size w w' := by
  obtain ⟨W, hW, hB, hz, hk⟩ := boxed w #[.int .i64 a.f.kind, .int .i64 a.f.src, .int .i64 a.f.to, .int .i64 a.f.source, .int .i64 a.f.target, .int .i64 a.f.seq, .int .i64 a.f.hops, .bool a.f.urgent, .string a.f.data, .int .i64 a.since] 33
  have p7 := hk.at 7 (v := .bool a.f.urgent) rfl
  go_enter Try.func26, Try.ntmps26
  go_wp2
  go_ret
  exact ⟨by simp, hB⟩

theorem closure26' (a : Mail) {u : Bool} (hu : a.f.urgent = u) (w : World) : Calls Try.prog 26 #[.agg #[.int .i64 a.f.kind, .int .i64 a.f.src, .int .i64 a.f.to, .int .i64 a.f.source, .int .i64 a.f.target, .int .i64 a.f.seq, .int .i64 a.f.hops, .bool u, .string a.f.data, .int .i64 a.since]] w fun e w' => e = .returned (.bool (!u)) ∧ Below w.heap.size w w' := by
  subst hu
  exact closure26 a w

/-- the place of the first that is not urgent; the length if there is none -/
def frst (l : List Mail) : Nat := l.findIdx (fun a => !a.f.urgent)
def idxI (l : List Mail) (n : Nat) : Int := if frst l = n then -1 else frst l
theorem frst_le (l : List Mail) : frst l ≤ l.length := List.findIdx_le_length
theorem frst_at {l : List Mail} {j : Nat} {a : Mail} (h : ∀ (i : Nat) (b : Mail), i < j → l[i]? = some b → b.f.urgent = true) (hj : l[j]? = some a) (ha : a.f.urgent = false) : frst l = j := by
  have hlt : j < l.length := (List.getElem?_eq_some_iff.1 hj).1
  have he : l[j] = a := (List.getElem?_eq_some_iff.1 hj).2
  refine (List.findIdx_eq hlt).2 ⟨by rw [he, ha]; rfl, fun i hi => ?_⟩
  rw [h i l[i] hi (List.getElem?_eq_getElem _)]; rfl
theorem frst_none {l : List Mail} (h : ∀ (i : Nat) (b : Mail), l[i]? = some b → b.f.urgent = true) : frst l = l.length := by
  refine List.findIdx_eq_length.2 fun a ha => ?_
  obtain ⟨i, hi, rfl⟩ := List.getElem_of_mem ha
  rw [h i _ (List.getElem?_eq_getElem hi)]; rfl

set_option maxHeartbeats 2000000 in
theorem index25 (A : Option Addr) (n cap : Nat) (l : List Mail) (w : World) (hn : n ≤ 1000) (hr : Rd w EM A n l) :
    Calls Try.prog 25 #[.slice A n cap, .func (.func 26) #[] #[]] w fun e w' => e = .returned (.int .i64 (idxI l n)) ∧ Below w.heap.size w w' := by
  have hw0 := Below.refl w.heap.size w
  go_enter Try.func25, Try.ntmps25
  go_wp2
  go_loopw [5, 8] (fun _ i wr => ∃ j : Nat, j ≤ n ∧ i = .int .i64 j ∧ (∀ i b, i < j → l[i]? = some b → b.f.urgent = true) ∧ Below w.heap.size w wr) (fun _ i _ => n - (intOf i).toNat)
  case atStart => exact ⟨0, by omega, rfl, fun i b h => by omega, hw0⟩
  case round =>
    obtain ⟨j, hj, rfl, hno, hbr⟩ := hrel
    have HN := Lib.hid hno
    clear hno
    by_cases hlt : j < n
    · obtain ⟨b, off, a, rfl, hla, q0, q1, q2, q3, q4, q5, q6, q7, q8, q9⟩ := mail_at (hr.later hbr) hlt
      have hbs := hbr.size
      cases hu : a.f.urgent with
      | true =>
        have HM := Lib.hid (show ∀ i c, i < j + 1 → l[i]? = some c → c.f.urgent = true by
          intro i c hi hc
          rcases Nat.lt_or_ge i j with d | d
          · exact HN.out i c d hc
          · obtain rfl : i = j := by omega
            rw [hla] at hc; cases hc; exact hu)
        have HC := Lib.hid (closure26' a hu)
        rw [hu] at q7
        clear HN hla
        go_wp2_with fail
        refine (HC.out _).mono ?_
        rintro e w1 ⟨rfl, hb1⟩
        have hb2 := hbr.trans (hb1.mono hbs)
        go_wp2
        go_roundw
        case rel => exact ⟨j + 1, by omega, by go_num, HM.out, hb2⟩
        case measure => simp [intOf]; omega
      | false =>
        have HF := Lib.hid (frst_at HN.out hla hu)
        have HC := Lib.hid (closure26' a hu)
        rw [hu] at q7
        clear HN hla
        go_wp2_with fail
        refine (HC.out _).mono ?_
        rintro e w1 ⟨rfl, hb1⟩
        have hb2 := hbr.trans (hb1.mono hbs)
        go_wp2
        go_ret
        exact ⟨ret_int (by unfold idxI; rw [HF.out, if_neg (by omega)]), hb2⟩
    · have HF := Lib.hid (show frst l = n by
        rw [frst_none (fun i b hb => HN.out i b (by have := (List.getElem?_eq_some_iff.1 hb).1; have := hr.1; omega) hb)]; exact hr.1)
      clear HN
      go_wp2
      go_ret
      exact ⟨ret_int (by unfold idxI; rw [if_pos HF.out]), hbr⟩
end Go.Proofs.Ytfbdiafgfimgaaa
