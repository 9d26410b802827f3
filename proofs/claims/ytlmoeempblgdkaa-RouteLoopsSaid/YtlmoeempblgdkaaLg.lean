/- The law RouteChecks. -/
import Derived.Test.YtlmoeempblgdkaaBm
namespace Go.Proofs.Ytlmoeempblgdkaa
open Go.RowKit Go.BigFrame
set_option linter.unusedVariables false
set_option linter.unusedSimpArgs false

set_option maxRecDepth 20000 in
set_option maxHeartbeats 8000000 in
theorem lawChecks7 (A : Option Addr) (n cap : Nat) (t : List Rt) (self : Int) (w : World) (hr : Rd w ER A n t) :
    Calls Try.prog 7 #[.slice A n cap, .int .i64 self] w fun e w' => e = .returned (.bool true) ∧ Below w.heap.size w w' := by
  have LV := Lib.hid awake10
  by_cases hn : 60 < n
  · clear hr
    go_enter Try.func7, Try.ntmps7
    go_wp2_with fail
    refine (LV.out w).mono ?_
    rintro e w2 ⟨rfl, hb2⟩
    go_wp2
    go_ret
    exact ⟨rfl, hb2⟩
  · have HLB := Lib.hid (len_bump t self)
    go_enter Try.func7, Try.ntmps7
    go_wp2_with fail
    refine (new23 self w).mono ?_
    rintro e w1 ⟨A1, n1, c1, rfl, o1, h1⟩
    go_wp2_with fail
    refine (new24 self w1).mono ?_
    rintro e w2 ⟨A2, n2, c2, rfl, o2, h2⟩
    have b2 := h1.trans (h2.mono h1.size)
    have S1 := Lib.hid (same_of (by simp) w2 A1 A2 n1 n2 c1 c2 (o1.later h2).rd o2.rd)
    clear o1 o2 h1 h2
    go_wp2_with fail
    refine S1.out.mono ?_
    rintro e w3 ⟨rfl, h3⟩
    have b3 := b2.trans (h3.mono b2.size)
    have C1 := Lib.hid (check25 A n cap t self w3 (by omega) (hr.later b3))
    clear b2 h3 S1
    go_wp2_with fail
    refine C1.out.mono ?_
    rintro e w4 ⟨rfl, h4⟩
    have b4 := b3.trans (h4.mono b3.size)
    have C2 := Lib.hid (check22 A n cap t self w4 (by omega) (hr.later b4))
    generalize chk t self = ch at *
    clear b3 h4 C1
    go_wp2_with fail
    refine C2.out.mono ?_
    rintro e w5 ⟨rfl, h5⟩
    have b5 := b4.trans (h5.mono b4.size)
    have B1 := Lib.hid (bump26 A n cap t self w5 (by omega) (hr.later b5))
    clear b4 h5 C2
    go_wp2_with fail
    refine B1.out.mono ?_
    rintro e w6 ⟨A6, n6, c6, rfl, o6, h6⟩
    have b6 := b5.trans (h6.mono b5.size)
    have B2 := Lib.hid (bump27 A n cap t self w6 (by omega) (hr.later b6))
    clear b5 h6 B1
    go_wp2_with fail
    refine B2.out.mono ?_
    rintro e w7 ⟨A7, n7, c7, rfl, o7, h7⟩
    have b7 := b6.trans (h7.mono b6.size)
    have S2 := Lib.hid (same_of (Nat.le_trans HLB.out (by omega)) w7 A6 A7 n6 n7 c6 c7 (o6.later h7).rd o7.rd)
    clear b6 h7 B2 o6 o7 hr
    go_wp2_with fail
    refine S2.out.mono ?_
    rintro e w8 ⟨rfl, h8⟩
    have b8 := b7.trans (h8.mono b7.size)
    clear b7 h8 S2
    go_wp2_with fail
    refine (LV.out w8).mono ?_
    rintro e w9 ⟨rfl, h9⟩
    have b9 := b8.trans (h9.mono b8.size)
    clear b8 h9
    go_wp2
    go_ret
    exact ⟨rfl, b9⟩
end Go.Proofs.Ytlmoeempblgdkaa
