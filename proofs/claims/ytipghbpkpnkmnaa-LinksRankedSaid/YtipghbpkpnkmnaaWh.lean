/- Best of the program, over a contract of the sort; the sort of at most one number. -/
import Derived.Test.YtipghbpkpnkmnaaWg
namespace Go.Proofs.Ytipghbpkpnkmnaa
open Go.RowKit Go.BigFrame
set_option linter.unusedVariables false

theorem ins45_tiny (A : Option Addr) (n c : Nat) (f : Value) (w : World) (hn : n ≤ 1) : Calls Try.prog 45 #[.slice A n c, .int .i64 0, .int .i64 n, f] w fun e w' => e = .returned (.tuple #[]) ∧ w = w' := by
  go_enter Try.func45, Try.ntmps45
  go_wp2
  go_loop [8] (fun i => i = .int .i64 1) (fun _ => 0)
  case atStart => rfl
  case round =>
    subst hrel
    go_wp2
    go_end0
    exact ⟨rfl, rfl⟩
theorem stable43_tiny (A : Option Addr) (n c : Nat) (f : Value) (w : World) (hn : n ≤ 1) : Calls Try.prog 43 #[.slice A n c, .int .i64 n, f] w fun e w' => e = .returned (.tuple #[]) ∧ w = w' := by
  have IS := Lib.hid (ins45_tiny A n c f w hn)
  go_enter Try.func43, Try.ntmps43
  go_wp2
  go_loop [7, 8] (fun a b => a = .int .i64 0 ∧ b = .int .i64 20) (fun _ _ => 0)
  case atStart => exact ⟨rfl, rfl⟩
  case round =>
    obtain ⟨rfl, rfl⟩ := hrel
    go_wp2_with fail
    refine IS.out.mono ?_
    rintro e w1 ⟨rfl, rfl⟩
    go_wp2
    go_loop [6] (fun a => a = .int .i64 20) (fun _ => 0)
    case atStart => rfl
    case round =>
      subst hrel
      go_wp2
      go_end0
      exact ⟨rfl, rfl⟩
theorem sort37_tiny (A : Option Addr) (n c : Nat) (f : Value) (w : World) (hn : n ≤ 1) : Calls Try.prog 37 #[.slice A n c, f] w fun e w' => e = .returned (.tuple #[]) ∧ w = w' := by
  have IS := Lib.hid (stable43_tiny A n c f w hn)
  go_enter Try.func37, Try.ntmps37
  go_wp2_with fail
  refine IS.out.mono ?_
  rintro e w1 ⟨rfl, rfl⟩
  go_wp2
  go_end0
  exact ⟨rfl, rfl⟩
end Go.Proofs.Ytipghbpkpnkmnaa
