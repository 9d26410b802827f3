/- Six tables in memory. -/
import Derived.Test.YtlmoeempblgdkaaLp
namespace Go.Proofs.Ytlmoeempblgdkaa
open Go.RowKit Go.BigFrame
set_option linter.unusedVariables false
set_option linter.unusedSimpArgs false

structure Sl where
  A : Option Addr
  n : Nat
  c : Nat
abbrev sv (s : Sl) : Value := .slice s.A s.n s.c
def encS (f : Nat → Sl) : List Value := [sv (f 0), sv (f 1), sv (f 2), sv (f 3), sv (f 4), sv (f 5)]
theorem encS_one (f : Nat → Sl) : ∀ u ∈ encS f, u.oneCell' = true := by
  intro u hu
  simp [encS] at hu
  rcases hu with rfl | rfl | rfl | rfl | rfl | rfl <;> rfl
def E6 : Enc (Nat → Sl) := ⟨encS, 6, by omega, fun _ => rfl, encS_one⟩
theorem info47 : (Try.prog.info? 47).map (fun i => (i.zero, i.size, i.bytes)) = some (some (.agg #[.slice none 0 0, .slice none 0 0, .slice none 0 0, .slice none 0 0, .slice none 0 0, .slice none 0 0]), 6, 144) := by kernel_rfl
abbrev arr (f : Nat → Sl) : Array Value := #[sv (f 0), sv (f 1), sv (f 2), sv (f 3), sv (f 4), sv (f 5)]
theorem arr_get (f : Nat → Sl) {x : Nat} (h : x < 6) : (arr f)[x]? = some (sv (f x)) := by
  rcases x with _ | _ | _ | _ | _ | _ | x
  all_goals first | rfl | omega
theorem encS_get (f : Nat → Sl) {x : Nat} (h : x < 6) : (encS f)[x]? = some (sv (f x)) := by
  rcases x with _ | _ | _ | _ | _ | _ | x
  all_goals first | rfl | omega
def putS (f : Nat → Sl) (a : Nat) (s : Sl) : Nat → Sl := fun x => if x = a then s else f x
theorem arr_put (f : Nat → Sl) {a : Nat} (h : a < 6) (s : Sl) : (arr f).setIfInBounds a (sv s) = arr (putS f a s) := by
  rcases a with _ | _ | _ | _ | _ | _ | a
  all_goals first | rfl | omega
/-- a table in a block of routes -/
def Tw (w : World) (s : Sl) (l : List Rt) : Prop := Rd w ER s.A s.n l ∧ ∀ b off : Nat, 0 < s.n → s.A = some ⟨b, off, none⟩ → ∃ cur, Blk w b 40 cur
theorem Tw.later {w w' : World} {s : Sl} {l : List Rt} (h : Tw w s l) (hb : Below w.heap.size w w') : Tw w' s l :=
  ⟨h.1.later hb, fun b off h0 hA => by
    obtain ⟨cur, hc⟩ := h.2 b off h0 hA
    exact ⟨cur, hc.later hb⟩⟩
theorem Tw.grown {w w' : World} {s : Sl} {l : List Rt} (h : Tw w s l) {k : Nat} {t : TypeId} {cs : Array Value} (hk : Blk w k t cs) (ht : t ≠ 40) (hg : w.grownBy w' (some k)) : Tw w' s l := by
  have hB : ∀ b off : Nat, 0 < s.n → s.A = some ⟨b, off, none⟩ → ∃ cur, Blk w b 40 cur ∧ Blk w' b 40 cur := fun b off h0 hA => by
    obtain ⟨cur, hc⟩ := h.2 b off h0 hA
    have hne : b ≠ k := fun e => by
      subst e
      unfold Blk at hc hk
      rw [hc] at hk
      cases hk
      exact ht rfl
    exact ⟨cur, hc, hc.grown hg hne⟩
  refine ⟨⟨h.1.1, fun h0 => ?_⟩, fun b off h0 hA => ?_⟩
  · obtain ⟨b, off, hA, hc⟩ := h.1.2 h0
    obtain ⟨cur, h1, h2⟩ := hB b off h0 hA
    refine ⟨b, off, hA, fun j v hv => ?_⟩
    have := hc j v hv
    rw [h1.cell] at this
    rw [h2.cell]
    exact this
  · obtain ⟨cur, _, h2⟩ := hB b off h0 hA
    exact ⟨cur, h2⟩
theorem Tw.of_ow {w : World} {base n cap : Nat} {A : Option Addr} {l : List Rt} (h : Ow w base 40 ER (.slice A n cap) n l) : Tw w ⟨A, n, cap⟩ l :=
  ⟨h.rd, fun b off h0 hA => by
    obtain ⟨g, cur, e, _, hg, _⟩ := h.row h0
    have e2 : A = some ⟨b, off, none⟩ := hA
    rw [e] at e2
    cases e2
    exact ⟨cur, hg⟩⟩
theorem putS_same (f : Nat → Sl) (a : Nat) (s : Sl) : putS f a s a = s := if_pos rfl
theorem putS_other {f : Nat → Sl} {a x : Nat} {s : Sl} (h : x ≠ a) : putS f a s x = f x := if_neg h
end Go.Proofs.Ytlmoeempblgdkaa
