/- Three new slices in an array: what a region that draws leaves. -/
import Derived.Test.YtlmoeempblgdkaaKq
namespace Go.Proofs.Ytlmoeempblgdkaa
open Go.RowKit Go.BigFrame
set_option linter.unusedVariables false
set_option linter.unusedSimpArgs false

theorem later_new' {w w' : World} {cs : Array Value} {t : TypeId} (hb : Below (w.alloc (.cells cs t)).drew.heap.size (w.alloc (.cells cs t)).drew w') : Blk w' w.heap.size t cs := Blk.later (w := (w.alloc (.cells cs t)).drew) (Blk.new w t cs) hb
theorem later_new {w w' : World} {cs : Array Value} {t : TypeId} (hb : Below (w.alloc (.cells cs t)).heap.size (w.alloc (.cells cs t)) w') : Blk w' w.heap.size t cs := (Blk.new w t cs).later hb
theorem stored3 {w : World} {g : Nat} {t : TypeId} {a0 a1 a2 : Value} (h : Blk w g t #[a0, a1, a2]) (b0 b1 b2 : Value) :
    Blk (((w.setCell ⟨g, 0, none⟩ b0).setCell ⟨g, 1, none⟩ b1).setCell ⟨g, 2, none⟩ b2) g t #[b0, b1, b2] ∧ w.grownBy (((w.setCell ⟨g, 0, none⟩ b0).setCell ⟨g, 1, none⟩ b1).setCell ⟨g, 2, none⟩ b2) (some g) := by
  obtain ⟨W0, rfl, k0, g0, z0⟩ := stored h 0 b0 (cs' := #[b0, a1, a2]) (by simp)
  obtain ⟨W1, rfl, k1, g1, z1⟩ := stored k0 1 b1 (cs' := #[b0, b1, a2]) (by simp)
  obtain ⟨W2, rfl, k2, g2, z2⟩ := stored k1 2 b2 (cs' := #[b0, b1, b2]) (by simp)
  exact ⟨k2, (g0.tr g1).tr g2⟩
theorem rd_set3 {w wA : World} {base g n cap : Nat} {t : TypeId} {A : Option Addr} {l : List Rt} {a0 a1 a2 : Value} (h : Blk w g t #[a0, a1, a2]) (ho : Ow wA base 40 ER (.slice A n cap) n l) (hb : Below wA.heap.size wA w) (hne : g < base ∨ wA.heap.size ≤ g) (b0 b1 b2 : Value) :
    Rd (((w.setCell ⟨g, 0, none⟩ b0).setCell ⟨g, 1, none⟩ b1).setCell ⟨g, 2, none⟩ b2) ER A n l := by
  have hg := (stored3 h b0 b1 b2).2
  have hne' : (Value.slice A n cap).ownBlock ≠ some g := fun e => by have := ho.lt g e; omega
  exact ((ho.later hb).kept hg (.inr hne')).rd
theorem below_set3 {w W : World} {g B : Nat} {t : TypeId} {a0 a1 a2 : Value} (h : Blk w g t #[a0, a1, a2]) (hb : Below B W w) (hB : B ≤ w.heap.size) (hg : B ≤ g) (b0 b1 b2 : Value) :
    Below B W (((w.setCell ⟨g, 0, none⟩ b0).setCell ⟨g, 1, none⟩ b1).setCell ⟨g, 2, none⟩ b2) := Below.grow hb (stored3 h b0 b1 b2).2 hB hg
/-- an array of three slices, newly made, and what they hold -/
def K3 (W w' : World) (z : Value) (x y v : List Rt) : Prop :=
  ∃ (g : Nat) (A1 A2 A3 : Option Addr) (n1 n2 n3 c1 c2 c3 : Nat), z = .pointer (some ⟨g, 0, none⟩) ∧ Blk w' g 45 #[.slice A1 n1 c1, .slice A2 n2 c2, .slice A3 n3 c3] ∧ Rd w' ER A1 n1 x ∧ Rd w' ER A2 n2 y ∧ Rd w' ER A3 n3 v ∧ Below W.heap.size W w'
end Go.Proofs.Ytlmoeempblgdkaa
