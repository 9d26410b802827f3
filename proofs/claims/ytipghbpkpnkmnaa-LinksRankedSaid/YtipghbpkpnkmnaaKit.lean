/- General words of this proof: blocks, regions whose callees may make memory, small facts. Nothing of the program. -/
import Derived.Test.YtipghbpkpnkmnaaRows
import Derived.WalkKit
import Derived.WalkSpells
import Derived.WalkLawsBesides
import Derived.Lib.Hide
import Derived.BigQuiet
import Derived.Deep.Light
import Derived.Laws.Rows
import Derived.Laws.OwnMore
namespace Go.Proofs.Ytipghbpkpnkmnaa
open Go.RowKit

theorem ret_int {k : IntKind} {a b : Int} (h : a = b) : Ending.returned (.int k a) = .returned (.int k b) := by rw [h]
theorem ret_bool {a b : Bool} (h : a = b) : Ending.returned (.bool a) = .returned (.bool b) := by rw [h]

/-- A block that is known whole. -/
def Blk (w : World) (g : Nat) (t : TypeId) (cs : Array Value) : Prop := w.heap[g]? = some (.cells cs t (0, 0))
section
variable {w w' : World} {g : Nat} {t : TypeId} {cs : Array Value}
theorem Blk.lt (h : Blk w g t cs) : g < w.heap.size := by
  rcases Nat.lt_or_ge g w.heap.size with hlt | hge
  · exact hlt
  · unfold Blk at h; rw [Array.getElem?_eq_none hge] at h; cases h
theorem Blk.cell (h : Blk w g t cs) (i : Nat) : w.cell? ⟨g, i, none⟩ = cs[i]? := cell_of_row w g i cs t (0, 0) h
theorem Blk.frozen (h : Blk w g t cs) (i : Nat) : w.frozen? ⟨g, i, none⟩ = false := by
  unfold Blk at h
  simp [World.frozen?, h]
theorem Blk.new (w : World) (t : TypeId) (cs : Array Value) : Blk (w.alloc (.cells cs t)) w.heap.size t cs := heap_alloc_new w _
theorem Blk.below {B : Nat} (h : Blk w g t cs) (hb : Below B w w') (hg : g < B) : Blk w' g t cs := (hb.block g hg).trans h
end

/-- A struct parameter is boxed first: the world behind it under one name. -/
theorem boxed (w : World) (cs : Array Value) (t : TypeId) :
    ∃ W, w.alloc (.cells cs t) = W ∧ Below w.heap.size w W ∧ w.heap.size < W.heap.size ∧ Blk W w.heap.size t cs :=
  ⟨_, rfl, (Below.refl _ _).alloc (Nat.le_refl _) _, by simp, Blk.new _ _ _⟩

/-- The worlds behind W in which nothing of what W held has turned. -/
structure After (W : World) where
  w : World
  hb : Below W.heap.size W w
instance (W : World) : Inhabited (After W) := ⟨⟨W, Below.refl _ _⟩⟩
theorem After.cell {W : World} {a : Addr} {v : Value} (h : W.cell? a = some v) (p : After W) : p.w.cell? a = some v := by
  rw [p.hb.cell (block_lt_of_cell h)]; exact h
theorem keep {W w : World} {a : Addr} {v : Value} (hb : Below W.heap.size W w) (h : W.cell? a = some v) : w.cell? a = some v := After.cell h ⟨w, hb⟩
theorem After.all {W : World} {R : World → Prop} : (∀ w', Below W.heap.size W w' → R w') ↔ ∀ p : After W, R p.w :=
  ⟨fun h p => h _ p.hb, fun h w' hb => h ⟨w', hb⟩⟩
/-- A region that draws its order, its operations reading, its callees leaving what was there: one walk in the order of the text. -/
theorem wp_region_after {P : Program} {id : Nat} {Q : Exit → Act → World → Prop} {a : Act} {w : World} {l : List Oper} (hm : P.follows .mixedOrders = true) (hB : Region.lexB .any l.toArray = true)
    (h : wpQuiet P l.toArray (fun w' => ∃ p : After w, w' = p.w) (fun a' => ∀ w', Below w.heap.size w w' → Q .normal a' w') l a) : (Code.region id l.toArray true).wp P Q a w :=
  wp_region_quiet (C := fun w' => ∃ p : After w, w' = p.w) hm hB ⟨⟨{ w with drawn := w.drawn + 1 }, ⟨rfl, rfl, rfl, Nat.le_refl _, fun _ _ => rfl⟩⟩, rfl⟩
    (by simpa [After.all] using h)
theorem After.of {P : Program} {f : FuncId} {args : Array Value} {W : World} {v : Value} (p : After W)
    (h : Calls P f args p.w fun e w' => e = .returned v ∧ Below p.w.heap.size p.w w') : Calls P f args p.w fun e w'' => e = .returned v ∧ ∃ q : After W, w'' = q.w :=
  h.mono fun _ w' ⟨he, hb⟩ => ⟨he, ⟨w', p.hb.trans (hb.mono p.hb.size)⟩, rfl⟩
theorem After.same {P : Program} {f : FuncId} {args : Array Value} {W : World} {v : Value} (p : After W)
    (h : Calls P f args p.w fun e w' => e = .returned v ∧ p.w = w') : Calls P f args p.w fun e w'' => e = .returned v ∧ ∃ q : After W, w'' = q.w :=
  h.mono fun _ _ ⟨he, hw⟩ => ⟨he, p, hw.symm⟩

end Go.Proofs.Ytipghbpkpnkmnaa
