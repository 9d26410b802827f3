/- Routes: how they lie in memory; what the functions compute. -/
import Derived.Test.YtlmoeempblgdkaaRdx
import Derived.Test.YtlmoeempblgdkaaIns
import Derived.Lib.SliceRun
import Derived.Laws.StructEq
import Derived.Deep.RegionHeld3
import Derived.Deep.CutBlock
import Derived.Outline
namespace Go.Proofs.Ytlmoeempblgdkaa
open Go.RowKit Go.BigFrame
set_option linter.unusedVariables false
set_option linter.unusedSimpArgs false

structure Rt where
  d : Int
  s : Int
  c : Int
  n : Int
  deriving DecidableEq
def encR (a : Rt) : List Value := [.int .i64 a.d, .int .i64 a.s, .int .i64 a.c, .int .i64 a.n]
abbrev rtC (a : Rt) : Array Value := #[.int .i64 a.d, .int .i64 a.s, .int .i64 a.c, .int .i64 a.n]
abbrev rtV (a : Rt) : Value := .agg (rtC a)
theorem encR_one (m : Rt) : ∀ u ∈ encR m, u.oneCell' = true := by
  intro u hu
  simp [encR] at hu
  rcases hu with rfl | rfl | rfl | rfl <;> rfl
def ER : Enc Rt := ⟨encR, 4, by omega, fun _ => rfl, encR_one⟩
theorem ER_size : ER.size = 4 := rfl
theorem info40 : (Try.prog.info? 40).map (fun i => (i.zero, i.size, i.bytes)) = some (some (.agg #[.int .i64 0, .int .i64 0, .int .i64 0, .int .i64 0]), 4, 32) := by kernel_rfl
theorem size40 : (Try.prog.info? 40).map (fun i => i.size) = some 4 := by kernel_rfl
theorem rt_at {w : World} {A : Option Addr} {n : Nat} {l : List Rt} (h : Rd w ER A n l) {k : Nat} (hk : k < n) :
    ∃ (b off : Nat) (a : Rt), A = some ⟨b, off, none⟩ ∧ l[k]? = some a ∧
      w.cell? ⟨b, off + k * 4, none⟩ = some (.int .i64 a.d) ∧ w.cell? ⟨b, off + k * 4 + 1, none⟩ = some (.int .i64 a.s) ∧ w.cell? ⟨b, off + k * 4 + 2, none⟩ = some (.int .i64 a.c) ∧ w.cell? ⟨b, off + k * 4 + 3, none⟩ = some (.int .i64 a.n) := by
  obtain ⟨b, off, a, e1, e2, hc⟩ := h.elem hk
  exact ⟨b, off, a, e1, e2, hc 0 _ rfl, hc 1 _ rfl, hc 2 _ rfl, hc 3 _ rfl⟩
/-- A result that is a slice of routes of the call's own. -/
def SlEnd (w : World) (l : List Rt) (en : Ending) (w' : World) : Prop :=
  ∃ (A : Option Addr) (n cap : Nat), en = .returned (.slice A n cap) ∧ Ow w' w.heap.size 40 ER (.slice A n cap) n l ∧ Below w.heap.size w w'
theorem take_snoc {α : Type} {l : List α} {k : Nat} {a : α} (h : l[k]? = some a) : l.take (k + 1) = l.take k ++ [a] := by
  have hlt : k < l.length := (List.getElem?_eq_some_iff.1 h).1
  rw [List.take_succ_eq_append_getElem hlt, (List.getElem?_eq_some_iff.1 h).2]
theorem drop_cons {α : Type} {l : List α} {k : Nat} {a : α} (h : l[k]? = some a) : l.drop k = a :: l.drop (k + 1) := by
  have hlt : k < l.length := (List.getElem?_eq_some_iff.1 h).1
  rw [List.drop_eq_getElem_cons hlt, (List.getElem?_eq_some_iff.1 h).2]
theorem rt_one (a : Rt) (w : World) (t : TypeId) : Rd (w.alloc (.cells (rtC a) t)) ER (some ⟨w.heap.size, 0, none⟩) 1 [a] := Rd.one_new w ER a t
theorem rt_ext {a b : Rt} (h0 : a.d = b.d) (h1 : a.s = b.s) (h2 : a.c = b.c) (h3 : a.n = b.n) : a = b := by
  obtain ⟨⟩ := a; obtain ⟨⟩ := b
  simp at h0 h1 h2 h3
  subst h0 h1 h2 h3; rfl
theorem eql40_same (a : Rt) (w : World) : (binOp .eql 40 (rtV a) (rtV a)).run Try.prog w = .ok (.bool true) w := by
  rw [run_eql_struct, run_equalIn_struct w 9999 40 _ _ (by kernel_rfl) (by kernel_rfl)]
  simp [go_sem]
theorem neq40 (a b : Rt) (w : World) : (binOp .neq 40 (rtV a) (rtV b)).run Try.prog w = .ok (.bool (!decide (a = b))) w := by
  rw [run_neq_struct, run_equalIn_struct w 9999 40 _ _ (by kernel_rfl) (by kernel_rfl)]
  by_cases h : a = b
  · subst h
    simp [go_sem]
  · rw [decide_eq_false h]
    by_cases h0 : a.d = b.d <;> by_cases h1 : a.s = b.s <;> by_cases h2 : a.c = b.c <;> by_cases h3 : a.n = b.n
    · exact absurd (rt_ext h0 h1 h2 h3) h
    all_goals simp [go_sem, h0, h1, h2, h3]
theorem boxeds (w : World) (cs : Array Value) (t : TypeId) :
    ∃ W, w.alloc (.cells cs t) = W ∧ Below w.heap.size w W ∧ W.heap.size = w.heap.size + 1 ∧ Blk W w.heap.size t cs :=
  ⟨_, rfl, (Below.refl _ _).alloc (Nat.le_refl _) _, by simp, Blk.new _ _ _⟩

theorem grown_setCell (w : World) (p : Addr) (u : Value) : w.grownBy (w.setCell p u) (some p.block) :=
  ⟨rfl, rfl, rfl, by simp [World.setCell], fun k _ hne => Below.heap_setCell _ _ _ _ (fun e => hne (by rw [e]))⟩
theorem Ow.far {α : Type} {w : World} {base : Nat} {e : TypeId} {E : Enc α} {v : Value} {n : Nat} {l : List α} (h : Ow w base e E v n l) {p : Addr} (hp : p.block < base) (u : Value) : Ow (w.setCell p u) base e E v n l := by
  refine h.kept (grown_setCell w p u) ?_
  cases hv : v.ownBlock with
  | none => exact .inl rfl
  | some k => exact .inr (fun e => by have := (h.lt k hv).1; cases e; omega)
/-- a cell of a known block is written: the world under one name -/
theorem stored {w : World} {g : Nat} {t : TypeId} {cs : Array Value} (h : Blk w g t cs) (i : Nat) (u : Value) {cs' : Array Value} (hc : cs.setIfInBounds i u = cs') :
    ∃ W, w.setCell ⟨g, i, none⟩ u = W ∧ Blk W g t cs' ∧ w.grownBy W (some g) ∧ W.heap.size = w.heap.size :=
  ⟨_, rfl, hc ▸ h.set_ i u, grown_setCell _ _ _, by simp [World.setCell]⟩
theorem _root_.Go.World.grownBy.tr {w w' w'' : World} {r : Option Nat} (h : w.grownBy w' r) (h' : w'.grownBy w'' r) : w.grownBy w'' r :=
  ⟨h'.os.trans h.os, h'.tape.trans h.tape, h'.output.trans h.output, Nat.le_trans h.size h'.size, fun k hk hne => (h'.block k (Nat.lt_of_lt_of_le hk h.size) hne).trans (h.block k hk hne)⟩
theorem Blk.grown {w w' : World} {g g' : Nat} {t : TypeId} {cs : Array Value} (h : Blk w g t cs) (hg : w.grownBy w' (some g')) (hne : g ≠ g') : Blk w' g t cs :=
  (hg.block g h.lt (fun e => hne (by cases e; rfl))).trans h
theorem Ow.grown {α : Type} {w w' : World} {base g' : Nat} {e : TypeId} {E : Enc α} {v : Value} {n : Nat} {l : List α} (h : Ow w base e E v n l) (hg : w.grownBy w' (some g')) (hp : g' < base) : Ow w' base e E v n l := by
  refine h.kept hg ?_
  cases hv : v.ownBlock with
  | none => exact .inl rfl
  | some k => exact .inr (fun e => by have := (h.lt k hv).1; cases e; omega)
theorem Below.grow {B g' : Nat} {w0 w w' : World} (hb : Below B w0 w) (hg : w.grownBy w' (some g')) (hB : B ≤ w.heap.size) (hp : B ≤ g') : Below B w0 w' :=
  hb.grown hg hB (fun k hk => by cases hk; exact hp)
/-- a struct of four cells is written whole -/
theorem stored4 {w : World} {g : Nat} {t : TypeId} {a0 a1 a2 a3 : Value} (h : Blk w g t #[a0, a1, a2, a3]) (b0 b1 b2 b3 : Value) :
    ∃ W, ((((w.setCell ⟨g, 0, none⟩ b0).setCell ⟨g, 1, none⟩ b1).setCell ⟨g, 2, none⟩ b2).setCell ⟨g, 3, none⟩ b3) = W ∧ Blk W g t #[b0, b1, b2, b3] ∧ w.grownBy W (some g) ∧ W.heap.size = w.heap.size := by
  obtain ⟨W0, rfl, k0, g0, z0⟩ := stored h 0 b0 (cs' := #[b0, a1, a2, a3]) (by simp)
  obtain ⟨W1, rfl, k1, g1, z1⟩ := stored k0 1 b1 (cs' := #[b0, b1, a2, a3]) (by simp)
  obtain ⟨W2, rfl, k2, g2, z2⟩ := stored k1 2 b2 (cs' := #[b0, b1, b2, a3]) (by simp)
  obtain ⟨W3, rfl, k3, g3, z3⟩ := stored k2 3 b3 (cs' := #[b0, b1, b2, b3]) (by simp)
  exact ⟨_, rfl, k3, ((g0.tr g1).tr g2).tr g3, by rw [z3, z2, z1, z0]⟩

/-! what the functions compute -/
def finB (r : Rt) : Bool := decide (0 ≤ r.c) && decide (r.c ≤ 200)
def nodeB (n : Int) : Bool := decide (0 ≤ n) && decide (n ≤ 250)
def usB (r : Rt) : Bool := nodeB r.d && decide (0 ≤ r.s) && decide (r.s ≤ 65535) && ((finB r && decide (r.s % 2 = 0)) || decide (r.c = 255))
def lim (n : Int) : Int := if n < 0 then 0 else if 250 < n then 250 else n
def betB (a b : Rt) : Bool := decide (b.s < a.s) || (decide (a.s = b.s) && decide (a.c < b.c))
def rokB (r : Rt) : Bool := usB r && (if finB r = true then nodeB r.n else decide (r.n = 255))
def ordB (p : Option Int) (r : Rt) : Bool := match p with
  | none => true
  | some q => decide (q < r.d)
/-- the first loop of Check: 0, or the error -/
def chk1 : Option Int → List Rt → Int
  | _, [] => 0
  | p, r :: l => if rokB r = false then 2 else if ordB p r = false then 14 else chk1 (some r.d) l
def badB (self : Int) (r : Rt) : Bool := if r.d = self then !(decide (r.c = 0) && decide (r.n = self)) else (decide (r.c = 0) || decide (r.n = self))
def chk (t : List Rt) (self : Int) : Int :=
  if 24 < t.length then 3 else if nodeB self = false then 2 else if chk1 none t ≠ 0 then chk1 none t else if t.all (fun r => decide (r.d ≠ self)) = true then 8 else if t.any (badB self) = true then 4 else 0
def own (self seq : Int) : Rt := ⟨self, seq, 0, self⟩
def tab (t : List Rt) (self : Int) : List Rt := if chk t (lim self) = 0 then t else [own (lim self) 0]
/-- how many routes lie ahead of x's place -/
def lo (t : List Rt) (x : Int) : Nat := (t.takeWhile (fun r => decide (r.d < x))).length
def has (t : List Rt) (x : Int) : Bool := match t[lo t x]? with
  | some r => decide (r.d = x)
  | none => false
def lrn (t : List Rt) (fr : Int) (r : Rt) : List Rt :=
  match t[lo t r.d]? with
  | some q => if q.d = r.d then (if finB r = true then (if betB r q = true then t.set (lo t r.d) r else t) else (if q.n = fr ∧ q.s < r.s then t.set (lo t r.d) r else t)) else (if finB r = true ∧ t.length < 24 then t.take (lo t r.d) ++ r :: t.drop (lo t r.d) else t)
  | none => if finB r = true ∧ t.length < 24 then t.take (lo t r.d) ++ r :: t.drop (lo t r.d) else t
def adv (fr cost : Int) (a : Rt) : Rt := if finB a = true ∧ a.c + cost ≤ 200 then ⟨a.d, a.s, a.c + cost, fr⟩ else ⟨a.d, a.s, 255, 255⟩
def step (self fr cost : Int) (t : List Rt) (a : Rt) : List Rt := if usB a = true ∧ a.d ≠ self then lrn t fr (adv fr cost a) else t
def updOk (self fr cost : Int) : Prop := nodeB fr = true ∧ fr ≠ lim self ∧ 1 ≤ cost ∧ cost ≤ 200
instance (self fr cost : Int) : Decidable (updOk self fr cost) := by unfold updOk; infer_instance
def upd (t : List Rt) (self fr cost : Int) (l : List Rt) : List Rt :=
  if updOk self fr cost then l.foldl (step (lim self) fr cost) (tab t self) else tab t self
def brk1 (self next : Int) (r : Rt) : Rt := if r.n = next ∧ r.d ≠ self then ⟨r.d, r.s + 1, 255, 255⟩ else r
def brk (t : List Rt) (self next : Int) : List Rt := if nodeB next = true then (tab t self).map (brk1 (lim self) next) else tab t self
def hop (t : List Rt) (x : Int) : Int × Bool := match t.find? (fun r => decide (r.d = x)) with
  | none => (0, false)
  | some r => if finB r = true then (r.n, true) else (0, false)
end Go.Proofs.Ytlmoeempblgdkaa
