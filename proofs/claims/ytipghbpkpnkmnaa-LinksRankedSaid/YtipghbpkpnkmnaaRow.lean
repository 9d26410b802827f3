/- Slices whose elements are structs of several cells: read, owned, copied, cleared, appended to. Nothing of the program. -/
import Derived.Test.YtipghbpkpnkmnaaBlk
import Derived.Maps.AppendAt
import Derived.Deep.AppendLies
import Derived.Lib.AppendZerosOnto
import Derived.Lib.Overlaps
import Derived.Laws.CopyRow
import Derived.OwnWalk
import Derived.Deep.Draws
namespace Go.Proofs.Ytipghbpkpnkmnaa
open Go.RowKit
variable {α : Type}

/-- How an element lies in memory. -/
structure Enc (α : Type) where
  enc : α → List Value
  size : Nat
  pos : 0 < size
  len : ∀ a, (enc a).length = size
  one : ∀ a, ∀ u ∈ enc a, u.oneCell' = true

def Enc.flat (E : Enc α) (l : List α) : List Value := l.flatMap E.enc
theorem Enc.flat_nil (E : Enc α) : E.flat [] = [] := rfl
theorem Enc.flat_cons (E : Enc α) (a : α) (l : List α) : E.flat (a :: l) = E.enc a ++ E.flat l := by simp [Enc.flat]
theorem Enc.flat_append (E : Enc α) (l m : List α) : E.flat (l ++ m) = E.flat l ++ E.flat m := by simp [Enc.flat]
theorem Enc.flat_one (E : Enc α) (a : α) : E.flat [a] = E.enc a := by simp [Enc.flat]
theorem Enc.flat_length (E : Enc α) (l : List α) : (E.flat l).length = l.length * E.size := by
  induction l with
  | nil => simp [Enc.flat]
  | cons a l ih => rw [E.flat_cons, List.length_append, E.len, ih, List.length_cons, Nat.add_mul]; omega
theorem Enc.flat_one' (E : Enc α) (l : List α) : ∀ u ∈ E.flat l, u.oneCell' = true := by
  intro u hu
  unfold Enc.flat at hu
  obtain ⟨a, _, ha⟩ := List.mem_flatMap.1 hu
  exact E.one a u ha
theorem Enc.flat_take (E : Enc α) (l : List α) (k : Nat) : (E.flat l).take (k * E.size) = E.flat (l.take k) := by
  induction l generalizing k with
  | nil => simp [Enc.flat]
  | cons a l ih =>
    cases k with
    | zero => simp [Enc.flat]
    | succ k =>
      rw [E.flat_cons, List.take_succ_cons, E.flat_cons, Nat.add_mul, Nat.one_mul, Nat.add_comm (k * E.size), List.take_append, E.len, List.take_of_length_le (by rw [E.len]; omega)]
      rw [show E.size + k * E.size - E.size = k * E.size by omega, ih]
theorem Enc.flat_drop (E : Enc α) (l : List α) (k : Nat) : (E.flat l).drop (k * E.size) = E.flat (l.drop k) := by
  induction l generalizing k with
  | nil => simp [Enc.flat]
  | cons a l ih =>
    cases k with
    | zero => simp [Enc.flat]
    | succ k =>
      rw [E.flat_cons, List.drop_succ_cons, Nat.add_mul, Nat.one_mul, Nat.add_comm (k * E.size), List.drop_append, E.len, List.drop_eq_nil_of_le (by rw [E.len]; omega)]
      rw [show E.size + k * E.size - E.size = k * E.size by omega, ih, List.nil_append]
theorem Enc.flat_get (E : Enc α) (l : List α) {k j : Nat} {a : α} (hk : l[k]? = some a) (hj : j < E.size) : (E.flat l)[k * E.size + j]? = (E.enc a)[j]? := by
  rw [← List.getElem?_drop, E.flat_drop]
  have hlt : k < l.length := (List.getElem?_eq_some_iff.1 hk).1
  have he : l[k] = a := (List.getElem?_eq_some_iff.1 hk).2
  rw [List.drop_eq_getElem_cons hlt, he, E.flat_cons, List.getElem?_append_left (by rw [E.len]; exact hj)]

/-- A slice (its address, its length) that reads as the list l. -/
def Rd (w : World) (E : Enc α) (A : Option Addr) (n : Nat) (l : List α) : Prop :=
  l.length = n ∧ (0 < n → ∃ b off : Nat, A = some ⟨b, off, none⟩ ∧ ∀ j v, (E.flat l)[j]? = some v → w.cell? ⟨b, off + j, none⟩ = some v)
/-- A slice of the call's own, from block base on. -/
def Ow (w : World) (base : Nat) (e : TypeId) (E : Enc α) (v : Value) (n : Nat) (l : List α) : Prop :=
  l.length = n ∧ w.ownsRow base e E.size v n (E.flat l)

section
variable {w w' : World} {E : Enc α} {A : Option Addr} {n : Nat} {l : List α} {base : Nat} {e : TypeId} {v : Value}
theorem Rd.none_ (w : World) (E : Enc α) (A : Option Addr) : Rd w E A 0 ([] : List α) := ⟨rfl, fun h => absurd h (Nat.lt_irrefl _)⟩
theorem Rd.keep (h : Rd w E A n l) (hk : ∀ a v, w.cell? a = some v → w'.cell? a = some v) : Rd w' E A n l :=
  ⟨h.1, fun hn => by
    obtain ⟨b, off, e1, hc⟩ := h.2 hn
    exact ⟨b, off, e1, fun j v hv => hk _ _ (hc j v hv)⟩⟩
theorem Rd.later (h : Rd w E A n l) (hb : Below w.heap.size w w') : Rd w' E A n l := h.keep fun _ _ hc => Go.Proofs.Ytipghbpkpnkmnaa.keep hb hc
theorem Rd.elem (h : Rd w E A n l) {k : Nat} (hk : k < n) : ∃ (b off : Nat) (a : α), A = some ⟨b, off, none⟩ ∧ l[k]? = some a ∧ ∀ j v, (E.enc a)[j]? = some v → w.cell? ⟨b, off + k * E.size + j, none⟩ = some v := by
  obtain ⟨b, off, e1, hc⟩ := h.2 (by omega)
  have hlt : k < l.length := by rw [h.1]; exact hk
  refine ⟨b, off, l[k], e1, List.getElem?_eq_getElem hlt, fun j v hv => ?_⟩
  have hj : j < E.size := by rw [← E.len l[k]]; exact (List.getElem?_eq_some_iff.1 hv).1
  rw [Nat.add_assoc]
  exact hc _ v (by rw [E.flat_get l (List.getElem?_eq_getElem hlt) hj]; exact hv)
theorem Rd.cells (h : Rd w E A n l) : A = none ∧ n = 0 ∨ ∃ a : Addr, A = some a ∧ (0 < n → ∀ j u, (E.flat l)[j]? = some u → w.cell? (a.add j) = some u) := by
  rcases A with _ | a
  · rcases Nat.eq_zero_or_pos n with h0 | h0
    · exact .inl ⟨rfl, h0⟩
    · obtain ⟨b, off, e1, _⟩ := h.2 h0
      cases e1
  · refine .inr ⟨a, rfl, fun h0 j u hu => ?_⟩
    obtain ⟨b, off, e1, hc⟩ := h.2 h0
    cases e1
    rw [Addr.add_lit]
    exact hc j u hu
theorem Ow.form (h : Ow w base e E v n l) : ∃ (A : Option Addr) (cap : Nat), v = .slice A n cap ∧ n ≤ cap ∧ cap ≤ maxLen ∧ Rd w E A n l := by
  rcases h.2.2 with ⟨rfl, rfl⟩ | ⟨g, cap, cur, rfl, hb, hg, hnc, hcm, hcs, htake⟩
  · refine ⟨none, 0, rfl, Nat.le_refl _, Nat.zero_le _, ?_⟩
    obtain rfl : l = [] := List.eq_nil_of_length_eq_zero h.1
    exact Rd.none_ _ _ _
  · refine ⟨_, cap, rfl, hnc, hcm, h.1, fun _ => ⟨g, 0, rfl, fun j v hv => ?_⟩⟩
    have := h.2.cells (g := g) rfl j v hv
    rwa [Addr.add_lit] at this
theorem Ow.rd {A : Option Addr} {cap : Nat} (h : Ow w base e E (.slice A n cap) n l) : Rd w E A n l := by
  obtain ⟨A', cap', hv, _, _, hr⟩ := h.form
  cases hv
  exact hr
theorem Ow.cap {A : Option Addr} {cap : Nat} (h : Ow w base e E (.slice A n cap) n l) : n ≤ cap ∧ cap ≤ maxLen := by
  obtain ⟨A', cap', hv, h1, h2, _⟩ := h.form
  cases hv
  exact ⟨h1, h2⟩
theorem Ow.kept {row : Option Nat} (h : Ow w base e E v n l) (hg : w.grownBy w' row) (hne : v.ownBlock = none ∨ v.ownBlock ≠ row) : Ow w' base e E v n l := ⟨h.1, h.2.kept hg hne⟩
theorem Ow.later (h : Ow w base e E v n l) (hb : Below w.heap.size w w') : Ow w' base e E v n l :=
  h.kept (row := none) ⟨hb.os, hb.tape, hb.output, hb.size, fun k hk _ => hb.block k hk⟩ (by
    rcases h.2.2 with ⟨rfl, _⟩ | ⟨g, cap, cur, rfl, _⟩
    · left; rfl
    · right; simp [Value.ownBlock])
theorem Ow.lt (h : Ow w base e E v n l) : ∀ k, v.ownBlock = some k → base ≤ k ∧ k < w.heap.size := h.2.lt
theorem Ow.nil (w : World) (base : Nat) (e : TypeId) (E : Enc α) : Ow w base e E (.slice none 0 0) 0 ([] : List α) := ⟨rfl, World.ownsRow_nil _ _ _ _⟩
theorem Ow.rebase {base' : Nat} (h : Ow w base e E v n l) (hb : base' ≤ base) : Ow w base' e E v n l := by
  refine ⟨h.1, h.2.1, ?_⟩
  rcases h.2.2 with h2 | ⟨g, cap, cur, hv, hg, r⟩
  · exact .inl h2
  · exact .inr ⟨g, cap, cur, hv, Nat.le_trans hb hg, r⟩
end

/-- one row may have turned, from block base on: what lies below stands -/
theorem Below.row {B base : Nat} {w0 w w' : World} {v : Value} (hb : Below B w0 w) (hg : w.grownBy w' v.ownBlock) (hB : B ≤ w.heap.size) (hBb : B ≤ base) (hv : ∀ k, v.ownBlock = some k → base ≤ k ∧ k < w.heap.size) : Below B w0 w' :=
  hb.grown hg hB (fun k hk => Nat.le_trans hBb (hv k hk).1)

section
variable {P : Program}
/-- append(s, x...): s of the call's own, x read -/
theorem run_append_rd (w : World) (base : Nat) (t ty e : TypeId) (i : TypeInfo) (z : Value) (E : Enc α) (ht : P.underlying t = some (.slice e)) (hi : P.info? e = some i) (hz : i.zero = some z)
    (hsize : i.size = E.size) (hzs : z.cells.size = E.size)
    (v : Value) (n : Nat) (l : List α) (hown : Ow w base e E v n l)
    (A : Option Addr) (m c : Nat) (k : List α) (hr : Rd w E A m k)
    (h63 : n + m ≤ maxLen) (hbytes : (n + m) * i.bytes ≤ 140737488355328) (hbase : base ≤ w.heap.size) :
    ∃ v' w', (Builtin.append_ #[t, t] ty #[v, .slice A m c]).run P w = .ok v' w' ∧ Ow w' base e E v' (n + m) (l ++ k) ∧ w.grownBy w' v.ownBlock ∧ (v'.ownBlock = v.ownBlock ∨ v'.ownBlock = some w.heap.size) := by
  have hl : (l ++ k).length = n + m := by rw [List.length_append, hown.1, hr.1]
  rcases hr.cells with ⟨rfl, rfl⟩ | ⟨a, rfl, hc⟩
  · obtain rfl : k = [] := List.eq_nil_of_length_eq_zero hr.1
    refine ⟨v, w, ?_, by simpa using hown, World.grownBy.refl w _, .inl rfl⟩
    rcases hown.2.2 with ⟨rfl, rfl⟩ | ⟨g, cap, cur, rfl, _, _, hnc, _⟩
    · simp [Builtin.append_, run_underlying ht, sizeOf, typeInfo, hi, Builtin.lenOf, Builtin.firstCells]
    · simp [Builtin.append_, run_underlying ht, sizeOf, typeInfo, hi, Builtin.lenOf, Builtin.firstCells, hnc, storeCells]
  · have hcells : ∀ j u, (E.flat k)[j]? = some u → w.cell? (a.add j) = some u := by
      rcases Nat.eq_zero_or_pos m with h0 | h0
      · subst h0
        obtain rfl : k = [] := List.eq_nil_of_length_eq_zero hr.1
        intro j u hu; simp [Enc.flat] at hu
      · exact hc h0
    obtain ⟨v', w', hrun, h2, h3, _, h5⟩ := run_append_own_at (P := P) w base t ty e i z E.size i.bytes ht hi hz hsize rfl hzs E.pos v n (E.flat l) hown.2 a m c (E.flat k) (by rw [E.flat_length, hr.1]) hcells (E.flat_one' k) h63 hbytes hbase
    exact ⟨v', w', hrun, ⟨hl, by rw [E.flat_append]; exact h2⟩, h3, h5⟩

theorem wp_append_rd (w : World) {o : Oper} {a : Act} {K : Act → World → Prop} {Q : Exit → Act → World → Prop} (s x : Operand) (t : TypeId)
    (ho : o.op = .call { callee := .builtin .append, args := #[s, x], argTypes := #[t, t] })
    (base : Nat) (e : TypeId) (i : TypeInfo) (z : Value) (E : Enc α) (ht : P.underlying t = some (.slice e)) (hi : P.info? e = some i) (hz : i.zero = some z)
    (hsize : i.size = E.size) (hzs : z.cells.size = E.size)
    (v : Value) (n : Nat) (l : List α) (hs : a.eval s = v) (hown : Ow w base e E v n l)
    (A : Option Addr) (m c : Nat) (k : List α) (hx : a.eval x = .slice A m c) (hr : Rd w E A m k)
    (h63 : n + m ≤ maxLen) (hbytes : (n + m) * i.bytes ≤ 140737488355328) (hbase : base ≤ w.heap.size)
    (h : ∀ A' cap' w', Ow w' base e E (.slice A' (n + m) cap') (n + m) (l ++ k) → w.grownBy w' v.ownBlock → K (a.put o.dst (.slice A' (n + m) cap')) w') : o.wp P a w K Q := by
  obtain ⟨v', w', hrun, h2, h3, _⟩ := run_append_rd (P := P) w base t o.type e i z E ht hi hz hsize hzs v n l hown A m c k hr h63 hbytes hbase
  obtain ⟨A', cap', rfl, _⟩ := h2.form
  unfold Oper.wp execOp
  simp only [ho, resolve, invoke, builtin, Sem.run_bind, Sem.run_pure, Result.andThen_ok, List.map_toArray, List.map_cons, List.map_nil, hs, hx, hrun]
  exact h A' cap' w' h2 h3

theorem wpList_append_rd (w : World) {ops : Array Oper} {rest : List Oper} {o : Oper} {a : Act} {Q : Exit → Act → World → Prop} (hgd : o.guard = none) (s x : Operand) (t : TypeId)
    (ho : o.op = .call { callee := .builtin .append, args := #[s, x], argTypes := #[t, t] })
    (base : Nat) (e : TypeId) (i : TypeInfo) (z : Value) (E : Enc α) (ht : P.underlying t = some (.slice e)) (hi : P.info? e = some i) (hz : i.zero = some z)
    (hsize : i.size = E.size) (hzs : z.cells.size = E.size)
    (v : Value) (n : Nat) (l : List α) (hs : a.eval s = v) (hown : Ow w base e E v n l)
    (A : Option Addr) (m c : Nat) (k : List α) (hx : a.eval x = .slice A m c) (hr : Rd w E A m k)
    (h63 : n + m ≤ maxLen) (hbytes : (n + m) * i.bytes ≤ 140737488355328) (hbase : base ≤ w.heap.size)
    (h : ∀ A' cap' w', Ow w' base e E (.slice A' (n + m) cap') (n + m) (l ++ k) → w.grownBy w' v.ownBlock → wpList P ops Q rest (a.put o.dst (.slice A' (n + m) cap')) w') : wpList P ops Q (o :: rest) a w :=
  wpList_plain hgd fun _ hK => wp_append_rd w s x t ho base e i z E ht hi hz hsize hzs v n l hs hown A m c k hx hr h63 hbytes hbase fun A' cap' w' h2 h3 => hK _ _ (h A' cap' w' h2 h3)
end

/-- a new block that holds one element -/
theorem Rd.one_new (w : World) (E : Enc α) (a : α) (t : TypeId) : Rd (w.alloc (.cells (E.enc a).toArray t)) E (some ⟨w.heap.size, 0, none⟩) 1 [a] :=
  ⟨rfl, fun _ => ⟨w.heap.size, 0, rfl, fun j v hv => by
    rw [E.flat_one] at hv
    have := (Blk.new w t (E.enc a).toArray).cell j
    rw [Nat.zero_add, this]
    simpa using hv⟩⟩
theorem Rd.of_blk {w : World} {E : Enc α} {a : α} {t : TypeId} {g : Nat} (h : Blk w g t (E.enc a).toArray) : Rd w E (some ⟨g, 0, none⟩) 1 [a] :=
  ⟨rfl, fun _ => ⟨g, 0, rfl, fun j v hv => by
    rw [E.flat_one] at hv
    rw [Nat.zero_add, h.cell j]
    simpa using hv⟩⟩
end Go.Proofs.Ytipghbpkpnkmnaa
