/- Copies, clearings and in-place appends of rows whose elements are structs of several cells. Nothing of the program. -/
import Derived.Test.YtipghbpkpnkmnaaRow
import Derived.Shelf.Spec.SlicesInsert
import Derived.Laws.OwnMore
import Derived.Lib.AppendZerosOnto
namespace Go.Proofs.Ytipghbpkpnkmnaa
open Go.RowKit
variable {α : Type}
section
variable (P : Program)
theorem run_copy_rows (w : World) (dT sT ty elem : TypeId) (g o dLen dCap : Nat) (a : Addr) (sLen sCap : Nat) (cur : Array Value) (t : TypeId) (i : TypeInfo) (n : Nat) (cs : List Value)
    (hu : P.underlying dT = some (.slice elem)) (hq : P.info? elem = some i)
    (hg : w.heap[g]? = some (.cells cur t (0, 0))) (hn : n = min sLen dLen) (hcl : cs.length = n * i.size)
    (hsrc : ∀ j v, cs[j]? = some v → w.cell? (a.add j) = some v) (hfit : o + cs.length ≤ cur.size) (h1 : ∀ v ∈ cs, v.oneCell' = true) :
    (Builtin.copy_ #[dT, sT] ty #[.slice (some ⟨g, o, none⟩) dLen dCap, .slice (some a) sLen sCap]).run P w =
      .ok (goInt n) (w.setRow g (cur.toList.take o ++ cs ++ cur.toList.drop (o + cs.length)).toArray) := by
  have hl := run_loadCells_list (P := P) w a cs hsrc
  have hst := run_storeCells_at P g o t cs 0 cur w hg (by simpa using hfit) h1
  have hn' : Nat.min sLen dLen = n := hn.symm
  simp [Builtin.copy_, run_underlying hu, Builtin.lenOf, Builtin.firstCells, sizeOf, typeInfo, hq, hn', ← hcl, hl, hst]

theorem run_clear_rows (w : World) (t e ty : TypeId) (i : TypeInfo) (z : Value) (ht : P.underlying t = some (.slice e)) (hi : P.info? e = some i) (hz : i.zero = some z)
    (g o n c : Nat) (cur : Array Value) (hg : w.heap[g]? = some (.cells cur e (0, 0))) (h1 : ∀ v ∈ z.cells, v.oneCell' = true) (hfit : o + n * z.cells.size ≤ cur.size) (hn : 0 < n) :
    ∃ vs : List Value, vs.length = n * z.cells.size ∧ (Builtin.clear_ #[t] ty #[.slice (some ⟨g, o, none⟩) n c]).run P w =
      .ok (.tuple #[]) (w.setRow g (cur.toList.take o ++ vs ++ cur.toList.drop (o + vs.length)).toArray) := by
  refine ⟨(Builtin.zeroCells z.cells n).toList, by simp [Builtin.zeroCells], ?_⟩
  have hv : ∀ v ∈ (Builtin.zeroCells z.cells n).toList, v.oneCell' = true := by
    intro v hv
    simp only [Builtin.zeroCells, Array.toList_map, List.mem_map] at hv
    obtain ⟨k, hk, rfl⟩ := hv
    have hkn : k < n * z.cells.size := by simpa using hk
    have hpos : 0 < z.cells.size := by
      rcases Nat.eq_zero_or_pos z.cells.size with h | h
      · rw [h] at hkn; omega
      · exact h
    have hlt : k % z.cells.size < z.cells.size := Nat.mod_lt _ hpos
    rw [getElem!_pos z.cells _ hlt]
    exact h1 _ (Array.getElem_mem hlt)
  have hst := run_storeCells_at P g o e (Builtin.zeroCells z.cells n).toList 0 cur w hg (by simpa [Builtin.zeroCells] using hfit) hv
  obtain ⟨m, rfl⟩ : ∃ m, n = m + 1 := ⟨n - 1, by omega⟩
  simp only [Nat.add_zero] at hst
  simp [Builtin.clear_, run_underlying ht, zeroValue, typeInfo, hi, hz, hst]
end

theorem wp_clear_run {P : Program} (w : World) {o : Oper} {a : Act} {K : Act → World → Prop} {Q : Exit → Act → World → Prop} (s : Operand) (t : TypeId)
    (ho : o.op = .call { callee := .builtin .clear, args := #[s], argTypes := #[t] }) (v : Value) (hs : a.eval s = v) {v' : Value} {w' : World}
    (hr : (Builtin.clear_ #[t] o.type #[v]).run P w = .ok v' w') (h : K (a.put o.dst v') w') : o.wp P a w K Q := by
  unfold Oper.wp execOp
  simp only [ho, resolve, invoke, builtin, Sem.run_bind, Sem.run_pure, Result.andThen_ok, List.map_toArray, List.map_cons, List.map_nil, hs, hr]
  exact h
theorem wpList_clear_run {P : Program} (w : World) {ops : Array Oper} {rest : List Oper} {o : Oper} {a : Act} {Q : Exit → Act → World → Prop} (hgd : o.guard = none) (s : Operand) (t : TypeId)
    (ho : o.op = .call { callee := .builtin .clear, args := #[s], argTypes := #[t] }) (v : Value) (hs : a.eval s = v) {v' : Value} {w' : World}
    (hr : (Builtin.clear_ #[t] o.type #[v]).run P w = .ok v' w') (h : wpList P ops Q rest (a.put o.dst v') w') : wpList P ops Q (o :: rest) a w :=
  wpList_plain hgd fun _ hK => wp_clear_run w s t ho v hs hr (hK _ _ h)
theorem step_append_run {P : Program} {ops : Array Oper} {o : Oper} {a : Act} {w : World} {K : Act → World → Prop} {Q : Exit → Act → World → Prop} {E : Prop}
    (hg : o.guard = none) (d x : Operand) (dT sT : TypeId) (hop : o.op = Op.call { callee := Callee.builtin Builtin.append, args := #[d, x], argTypes := #[dT, sT] })
    (v u : Value) (hd : a.eval d = v) (hx : a.eval x = u) {v' : Value} {w' : World} (hr : (Builtin.append_ #[dT, sT] o.type #[v, u]).run P w = .ok v' w') (hK : K (a.put o.dst v') w') :
    if Region.wanted o (yielded ops a.tmps) = true then Oper.wp P o a w K Q else E := by
  have hw : Region.wanted o (yielded ops a.tmps) = true := by simp [Region.wanted, hg]
  rw [if_pos hw]
  unfold Oper.wp
  simp [execOp, hop, resolve, invoke, builtin, hd, hx, hr, Result.andThen]
  exact hK

/-- the row of an owned slice that has a block -/
theorem Ow.row {w : World} {base : Nat} {e : TypeId} {E : Enc α} {A : Option Addr} {n cap : Nat} {l : List α} (h : Ow w base e E (.slice A n cap) n l) (hn : 0 < n) :
    ∃ (g : Nat) (cur : Array Value), A = some ⟨g, 0, none⟩ ∧ base ≤ g ∧ w.heap[g]? = some (.cells cur e (0, 0)) ∧ n ≤ cap ∧ cap ≤ maxLen ∧ cur.size = cap * E.size ∧ cur.toList.take (n * E.size) = E.flat l := by
  rcases h.2.2 with ⟨h1, h2⟩ | ⟨g, cap', cur, hv, r⟩
  · omega
  · cases hv
    exact ⟨g, cur, rfl, r⟩
/-- .. and back -/
theorem Ow.mk_ {w : World} {base : Nat} {e : TypeId} {E : Enc α} {g n cap : Nat} {cur : Array Value} {l : List α} (hl : l.length = n) (hb : base ≤ g) (hg : w.heap[g]? = some (.cells cur e (0, 0))) (hn : n ≤ cap) (hc : cap ≤ maxLen) (hs : cur.size = cap * E.size) (ht : cur.toList.take (n * E.size) = E.flat l) :
    Ow w base e E (.slice (some ⟨g, 0, none⟩) n cap) n l :=
  ⟨hl, by rw [E.flat_length, hl], .inr ⟨g, cap, cur, rfl, hb, hg, hn, hc, hs, ht⟩⟩
theorem row_seg {β : Type} (cur cs xs : List β) (o p : Nat) (hcs : o + cs.length = p) (hp : p ≤ cur.length) (hx : cur.take o = xs) : (cur.take o ++ cs ++ cur.drop (o + cs.length)).take p = xs ++ cs := by
  subst hx hcs
  have h2 : (cur.take o).length = o := by rw [List.length_take]; omega
  rw [List.take_append_of_le_length (by rw [List.length_append, h2]; omega), List.take_of_length_le (by rw [List.length_append, h2]; omega)]
theorem row_len {β : Type} (cur cs : List β) (o : Nat) (h : o + cs.length ≤ cur.length) : (cur.take o ++ cs ++ cur.drop (o + cs.length)).length = cur.length := by
  simp; omega
theorem row_low {β : Type} (cur cs : List β) (o p : Nat) (h : p ≤ o) (ho : o ≤ cur.length) : (cur.take o ++ cs ++ cur.drop (o + cs.length)).take p = cur.take p := by
  have h2 : (cur.take o).length = o := by rw [List.length_take]; omega
  rw [List.append_assoc, List.take_append_of_le_length (by omega), List.take_take]
  congr 1; omega
theorem ins_room {β : Type} (L X D : List β) (a b : Nat) (hx : a + X.length = b) (hd : b + D.length ≤ L.length) :
    (((L.take b ++ D ++ L.drop (b + D.length)).take a ++ X ++ (L.take b ++ D ++ L.drop (b + D.length)).drop (a + X.length)).take (b + D.length)) = L.take a ++ X ++ D := by
  have hb : (L.take b).length = b := by rw [List.length_take]; omega
  have h1 : (L.take b ++ D ++ L.drop (b + D.length)).take a = L.take a := row_low L D b a (by omega) (by omega)
  have h2 : (L.take b ++ D ++ L.drop (b + D.length)).drop (a + X.length) = D ++ L.drop (b + D.length) := by
    rw [hx, List.append_assoc, List.drop_left' hb]
  rw [h1, h2, ← List.append_assoc (L.take a ++ X)]
  have ha : (L.take a).length = a := by rw [List.length_take]; omega
  exact List.take_left' (by simp only [List.length_append, ha]; omega)
theorem ins_grow {β : Type} (L X D : List β) (a b : Nat) (hx : a + X.length = b) (hd : b + D.length ≤ L.length) :
    (((L.take a ++ X ++ L.drop (a + X.length)).take b ++ D ++ (L.take a ++ X ++ L.drop (a + X.length)).drop (b + D.length)).take (b + D.length)) = L.take a ++ X ++ D := by
  refine row_seg _ D _ b _ rfl (by rw [row_len _ _ _ (by omega)]; omega) ?_
  exact row_seg L X _ a b hx (by omega) rfl
theorem grownBy_setRow {w w' : World} {g : Nat} {cs : Array Value} (h : w.grownBy w' (some g)) : w.grownBy (w'.setRow g cs) (some g) :=
  ⟨h.os, h.tape, h.output, by simpa using h.size, fun k hk hne => by rw [setRow_other _ _ _ _ (fun e => hne (by rw [e]))]; exact h.block k hk hne⟩
end Go.Proofs.Ytipghbpkpnkmnaa
