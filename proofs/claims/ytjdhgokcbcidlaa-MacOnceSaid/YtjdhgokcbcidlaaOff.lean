/- append of one element to a slice that starts in the midst of a row of the call's own. Nothing of the program. -/
import Derived.Test.YtjdhgokcbcidlaaIns
namespace Go.Proofs.Ytjdhgokcbcidlaa
open Go.RowKit
variable {α : Type}
theorem Rd.cells1 {w : World} {E : Enc α} {a : Addr} {x : α} (h : Rd w E (some a) 1 [x]) : ∀ j u, (E.enc x)[j]? = some u → w.cell? (a.add j) = some u := by
  rcases h.cells with ⟨h1, _⟩ | ⟨a', h1, hc⟩
  · cases h1
  · cases h1
    intro j u hj
    exact hc (by omega) j u (by rw [E.flat_one]; exact hj)
theorem run_append_off {P : Program} (w : World) (t ty e : TypeId) (i : TypeInfo) (z : Value) (E : Enc α) (ht : P.underlying t = some (.slice e)) (hi : P.info? e = some i) (hz : i.zero = some z)
    (hsize : i.size = E.size) (hzs : z.cells.size = E.size) (g off n cap : Nat) (cur : Array Value) (l : List α) (hg : w.heap[g]? = some (.cells cur e (0, 0))) (hll : l.length = n) (hnc : n ≤ cap) (hcm : cap ≤ maxLen)
    (hsz : cur.size = (off + cap) * E.size) (htk : ∀ j u, (E.flat l)[j]? = some u → cur[off * E.size + j]? = some u)
    (a : Addr) (x : α) (hr : Rd w E (some a) 1 [x]) (h63 : n + 1 ≤ maxLen) (hbytes : (n + 1) * i.bytes ≤ 140737488355328) :
    ∃ A' cap' w', (Builtin.append_ #[t, t] ty #[.slice (some ⟨g, off * E.size, none⟩) n cap, .slice (some a) 1 1]).run P w = .ok (.slice A' (n + 1) cap') w' ∧ Rd w' E A' (n + 1) (l ++ [x]) ∧ n + 1 ≤ cap' ∧ cap' ≤ maxLen ∧ w.grownBy w' (some g) := by
  have hml : maxLen = 9223372036854775807 := rfl
  have hfl : (E.flat l).length = n * E.size := by rw [E.flat_length, hll]
  have hxl : (E.enc x).length = E.size := E.len x
  have hpos := E.pos
  have hnews : (E.enc x).length = 1 * i.size := by rw [hxl, hsize, Nat.one_mul]
  have hll1 : (l ++ [x]).length = n + 1 := by simp [hll]
  by_cases hroom : n + 1 ≤ cap
  · have hfit : off * E.size + n * E.size + (E.enc x).length ≤ cur.size := by
      rw [hxl, hsz, Nat.add_mul]
      have : (n + 1) * E.size ≤ cap * E.size := Nat.mul_le_mul_right _ hroom
      rw [Nat.add_mul] at this
      omega
    have hf := run_firstCells_some (P := P) w i.size 1 a 1 1 (E.enc x) hnews hr.cells1
    have hst := run_storeCells_at P g (off * E.size + n * E.size) e (E.enc x) 0 cur w hg (by simpa using hfit) (E.one x)
    simp only [Nat.add_zero] at hst
    refine ⟨some ⟨g, off * E.size, none⟩, cap, w.setRow g (cur.toList.take (off * E.size + n * E.size) ++ E.enc x ++ cur.toList.drop (off * E.size + n * E.size + (E.enc x).length)).toArray, ?_, ⟨hll1, fun _ => ⟨g, off * E.size, rfl, fun j v hj => ?_⟩⟩, hroom, hcm, ⟨rfl, rfl, rfl, by simp, fun k _ hk => setRow_other w g k _ (fun e => hk (by rw [e]))⟩⟩
    · rw [← hsize] at hst ⊢
      simp [Builtin.append_, run_underlying ht, sizeOf, typeInfo, hi, Builtin.lenOf, hroom, hf, Addr.add_lit, hst]
    · rw [cell_of_row _ g _ _ e (0, 0) (setRow_heap w g cur _ e _ hg)]
      have hto : (cur.toList.take (off * E.size + n * E.size)).length = off * E.size + n * E.size := by rw [List.length_take, Array.length_toList]; omega
      rw [E.flat_append, E.flat_one] at hj
      simp only [List.getElem?_toArray]
      rcases Nat.lt_or_ge j (n * E.size) with hlt | hge
      · rw [List.getElem?_append_left (by rw [hfl]; exact hlt)] at hj
        rw [List.append_assoc, List.getElem?_append_left (by rw [hto]; omega), List.getElem?_take, if_pos (by omega)]
        have := htk j v hj
        simpa using this
      · rw [List.getElem?_append_right (by rw [hfl]; exact hge), hfl] at hj
        have hk : j - n * E.size < E.size := by
          have hh := (List.getElem?_eq_some_iff.1 hj).1
          rw [hxl] at hh
          exact hh
        rw [List.append_assoc, List.getElem?_append_right (by rw [hto]; omega), hto, List.getElem?_append_left (by rw [hxl]; omega)]
        rw [show off * E.size + j - (off * E.size + n * E.size) = j - n * E.size by omega]
        exact hj
  · have holds : ∀ j u, (E.flat l)[j]? = some u → w.cell? ((⟨g, off * E.size, none⟩ : Addr).add j) = some u := fun j u hj => by
      rw [Addr.add_lit, cell_of_row w g _ cur e (0, 0) hg]
      have := htk j u hj
      simpa using this
    have hrun := run_append_grow (P := P) w t ty e i z ht hi hz ⟨g, off * E.size, none⟩ n cap (E.flat l) (by rw [hfl, hsize]) holds a 1 1 (E.enc x) hnews hr.cells1 (by omega) (by omega) (growslice_fits (by omega) hbytes)
    refine ⟨_, _, _, hrun, ⟨hll1, fun _ => ⟨w.heap.size, 0, rfl, fun j v hj => ?_⟩⟩, grownCap_ge w _ _ _, grownCap_le_maxLen w _ _ _ h63, ⟨rfl, rfl, rfl, by simp, fun k hk _ => by rw [heap_alloc_old w.drew _ hk]; rfl⟩⟩
    rw [Nat.zero_add, cell_of_row _ w.heap.size j _ e (0, 0) (heap_alloc_new w.drew _)]
    rw [E.flat_append, E.flat_one] at hj
    have hlt : j < (E.flat l ++ E.enc x).length := (List.getElem?_eq_some_iff.1 hj).1
    rw [← Array.getElem?_toList]
    simp only [Array.toList_append]
    rw [List.getElem?_append_left (by simpa using hlt)]
    exact hj
theorem wpList_append_off {P : Program} (w : World) {ops : Array Oper} {rest : List Oper} {o : Oper} {a0 : Act} {Q : Exit → Act → World → Prop} (hgd : o.guard = none) (s xx : Operand) (t : TypeId)
    (ho : o.op = .call { callee := .builtin .append, args := #[s, xx], argTypes := #[t, t] }) (vs vx v' : Value) (w' : World) (hs : a0.eval s = vs) (hx : a0.eval xx = vx)
    (hr : (Builtin.append_ #[t, t] o.type #[vs, vx]).run P w = .ok v' w') (h : wpList P ops Q rest (a0.put o.dst v') w') : wpList P ops Q (o :: rest) a0 w :=
  wpList_plain hgd fun _ hK => by
    unfold Oper.wp execOp
    simp only [ho, resolve, invoke, builtin, Sem.run_bind, Sem.run_pure, Result.andThen_ok, List.map_toArray, List.map_cons, List.map_nil, hs, hx, hr]
    exact hK _ _ h
end Go.Proofs.Ytjdhgokcbcidlaa
