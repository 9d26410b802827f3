/- slices.Insert of one element, at a row of structs that is the call's own. -/
import Derived.Test.YtipghbpkpnkmnaaLnk
import Derived.Test.YtipghbpkpnkmnaaIns
import Derived.Shelf.RegionOpenPlain
namespace Go.Proofs.Ytipghbpkpnkmnaa
open Go.RowKit Go.Shelf
set_option linter.unusedVariables false

/-- what Insert ends in -/
def InsEnd (base n : Nat) (r : List Link) (w : World) (row : Option Nat) (e : Ending) (w' : World) : Prop :=
  ∃ (A : Option Addr) (cap : Nat), e = .returned (.slice A n cap) ∧ Ow w' base 38 EL (.slice A n cap) n r ∧ w.grownBy w' row

/-- at the end -/
theorem insert26_end (base : Nat) (A : Option Addr) (n cap : Nat) (l : List Link) (x : Link) (vb : Nat) (w : World) (h64 : n ≤ 1000) (hown : Ow w base 38 EL (.slice A n cap) n l) (hbase : base ≤ w.heap.size) (hv : Blk w vb 38 (encL x).toArray) :
    Calls Try.prog 26 #[.slice A n cap, .int .i64 n, .slice (some ⟨vb, 0, none⟩) 1 1] w (InsEnd base (n + 1) (l ++ [x]) w (Value.ownBlock (.slice A n cap))) := by
  obtain ⟨i0, hi0, hz0, hz1, hz2⟩ := info_parts info38
  obtain ⟨hnc, hcm⟩ := hown.cap
  have hml : maxLen = 9223372036854775807 := rfl
  rcases Nat.eq_or_lt_of_le hnc with h | h
  · subst h
    go_enter Try.func26, Try.ntmps26
    go_wp2_with (at_builtin; refine wpList_append_rd _ rfl (.tmp 23) (.tmp 24) 22 rfl base 38 i0 _ EL Try.underlying22 hi0 hz0 hz1 rfl (.slice A n n) n l rfl hown (some ⟨vb, 0, none⟩) 1 1 [x] rfl (Rd.of_blk (E := EL) hv) (by omega) (by rw [hz2]; omega) hbase ?_; intro A1 cap1 w1 hown1 hg)
    go_wp2
    go_ret
    exact ⟨A1, cap1, rfl, hown1, hg⟩
  · have hne : ¬ (cap = n) := by omega
    go_enter Try.func26, Try.ntmps26
    go_wp2_with (at_builtin; refine wpList_append_rd _ rfl (.tmp 23) (.tmp 24) 22 rfl base 38 i0 _ EL Try.underlying22 hi0 hz0 hz1 rfl (.slice A n cap) n l rfl hown (some ⟨vb, 0, none⟩) 1 1 [x] rfl (Rd.of_blk (E := EL) hv) (by omega) (by rw [hz2]; omega) hbase ?_; intro A1 cap1 w1 hown1 hg)
    go_wp2
    go_ret
    exact ⟨A1, cap1, rfl, hown1, hg⟩

theorem overlaps39 (w : World) (vb g o : Nat) (x : Link) (cur : Array Value) (hne : vb ≠ g) (hv : Blk w vb 38 (encL x).toArray) (hg : w.heap[g]? = some (.cells cur 38 (0, 0))) (hs : cur.size ≠ 0) (lb cb : Nat) :
    (callFunc 39 #[.slice (some ⟨vb, 0, none⟩) 1 1, .slice (some ⟨g, o, none⟩) lb cb]).run Try.prog w = .ok (.value (.bool false)) w := by
  obtain ⟨i0, hi0, hz0, hz1, hz2⟩ := info_parts info38
  rw [run_callFunc_extern Try.func39 (by kernel_rfl) (by kernel_rfl) (by kernel_rfl) (e := Extern.SlicesOverlaps.overlaps #[22, 22] #[4]) (by kernel_rfl),
    Lib.run_overlaps_apart w 22 4 38 Try.underlying22 3 (fun w => by simp [sizeOf, typeInfo, hi0, hz1]) ⟨vb, 0, none⟩ ⟨g, o, none⟩ 1 1 lb cb hne 38 38 3 cur.size (by
      have hv' : w.heap[vb]? = some (.cells (encL x).toArray 38 (0, 0)) := hv
      simp [World.shape?, hv']; rfl) (by simp [World.shape?, hg]) hs (hv.frozen 0) (hv.frozen 3)]
  rfl

set_option maxHeartbeats 4000000 in
/-- in the midst, there is room -/
theorem insert26_room (base : Nat) (A : Option Addr) (i n cap : Nat) (l : List Link) (x : Link) (vb : Nat) (w : World) (h64 : n ≤ 1000) (hi : i < n) (hroom : n + 1 ≤ cap) (hown : Ow w base 38 EL (.slice A n cap) n l) (hv : Blk w vb 38 (encL x).toArray) (hvb : Value.ownBlock (.slice A n cap) ≠ some vb) :
    Calls Try.prog 26 #[.slice A n cap, .int .i64 i, .slice (some ⟨vb, 0, none⟩) 1 1] w (InsEnd base (n + 1) (l.take i ++ x :: l.drop i) w (Value.ownBlock (.slice A n cap))) := by
  obtain ⟨i0, hi0, hz0, hz1, hz2⟩ := info_parts info38
  obtain ⟨g, cur, rfl, hb, hg, hnc, hcm, hcs, htk⟩ := hown.row (by omega)
  have hml : maxLen = 9223372036854775807 := rfl
  have hll := hown.1
  have hsz : EL.size = 3 := rfl
  rw [hsz] at hcs htk
  have hne : vb ≠ g := fun e => hvb (by rw [e]; rfl)
  have hov := fun o lb cb => overlaps39 w vb g o x cur hne hv hg (by omega) lb cb
  have hcell : ∀ j u, (EL.flat l)[j]? = some u → w.cell? ⟨g, j, none⟩ = some u := fun j u hj => by
    rw [cell_of_row w g j cur 38 (0, 0) hg]
    rw [← htk, List.getElem?_take] at hj
    split at hj
    · simpa using hj
    · cases hj
  have hdl : (EL.flat (l.drop i)).length = (n - i) * 3 := by rw [EL.flat_length, List.length_drop, hll, hsz]
  have hxl : (encL x).length = 3 := rfl
  have hcl : cur.toList.length = cap * 3 := by rw [Array.length_toList, hcs]
  obtain ⟨cur1, hc1⟩ : ∃ c, c = (cur.toList.take ((i + 1) * 3) ++ EL.flat (l.drop i) ++ cur.toList.drop ((i + 1) * 3 + (EL.flat (l.drop i)).length)).toArray := ⟨_, rfl⟩
  obtain ⟨cur2, hc2⟩ : ∃ c, c = (cur1.toList.take (i * 3) ++ encL x ++ cur1.toList.drop (i * 3 + (encL x).length)).toArray := ⟨_, rfl⟩
  have hs1 : cur1.size = cap * 3 := by rw [hc1, List.size_toArray, row_len _ _ _ (by rw [hdl, hcl]; omega), hcl]
  have hs2 : cur2.size = cap * 3 := by rw [hc2, List.size_toArray, row_len _ _ _ (by rw [hxl, Array.length_toList, hs1]; omega), Array.length_toList, hs1]
  have hend : cur2.toList.take ((n + 1) * 3) = EL.flat (l.take i ++ x :: l.drop i) := by
    have := ins_room cur.toList (encL x) (EL.flat (l.drop i)) (i * 3) ((i + 1) * 3) (by rw [hxl]; omega) (by rw [hdl, hcl]; omega)
    rw [hc2, hc1]
    rw [show (n + 1) * 3 = (i + 1) * 3 + (EL.flat (l.drop i)).length by rw [hdl]; omega]
    rw [EL.flat_append, EL.flat_cons]
    refine this.trans ?_
    rw [List.append_assoc]
    congr 1
    rw [← EL.flat_take, ← htk, List.take_take, hsz]
    congr 1; omega
  obtain ⟨W1, hW1⟩ : ∃ W1, W1 = w.drew.setRow g cur1 := ⟨_, rfl⟩
  have hcp1 : ∀ ty dc sc, (Builtin.copy_ #[22, 22] ty #[.slice (some ⟨g, (i + 1) * 3, none⟩) (n - i) dc, .slice (some ⟨g, i * 3, none⟩) (n + 1 - i) sc]).run Try.prog w.drew = .ok (goInt ((n - i : Nat) : Int)) W1 := fun ty dc sc => by
    rw [hW1, hc1]
    refine run_copy_rows Try.prog w.drew 22 22 ty 38 g ((i + 1) * 3) (n - i) dc ⟨g, i * 3, none⟩ (n + 1 - i) sc cur 38 i0 (n - i) (EL.flat (l.drop i)) Try.underlying22 hi0 hg (by rw [Nat.min_def]; split <;> omega) (by rw [hdl, hz1]) ?_ (by rw [hdl, hcs]; omega) (EL.flat_one' _)
    intro j u hj
    rw [Addr.add_lit]
    apply hcell
    rw [← EL.flat_drop, List.getElem?_drop, hsz] at hj
    exact hj
  have hg1 : W1.heap[g]? = some (.cells cur1 38 (0, 0)) := by rw [hW1]; exact setRow_heap _ _ _ _ _ _ hg
  have hv1 : Blk W1 vb 38 (encL x).toArray := by
    rw [hW1]; exact (setRow_other _ _ _ _ hne).trans hv
  have hcp2 : ∀ ty dc, (Builtin.copy_ #[22, 22] ty #[.slice (some ⟨g, i * 3, none⟩) (n + 1 - i) dc, .slice (some ⟨vb, 0, none⟩) 1 1]).run Try.prog W1 = .ok (goInt 1) (W1.setRow g cur2) := fun ty dc => by
    rw [hc2]
    refine run_copy_rows Try.prog W1 22 22 ty 38 g (i * 3) (n + 1 - i) dc ⟨vb, 0, none⟩ 1 1 cur1 38 i0 1 (encL x) Try.underlying22 hi0 hg1 (by rw [Nat.min_def]; split <;> omega) (by rw [hxl, hz1]) ?_ (by rw [hxl, hs1]; omega) (EL.one x)
    intro j u hj
    rw [Addr.add_lit, Nat.zero_add, hv1.cell j]
    simpa using hj
  have hfin : Ow (W1.setRow g cur2) base 38 EL (.slice (some ⟨g, 0, none⟩) (n + 1) cap) (n + 1) (l.take i ++ x :: l.drop i) :=
    Ow.mk_ (by simp [hll]; omega) hb (setRow_heap _ _ _ _ _ _ hg1) hroom hcm hs2 hend
  have hgr : w.grownBy (W1.setRow g cur2) (some g) := grownBy_setRow (by rw [hW1]; exact grownBy_setRow ⟨rfl, rfl, rfl, Nat.le_refl _, fun _ _ _ => rfl⟩)
  have mixed : Try.prog.follows .mixedOrders = true := by kernel_rfl
  have hz2 : ¬ ((i : Int) = (n : Int)) := by omega
  have hw0 : IntKind.i64.wrap ((n : Int) + 1) = (n : Int) + 1 := by rw [IntKind.wrap_i64]; omega
  have hw1 : IntKind.i64.wrap ((i : Int) + 1) = (i : Int) + 1 := by rw [IntKind.wrap_i64]; omega
  have hb1 : (0 : Int) ≤ (i : Int) + 1 := by omega
  have hin : i ≤ n := by omega
  have htn : ((i : Int) + 1).toNat = i + 1 := by omega
  have htn2 : ((n : Int) + 1).toNat = n + 1 := by omega
  have hb2 : ¬ (cap = i + 1) := by omega
  have hb3 : (i : Int) ≤ (n : Int) + 1 := by omega
  have hb4 : ¬ (cap = i) := by omega
  have hb5 : (n : Int) + 1 ≤ (cap : Int) := by omega
  have hb6 : ¬ ((cap : Int) < (n : Int) + 1) := by omega
  have hb7 : (i : Int) + 1 ≤ (n : Int) + 1 := by omega
  have hb8 : (0 : Int) ≤ (n : Int) + 1 := by omega
  have hb9 : ¬ ((n : Int) = i) := by omega
  clear hcell hend hc1 hc2 hown hv hv1 hW1 htk hg hg1
  go_enter Try.func26, Try.ntmps26
  go_wp2_with (simp only [hov])
  go_region_law_o (refine step_copy_runI rfl _ _ 22 22 rfl _ _ (by simp [Act.eval, Act.put]) (by simp [Act.eval, Act.put]) (hcp1 _ _ _) ?_)
  go_wp2_with (at_builtin; refine wpList_copy_runI _ rfl _ _ 22 22 rfl _ _ rfl rfl (hcp2 _ _) ?_)
  go_wp2
  go_ret
  exact ⟨_, _, rfl, hfin, hgr⟩

set_option maxHeartbeats 4000000 in
/-- in the midst, no room -/
theorem insert26_grow (base : Nat) (A : Option Addr) (i n : Nat) (l : List Link) (x : Link) (vb : Nat) (w : World) (h64 : n ≤ 1000) (hi : i < n) (hown : Ow w base 38 EL (.slice A n n) n l) (hbase : base ≤ w.heap.size) (hv : Blk w vb 38 (encL x).toArray) :
    Calls Try.prog 26 #[.slice A n n, .int .i64 i, .slice (some ⟨vb, 0, none⟩) 1 1] w (InsEnd base (n + 1) (l.take i ++ x :: l.drop i) w (Value.ownBlock (.slice A n n))) := by
  obtain ⟨i0, hi0, hz0, hz1, hz2⟩ := info_parts info38
  obtain ⟨g, cur, rfl, hb, hg, hnc, hcm, hcs, htk⟩ := hown.row (by omega)
  have hml : maxLen = 9223372036854775807 := rfl
  have hll := hown.1
  have hsz : EL.size = 3 := rfl
  rw [hsz] at hcs htk
  have hgw : g < w.heap.size := (Array.getElem?_eq_some_iff.1 hg).1
  have hcell : ∀ j u, (EL.flat l)[j]? = some u → w.cell? ⟨g, j, none⟩ = some u := fun j u hj => by
    rw [cell_of_row w g j cur 38 (0, 0) hg]
    rw [← htk, List.getElem?_take] at hj
    split at hj
    · simpa using hj
    · cases hj
  have hdl : (EL.flat (l.drop i)).length = (n - i) * 3 := by rw [EL.flat_length, List.length_drop, hll, hsz]
  have htl : (EL.flat (l.take i)).length = i * 3 := by rw [EL.flat_length, List.length_take, hll, hsz]; congr 1; omega
  have hxl : (encL x).length = 3 := rfl
  have hold : (Builtin.firstCells i0.size i (.slice (some ⟨g, 0, none⟩) i n)).run Try.prog w.drew = .ok (EL.flat (l.take i)).toArray w.drew := by
    rw [hz1]
    exact run_firstCells_some w.drew 3 i ⟨g, 0, none⟩ i n _ htl (fun j v hj => by
      rw [Addr.add_lit, Nat.zero_add]
      rw [← EL.flat_take, List.getElem?_take] at hj
      split at hj
      · exact hcell j v hj
      · cases hj)
  have hkk : (n : Int) + 1 - (i : Int) = ((n + 1 - i : Nat) : Int) := by omega
  have hik : i + (n + 1 - i) = n + 1 := by omega
  obtain ⟨G, hG⟩ : ∃ G, G = grownCap w (n + 1) n 38 := ⟨_, rfl⟩
  have hGn : n + 1 ≤ G := by rw [hG]; exact grownCap_ge w _ _ _
  have hG63 : G ≤ 9223372036854775807 := by
    have := grownCap_le_maxLen w (n + 1) n 38 (by unfold maxLen; omega)
    rw [← hG] at this
    unfold maxLen at this
    omega
  have hrz : ∃ row W1, row.size = G * 3 ∧ row.toList.take (i * 3) = EL.flat (l.take i) ∧ W1 = w.drew.alloc (.cells row 38) ∧ ∀ ty, (Builtin.append_ #[22, 3] ty #[.slice (some ⟨g, 0, none⟩) i n, .int .i64 ((n : Int) + 1 - (i : Int))]).run Try.prog w = .ok (.slice (some ⟨w.heap.size, 0, none⟩) (n + 1) G) W1 := by
    have h := fun ty => Lib.run_append_grow_zeros (P := Try.prog) w 22 3 ty 38 i0 _ .i64 .i64 Try.underlying22 Try.underlying3 hi0 hz0 (some ⟨g, 0, none⟩) i n _ hold (n + 1 - i) (by omega) (by omega) (by omega) (by omega) (by rw [hz2]; omega) (by rw [hz2, hik]; exact growslice_fits (by omega) (by omega))
    rw [hik] at h
    rw [hkk]
    refine ⟨_, _, ?_, ?_, rfl, fun ty => by rw [hG]; exact h ty⟩
    · simp [Builtin.zeroCells, Value.cells, htl, ← hG]; omega
    · simp only [Array.toList_append, List.append_assoc]
      rw [List.take_left' htl]
  obtain ⟨row, W1, hrs, hrt, hW1, hrz⟩ := hrz
  obtain ⟨N, hN⟩ : ∃ N, N = w.heap.size := ⟨_, rfl⟩
  rw [← hN] at hrz
  have hr1 : W1.heap[N]? = some (.cells row 38 (0, 0)) := by rw [hW1, hN]; exact heap_alloc_new w.drew _
  have hB1 : Below w.heap.size w W1 := by rw [hW1]; exact (show Below w.heap.size w w.drew from ⟨rfl, rfl, rfl, Nat.le_refl _, fun _ _ => rfl⟩).alloc (Nat.le_refl _) _
  have hg1 : W1.heap[g]? = some (.cells cur 38 (0, 0)) := (hB1.block g hgw).trans hg
  have hv1 : Blk W1 vb 38 (encL x).toArray := hv.later hB1
  have hgN : g ≠ N := by omega
  obtain ⟨cur1, hc1⟩ : ∃ c, c = (row.toList.take (i * 3) ++ encL x ++ row.toList.drop (i * 3 + (encL x).length)).toArray := ⟨_, rfl⟩
  obtain ⟨cur2, hc2⟩ : ∃ c, c = (cur1.toList.take ((i + 1) * 3) ++ EL.flat (l.drop i) ++ cur1.toList.drop ((i + 1) * 3 + (EL.flat (l.drop i)).length)).toArray := ⟨_, rfl⟩
  have hs1 : cur1.size = G * 3 := by rw [hc1, List.size_toArray, row_len _ _ _ (by rw [hxl, Array.length_toList, hrs]; omega), Array.length_toList, hrs]
  have hs2 : cur2.size = G * 3 := by rw [hc2, List.size_toArray, row_len _ _ _ (by rw [hdl, Array.length_toList, hs1]; omega), Array.length_toList, hs1]
  have hend : cur2.toList.take ((n + 1) * 3) = EL.flat (l.take i ++ x :: l.drop i) := by
    have := ins_grow row.toList (encL x) (EL.flat (l.drop i)) (i * 3) ((i + 1) * 3) (by rw [hxl]; omega) (by rw [hdl, Array.length_toList, hrs]; omega)
    rw [hc2, hc1]
    rw [show (n + 1) * 3 = (i + 1) * 3 + (EL.flat (l.drop i)).length by rw [hdl]; omega]
    rw [EL.flat_append, EL.flat_cons]
    refine this.trans ?_
    rw [List.append_assoc, hrt]
    rfl
  obtain ⟨W2, hW2⟩ : ∃ W2, W2 = W1.setRow N cur1 := ⟨_, rfl⟩
  have hcp1 : ∀ ty dc, (Builtin.copy_ #[22, 22] ty #[.slice (some ⟨N, i * 3, none⟩) (n + 1 - i) dc, .slice (some ⟨vb, 0, none⟩) 1 1]).run Try.prog W1 = .ok (goInt 1) W2 := fun ty dc => by
    rw [hW2, hc1]
    refine run_copy_rows Try.prog W1 22 22 ty 38 N (i * 3) (n + 1 - i) dc ⟨vb, 0, none⟩ 1 1 row 38 i0 1 (encL x) Try.underlying22 hi0 hr1 (by rw [Nat.min_def]; split <;> omega) (by rw [hxl, hz1]) ?_ (by rw [hxl, hrs]; omega) (EL.one x)
    intro j u hj
    rw [Addr.add_lit, Nat.zero_add, hv1.cell j]
    simpa using hj
  have hr2 : W2.heap[N]? = some (.cells cur1 38 (0, 0)) := by rw [hW2]; exact setRow_heap _ _ _ _ _ _ hr1
  have hg2 : W2.heap[g]? = some (.cells cur 38 (0, 0)) := by rw [hW2]; exact (setRow_other _ _ _ _ hgN).trans hg1
  have hcp2 : ∀ ty dc sc, (Builtin.copy_ #[22, 22] ty #[.slice (some ⟨N, (i + 1) * 3, none⟩) (n - i) dc, .slice (some ⟨g, i * 3, none⟩) (n - i) sc]).run Try.prog W2.drew = .ok (goInt ((n - i : Nat) : Int)) (W2.drew.setRow N cur2) := fun ty dc sc => by
    rw [hc2]
    refine run_copy_rows Try.prog W2.drew 22 22 ty 38 N ((i + 1) * 3) (n - i) dc ⟨g, i * 3, none⟩ (n - i) sc cur1 38 i0 (n - i) (EL.flat (l.drop i)) Try.underlying22 hi0 hr2 (by rw [Nat.min_def]; split <;> omega) (by rw [hdl, hz1]) ?_ (by rw [hdl, hs1]; omega) (EL.flat_one' _)
    intro j u hj
    rw [Addr.add_lit]
    rw [← EL.flat_drop, List.getElem?_drop, hsz] at hj
    have h3 := hcell _ u hj
    rw [cell_of_row w g _ cur 38 (0, 0) hg] at h3
    rw [cell_of_row W2.drew g _ cur 38 (0, 0) hg2]
    exact h3
  have hfin : Ow (W2.drew.setRow N cur2) base 38 EL (.slice (some ⟨N, 0, none⟩) (n + 1) G) (n + 1) (l.take i ++ x :: l.drop i) :=
    Ow.mk_ (by simp [hll]; omega) (by omega) (setRow_heap W2.drew _ _ _ _ _ hr2) hGn hG63 hs2 hend
  have hgr : w.grownBy (W2.drew.setRow N cur2) (some g) :=
    ⟨by rw [hW2]; exact hB1.os, by rw [hW2]; exact hB1.tape, by rw [hW2]; exact hB1.output, by rw [hW2]; simpa using hB1.size, fun k hk _ => by
      rw [setRow_other _ _ _ _ (by omega)]
      show W2.heap[k]? = _
      rw [hW2, setRow_other _ _ _ _ (by omega)]
      exact hB1.block k hk⟩
  have mixed : Try.prog.follows .mixedOrders = true := by kernel_rfl
  have hq2 : ¬ ((i : Int) = (n : Int)) := by omega
  have hw0 : IntKind.i64.wrap ((n : Int) + 1) = (n : Int) + 1 := by rw [IntKind.wrap_i64]; omega
  have hw1 : IntKind.i64.wrap ((i : Int) + 1) = (i : Int) + 1 := by rw [IntKind.wrap_i64]; omega
  have hw2 : IntKind.i64.wrap ((n : Int) + 1 - (i : Int)) = (n : Int) + 1 - (i : Int) := by rw [IntKind.wrap_i64]; omega
  have hb1 : (0 : Int) ≤ (i : Int) + 1 := by omega
  have hin : i ≤ n := by omega
  have htn : ((i : Int) + 1).toNat = i + 1 := by omega
  have hb2 : ¬ (G = i + 1) := by omega
  have hb3 : (i : Int) ≤ (n : Int) + 1 := by omega
  have hb4 : ¬ (n = i) := by omega
  have hb5 : ¬ (G = i) := by omega
  have hb6 : (n : Int) < (n : Int) + 1 := by omega
  have hb7 : (i : Int) + 1 ≤ (n : Int) + 1 := by omega
  have hb9 : ¬ ((n : Int) = i) := by omega
  clear hcell hend hc1 hc2 hown hv hv1 hW1 hW2 htk hg hg1 hg2 hr1 hr2 hold hkk hik hG hB1 hN
  go_enter Try.func26, Try.ntmps26
  go_wp2_with (first
    | (at_builtin; refine Lib.wpList_append_run _ rfl _ _ _ _ rfl _ _ rfl rfl _ _ (hrz _) ?_)
    | (at_builtin; refine wpList_copy_runI _ rfl _ _ 22 22 rfl _ _ rfl rfl (hcp1 _ _) ?_))
  go_region_law_o (refine step_copy_runI rfl _ _ 22 22 rfl _ _ (by simp [Act.eval, Act.put]) (by simp [Act.eval, Act.put]) (hcp2 _ _ _) ?_)
  go_wp2
  go_ret
  exact ⟨_, _, rfl, hfin, hgr⟩

theorem insert26 (base : Nat) (A : Option Addr) (i n cap : Nat) (l : List Link) (x : Link) (vb : Nat) (w : World) (h64 : n ≤ 1000) (hi : i ≤ n) (hown : Ow w base 38 EL (.slice A n cap) n l) (hbase : base ≤ w.heap.size) (hv : Blk w vb 38 (encL x).toArray) (hvb : Value.ownBlock (.slice A n cap) ≠ some vb) :
    Calls Try.prog 26 #[.slice A n cap, .int .i64 i, .slice (some ⟨vb, 0, none⟩) 1 1] w (InsEnd base (n + 1) (l.take i ++ x :: l.drop i) w (Value.ownBlock (.slice A n cap))) := by
  rcases Nat.eq_or_lt_of_le hi with rfl | hlt
  · have h1 := insert26_end base A i cap l x vb w h64 hown hbase hv
    rw [List.take_of_length_le (by rw [hown.1]; omega), List.drop_eq_nil_of_le (by rw [hown.1]; omega)]
    exact h1
  · have hc := hown.cap
    by_cases h : cap = n
    · subst h
      exact insert26_grow base A i cap l x vb w h64 hlt hown hbase hv
    · exact insert26_room base A i n cap l x vb w h64 hlt (by omega) hown hv hvb
end Go.Proofs.Ytipghbpkpnkmnaa
