/- New, Clone, sane, table. -/
import Derived.Test.YtlmoeempblgdkaaWc
import Derived.Lib.SliceRun
namespace Go.Proofs.Ytlmoeempblgdkaa
open Go.RowKit Go.BigFrame
set_option linter.unusedVariables false
set_option linter.unusedSimpArgs false

theorem wpList_append_run {P : Program} (w : World) {ops : Array Oper} {rest : List Oper} {o : Oper} {a : Act} {Q : Exit → Act → World → Prop} (hgd : o.guard = none) (s x : Operand) (t tn : TypeId)
    (ho : o.op = .call { callee := .builtin .append, args := #[s, x], argTypes := #[t, tn] }) (v u : Value) (hs : a.eval s = v) (hx : a.eval x = u) {v' : Value} {w' : World}
    (hr : (Builtin.append_ #[t, tn] o.type #[v, u]).run P w = .ok v' w') (h : wpList P ops Q rest (a.put o.dst v') w') : wpList P ops Q (o :: rest) a w :=
  wpList_plain hgd fun _ hK => by
    unfold Oper.wp execOp
    simp only [ho, resolve, invoke, builtin, Sem.run_bind, Sem.run_pure, Result.andThen_ok, List.map_toArray, List.map_cons, List.map_nil, hs, hx, hr]
    exact hK _ _ h

theorem ow_one (a : Rt) (w : World) : Ow (w.alloc (.cells (rtC a) 40)) w.heap.size 40 ER (.slice (some ⟨w.heap.size, 0, none⟩) 1 1) 1 [a] :=
  Ow.mk_ rfl (Nat.le_refl _) (Blk.new w 40 (rtC a)) (Nat.le_refl _) (by unfold maxLen; omega) (by simp [ER]) (by simp [Enc.flat, ER, encR])
theorem append_own {α : Type} {P : Program} (w : World) (base : Nat) (t ty e : TypeId) (i : TypeInfo) (z : Value) (E : Enc α) (ht : P.underlying t = some (.slice e)) (hi : P.info? e = some i) (hz : i.zero = some z)
    (hsize : i.size = E.size) (hzs : z.cells.size = E.size) (v : Value) (n : Nat) (l : List α) (hown : Ow w base e E v n l)
    (A : Option Addr) (m c : Nat) (k : List α) (hr : Rd w E A m k) (h63 : n + m ≤ maxLen) (hbytes : (n + m) * i.bytes ≤ 140737488355328) (hbase : base ≤ w.heap.size) :
    ∃ (B : Option Addr) (cap : Nat) (w' : World), (Builtin.append_ #[t, t] ty #[v, .slice A m c]).run P w = .ok (.slice B (n + m) cap) w' ∧ Ow w' base e E (.slice B (n + m) cap) (n + m) (l ++ k) ∧ w.grownBy w' v.ownBlock := by
  obtain ⟨v', w', h1, h2, h3, _⟩ := run_append_rd (P := P) w base t ty e i z E ht hi hz hsize hzs v n l hown A m c k hr h63 hbytes hbase
  rcases h2.2.2 with ⟨rfl, h0⟩ | ⟨g, cap, cur, rfl, _⟩
  · exact ⟨none, 0, w', by rw [h1, h0], by rw [h0] at h2 ⊢; exact h2, h3⟩
  · exact ⟨_, _, w', h1, h2, h3⟩
theorem new23 (self : Int) (w : World) : Calls Try.prog 23 #[.int .i64 self] w (SlEnd w [own (lim self) 0]) := by
  go_enter Try.func23, Try.ntmps23
  go_wp2_with fail
  refine (limit30 self w).mono ?_
  rintro e w' ⟨rfl, rfl⟩
  go_wp2_with fail
  refine (own42 (lim self) 0 w).mono ?_
  rintro e w1 ⟨rfl, hb1⟩
  have ho := Lib.hid ((ow_one (own (lim self) 0) w1).rebase (base' := w.heap.size) hb1.size)
  have hb2 := hb1.alloc hb1.size (.cells (rtC (own (lim self) 0)) 40)
  go_wp2
  go_ret
  exact ⟨_, 1, 1, rfl, ho.out, hb2⟩
theorem new24 (self : Int) (w : World) : Calls Try.prog 24 #[.int .i64 self] w (SlEnd w [own (lim self) 0]) := by
  go_enter Try.func24, Try.ntmps24
  go_wp2_with fail
  refine (limit37 self w).mono ?_
  rintro e w' ⟨rfl, rfl⟩
  have ho := Lib.hid (ow_one (own (lim self) 0) w)
  have hb2 := (Below.refl w.heap.size w).alloc (Nat.le_refl _) (.cells (rtC (own (lim self) 0)) 40)
  go_wp2
  go_ret
  exact ⟨_, 1, 1, rfl, ho.out, hb2⟩
theorem rd_none {w : World} {n : Nat} {t : List Rt} (h : Rd w ER none n t) : n = 0 := by
  rcases Nat.eq_zero_or_pos n with h0 | h0
  · exact h0
  · obtain ⟨_, _, e, _⟩ := h.2 h0; cases e
theorem ow_empty (w : World) : Ow (w.alloc (.cells #[] 40)) w.heap.size 40 ER (.slice (some ⟨w.heap.size, 0, none⟩) 0 0) 0 [] :=
  Ow.mk_ rfl (Nat.le_refl _) (Blk.new w 40 #[]) (Nat.zero_le _) (by unfold maxLen; omega) (by simp) (by simp [Enc.flat])
set_option maxHeartbeats 2000000 in
theorem clone44 (A : Option Addr) (n cap : Nat) (t : List Rt) (w : World) (hn : n ≤ 100) (hr : Rd w ER A n t) :
    Calls Try.prog 44 #[.slice A n cap] w (SlEnd w t) := by
  obtain ⟨i0, hi0, hz0, hz1, hz2⟩ := info_parts info40
  cases A with
  | none =>
    obtain rfl := rd_none hr
    obtain rfl : t = [] := List.eq_nil_of_length_eq_zero hr.1
    have he := fun (w : World) => Lib.run_eql_slice_nil (P := Try.prog) w 22 40 none 0 cap 0 0 Try.underlying22
    go_enter Try.func44, Try.ntmps44
    go_wp2
    go_ret
    exact ⟨none, 0, 0, rfl, Ow.nil _ _ _ _, Below.refl _ _⟩
  | some a =>
    have bA : Below w.heap.size w (w.alloc (.cells #[] 40)) := (Below.refl _ _).alloc (Nat.le_refl _) _
    obtain ⟨B, p, V, hrun, ho, hg⟩ := append_own (P := Try.prog) (w.alloc (.cells #[] 40)) w.heap.size 22 22 40 i0 _ ER Try.underlying22 hi0 hz0 hz1 rfl _ 0 [] (ow_empty w) (some a) n cap t (hr.later bA) (by unfold maxLen; omega) (by rw [hz2]; omega) bA.size
    have b1 := Below.row bA hg bA.size (Nat.le_refl _) (ow_empty w).lt
    have HO := Lib.hid ho
    have HB := Lib.hid b1
    clear ho hg b1 bA
    have he := fun (w : World) => Lib.run_eql_slice_nil (P := Try.prog) w 22 40 (some a) n cap 0 0 Try.underlying22
    go_enter Try.func44, Try.ntmps44
    go_wp2_with (at_builtin; refine wpList_append_run (w.alloc (.cells #[] 40)) rfl (.tmp 5) (.tmp 6) 22 22 rfl _ _ rfl rfl hrun ?_)
    go_ret
    have h1 := HO.out
    rw [Nat.zero_add, List.nil_append] at h1
    exact ⟨B, n, p, rfl, h1, HB.out⟩
theorem tab_yes {t : List Rt} {self : Int} (h : chk t (lim self) = 0) : tab t self = t := by unfold tab; rw [if_pos h]
theorem tab_no {t : List Rt} {self : Int} (h : chk t (lim self) ≠ 0) : tab t self = [own (lim self) 0] := by unfold tab; rw [if_neg h]
theorem lim_lim (n : Int) : lim (lim n) = lim n := by unfold lim; split <;> split <;> (try split) <;> omega
theorem sane31 (A : Option Addr) (n cap : Nat) (t : List Rt) (self : Int) (w : World) (hn : n ≤ 100) (hr : Rd w ER A n t) :
    Calls Try.prog 31 #[.slice A n cap, .int .i64 (lim self)] w (SlEnd w (tab t self)) := by
  have C := Lib.hid (check25 A n cap t (lim self) w (by omega) hr)
  by_cases hc : chk t (lim self) = 0
  · rw [hc] at C
    have HT := Lib.hid (tab_yes hc)
    clear hc
    go_enter Try.func31, Try.ntmps31
    go_wp2_with fail
    refine C.out.mono ?_
    rintro e w1 ⟨rfl, hb1⟩
    go_wp2_with fail
    refine (clone44 A n cap t w1 hn (hr.later hb1)).mono ?_
    rintro e w2 ⟨B, m, p, rfl, ho, hb2⟩
    have ho2 := ho.rebase (base' := w.heap.size) hb1.size
    have hb3 := hb1.trans (hb2.mono hb1.size)
    clear ho hb2
    go_wp2
    go_ret
    exact ⟨B, m, p, rfl, by rw [HT.out]; exact ho2, hb3⟩
  · have hc' : (chk t (lim self) == 0) = false := by rw [beq_eq_false_iff_ne]; exact hc
    have hc2 : (chk t (lim self) != 0) = true := by rw [bne, hc']; rfl
    have HT := Lib.hid (tab_no hc)
    have HC := Lib.hid hc
    clear hc
    go_enter Try.func31, Try.ntmps31
    go_wp2_with fail
    refine C.out.mono ?_
    rintro e w1 ⟨rfl, hb1⟩
    go_wp2_with fail
    all_goals first | (exfalso; simp_all; done) | skip
    refine (new23 (lim self) w1).mono ?_
    rintro e w2 ⟨B, m, p, rfl, ho, hb2⟩
    have ho2 := ho.rebase (base' := w.heap.size) hb1.size
    have hb3 := hb1.trans (hb2.mono hb1.size)
    rw [lim_lim] at ho2
    clear ho hb2 hc' hc2
    go_wp2
    go_ret
    exact ⟨B, m, p, rfl, by rw [HT.out]; exact ho2, hb3⟩
set_option maxHeartbeats 2000000 in
theorem table36 (A : Option Addr) (n cap : Nat) (t : List Rt) (self : Int) (w : World) (hn : n ≤ 100) (hr : Rd w ER A n t) :
    Calls Try.prog 36 #[.slice A n cap, .int .i64 self] w (SlEnd w (tab t self)) := by
  obtain ⟨i0, hi0, hz0, hz1, hz2⟩ := info_parts info40
  have C := Lib.hid (check22 A n cap t (lim self) w (by omega) hr)
  by_cases hc : chk t (lim self) = 0
  · rw [hc] at C
    have HT := Lib.hid (tab_yes hc)
    clear hc
    go_enter Try.func36, Try.ntmps36
    go_wp2_with fail
    refine (limit37 self w).mono ?_
    rintro e w' ⟨rfl, rfl⟩
    go_wp2_with fail
    refine C.out.mono ?_
    rintro e w1 ⟨rfl, hb1⟩
    have bA : Below w1.heap.size w1 (w1.alloc (.cells #[] 40)) := (Below.refl _ _).alloc (Nat.le_refl _) _
    obtain ⟨B, p, V, hrun, ho, hg⟩ := append_own (P := Try.prog) (w1.alloc (.cells #[] 40)) w1.heap.size 22 22 40 i0 _ ER Try.underlying22 hi0 hz0 hz1 rfl _ 0 [] (ow_empty w1) A n cap t ((hr.later hb1).later bA) (by unfold maxLen; omega) (by rw [hz2]; omega) bA.size
    have b1 := Below.row bA hg bA.size (Nat.le_refl _) (ow_empty w1).lt
    have HO := Lib.hid (ho.rebase (base' := w.heap.size) hb1.size)
    have HB := Lib.hid (hb1.trans (b1.mono hb1.size))
    clear ho hg b1 bA
    go_wp2_with (at_builtin; refine wpList_append_run (w1.alloc (.cells #[] 40)) rfl (.tmp 12) (.tmp 13) 22 22 rfl _ _ rfl rfl hrun ?_)
    go_ret
    have h1 := HO.out
    rw [Nat.zero_add, List.nil_append] at h1
    exact ⟨B, n, p, rfl, by rw [HT.out]; exact h1, HB.out⟩
  · have hc' : (chk t (lim self) == 0) = false := by rw [beq_eq_false_iff_ne]; exact hc
    have hc2 : (chk t (lim self) != 0) = true := by rw [bne, hc']; rfl
    have HT := Lib.hid (tab_no hc)
    have HC := Lib.hid hc
    clear hc
    go_enter Try.func36, Try.ntmps36
    go_wp2_with fail
    refine (limit37 self w).mono ?_
    rintro e w' ⟨rfl, rfl⟩
    go_wp2_with fail
    refine C.out.mono ?_
    rintro e w1 ⟨rfl, hb1⟩
    go_wp2_with fail
    all_goals first | (exfalso; simp_all; done) | skip
    refine (new24 self w1).mono ?_
    rintro e w2 ⟨B, m, p, rfl, ho, hb2⟩
    have ho2 := ho.rebase (base' := w.heap.size) hb1.size
    have hb3 := hb1.trans (hb2.mono hb1.size)
    clear ho hb2 hc' hc2
    go_wp2
    go_ret
    exact ⟨B, m, p, rfl, by rw [HT.out]; exact ho2, hb3⟩
end Go.Proofs.Ytlmoeempblgdkaa
