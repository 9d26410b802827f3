/- slices.Grow of nil, slices.Concat of two lists. -/
import Derived.Test.YtkdnkieecchobaaKys
namespace Go.Proofs.Ytkdnkieecchobaa
open Go.RowKit Go.BigFrame
set_option linter.unusedVariables false

theorem wpList_append_run {P : Program} (w : World) {ops : Array Oper} {rest : List Oper} {o : Oper} {a : Act} {Q : Exit → Act → World → Prop} (hgd : o.guard = none) (s x : Operand) (t tn : TypeId)
    (ho : o.op = .call { callee := .builtin .append, args := #[s, x], argTypes := #[t, tn] }) (v u : Value) (hs : a.eval s = v) (hx : a.eval x = u) {v' : Value} {w' : World}
    (hr : (Builtin.append_ #[t, tn] o.type #[v, u]).run P w = .ok v' w') (h : wpList P ops Q rest (a.put o.dst v') w') : wpList P ops Q (o :: rest) a w :=
  wpList_plain hgd fun _ hK => by
    unfold Oper.wp execOp
    simp only [ho, resolve, invoke, builtin, Sem.run_bind, Sem.run_pure, Result.andThen_ok, List.map_toArray, List.map_cons, List.map_nil, hs, hx, hr]
    exact hK _ _ h

set_option maxHeartbeats 1000000 in
theorem grow54 (k : Nat) (w : World) (hk : k ≤ 400) :
    Calls Try.prog 54 #[.slice none 0 0, .int .i64 k] w fun e w' => ∃ (A : Option Addr) (cap : Nat), e = .returned (.slice A 0 cap) ∧ Ow w' w.heap.size 32 EK (.slice A 0 cap) 0 [] ∧ Below w.heap.size w w' := by
  obtain ⟨i0, hi0, hz0, hz1, hz2⟩ := info_parts info32
  rcases Nat.eq_zero_or_pos k with h0 | h0
  · subst h0
    go_enter Try.func54, Try.ntmps54
    go_wp2
    go_ret
    exact ⟨none, 0, rfl, Ow.nil _ _ _ _, Below.refl _ _⟩
  · have hu3 : Try.prog.underlying 3 = some (.int .i64) := by kernel_rfl
    have hrun := fun ty => Lib.run_append_grow_zeros (P := Try.prog) w 22 3 ty 32 i0 _ .i64 .i64 Try.underlying22 hu3 hi0 hz0 none 0 0 [] (by simp [Builtin.firstCells]) k h0 (by rw [hz1]; decide) (by omega) (by omega) (by rw [hz2]; omega) (by rw [Nat.zero_add, nextslicecap_zero h0, hz2]; omega)
    have hp : (0 : Int) < (k : Int) := by omega
    obtain ⟨cap, w', hrun', ho, hb⟩ : ∃ (cap : Nat) (w' : World), (∀ ty, (Builtin.append_ #[22, 3] ty #[.slice none 0 0, .int .i64 k]).run Try.prog w = .ok (.slice (some ⟨w.heap.size, 0, none⟩) k cap) w') ∧ Ow w' w.heap.size 32 EK (.slice (some ⟨w.heap.size, 0, none⟩) 0 cap) 0 [] ∧ Below w.heap.size w w' := by
      refine ⟨_, _, fun ty => (hrun ty).trans (by rw [Nat.zero_add]), ?_, (Below.drew (Below.refl _ _)).alloc (Nat.le_refl _) _⟩
      have hg := grownCap_ge w (0 + k) 0 32
      refine Ow.mk_ rfl (Nat.le_refl _) (Blk.new w.drew 32 _) (Nat.zero_le _) (by rw [← Nat.zero_add k]; exact grownCap_le_maxLen w _ _ _ (by unfold maxLen; omega)) ?_ (by simp [Enc.flat])
      simp only [Array.size_append, size_zeroCells]
      show 0 + k * 3 + (grownCap w k 0 32 - k) * 3 = grownCap w k 0 32 * 3
      rw [Nat.zero_add] at hg
      rw [Nat.sub_mul]
      have := Nat.mul_le_mul_right 3 hg
      omega
    have HR := Lib.hid hrun'
    have HO := Lib.hid ho
    clear hrun hrun' ho hz1 hz2
    go_enter Try.func54, Try.ntmps54
    go_wp2_with (at_builtin; refine wpList_append_run w rfl (.tmp 20) (.tmp 21) 22 3 rfl (.slice none 0 0) (.int .i64 k) rfl rfl (HR.out _) ?_)
    go_ret
    exact ⟨_, _, rfl, HO.out, hb⟩

set_option maxRecDepth 20000 in
set_option maxHeartbeats 2000000 in
theorem concat40 (g n1 c1 n2 c2 : Nat) (A1 A2 : Option Addr) (l1 l2 : List Ky) (w : World) (hk : Blk w g 22 #[.slice A1 n1 c1, .slice A2 n2 c2]) (b1 : n1 ≤ 200) (b2 : n2 ≤ 200) (r1 : Rd w EK A1 n1 l1) (r2 : Rd w EK A2 n2 l2) :
    Calls Try.prog 40 #[.slice (some ⟨g, 0, none⟩) 2 2] w fun e w' => ∃ (A : Option Addr) (cap : Nat), e = .returned (.slice A (n1 + n2) cap) ∧ Ow w' w.heap.size 32 EK (.slice A (n1 + n2) cap) (n1 + n2) (l1 ++ l2) ∧ Below w.heap.size w w' := by
  obtain ⟨i0, hi0, hz0, hz1, hz2⟩ := info_parts info32
  have k0 := hk.at 0 (v := .slice A1 n1 c1) rfl
  have k1 := hk.at 1 (v := .slice A2 n2 c2) rfl
  go_enter Try.func40, Try.ntmps40
  go_wp2
  go_loopw [3, 11] (fun s i wr => wr = w ∧ ∃ j sz : Nat, ((j = 0 ∧ sz = 0) ∨ (j = 1 ∧ sz = n1) ∨ (j = 2 ∧ sz = n1 + n2)) ∧ i = .int .i64 j ∧ s = .int .i64 sz) (fun _ i _ => 2 - (intOf i).toNat)
  case atStart => exact ⟨rfl, 0, 0, .inl ⟨rfl, rfl⟩, rfl, rfl⟩
  case round =>
    obtain ⟨rfl, j, sz, hj, rfl, rfl⟩ := hrel
    rcases hj with ⟨rfl, rfl⟩ | ⟨rfl, rfl⟩ | ⟨rfl, rfl⟩
    · have hnn : ¬ ((n1 : Int) < 0) := by omega
      go_wp2
      go_roundw
      case rel => exact ⟨trivial, 1, n1, .inr (.inl ⟨rfl, rfl⟩), rfl, by go_num⟩
      case measure => simp [intOf]
    · have hnn : ¬ ((sz : Int) + (n2 : Int) < 0) := by omega
      go_wp2
      go_roundw
      case rel => exact ⟨trivial, 2, sz + n2, .inr (.inr ⟨rfl, rfl⟩), rfl, by go_num⟩
      case measure => simp [intOf]
    · have G := Lib.hid (grow54 (n1 + n2) wr (by omega))
      go_wp2_with fail
      refine G.out.mono ?_
      rintro e w1 ⟨A, cap, rfl, ho, hb⟩
      have r1' := r1.later hb
      have r2' := r2.later hb
      have hk' := hk.later hb
      clear k0 k1 G
      go_wp2
      obtain ⟨wo, rfl⟩ : ∃ wo : World, wo = wr := ⟨_, rfl⟩
      go_loopw [6, 27] (fun s i w2 => ∃ (j m cp : Nat) (B : Option Addr) (l : List Ky), ((j = 0 ∧ m = 0 ∧ l = []) ∨ (j = 1 ∧ m = n1 ∧ l = l1) ∨ (j = 2 ∧ m = n1 + n2 ∧ l = l1 ++ l2)) ∧ i = .int .i64 j ∧ s = .slice B m cp ∧ Ow w2 wo.heap.size 32 EK (.slice B m cp) m l ∧ Below wo.heap.size wo w2) (fun _ i _ => 2 - (intOf i).toNat)
      case atStart => exact ⟨0, 0, cap, A, [], .inl ⟨rfl, rfl, rfl⟩, rfl, rfl, ho, hb⟩
      case round =>
        clear ho hb r1' r2' hk'
        obtain ⟨j, m, cp, B, l, hj, rfl, rfl, ho, hb⟩ := hrel
        have k0 := (hk.later hb).at 0 (v := .slice A1 n1 c1) rfl
        have k1 := (hk.later hb).at 1 (v := .slice A2 n2 c2) rfl
        rcases hj with ⟨rfl, rfl, rfl⟩ | ⟨rfl, rfl, rfl⟩ | ⟨rfl, rfl, rfl⟩
        · go_wp2_with (at_builtin; refine wpList_append_rd _ rfl (.tmp 31) (.tmp 32) 22 rfl wo.heap.size 32 i0 _ EK Try.underlying22 hi0 hz0 hz1 rfl (.slice B 0 cp) 0 [] rfl ho A1 n1 c1 l1 rfl (r1.later hb) (by unfold maxLen; omega) (by rw [hz2]; omega) hb.size ?_; intro A' cap' w3 ho3 hg)
          have hb3 := Below.row hb hg hb.size (Nat.le_refl _) ho.lt
          rw [Nat.zero_add, List.nil_append] at ho3
          clear hg ho hb k0 k1
          go_roundw
          case rel => exact ⟨1, n1, cap', A', l1, .inr (.inl ⟨rfl, rfl, rfl⟩), by go_num, by go_num, ho3, hb3⟩
          case measure => simp [intOf]
        · go_wp2_with (at_builtin; refine wpList_append_rd _ rfl (.tmp 31) (.tmp 32) 22 rfl wo.heap.size 32 i0 _ EK Try.underlying22 hi0 hz0 hz1 rfl (.slice B m cp) m l rfl ho A2 n2 c2 l2 rfl (r2.later hb) (by unfold maxLen; omega) (by rw [hz2]; omega) hb.size ?_; intro A' cap' w3 ho3 hg)
          have hb3 := Below.row hb hg hb.size (Nat.le_refl _) ho.lt
          clear hg ho hb k0 k1
          go_roundw
          case rel => exact ⟨2, m + n2, cap', A', l ++ l2, .inr (.inr ⟨rfl, rfl, rfl⟩), by go_num, rfl, ho3, hb3⟩
          case measure => simp [intOf]
        · clear k0 k1
          go_wp2
          go_ret
          exact ⟨B, cp, rfl, ho, hb⟩

set_option maxHeartbeats 1000000 in
theorem grow55 (k : Nat) (w : World) (hk : k ≤ 400) :
    Calls Try.prog 55 #[.slice none 0 0, .int .i64 k] w fun e w' => ∃ (A : Option Addr) (cap : Nat), e = .returned (.slice A 0 cap) ∧ Ow w' w.heap.size 34 EK (.slice A 0 cap) 0 [] ∧ Below w.heap.size w w' := by
  obtain ⟨i0, hi0, hz0, hz1, hz2⟩ := info_parts info34
  rcases Nat.eq_zero_or_pos k with h0 | h0
  · subst h0
    go_enter Try.func55, Try.ntmps55
    go_wp2
    go_ret
    exact ⟨none, 0, rfl, Ow.nil _ _ _ _, Below.refl _ _⟩
  · have hu3 : Try.prog.underlying 3 = some (.int .i64) := by kernel_rfl
    have hrun := fun ty => Lib.run_append_grow_zeros (P := Try.prog) w 23 3 ty 34 i0 _ .i64 .i64 Try.underlying23 hu3 hi0 hz0 none 0 0 [] (by simp [Builtin.firstCells]) k h0 (by rw [hz1]; decide) (by omega) (by omega) (by rw [hz2]; omega) (by rw [Nat.zero_add, nextslicecap_zero h0, hz2]; omega)
    have hp : (0 : Int) < (k : Int) := by omega
    obtain ⟨cap, w', hrun', ho, hb⟩ : ∃ (cap : Nat) (w' : World), (∀ ty, (Builtin.append_ #[23, 3] ty #[.slice none 0 0, .int .i64 k]).run Try.prog w = .ok (.slice (some ⟨w.heap.size, 0, none⟩) k cap) w') ∧ Ow w' w.heap.size 34 EK (.slice (some ⟨w.heap.size, 0, none⟩) 0 cap) 0 [] ∧ Below w.heap.size w w' := by
      refine ⟨_, _, fun ty => (hrun ty).trans (by rw [Nat.zero_add]), ?_, (Below.drew (Below.refl _ _)).alloc (Nat.le_refl _) _⟩
      have hg := grownCap_ge w (0 + k) 0 34
      refine Ow.mk_ rfl (Nat.le_refl _) (Blk.new w.drew 34 _) (Nat.zero_le _) (by rw [← Nat.zero_add k]; exact grownCap_le_maxLen w _ _ _ (by unfold maxLen; omega)) ?_ (by simp [Enc.flat])
      simp only [Array.size_append, size_zeroCells]
      show 0 + k * 3 + (grownCap w k 0 34 - k) * 3 = grownCap w k 0 34 * 3
      rw [Nat.zero_add] at hg
      rw [Nat.sub_mul]
      have := Nat.mul_le_mul_right 3 hg
      omega
    have HR := Lib.hid hrun'
    have HO := Lib.hid ho
    clear hrun hrun' ho hz1 hz2
    go_enter Try.func55, Try.ntmps55
    go_wp2_with (at_builtin; refine wpList_append_run w rfl (.tmp 20) (.tmp 21) 23 3 rfl (.slice none 0 0) (.int .i64 k) rfl rfl (HR.out _) ?_)
    go_ret
    exact ⟨_, _, rfl, HO.out, hb⟩

set_option maxRecDepth 20000 in
set_option maxHeartbeats 2000000 in
theorem concat41 (g n1 c1 n2 c2 : Nat) (A1 A2 : Option Addr) (l1 l2 : List Ky) (w : World) (hk : Blk w g 23 #[.slice A1 n1 c1, .slice A2 n2 c2]) (b1 : n1 ≤ 200) (b2 : n2 ≤ 200) (r1 : Rd w EK A1 n1 l1) (r2 : Rd w EK A2 n2 l2) :
    Calls Try.prog 41 #[.slice (some ⟨g, 0, none⟩) 2 2] w fun e w' => ∃ (A : Option Addr) (cap : Nat), e = .returned (.slice A (n1 + n2) cap) ∧ Ow w' w.heap.size 34 EK (.slice A (n1 + n2) cap) (n1 + n2) (l1 ++ l2) ∧ Below w.heap.size w w' := by
  obtain ⟨i0, hi0, hz0, hz1, hz2⟩ := info_parts info34
  have k0 := hk.at 0 (v := .slice A1 n1 c1) rfl
  have k1 := hk.at 1 (v := .slice A2 n2 c2) rfl
  go_enter Try.func41, Try.ntmps41
  go_wp2
  go_loopw [3, 11] (fun s i wr => wr = w ∧ ∃ j sz : Nat, ((j = 0 ∧ sz = 0) ∨ (j = 1 ∧ sz = n1) ∨ (j = 2 ∧ sz = n1 + n2)) ∧ i = .int .i64 j ∧ s = .int .i64 sz) (fun _ i _ => 2 - (intOf i).toNat)
  case atStart => exact ⟨rfl, 0, 0, .inl ⟨rfl, rfl⟩, rfl, rfl⟩
  case round =>
    obtain ⟨rfl, j, sz, hj, rfl, rfl⟩ := hrel
    rcases hj with ⟨rfl, rfl⟩ | ⟨rfl, rfl⟩ | ⟨rfl, rfl⟩
    · have hnn : ¬ ((n1 : Int) < 0) := by omega
      go_wp2
      go_roundw
      case rel => exact ⟨trivial, 1, n1, .inr (.inl ⟨rfl, rfl⟩), rfl, by go_num⟩
      case measure => simp [intOf]
    · have hnn : ¬ ((sz : Int) + (n2 : Int) < 0) := by omega
      go_wp2
      go_roundw
      case rel => exact ⟨trivial, 2, sz + n2, .inr (.inr ⟨rfl, rfl⟩), rfl, by go_num⟩
      case measure => simp [intOf]
    · have G := Lib.hid (grow55 (n1 + n2) wr (by omega))
      go_wp2_with fail
      refine G.out.mono ?_
      rintro e w1 ⟨A, cap, rfl, ho, hb⟩
      have r1' := r1.later hb
      have r2' := r2.later hb
      have hk' := hk.later hb
      clear k0 k1 G
      go_wp2
      obtain ⟨wo, rfl⟩ : ∃ wo : World, wo = wr := ⟨_, rfl⟩
      go_loopw [6, 27] (fun s i w2 => ∃ (j m cp : Nat) (B : Option Addr) (l : List Ky), ((j = 0 ∧ m = 0 ∧ l = []) ∨ (j = 1 ∧ m = n1 ∧ l = l1) ∨ (j = 2 ∧ m = n1 + n2 ∧ l = l1 ++ l2)) ∧ i = .int .i64 j ∧ s = .slice B m cp ∧ Ow w2 wo.heap.size 34 EK (.slice B m cp) m l ∧ Below wo.heap.size wo w2) (fun _ i _ => 2 - (intOf i).toNat)
      case atStart => exact ⟨0, 0, cap, A, [], .inl ⟨rfl, rfl, rfl⟩, rfl, rfl, ho, hb⟩
      case round =>
        clear ho hb r1' r2' hk'
        obtain ⟨j, m, cp, B, l, hj, rfl, rfl, ho, hb⟩ := hrel
        have k0 := (hk.later hb).at 0 (v := .slice A1 n1 c1) rfl
        have k1 := (hk.later hb).at 1 (v := .slice A2 n2 c2) rfl
        rcases hj with ⟨rfl, rfl, rfl⟩ | ⟨rfl, rfl, rfl⟩ | ⟨rfl, rfl, rfl⟩
        · go_wp2_with (at_builtin; refine wpList_append_rd _ rfl (.tmp 31) (.tmp 32) 23 rfl wo.heap.size 34 i0 _ EK Try.underlying23 hi0 hz0 hz1 rfl (.slice B 0 cp) 0 [] rfl ho A1 n1 c1 l1 rfl (r1.later hb) (by unfold maxLen; omega) (by rw [hz2]; omega) hb.size ?_; intro A' cap' w3 ho3 hg)
          have hb3 := Below.row hb hg hb.size (Nat.le_refl _) ho.lt
          rw [Nat.zero_add, List.nil_append] at ho3
          clear hg ho hb k0 k1
          go_roundw
          case rel => exact ⟨1, n1, cap', A', l1, .inr (.inl ⟨rfl, rfl, rfl⟩), by go_num, by go_num, ho3, hb3⟩
          case measure => simp [intOf]
        · go_wp2_with (at_builtin; refine wpList_append_rd _ rfl (.tmp 31) (.tmp 32) 23 rfl wo.heap.size 34 i0 _ EK Try.underlying23 hi0 hz0 hz1 rfl (.slice B m cp) m l rfl ho A2 n2 c2 l2 rfl (r2.later hb) (by unfold maxLen; omega) (by rw [hz2]; omega) hb.size ?_; intro A' cap' w3 ho3 hg)
          have hb3 := Below.row hb hg hb.size (Nat.le_refl _) ho.lt
          clear hg ho hb k0 k1
          go_roundw
          case rel => exact ⟨2, m + n2, cap', A', l ++ l2, .inr (.inr ⟨rfl, rfl, rfl⟩), by go_num, rfl, ho3, hb3⟩
          case measure => simp [intOf]
        · clear k0 k1
          go_wp2
          go_ret
          exact ⟨B, cp, rfl, ho, hb⟩

set_option maxHeartbeats 1000000 in
theorem grow56 (k : Nat) (w : World) (hk : k ≤ 400) :
    Calls Try.prog 56 #[.slice none 0 0, .int .i64 k] w fun e w' => ∃ (A : Option Addr) (cap : Nat), e = .returned (.slice A 0 cap) ∧ Ow w' w.heap.size 9 ET (.slice A 0 cap) 0 [] ∧ Below w.heap.size w w' := by
  obtain ⟨i0, hi0, hz0, hz1, hz2⟩ := info_parts info9
  rcases Nat.eq_zero_or_pos k with h0 | h0
  · subst h0
    go_enter Try.func56, Try.ntmps56
    go_wp2
    go_ret
    exact ⟨none, 0, rfl, Ow.nil _ _ _ _, Below.refl _ _⟩
  · have hu3 : Try.prog.underlying 3 = some (.int .i64) := by kernel_rfl
    have hrun := fun ty => Lib.run_append_grow_zeros (P := Try.prog) w 24 3 ty 9 i0 _ .i64 .i64 Try.underlying24 hu3 hi0 hz0 none 0 0 [] (by simp [Builtin.firstCells]) k h0 (by rw [hz1]; decide) (by omega) (by omega) (by rw [hz2]; omega) (by rw [Nat.zero_add, nextslicecap_zero h0, hz2]; omega)
    have hp : (0 : Int) < (k : Int) := by omega
    obtain ⟨cap, w', hrun', ho, hb⟩ : ∃ (cap : Nat) (w' : World), (∀ ty, (Builtin.append_ #[24, 3] ty #[.slice none 0 0, .int .i64 k]).run Try.prog w = .ok (.slice (some ⟨w.heap.size, 0, none⟩) k cap) w') ∧ Ow w' w.heap.size 9 ET (.slice (some ⟨w.heap.size, 0, none⟩) 0 cap) 0 [] ∧ Below w.heap.size w w' := by
      refine ⟨_, _, fun ty => (hrun ty).trans (by rw [Nat.zero_add]), ?_, (Below.drew (Below.refl _ _)).alloc (Nat.le_refl _) _⟩
      have hg := grownCap_ge w (0 + k) 0 9
      refine Ow.mk_ rfl (Nat.le_refl _) (Blk.new w.drew 9 _) (Nat.zero_le _) (by rw [← Nat.zero_add k]; exact grownCap_le_maxLen w _ _ _ (by unfold maxLen; omega)) ?_ (by simp [Enc.flat])
      simp only [Array.size_append, size_zeroCells]
      show 0 + k * 1 + (grownCap w k 0 9 - k) * 1 = grownCap w k 0 9 * 1
      rw [Nat.zero_add] at hg
      rw [Nat.sub_mul]
      have := Nat.mul_le_mul_right 1 hg
      omega
    have HR := Lib.hid hrun'
    have HO := Lib.hid ho
    clear hrun hrun' ho hz1 hz2
    go_enter Try.func56, Try.ntmps56
    go_wp2_with (at_builtin; refine wpList_append_run w rfl (.tmp 20) (.tmp 21) 24 3 rfl (.slice none 0 0) (.int .i64 k) rfl rfl (HR.out _) ?_)
    go_ret
    exact ⟨_, _, rfl, HO.out, hb⟩

set_option maxRecDepth 20000 in
set_option maxHeartbeats 2000000 in
theorem concat42 (g n1 c1 n2 c2 : Nat) (A1 A2 : Option Addr) (l1 l2 : List ByteArray) (w : World) (hk : Blk w g 24 #[.slice A1 n1 c1, .slice A2 n2 c2]) (b1 : n1 ≤ 200) (b2 : n2 ≤ 200) (r1 : Rd w ET A1 n1 l1) (r2 : Rd w ET A2 n2 l2) :
    Calls Try.prog 42 #[.slice (some ⟨g, 0, none⟩) 2 2] w fun e w' => ∃ (A : Option Addr) (cap : Nat), e = .returned (.slice A (n1 + n2) cap) ∧ Ow w' w.heap.size 9 ET (.slice A (n1 + n2) cap) (n1 + n2) (l1 ++ l2) ∧ Below w.heap.size w w' := by
  obtain ⟨i0, hi0, hz0, hz1, hz2⟩ := info_parts info9
  have k0 := hk.at 0 (v := .slice A1 n1 c1) rfl
  have k1 := hk.at 1 (v := .slice A2 n2 c2) rfl
  go_enter Try.func42, Try.ntmps42
  go_wp2
  go_loopw [3, 11] (fun s i wr => wr = w ∧ ∃ j sz : Nat, ((j = 0 ∧ sz = 0) ∨ (j = 1 ∧ sz = n1) ∨ (j = 2 ∧ sz = n1 + n2)) ∧ i = .int .i64 j ∧ s = .int .i64 sz) (fun _ i _ => 2 - (intOf i).toNat)
  case atStart => exact ⟨rfl, 0, 0, .inl ⟨rfl, rfl⟩, rfl, rfl⟩
  case round =>
    obtain ⟨rfl, j, sz, hj, rfl, rfl⟩ := hrel
    rcases hj with ⟨rfl, rfl⟩ | ⟨rfl, rfl⟩ | ⟨rfl, rfl⟩
    · have hnn : ¬ ((n1 : Int) < 0) := by omega
      go_wp2
      go_roundw
      case rel => exact ⟨trivial, 1, n1, .inr (.inl ⟨rfl, rfl⟩), rfl, by go_num⟩
      case measure => simp [intOf]
    · have hnn : ¬ ((sz : Int) + (n2 : Int) < 0) := by omega
      go_wp2
      go_roundw
      case rel => exact ⟨trivial, 2, sz + n2, .inr (.inr ⟨rfl, rfl⟩), rfl, by go_num⟩
      case measure => simp [intOf]
    · have G := Lib.hid (grow56 (n1 + n2) wr (by omega))
      go_wp2_with fail
      refine G.out.mono ?_
      rintro e w1 ⟨A, cap, rfl, ho, hb⟩
      have r1' := r1.later hb
      have r2' := r2.later hb
      have hk' := hk.later hb
      clear k0 k1 G
      go_wp2
      obtain ⟨wo, rfl⟩ : ∃ wo : World, wo = wr := ⟨_, rfl⟩
      go_loopw [6, 27] (fun s i w2 => ∃ (j m cp : Nat) (B : Option Addr) (l : List ByteArray), ((j = 0 ∧ m = 0 ∧ l = []) ∨ (j = 1 ∧ m = n1 ∧ l = l1) ∨ (j = 2 ∧ m = n1 + n2 ∧ l = l1 ++ l2)) ∧ i = .int .i64 j ∧ s = .slice B m cp ∧ Ow w2 wo.heap.size 9 ET (.slice B m cp) m l ∧ Below wo.heap.size wo w2) (fun _ i _ => 2 - (intOf i).toNat)
      case atStart => exact ⟨0, 0, cap, A, [], .inl ⟨rfl, rfl, rfl⟩, rfl, rfl, ho, hb⟩
      case round =>
        clear ho hb r1' r2' hk'
        obtain ⟨j, m, cp, B, l, hj, rfl, rfl, ho, hb⟩ := hrel
        have k0 := (hk.later hb).at 0 (v := .slice A1 n1 c1) rfl
        have k1 := (hk.later hb).at 1 (v := .slice A2 n2 c2) rfl
        rcases hj with ⟨rfl, rfl, rfl⟩ | ⟨rfl, rfl, rfl⟩ | ⟨rfl, rfl, rfl⟩
        · go_wp2_with (at_builtin; refine wpList_append_rd _ rfl (.tmp 31) (.tmp 32) 24 rfl wo.heap.size 9 i0 _ ET Try.underlying24 hi0 hz0 hz1 rfl (.slice B 0 cp) 0 [] rfl ho A1 n1 c1 l1 rfl (r1.later hb) (by unfold maxLen; omega) (by rw [hz2]; omega) hb.size ?_; intro A' cap' w3 ho3 hg)
          have hb3 := Below.row hb hg hb.size (Nat.le_refl _) ho.lt
          rw [Nat.zero_add, List.nil_append] at ho3
          clear hg ho hb k0 k1
          go_roundw
          case rel => exact ⟨1, n1, cap', A', l1, .inr (.inl ⟨rfl, rfl, rfl⟩), by go_num, by go_num, ho3, hb3⟩
          case measure => simp [intOf]
        · go_wp2_with (at_builtin; refine wpList_append_rd _ rfl (.tmp 31) (.tmp 32) 24 rfl wo.heap.size 9 i0 _ ET Try.underlying24 hi0 hz0 hz1 rfl (.slice B m cp) m l rfl ho A2 n2 c2 l2 rfl (r2.later hb) (by unfold maxLen; omega) (by rw [hz2]; omega) hb.size ?_; intro A' cap' w3 ho3 hg)
          have hb3 := Below.row hb hg hb.size (Nat.le_refl _) ho.lt
          clear hg ho hb k0 k1
          go_roundw
          case rel => exact ⟨2, m + n2, cap', A', l ++ l2, .inr (.inr ⟨rfl, rfl, rfl⟩), by go_num, rfl, ho3, hb3⟩
          case measure => simp [intOf]
        · clear k0 k1
          go_wp2
          go_ret
          exact ⟨B, cp, rfl, ho, hb⟩
end Go.Proofs.Ytkdnkieecchobaa
