/- The copies that both make of a table that is checked; find, at. -/
import Derived.Test.YtipghbpkpnkmnaaWb
import Derived.Test.YtipghbpkpnkmnaaIns
import Derived.Laws.MakeOwn
namespace Go.Proofs.Ytipghbpkpnkmnaa
open Go.RowKit Go.BigFrame
set_option linter.unusedVariables false

/-- the table; nothing if it is not valid -/
def tab (l : List Link) : List Link := if chk l = 0 then l else []
theorem tab_ok {l : List Link} (h : chk l = 0) : tab l = l := if_pos h
theorem tab_no {l : List Link} (h : ¬ chk l = 0) : tab l = [] := if_neg h
theorem chk_len {l : List Link} (h : chk l = 0) : l.length ≤ 24 := by
  unfold chk at h
  split at h
  · omega
  · omega
theorem tab_len (l : List Link) : (tab l).length ≤ 24 := by
  by_cases h : chk l = 0
  · rw [tab_ok h]; exact chk_len h
  · rw [tab_no h]; simp

set_option maxHeartbeats 1000000 in
theorem valid27 (A : Option Addr) (n cap : Nat) (l : List Link) (w : World) (hn : n ≤ 9223372036854775807) (hr : Rd w EL A n l) : Calls Try.prog 27 #[.slice A n cap] w (SlEnd w (tab l)) := by
  obtain ⟨i0, hi0, hz0, hz1, hz2⟩ := info_parts info38
  have CK := Lib.hid (check15 A n cap l w hn hr)
  by_cases hc : chk l = 0
  · have HT := Lib.hid (tab_ok hc)
    have hl : n ≤ 24 := by have := chk_len hc; rw [hr.1] at this; exact this
    rw [hc] at CK
    clear hc
    go_enter Try.func27, Try.ntmps27
    go_wp2_with fail
    refine CK.out.mono ?_
    rintro e w1 ⟨rfl, hb1⟩
    go_wp2_with (at_builtin; refine wpList_append_rd _ rfl (.tmp 6) (.tmp 7) 22 rfl w1.heap.size 38 i0 _ EL Try.underlying22 hi0 hz0 hz1 rfl (.slice (some ⟨w1.heap.size, 0, none⟩) 0 0) 0 [] rfl ⟨rfl, World.ownsRow_made w1 #[] 0 (Nat.le_refl _) (Nat.zero_le _) rfl⟩ A n cap l rfl ((hr.later hb1).later ((Below.refl _ _).alloc (Nat.le_refl _) _)) (by unfold maxLen; omega) (by rw [hz2]; omega) (by simp) ?_; intro A1 cap1 w2 hown hg)
    go_ret
    refine ⟨A1, n, cap1, (by simp), ?_, ?_⟩
    · rw [HT.out]
      have h2 := hown.rebase hb1.size
      simpa using h2
    · exact (hb1.alloc hb1.size _).grown hg (by have := hb1.size; simp; omega) (fun k hk => by simp [Value.ownBlock] at hk; have := hb1.size; omega)
  · have HT := Lib.hid (tab_no hc)
    have hcb : (chk l != 0) = true := by rw [bne_iff_ne]; exact hc
    go_enter Try.func27, Try.ntmps27
    go_wp2_with fail
    refine CK.out.mono ?_
    rintro e w1 ⟨rfl, hb1⟩
    go_wp2
    go_ret
    exact ⟨none, 0, 0, rfl, by rw [HT.out]; exact Ow.nil _ _ _ _, hb1⟩

theorem below_row {B g : Nat} {w0 w : World} (hb : Below B w0 w) (hBg : B ≤ g) (cs : Array Value) : Below B w0 (w.setRow g cs) :=
  ⟨hb.os, hb.tape, hb.output, by simpa using hb.size, fun k hk => by rw [setRow_other _ _ _ _ (by omega)]; exact hb.block k hk⟩
theorem run_copy_nil_src {M : World} {cap0 : Nat} (ty : TypeId) (N : Nat) : (Builtin.copy_ #[22, 22] ty #[.slice (some ⟨N, 0, none⟩) 0 0, .slice none 0 cap0]).run Try.prog M = .ok (goInt 0) M := by
  obtain ⟨i0, hi0, hz0, hz1, hz2⟩ := info_parts info38
  simp [Builtin.copy_, run_underlying Try.underlying22, Builtin.lenOf, Builtin.firstCells, sizeOf, typeInfo, hi0, storeCells]
set_option maxHeartbeats 1000000 in
theorem table24 (A : Option Addr) (n cap : Nat) (l : List Link) (w : World) (hn : n ≤ 9223372036854775807) (hr : Rd w EL A n l) : Calls Try.prog 24 #[.slice A n cap] w (SlEnd w (tab l)) := by
  obtain ⟨i0, hi0, hz0, hz1, hz2⟩ := info_parts info38
  have CK := Lib.hid (check17 A n cap l w hn hr)
  by_cases hc : chk l = 0
  · have HT := Lib.hid (tab_ok hc)
    have hl : n ≤ 24 := by have := chk_len hc; rw [hr.1] at this; exact this
    rw [hc] at CK
    clear hc
    go_enter Try.func24, Try.ntmps24
    go_wp2_with fail
    refine CK.out.mono ?_
    rintro e w1 ⟨rfl, hb1⟩
    obtain ⟨M, hM⟩ : ∃ M, M = w1.alloc (.cells (madeCells (Value.cells (.agg #[.int .i64 0, .int .i64 0, .int .i64 0])) (n * 3)) 38) := ⟨_, rfl⟩
    have hmk : (Instr.makeSlice 22 (.int .i64 (n : Int)) (.int .i64 (n : Int))).run Try.prog w1 = .ok (.slice (some ⟨w1.heap.size, 0, none⟩) n n) M := by
      have := run_make (P := Try.prog) w1 22 38 i0 _ Try.underlying22 hi0 hz0 .i64 .i64 (n : Int) (n : Int) (by omega) (by omega) (by rw [hz2]; omega) (by omega)
      rw [hz1] at this
      rw [hM]
      simpa using this
    obtain ⟨N, hN⟩ : ∃ N, N = w1.heap.size := ⟨_, rfl⟩
    have hrM : M.heap[N]? = some (.cells (madeCells (Value.cells (.agg #[.int .i64 0, .int .i64 0, .int .i64 0])) (n * 3)) 38 (0, 0)) := by rw [hM, hN]; exact heap_alloc_new w1 _
    have hBM : Below w1.heap.size w1 M := by rw [hM]; exact (Below.refl _ _).alloc (Nat.le_refl _) _
    rw [← hN] at hmk
    have hcp : ∃ k M2, (∀ ty, (Builtin.copy_ #[22, 22] ty #[.slice (some ⟨N, 0, none⟩) n n, .slice A n cap]).run Try.prog M = .ok k M2) ∧ Ow M2 w.heap.size 38 EL (.slice (some ⟨N, 0, none⟩) n n) n l ∧ Below w1.heap.size w1 M2 := by
      rcases (hr.later hb1).cells with ⟨rfl, h0⟩ | ⟨a, rfl, hc⟩
      · subst h0
        obtain rfl : l = [] := List.eq_nil_of_length_eq_zero hr.1
        refine ⟨_, M, fun ty => run_copy_nil_src ty N, ?_, hBM⟩
        exact Ow.mk_ rfl (by rw [hN]; exact hb1.size) hrM (Nat.le_refl _) (by unfold maxLen; omega) (by simp [size_madeCells]) (by simp [Enc.flat])
      · have hcl : (EL.flat l).length = n * 3 := by rw [EL.flat_length, hr.1]; rfl
        refine ⟨_, _, fun ty => run_copy_rows Try.prog M 22 22 ty 38 N 0 n n a n cap _ 38 i0 n (EL.flat l) Try.underlying22 hi0 hrM (by omega) (by rw [hcl, hz1]) (fun j v hj => ?_) (by rw [hcl, size_madeCells]; omega) (EL.flat_one' l), ?_, ?_⟩
        · have hn0 : 0 < n := by have := (List.getElem?_eq_some_iff.1 hj).1; omega
          exact keep hBM (hc hn0 j v hj)
        · refine Ow.mk_ hr.1 (by rw [hN]; exact hb1.size) (setRow_heap _ _ _ _ _ _ hrM) (Nat.le_refl _) (by unfold maxLen; omega) ?_ ?_
          · rw [List.size_toArray, row_len _ _ _ (by rw [hcl, Array.length_toList, size_madeCells]; omega), Array.length_toList, size_madeCells]; rfl
          · rw [show EL.size = 3 from rfl]
            have := row_seg (madeCells (Value.cells (.agg #[.int .i64 0, .int .i64 0, .int .i64 0])) (n * 3)).toList (EL.flat l) [] 0 (n * 3) (by rw [hcl]; omega) (by rw [Array.length_toList, size_madeCells]; omega) (by simp)
            simpa using this
        · exact below_row hBM (by rw [hN]; exact Nat.le_refl _) _
    obtain ⟨k, M2, hcp, hOw, hB2⟩ := hcp
    clear hM hN hrM hBM CK
    go_wp2_with (at_builtin; refine wpList_copy_runI _ rfl _ _ 22 22 rfl _ _ rfl rfl (hcp _) ?_)
    go_wp2
    go_ret
    exact ⟨_, n, n, rfl, by rw [HT.out]; exact hOw, hb1.trans (hB2.mono hb1.size)⟩
  · have HT := Lib.hid (tab_no hc)
    have hcb : (chk l != 0) = true := by rw [bne_iff_ne]; exact hc
    go_enter Try.func24, Try.ntmps24
    go_wp2_with fail
    refine CK.out.mono ?_
    rintro e w1 ⟨rfl, hb1⟩
    go_wp2
    go_ret
    exact ⟨none, 0, 0, rfl, by rw [HT.out]; exact Ow.nil _ _ _ _, hb1⟩
end Go.Proofs.Ytipghbpkpnkmnaa
