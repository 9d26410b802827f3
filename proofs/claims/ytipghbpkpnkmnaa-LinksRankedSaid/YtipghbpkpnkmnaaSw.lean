/- The sort of the program meets its contract; what Best returns. -/
import Derived.Test.YtipghbpkpnkmnaaSv
namespace Go.Proofs.Ytipghbpkpnkmnaa
open Go.RowKit Go.BigFrame
set_option linter.unusedVariables false

theorem sort37 (cs : Int → Int) (W0 : World) (B g n cap : Nat) (p : Option Addr) (L0 : List Int) (hn : n ≤ 24) (hcs : ∀ x, 0 ≤ cs x ∧ cs x ≤ 1000) (hC : CmpOk cs W0 B p) (hBW : B ≤ W0.heap.size)
    (hu : Up L0 0 n) (ho : Ow W0 B 3 EI (.slice (some ⟨g, 0, none⟩) n cap) n L0) :
    Calls Try.prog 37 #[.slice (some ⟨g, 0, none⟩) n cap, cmpV p] W0 (SoEnd W0 B g n cap (fun L => Mv 0 n L0 L ∧ Sd cs L 0 n)) := by
  have IS := Lib.hid (stable43 cs W0 B g n cap p L0 hn hcs hC hBW hu ho)
  clear hcs hC hu ho
  go_enter Try.func37, Try.ntmps37
  go_wp2_with fail
  refine IS.out.mono ?_
  rintro e w1 ⟨rfl, L1, hq, ho1, hb1⟩
  go_wp2
  go_end0
  exact ⟨rfl, L1, hq, ho1, hb1⟩

/-- in order of cost and number, as a test -/
def lxb (cs : Int → Int) (x y : Int) : Bool := decide (cs x < cs y ∨ (cs x = cs y ∧ x < y))
theorem lxb_iff {cs : Int → Int} {x y : Int} : lxb cs x y = true ↔ lx cs x y := by unfold lxb lx; exact decide_eq_true_iff
theorem lxb_lin (cs : Int → Int) : Lin (lxb cs) := by
  refine ⟨fun a => ?_, fun a b c h1 h2 => ?_, fun a b h1 h2 => ?_⟩
  · unfold lxb; exact decide_eq_false (by omega)
  · rw [lxb_iff] at *; exact lx_trans h1 h2
  · unfold lxb at h1 h2
    have e1 := of_decide_eq_false h1
    have e2 := of_decide_eq_false h2
    omega
theorem srt_of_sd {cs : Int → Int} {L : List Int} {n : Nat} (hl : L.length = n) (h : Sd cs L 0 n) : Srt (lxb cs) L := by
  refine List.pairwise_iff_getElem.2 fun i j hi hj hij => ?_
  have := h i j (Nat.zero_le _) hij (by omega)
  have e1 := gv_at (L := L) hi
  have e2 := gv_at (L := L) hj
  rw [List.getElem?_eq_getElem hi] at e1
  rw [List.getElem?_eq_getElem hj] at e2
  rw [Option.some.inj e1, Option.some.inj e2, lxb_iff]
  exact this
theorem mem_of_mv {L M : List Int} {n : Nat} (hl : L.length = n) (h : Mv 0 n L M) (z : Int) : z ∈ M ↔ z ∈ L := by
  have hm : M.length = n := h.len.trans hl
  constructor
  · intro hz
    obtain ⟨i, hi, rfl⟩ := List.getElem_of_mem hz
    obtain ⟨k, _, hk, e⟩ := h.fwd i (Nat.zero_le _) (by omega)
    have e1 := gv_at (L := M) hi
    rw [List.getElem?_eq_getElem hi] at e1
    rw [Option.some.inj e1, e]
    exact List.mem_of_getElem? (gv_at (L := L) (by omega))
  · intro hz
    obtain ⟨i, hi, rfl⟩ := List.getElem_of_mem hz
    obtain ⟨k, _, hk, e⟩ := h.bwd i (Nat.zero_le _) (by omega)
    have e1 := gv_at (L := L) hi
    rw [List.getElem?_eq_getElem hi] at e1
    rw [Option.some.inj e1, e]
    exact List.mem_of_getElem? (gv_at (L := M) (by omega))
/-- the numbers in order of cost -/
def bestS (t : List Link) : List Int := setO (lxb (costT t)) (bestU t t)
theorem bestU_up {t : List Link} (h : Sorted t) : (bestU t t).Pairwise (· < ·) := by
  unfold bestU
  rw [List.pairwise_map]
  exact List.Pairwise.filter _ h
theorem up_of_pairwise {L : List Int} {n : Nat} (hl : L.length = n) (h : L.Pairwise (· < ·)) : Up L 0 n := by
  intro i j _ hij hj
  have := (List.pairwise_iff_getElem.1 h) i j (by omega) (by omega) hij
  have e1 := gv_at (L := L) (i := i) (by omega)
  have e2 := gv_at (L := L) (i := j) (by omega)
  rw [List.getElem?_eq_getElem (by omega)] at e1 e2
  rw [← Option.some.inj e1, ← Option.some.inj e2]
  exact this
theorem ceil_bd {x y : Int} (h0 : 0 ≤ x) (h1 : x ≤ 160) (h2 : 0 < y) : 0 ≤ ceilD x y ∧ ceilD x y ≤ 1000 := by
  have hq0 : 0 ≤ x / y := Int.ediv_nonneg h0 (by omega)
  have hq1 : x / y ≤ x := Int.ediv_le_self y h0
  unfold ceilD
  split <;> omega
theorem cost_bd (l : List Link) (v : Int) : 0 ≤ costT (tab l) v ∧ costT (tab l) v ≤ 1000 := by
  obtain ⟨g1, g2, g3, g4⟩ := succT_bd (tab_good l) v
  unfold costT
  split
  · omega
  · exact ceil_bd (by omega) (by omega) (by omega)
theorem setO_one {α : Type} (lt : α → α → Bool) (l : List α) (h : l.length ≤ 1) : setO lt l = l := by
  rcases l with _ | ⟨a, _ | ⟨b, l⟩⟩
  · rfl
  · rfl
  · simp at h
theorem sortOk_all (A : Option Addr) (n cap : Nat) (l : List Link) (w0 : World) (hn : n ≤ 9223372036854775807) (hr : Rd w0 EL A n l) : SortOk A n cap w0 (bestU (tab l) (tab l)) (bestS (tab l)) := by
  by_cases h1 : (bestU (tab l) (tab l)).length ≤ 1
  · rw [show bestS (tab l) = bestU (tab l) (tab l) from setO_one _ _ h1]
    exact sortOk_tiny A n cap w0 _ h1
  · intro wr A' m c hb hc hs ho
    have hm : 0 < m := by rw [← ho.1]; omega
    have hm24 : m ≤ 24 := by rw [← ho.1]; exact Nat.le_trans (bestU_len _ _) (tab_len l)
    obtain ⟨g, rfl, hg1, hg2⟩ := ho.at0 hm
    have hC : CmpOk (costT (tab l)) wr (w0.heap.size + 1) (some ⟨w0.heap.size, 0, none⟩) :=
      cmp38 A n cap l wr (w0.heap.size + 1) w0.heap.size hn hc (Nat.lt_succ_self _) (hr.later hb) (fun w hw => hr.later (hb.trans (hw.mono (Nat.le_succ _)))) (cost_bd l)
    refine (sort37 (costT (tab l)) wr (w0.heap.size + 1) g m c (some ⟨w0.heap.size, 0, none⟩) _ hm24 (cost_bd l) hC hs (up_of_pairwise ho.1 (bestU_up (tab_good l).2.1)) ho).mono ?_
    rintro e w' ⟨rfl, L, hq, ho', hb'⟩
    have hL : L = bestS (tab l) := setO_eq (lxb_lin _) (srt_of_sd (hq.1.len.trans ho.1) hq.2) (mem_of_mv ho.1 hq.1)
    rw [hL] at ho'
    exact ⟨rfl, ho', hb'⟩
/-- what Best returns -/
theorem bestA22 (A : Option Addr) (n cap : Nat) (l : List Link) (w : World) (hn : n ≤ 9223372036854775807) (hr : Rd w EL A n l) :
    Calls Try.prog 22 #[.slice A n cap] w (IlEnd w (bestS (tab l))) := best22 A n cap l _ w hn hr (sortOk_all A n cap l w hn hr)
end Go.Proofs.Ytipghbpkpnkmnaa
