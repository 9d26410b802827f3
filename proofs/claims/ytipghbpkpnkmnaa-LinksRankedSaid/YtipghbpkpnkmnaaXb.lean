/- Quality and Best of the document's answer. -/
import Derived.Test.YtipghbpkpnkmnaaXa
import Derived.Test.YtipghbpkpnkmnaaSw
namespace Go.Proofs.Ytipghbpkpnkmnaa
open Go.RowKit Go.BigFrame
set_option linter.unusedVariables false

theorem qualT_at {t : List Link} (hs : Sorted t) (v : Int) : qualT t v = floorD (100 * (sU (atR t v)).1) (sU (atR t v)).2 := by
  unfold qualT; rw [succT_at hs]
set_option maxRecDepth 20000 in
set_option maxHeartbeats 4000000 in
theorem qual20 (A : Option Addr) (n cap : Nat) (l : List Link) (v : Int) (w : World) (hn : n ≤ 9223372036854775807) (hr : Rd w EL A n l) :
    Calls Try.prog 20 #[.slice A n cap, .int .i64 v] w fun e w' => e = .returned (.int .i64 (qualT (tab l) v)) ∧ Below w.heap.size w w' := by
  have AT := Lib.hid (at28 A n cap l v w hn hr)
  have HC := Lib.hid (qualT_at (tab_good l).2.1 v)
  have HG : ∀ a, atR (tab l) v = some a → ¬ bad a := fun a h => (tab_good l).2.2 a (List.mem_of_find?_eq_some h)
  generalize qualT (tab l) v = r at *
  generalize atR (tab l) v = o at *
  clear hr
  cases o with
  | none =>
    have HR : Hid (r = 0) := Lib.hid HC.out
    clear HC HG
    go_enter Try.func20, Try.ntmps20
    go_wp2_with fail
    refine AT.out.mono ?_
    rintro e w1 ⟨rfl, hb1⟩
    obtain ⟨x, hx⟩ : ∃ x, (none : Option Link).getD l0 = x := ⟨_, rfl⟩
    rw [hx]
    obtain ⟨V, hV, hBV, hzV, hkV⟩ := boxed w1 #[.int .i64 x.node, .int .i64 x.bits, .int .i64 x.count] 38
    have hBV1 := hb1.trans (hBV.mono hb1.size)
    clear AT hb1 hx
    simp only [Option.isSome_none]
    go_wp2
    go_ret
    exact ⟨ret_int HR.out.symm, hBV1⟩
  | some a =>
    obtain ⟨_, _, b3, b4, b5, _, b7⟩ := good_bits (HG a rfl)
    have HP := Lib.hid (pc_le a.bits)
    have SU := Lib.hid (fun w => succ33 a w b5 b7)
    have HR : Hid (r = floorD (100 * (pc a.bits : Int)) a.count) := Lib.hid HC.out
    clear HC HG
    generalize pc a.bits = c at *
    have hc16 : c ≤ 16 := HP.out
    have CE := Lib.hid (fun w => floor36 (100 * (c : Int)) a.count w (by omega) (by omega) b3 (by omega))
    go_enter Try.func20, Try.ntmps20
    go_wp2_with fail
    refine AT.out.mono ?_
    rintro e w1 ⟨rfl, hb1⟩
    obtain ⟨V, hV, hBV, hzV, hkV⟩ := boxed w1 #[.int .i64 a.node, .int .i64 a.bits, .int .i64 a.count] 38
    have hBV1 := hb1.trans (hBV.mono hb1.size)
    have q0 := hkV.at 0 (v := .int .i64 a.node) rfl
    have q1 := hkV.at 1 (v := .int .i64 a.bits) rfl
    have q2 := hkV.at 2 (v := .int .i64 a.count) rfl
    simp only [Option.getD_some, Option.isSome_some]
    have Q0 := After.cell q0
    have Q1 := After.cell q1
    have Q2 := After.cell q2
    have C1 := fun q : After V => q.of (SU.out q.w)
    have C2 := fun q : After V => q.same (CE.out q.w)
    clear AT hb1 hkV SU CE q0 q1 q2
    go_wp2
    refine wp_region_after_tail 6 (by kernel_rfl) (by kernel_rfl) ?_
    simp only [List.take_succ_cons, List.take_zero, List.drop_succ_cons, List.drop_zero]
    repeat (go_big_quiet_step (first | (with_reducible exact C1 _) | (with_reducible exact C2 _)))
    refine wpQuiet_nil ?_
    intro w3 hb3
    have hB3 := hBV1.trans (hb3.mono hBV1.size)
    clear C1 C2 Q0 Q1 Q2
    go_wp2
    go_ret
    exact ⟨ret_int HR.out.symm, hB3⟩

/-- what the document's Best gathers: costs below c whole -/
def bestC (t k : List Link) (c : Int) : List Int := (k.filter (fun a => costT t a.node == c)).map (fun a => a.node)
def bestR (t : List Link) : Nat → List Int
  | 0 => []
  | j + 1 => bestR t j ++ bestC t t (10 + j)
theorem bestC_yes {t k : List Link} {c : Int} {j : Nat} {a : Link} (h : k[j]? = some a) (ha : costT t a.node = c) : bestC t (k.take (j + 1)) c = bestC t (k.take j) c ++ [a.node] := by
  rw [take_snoc h]; simp [bestC, ha]
theorem bestC_no {t k : List Link} {c : Int} {j : Nat} {a : Link} (h : k[j]? = some a) (ha : ¬ costT t a.node = c) : bestC t (k.take (j + 1)) c = bestC t (k.take j) c := by
  rw [take_snoc h]; simp [bestC, ha]
theorem bestC_len (t k : List Link) (c : Int) : (bestC t k c).length ≤ k.length := by unfold bestC; rw [List.length_map]; exact List.length_filter_le _ _
theorem mem_bestC {t k : List Link} {c z : Int} : z ∈ bestC t k c ↔ ∃ a ∈ k, costT t a.node = c ∧ a.node = z := by
  unfold bestC; simp [and_assoc]
theorem mem_bestR {t : List Link} {z : Int} : ∀ {j : Nat}, z ∈ bestR t j ↔ ∃ a ∈ t, 10 ≤ costT t a.node ∧ costT t a.node < 10 + j ∧ a.node = z
  | 0 => by simp [bestR]; intro x _ h1 h2; omega
  | j + 1 => by
    rw [bestR, List.mem_append, mem_bestR (j := j), mem_bestC]
    constructor
    · rintro (⟨a, h1, h2, h3, h4⟩ | ⟨a, h1, h2, h3⟩)
      · exact ⟨a, h1, h2, by omega, h4⟩
      · exact ⟨a, h1, by omega, by omega, h3⟩
    · rintro ⟨a, h1, h2, h3, h4⟩
      by_cases he : costT t a.node = 10 + j
      · exact .inr ⟨a, h1, he, h4⟩
      · exact .inl ⟨a, h1, h2, by omega, h4⟩
theorem srt_bestR {t : List Link} (hs : Sorted t) : ∀ j : Nat, Srt (lxb (costT t)) (bestR t j)
  | 0 => List.Pairwise.nil
  | j + 1 => by
    refine List.pairwise_append.2 ⟨srt_bestR hs j, ?_, fun x hx y hy => ?_⟩
    · unfold bestC
      rw [List.pairwise_map]
      refine List.Pairwise.imp_of_mem (R := fun a b : Link => a.node < b.node) (fun {a b} ha hb hab => ?_) (List.Pairwise.filter _ hs)
      have e1 : costT t a.node = 10 + j := by simpa using (List.mem_filter.1 ha).2
      have e2 : costT t b.node = 10 + j := by simpa using (List.mem_filter.1 hb).2
      rw [lxb_iff]
      exact .inr ⟨by rw [e1, e2], hab⟩
    · obtain ⟨a, _, h2, h3, rfl⟩ := mem_bestR.1 hx
      obtain ⟨b, _, g2, rfl⟩ := mem_bestC.1 hy
      rw [lxb_iff]
      exact .inl (by omega)
theorem cost_node {t : List Link} (hg : Good t) (v : Int) : costT t v = 255 ∨ (10 ≤ costT t v ∧ costT t v ≤ 160) := by
  rw [costT_at hg.2.1]
  cases h : atR t v with
  | none => exact .inl rfl
  | some a =>
    obtain ⟨c, k, hc, _, _, _, _, hp, he⟩ := costO_some (hg.2.2 a (List.mem_of_find?_eq_some h))
    rw [he]
    exact m5 ⟨c, by omega⟩ ⟨pcN 16 k, by omega⟩ hp
theorem mem_bestU {t : List Link} {z : Int} : z ∈ bestU t t ↔ ∃ a ∈ t, costT t a.node ≠ 255 ∧ a.node = z := by
  unfold bestU; simp [and_assoc]
theorem best_eq {t : List Link} (hg : Good t) : bestR t 151 = bestS t := by
  refine setO_eq (lxb_lin _) (srt_bestR hg.2.1 151) (fun z => ?_)
  rw [mem_bestR, mem_bestU]
  constructor
  · rintro ⟨a, h1, h2, h3, h4⟩
    exact ⟨a, h1, by omega, h4⟩
  · rintro ⟨a, h1, h2, h4⟩
    rcases cost_node hg a.node with h | ⟨h, h'⟩
    · exact absurd h h2
    · exact ⟨a, h1, h, by omega, h4⟩
theorem bestS_len {t : List Link} : (bestS t).length ≤ t.length := Nat.le_trans (len_setO _) (bestU_len t t)
end Go.Proofs.Ytipghbpkpnkmnaa
