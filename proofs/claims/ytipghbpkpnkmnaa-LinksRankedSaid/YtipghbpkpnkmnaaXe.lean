/- The walk of LinksRanked. -/
import Derived.Test.YtipghbpkpnkmnaaXd
namespace Go.Proofs.Ytipghbpkpnkmnaa
open Go.RowKit Go.BigFrame
set_option linter.unusedVariables false

theorem insO_len {α : Type} {lt : α → α → Bool} (h : Lin lt) {x : α} {l : List α} (hx : x ∉ l) : (insO lt x l).length = l.length + 1 := by
  induction l with
  | nil => rfl
  | cons y r ih =>
    rw [List.mem_cons, not_or] at hx
    unfold insO
    split
    · rw [List.length_cons, ih hx.2, List.length_cons]
    · rename_i h1
      split
      · rfl
      · rename_i h2
        exact absurd (h.tri x y (by simpa using h2) (by simpa using h1)) hx.1
theorem setO_len {α : Type} {lt : α → α → Bool} (h : Lin lt) (l : List α) : l.Nodup → (setO lt l).length = l.length := by
  refine list_snoc_ind (p := fun l => l.Nodup → (setO lt l).length = l.length) (fun _ => rfl) (fun l x ih hn => ?_) l
  rw [List.nodup_append] at hn
  rw [setO_snoc, insO_len h (fun hx => hn.2.2 x ((mem_setO h l).1 hx) x (by simp) rfl), ih hn.1, List.length_append]
  rfl
theorem bestS_count {t : List Link} (hs : Sorted t) : (bestS t).length = (bestU t t).length :=
  setO_len (lxb_lin _) _ ((bestU_up hs).imp (fun h => Int.ne_of_lt h))
theorem bestS_cost {t : List Link} (hg : Good t) {i : Nat} {x : Int} (h : (bestS t)[i]? = some x) : 10 ≤ costT t x ∧ costT t x ≤ 160 := by
  have hm := (mem_setO (lxb_lin (costT t)) (bestU t t)).1 (List.mem_of_getElem? h)
  obtain ⟨a, _, h2, rfl⟩ := mem_bestU.1 hm
  rcases cost_node hg a.node with e | e
  · exact absurd e h2
  · exact e
theorem bestS_order {t : List Link} {i : Nat} {x y : Int} (hx : (bestS t)[i]? = some x) (hy : (bestS t)[i + 1]? = some y) : lx (costT t) x y := by
  obtain ⟨h1, rfl⟩ := List.getElem?_eq_some_iff.1 hx
  obtain ⟨h2, rfl⟩ := List.getElem?_eq_some_iff.1 hy
  exact lxb_iff.1 ((List.pairwise_iff_getElem.1 (srt_setO (lxb_lin (costT t)) (bestU t t))) i (i + 1) h1 h2 (Nat.lt_succ_self i))

set_option maxRecDepth 20000 in
set_option maxHeartbeats 8000000 in
theorem lawRanked8 (A : Option Addr) (n cap : Nat) (l : List Link) (w : World) (hn : n ≤ cap) (hcap : cap ≤ 9223372036854775807) (hr : Rd w EL A n l) :
    Calls Try.prog 8 #[.slice A n cap] w fun e w' => e = .returned (.bool true) ∧ Below w.heap.size w w' := by
  have LV : Hid (∀ w, Calls Try.prog 9 #[] w fun e w' => e = .returned (.bool true) ∧ Below w.heap.size w w') := Lib.hid lives9
  have CK := Lib.hid (check15 A n cap l w (by omega) hr)
  by_cases hc : chk l = 0
  · have hg := chk_good.1 hc
    have HG := Lib.hid hg
    have hln := hr.1
    have hn24 : n ≤ 24 := by rw [← hln]; exact hg.1
    have CO : Hid (∀ (v : Int) (w : World), Rd w EL A n l → Calls Try.prog 16 #[.slice A n cap, .int .i64 v] w fun e w' => e = .returned (.int .i64 (costT l v)) ∧ Below w.heap.size w w') :=
      Lib.hid (fun v w h => by have := cost16 A n cap l v w (by omega) h; rwa [tab_of_good hg] at this)
    have BE : Hid (∀ w : World, Rd w EL A n l → Calls Try.prog 22 #[.slice A n cap] w (IlEnd w (bestS l))) :=
      Lib.hid (fun w h => by have := bestA22 A n cap l w (by omega) h; rwa [tab_of_good hg] at this)
    rw [hc] at CK
    clear hc hg
    go_enter Try.func8, Try.ntmps8
    go_wp2_with fail
    refine CK.out.mono ?_
    rintro e w1 ⟨rfl, hb1⟩
    have hr1 := hr.later hb1
    clear CK hr
    go_wp2_with fail
    refine (BE.out _ hr1).mono ?_
    rintro e w2 ⟨A1, n1, c1, rfl, ho2, hb2⟩
    have hr2 := hr1.later hb2
    have hx2 := ho2.rd
    have hl2 := ho2.1
    have hn1 : n1 ≤ 24 := by rw [← hl2, ← hln] at *; exact Nat.le_trans bestS_len hn24
    have hB2 := hb1.trans (hb2.mono hb1.size)
    clear BE ho2 hb1 hb2 hr1
    go_wp2
    go_loopw [4, 5] (fun o i wr => ∃ (j q : Nat), j ≤ n ∧ q ≤ j ∧ i = .int .i64 j ∧ o = .int .i64 q ∧ Hid (q = (bestU l (l.take j)).length) ∧ Below w2.heap.size w2 wr) (fun _ i _ => n - (intOf i).toNat)
    case atStart => exact ⟨0, 0, by omega, by omega, rfl, rfl, Lib.hid rfl, Below.refl _ _⟩
    case round =>
      obtain ⟨j, q, hj, hq, rfl, rfl, hcq, hbr⟩ := hrel
      by_cases hlt : j < n
      · obtain ⟨b, off, a, rfl, hla, q0, q1, q2⟩ := link_at (hr2.later hbr) hlt
        have CV := Lib.hid (CO.out a.node wr (hr2.later hbr))
        have hcn := cost_node HG.out a.node
        by_cases h255 : costT l a.node = 255
        · have HC : Hid (q = (bestU l (l.take (j + 1))).length) := Lib.hid (by rw [bestU_no hla h255]; exact hcq.out)
          have hd : decide (costT l a.node ≤ 160) = false := decide_eq_false (by omega)
          clear hcn h255 hcq hla q1 q2
          generalize costT l a.node = ca at *
          go_wp2_with fail
          refine CV.out.mono ?_
          rintro e w3 ⟨rfl, hb3⟩
          have hB3 := hbr.trans (hb3.mono hbr.size)
          clear CV hb3 hbr q0
          go_wp2
          go_roundw
          case rel => exact ⟨j + 1, q, by omega, by omega, by go_num, rfl, HC, hB3⟩
          case measure => simp [intOf]; omega
        · have HC : Hid (q + 1 = (bestU l (l.take (j + 1))).length) := Lib.hid (by rw [bestU_yes hla h255, List.length_append, ← hcq.out]; rfl)
          have hd : decide (costT l a.node ≤ 160) = true := decide_eq_true (by omega)
          clear hcn h255 hcq hla q1 q2
          generalize costT l a.node = ca at *
          go_wp2_with fail
          refine CV.out.mono ?_
          rintro e w3 ⟨rfl, hb3⟩
          have hB3 := hbr.trans (hb3.mono hbr.size)
          clear CV hb3 hbr q0
          go_wp2
          go_roundw
          case rel => exact ⟨j + 1, q + 1, by omega, by omega, by go_num, by go_num, HC, hB3⟩
          case measure => simp [intOf]; omega
      · have HM : Hid (n1 = q) := Lib.hid (by
          have h := hcq.out
          rw [List.take_of_length_le (by omega)] at h
          rw [h, ← bestS_count HG.out.2.1, hl2])
        clear hcq
        obtain ⟨wo, rfl⟩ : ∃ wo : World, wo = wr := ⟨_, rfl⟩
        go_wp2
        go_loopw [6] (fun i wr => ∃ (k : Nat), k ≤ n1 ∧ i = .int .i64 k ∧ Below w2.heap.size w2 wr) (fun i _ => n1 - (intOf i).toNat)
        case atStart => exact ⟨0, by omega, rfl, hbr⟩
        case round =>
          clear hbr
          obtain ⟨k, hk, rfl, hbr⟩ := hrel
          by_cases hkn : k < n1
          · obtain ⟨b, off, x, rfl, hx, q0⟩ := int_at (hx2.later hbr) hkn
            have hcx := bestS_cost HG.out hx
            have CV := Lib.hid (CO.out x wr (hr2.later hbr))
            rcases Nat.eq_zero_or_pos k with h0 | h0
            · have hd : decide (0 < k) = false := decide_eq_false (by omega)
              have hd1 : decide (costT l x < 10) = false := decide_eq_false (by omega)
              have hd2 : decide (160 < costT l x) = false := decide_eq_false (by omega)
              clear hx h0
              generalize costT l x = c at *
              go_wp2_with fail
              refine CV.out.mono ?_
              rintro e w3 ⟨rfl, hb3⟩
              have hB3 := hbr.trans (hb3.mono hbr.size)
              clear CV hb3 hbr q0
              go_wp2
              refine wp_region_after (by kernel_rfl) (by kernel_rfl) ?_
              repeat (go_big_quiet_step (fail))
              refine wpQuiet_nil ?_
              intro w4 hb4
              have hB4 := hB3.trans (hb4.mono hB3.size)
              clear hb4 hB3
              go_wp2
              go_roundw
              case rel => exact ⟨k + 1, by omega, by go_num, hB4⟩
              case measure => simp [intOf]; omega
            · obtain ⟨p, rfl⟩ : ∃ p, k = p + 1 := ⟨k - 1, by omega⟩
              obtain ⟨b', off', y, hA, hy, q1⟩ := int_at (hx2.later hbr) (show p < n1 by omega)
              cases hA
              have ho := bestS_order hy hx
              have hd : decide ((0 : Int) < (p : Int) + 1) = true := decide_eq_true (by omega)
              have hd1 : decide (costT l x < 10) = false := decide_eq_false (by omega)
              have hd2 : decide (160 < costT l x) = false := decide_eq_false (by omega)
              have CY := Lib.hid (fun (w : World) h => CO.out y w h)
              unfold lx at ho
              clear hx hy
              generalize costT l x = c at *
              generalize costT l y = cy at *
              go_wp2_with fail
              refine CV.out.mono ?_
              rintro e w3 ⟨rfl, hb3⟩
              have hB3 := hbr.trans (hb3.mono hbr.size)
              have hr3 := (hr2.later hbr).later hb3
              have Q0 := After.cell (keep hb3 q0)
              have Q1 := After.cell (keep hb3 q1)
              have C1 := fun z : After w3 => z.of (CY.out z.w (hr3.later z.hb))
              have hi : (p : Int) + 1 - 1 = (p : Int) := by omega
              clear CV hb3 hbr q0 q1 CY hr3
              rcases ho with ho | ⟨rfl, ho⟩
              · have hd3 : decide (c < cy) = false := decide_eq_false (by omega)
                have hd4 : (cy == c) = false := by simp; omega
                clear ho
                go_wp2
                refine wp_region_after (by kernel_rfl) (by kernel_rfl) ?_
                repeat (go_big_quiet_step (first | (with_reducible exact C1 _) | fail))
                refine wpQuiet_nil ?_
                intro w4 hb4
                have hB4 := hB3.trans (hb4.mono hB3.size)
                clear hb4 hB3 C1 Q0 Q1
                go_wp2
                go_roundw
                case rel => exact ⟨p + 1 + 1, by omega, by go_num, hB4⟩
                case measure => simp [intOf]; omega
              · have hd3 : decide (cy < cy) = false := decide_eq_false (by omega)
                have hd4 : (cy == cy) = true := by simp
                have hd5 : decide (x ≤ y) = false := decide_eq_false (by omega)
                clear ho
                go_wp2
                refine wp_region_after (by kernel_rfl) (by kernel_rfl) ?_
                repeat (go_big_quiet_step (first | (with_reducible exact C1 _) | fail))
                refine wpQuiet_nil ?_
                intro w4 hb4
                have hB4 := hB3.trans (hb4.mono hB3.size)
                clear hb4 hB3 C1 Q0 Q1
                go_wp2
                go_roundw
                case rel => exact ⟨p + 1 + 1, by omega, by go_num, hB4⟩
                case measure => simp [intOf]; omega
          · have hq2 := HM.out
            have hnq : ((n1 : Int) == (q : Int)) = true := by simp; omega
            have hB3 := hB2.trans (hbr.mono hB2.size)
            clear hq2 hbr CO
            go_wp2_with fail
            refine (LV.out _).mono ?_
            rintro e w4 ⟨rfl, hb4⟩
            go_wp2
            go_ret
            exact ⟨rfl, hB3.trans (hb4.mono hB3.size)⟩
  · have hcb : (chk l != 0) = true := by rw [bne_iff_ne]; exact hc
    generalize chk l = r at *
    clear hc
    go_enter Try.func8, Try.ntmps8
    go_wp2_with fail
    refine CK.out.mono ?_
    rintro e w1 ⟨rfl, hb1⟩
    clear CK hr
    go_wp2_with fail
    refine (LV.out _).mono ?_
    rintro e w2 ⟨rfl, hb2⟩
    go_wp2
    go_ret
    exact ⟨rfl, hb1.trans (hb2.mono hb1.size)⟩
end Go.Proofs.Ytipghbpkpnkmnaa
