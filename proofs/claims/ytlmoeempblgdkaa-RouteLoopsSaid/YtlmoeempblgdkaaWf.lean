/- learn of the program. -/
import Derived.Test.YtlmoeempblgdkaaWe
import Derived.Test.YtlmoeempblgdkaaSet
import Derived.Test.YtlmoeempblgdkaaInz
namespace Go.Proofs.Ytlmoeempblgdkaa
open Go.RowKit Go.BigFrame
set_option linter.unusedVariables false
set_option linter.unusedSimpArgs false

/-- an element of an owned row is written whole -/
theorem Ow.set4 {w : World} {base g n cap i : Nat} {l : List Rt} {a : Rt} (h : Ow w base 40 ER (.slice (some ⟨g, 0, none⟩) n cap) n l) (hi : l[i]? = some a) (r : Rt) :
    ∃ T, ((((w.setCell ⟨g, i * 4, none⟩ (.int .i64 r.d)).setCell ⟨g, i * 4 + 1, none⟩ (.int .i64 r.s)).setCell ⟨g, i * 4 + 2, none⟩ (.int .i64 r.c)).setCell ⟨g, i * 4 + 3, none⟩ (.int .i64 r.n)) = T ∧ Ow T base 40 ER (.slice (some ⟨g, 0, none⟩) n cap) n (l.set i r) ∧ w.grownBy T (some g) := by
  have hil : i < l.length := (List.getElem?_eq_some_iff.1 hi).1
  have h1 := h.setField hi (j := 0) (by decide) (.int .i64 r.d) (a' := ⟨r.d, a.s, a.c, a.n⟩) rfl
  have h2 := h1.setField (i := i) (a := ⟨r.d, a.s, a.c, a.n⟩) (by simp [hil]) (j := 1) (by decide) (.int .i64 r.s) (a' := ⟨r.d, r.s, a.c, a.n⟩) rfl
  have h3 := h2.setField (i := i) (a := ⟨r.d, r.s, a.c, a.n⟩) (by simp [hil]) (j := 2) (by decide) (.int .i64 r.c) (a' := ⟨r.d, r.s, r.c, a.n⟩) rfl
  have h4 := h3.setField (i := i) (a := ⟨r.d, r.s, r.c, a.n⟩) (by simp [hil]) (j := 3) (by decide) (.int .i64 r.n) (a' := r) rfl
  simp only [List.set_set] at h4
  exact ⟨_, rfl, h4, (((grown_setCell w ⟨g, i * 4, none⟩ _).tr (grown_setCell _ ⟨g, i * 4 + 1, none⟩ _)).tr (grown_setCell _ ⟨g, i * 4 + 2, none⟩ _)).tr (grown_setCell _ ⟨g, i * 4 + 3, none⟩ _)⟩
theorem takeWhile_cut {t : List Rt} {x : Int} : ∀ {k : Nat}, k ≤ t.length → CutAt t x k → lo t x = k := by
  unfold lo
  induction t with
  | nil => intro k hk _; simp at hk; subst hk; rfl
  | cons r t ih =>
    intro k hk hc
    rcases k with _ | k
    · have := hc.2 0 r (Nat.le_refl _) rfl
      rw [List.takeWhile_cons, if_neg (by simp; omega)]
      rfl
    · have := hc.1 0 r (by omega) rfl
      rw [List.takeWhile_cons, if_pos (by simp; omega), List.length_cons]
      congr 1
      refine ih (by simpa using hk) ⟨fun i q hi hq => hc.1 (i + 1) q (by omega) (by simpa using hq), fun i q hi hq => hc.2 (i + 1) q (by omega) (by simpa using hq)⟩
/-- learn, by the place that find gives -/
def lrnAt (t : List Rt) (fr : Int) (r : Rt) (k : Nat) : List Rt :=
  match t[k]? with
  | some q => if q.d = r.d then (if finB r = true then (if betB r q = true then t.set k r else t) else (if q.n = fr ∧ q.s < r.s then t.set k r else t)) else (if finB r = true ∧ t.length < 24 then t.take k ++ r :: t.drop k else t)
  | none => if finB r = true ∧ t.length < 24 then t.take k ++ r :: t.drop k else t
theorem lrn_at {t : List Rt} {fr : Int} {r : Rt} {k : Nat} (hk : k ≤ t.length) (hc : CutAt t r.d k) : lrn t fr r = lrnAt t fr r k := by
  unfold lrn lrnAt
  rw [takeWhile_cut hk hc]
  rfl
theorem lrnAt_yes {t : List Rt} {fr : Int} {r q : Rt} {k : Nat} (h : t[k]? = some q) (hd : q.d = r.d) : lrnAt t fr r k = if finB r = true then (if betB r q = true then t.set k r else t) else (if q.n = fr ∧ q.s < r.s then t.set k r else t) := by
  unfold lrnAt
  rw [h]
  simp only
  rw [if_pos hd]
theorem lrnAt_no {t : List Rt} {fr : Int} {r : Rt} {k : Nat} (h : ¬ ∃ q, t[k]? = some q ∧ q.d = r.d) : lrnAt t fr r k = if finB r = true ∧ t.length < 24 then t.take k ++ r :: t.drop k else t := by
  unfold lrnAt
  cases hk : t[k]? with
  | none => rfl
  | some q =>
    simp only
    rw [if_neg (fun hd => h ⟨q, hk, hd⟩)]
def LEnd (base : Nat) (w : World) (l : List Rt) (en : Ending) (w' : World) : Prop :=
  ∃ (A : Option Addr) (n cap : Nat), en = .returned (.slice A n cap) ∧ Ow w' base 40 ER (.slice A n cap) n l ∧ Below base w w'
set_option maxRecDepth 40000 in
set_option maxHeartbeats 16000000 in
theorem learn35 (A : Option Addr) (n cap base : Nat) (t : List Rt) (fr : Int) (r : Rt) (w : World) (hn : n ≤ 100) (ho : Ow w base 40 ER (.slice A n cap) n t) (hbase : base ≤ w.heap.size) (hasc : Asc t) (hd : dIn t) (h3 : 0 ≤ r.d) (h4 : r.d ≤ 250) :
    Calls Try.prog 35 #[.slice A n cap, .int .i64 fr, rtV r] w (LEnd base w (lrn t fr r)) := by
  have hlen : t.length = n := ho.1
  obtain ⟨W, hW, hB, hz, hk⟩ := boxeds w (rtC r) 40
  have a0 := hk.at 0 (v := .int .i64 r.d) rfl
  have a1 := hk.at 1 (v := .int .i64 r.s) rfl
  have a2 := hk.at 2 (v := .int .i64 r.c) rfl
  have a3 := hk.at 3 (v := .int .i64 r.n) rfl
  have hoW := ho.later hB
  have FB := Lib.hid (find43 A n cap t r.d W (by omega) hoW.rd hasc hd h3 h4)
  have HBW := Lib.hid (show Below base w W from hB.mono hbase)
  have HBS := Lib.hid (show base ≤ W.heap.size from Nat.le_trans hbase hB.size)
  have HLEN := Lib.hid hlen
  clear hz hk ho hlen hasc hd h3 h4 hB
  go_enter Try.func35, Try.ntmps35
  go_wp2_with fail
  refine FB.out.mono ?_
  rintro e w1 ⟨k, b, hk, hc, hb, rfl, hb1⟩
  have ho1 := hoW.later hb1
  have HL := Lib.hid (lrn_at (fr := fr) (r := r) (by have := HLEN.out; omega) hc)
  have hbs1 := Nat.le_trans HBS.out hb1.size
  have HBB := Lib.hid (show Below base w w1 from HBW.out.trans (hb1.mono HBS.out))
  have c0 := keep hb1 a0
  have c1 := keep hb1 a1
  have c2 := keep hb1 a2
  have c3 := keep hb1 a3
  clear FB hc a0 a1 a2 a3 hoW
  go_upto_region 2 with fail
  have h11 := Below.refl w1.heap.size w1
  cases b
  · -- not found
    have hno : ¬ ∃ q, t[k]? = some q ∧ q.d = r.d := fun h => by have := hb.2 h; cases this
    have HNO := Lib.hid (lrnAt_no (fr := fr) hno)
    clear hb hno
    cases hf : finB r
    · have F : Hid (∀ w', Calls Try.prog 34 #[rtV r] w' fun e w'' => e = .returned (.bool false) ∧ Below w'.heap.size w' w'') := Lib.hid (fun w' => hf ▸ finite34 r w')
      have R := Lib.hid (HNO.out.trans (if_neg (by rw [hf]; simp)))
      clear hf
      have A0 := After.cell (keep h11 c0)
      have A1 := After.cell (keep h11 c1)
      have A2 := After.cell (keep h11 c2)
      have A3 := After.cell (keep h11 c3)
      have CF := fun p : After w1 => p.of (F.out p.w)
      refine wp_region_after (by kernel_rfl) (by kernel_rfl) ?_
      repeat (any_goals (go_big_quiet_step (first | (with_reducible exact CF _))))
      refine wpQuiet_nil ?_
      intro w2 h12'
      have h12 := h11.trans (h12'.mono h11.size)
      clear A0 A1 A2 A3 CF h12'
      go_upto_region 4 with fail
      have d0 := keep h12 c0
      have d1 := keep h12 c1
      have d2 := keep h12 c2
      have d3 := keep h12 c3
      go_wp2_with fail
      refine (F.out w2).mono ?_
      rintro e w3 ⟨rfl, h13'⟩
      have h13 := h12.trans (h13'.mono h12.size)
      clear d0 d1 d2 d3 h13'
      go_upto_region 6 with fail
      have A0 := After.cell (keep h13 c0)
      have A1 := After.cell (keep h13 c1)
      have A2 := After.cell (keep h13 c2)
      have A3 := After.cell (keep h13 c3)
      have CF := fun p : After w3 => p.of (F.out p.w)
      refine wp_region_after (by kernel_rfl) (by kernel_rfl) ?_
      repeat (any_goals (go_big_quiet_step (first | (with_reducible exact CF _))))
      refine wpQuiet_nil ?_
      intro w4 h14'
      have h14 := h13.trans (h14'.mono h13.size)
      clear A0 A1 A2 A3 CF h14'
      have o2 := ho1.later h14
      have b2 := HBB.out.trans (h14.mono hbs1)
      clear ho1 c0 c1 c2 c3 h14
      go_wp2
      go_ret
      exact ⟨_, n, cap, rfl, by rw [HL.out, R.out]; exact o2, b2⟩
    · have F : Hid (∀ w', Calls Try.prog 34 #[rtV r] w' fun e w'' => e = .returned (.bool true) ∧ Below w'.heap.size w' w'') := Lib.hid (fun w' => hf ▸ finite34 r w')
      by_cases h24 : n < 24
      · have R := Lib.hid (HNO.out.trans (if_pos ⟨hf, by have := HLEN.out; omega⟩))
        clear hf
        have A0 := After.cell (keep h11 c0)
        have A1 := After.cell (keep h11 c1)
        have A2 := After.cell (keep h11 c2)
        have A3 := After.cell (keep h11 c3)
        have CF := fun p : After w1 => p.of (F.out p.w)
        refine wp_region_after (by kernel_rfl) (by kernel_rfl) ?_
        repeat (any_goals (go_big_quiet_step (first | (with_reducible exact CF _))))
        refine wpQuiet_nil ?_
        intro w2 h12'
        have h12 := h11.trans (h12'.mono h11.size)
        clear A0 A1 A2 A3 CF h12'
        go_upto_region 4 with fail
        have d0 := keep h12 c0
        have d1 := keep h12 c1
        have d2 := keep h12 c2
        have d3 := keep h12 c3
        go_wp2_with fail
        refine (F.out w2).mono ?_
        rintro e w3 ⟨rfl, h13'⟩
        have h13 := h12.trans (h13'.mono h12.size)
        clear d0 d1 d2 d3 h13'
        have d0 := keep h13 c0
        have d1 := keep h13 c1
        have d2 := keep h13 c2
        have d3 := keep h13 c3
        go_wp2_with fail
        obtain ⟨V, hV, hBV, hzV, hkV⟩ := boxeds w3 (rtC r) 40
        rw [hV]
        have o3 := (ho1.later h13).later hBV
        have hne : Value.ownBlock (.slice A n cap) ≠ some w3.heap.size := fun e => by have := (ho1.later h13).lt _ e; omega
        have hbs3 := Nat.le_trans hbs1 h13.size
        refine (insert46 base A k n cap t r w3.heap.size V (by omega) hk o3 (Nat.le_trans hbs3 hBV.size) hkV hne).mono ?_
        rintro e w5 ⟨B, cp, rfl, o5, g5⟩
        have b3 := HBB.out.trans ((h13.mono hbs1).trans (hBV.mono hbs3))
        have b5 := Below.row b3 g5 (Nat.le_trans hbs3 hBV.size) (Nat.le_refl _) o3.lt
        clear g5 o3 b3 hBV hzV hkV ho1 h13 h12 h11 c0 c1 c2 c3 d0 d1 d2 d3
        go_wp2
        go_ret
        exact ⟨B, n + 1, cp, rfl, by rw [HL.out, R.out]; exact o5, b5⟩
      · have R := Lib.hid (HNO.out.trans (if_neg (by have := HLEN.out; rintro ⟨_, h⟩; omega)))
        clear hf
        have A0 := After.cell (keep h11 c0)
        have A1 := After.cell (keep h11 c1)
        have A2 := After.cell (keep h11 c2)
        have A3 := After.cell (keep h11 c3)
        have CF := fun p : After w1 => p.of (F.out p.w)
        refine wp_region_after (by kernel_rfl) (by kernel_rfl) ?_
        repeat (any_goals (go_big_quiet_step (first | (with_reducible exact CF _))))
        refine wpQuiet_nil ?_
        intro w2 h12'
        have h12 := h11.trans (h12'.mono h11.size)
        clear A0 A1 A2 A3 CF h12'
        go_upto_region 4 with fail
        have d0 := keep h12 c0
        have d1 := keep h12 c1
        have d2 := keep h12 c2
        have d3 := keep h12 c3
        go_wp2_with fail
        refine (F.out w2).mono ?_
        rintro e w3 ⟨rfl, h13'⟩
        have h13 := h12.trans (h13'.mono h12.size)
        clear d0 d1 d2 d3 h13'
        go_upto_region 6 with fail
        have A0 := After.cell (keep h13 c0)
        have A1 := After.cell (keep h13 c1)
        have A2 := After.cell (keep h13 c2)
        have A3 := After.cell (keep h13 c3)
        have CF := fun p : After w3 => p.of (F.out p.w)
        refine wp_region_after (by kernel_rfl) (by kernel_rfl) ?_
        repeat (any_goals (go_big_quiet_step (first | (with_reducible exact CF _))))
        refine wpQuiet_nil ?_
        intro w4 h14'
        have h14 := h13.trans (h14'.mono h13.size)
        clear A0 A1 A2 A3 CF h14'
        have o2 := ho1.later h14
        have b2 := HBB.out.trans (h14.mono hbs1)
        clear ho1 c0 c1 c2 c3 h14
        go_wp2
        go_ret
        exact ⟨_, n, cap, rfl, by rw [HL.out, R.out]; exact o2, b2⟩
  · obtain ⟨q, hkq, hqd⟩ := hb.1 rfl
    have HKQ := Lib.hid hkq
    have HY := Lib.hid (lrnAt_yes (fr := fr) hkq hqd)
    have hkn : k < n := by rw [← HLEN.out]; exact (List.getElem?_eq_some_iff.1 hkq).1
    obtain ⟨g, rfl, hgb, hgl⟩ := ho1.at0 (by omega)
    have HG := Lib.hid hgb
    obtain ⟨b', off', q', hA', hq', q0, q1, q2, q3⟩ := rt_at ho1.rd hkn
    obtain ⟨rfl, rfl⟩ : g = b' ∧ 0 = off' := by cases hA'; exact ⟨rfl, rfl⟩
    obtain rfl : q = q' := by rw [hkq] at hq'; cases hq'; rfl
    simp only [Nat.zero_add] at q0 q1 q2 q3
    have hx0 : (0 : Int) ≤ (k : Int) := by omega
    have hx1 : (k : Int) < (n : Int) := by omega
    clear hb hkq hqd hA' hq' hgb hgl
    cases hf : finB r
    · have F : Hid (∀ w', Calls Try.prog 34 #[rtV r] w' fun e w'' => e = .returned (.bool false) ∧ Below w'.heap.size w' w'') := Lib.hid (fun w' => hf ▸ finite34 r w')
      have HZ := Lib.hid (HY.out.trans (if_neg (by rw [hf]; simp)))
      clear hf
      by_cases hn1 : q.n = fr
      · have e1 : (q.n == fr) = true := by simp [hn1]
        by_cases hs1 : q.s < r.s
        · have R := Lib.hid (HZ.out.trans (if_pos ⟨hn1, hs1⟩))
          have e2 : decide (q.s < r.s) = true := decide_eq_true hs1
          clear hn1
          have A0 := After.cell (keep h11 c0)
          have A1 := After.cell (keep h11 c1)
          have A2 := After.cell (keep h11 c2)
          have A3 := After.cell (keep h11 c3)
          have Q0 := After.cell (keep h11 q0)
          have Q1 := After.cell (keep h11 q1)
          have Q2 := After.cell (keep h11 q2)
          have Q3 := After.cell (keep h11 q3)
          have CF := fun p : After w1 => p.of (F.out p.w)
          refine wp_region_after (by kernel_rfl) (by kernel_rfl) ?_
          repeat (any_goals (go_big_quiet_step (first | (with_reducible exact CF _))))
          refine wpQuiet_nil ?_
          intro w2 h12'
          have h12 := h11.trans (h12'.mono h11.size)
          clear A0 A1 A2 A3 Q0 Q1 Q2 Q3 CF h12'
          go_upto_region 4 with fail
          have d0 := keep h12 c0
          have d1 := keep h12 c1
          have d2 := keep h12 c2
          have d3 := keep h12 c3
          go_wp2_with fail
          refine (F.out w2).mono ?_
          rintro e w3 ⟨rfl, h13'⟩
          have h13 := h12.trans (h13'.mono h12.size)
          clear d0 d1 d2 d3 h13'
          go_upto_region 6 with fail
          have A0 := After.cell (keep h13 c0)
          have A1 := After.cell (keep h13 c1)
          have A2 := After.cell (keep h13 c2)
          have A3 := After.cell (keep h13 c3)
          have Q0 := After.cell (keep h13 q0)
          have Q1 := After.cell (keep h13 q1)
          have Q2 := After.cell (keep h13 q2)
          have Q3 := After.cell (keep h13 q3)
          have CF := fun p : After w3 => p.of (F.out p.w)
          refine wp_region_after (by kernel_rfl) (by kernel_rfl) ?_
          repeat (any_goals (go_big_quiet_step (first | (with_reducible exact CF _))))
          refine wpQuiet_nil ?_
          intro w4 h14'
          have h14 := h13.trans (h14'.mono h13.size)
          clear A0 A1 A2 A3 Q0 Q1 Q2 Q3 CF h14'
          obtain ⟨T, hT, oT, gT⟩ := (ho1.later h14).set4 HKQ.out r
          have b2 := Below.grow (HBB.out.trans (h14.mono hbs1)) gT (Nat.le_trans hbs1 h14.size) HG.out
          have OT := Lib.hid oT
          have HTT := Lib.hid hT
          have z0 := (ho1.later h14).free (by omega) (k * 4)
          have z1 := (ho1.later h14).free (by omega) (k * 4 + 1)
          have z2 := (ho1.later h14).free (by omega) (k * 4 + 2)
          have z3 := (ho1.later h14).free (by omega) (k * 4 + 3)
          have d0 := keep h14 c0
          have d1 := keep h14 c1
          have d2 := keep h14 c2
          have d3 := keep h14 c3
          have x0 := keep h14 q0
          have x1 := keep h14 q1
          have x2 := keep h14 q2
          have x3 := keep h14 q3
          clear oT gT ho1 c0 c1 c2 c3 q0 q1 q2 q3 h14
          go_wp2
          go_ret
          exact ⟨_, n, cap, rfl, by rw [HL.out, R.out]; exact OT.out, b2⟩
        · have R := Lib.hid (HZ.out.trans (if_neg (fun h => hs1 h.2)))
          have e2 : decide (q.s < r.s) = false := decide_eq_false hs1
          clear hn1
          have A0 := After.cell (keep h11 c0)
          have A1 := After.cell (keep h11 c1)
          have A2 := After.cell (keep h11 c2)
          have A3 := After.cell (keep h11 c3)
          have Q0 := After.cell (keep h11 q0)
          have Q1 := After.cell (keep h11 q1)
          have Q2 := After.cell (keep h11 q2)
          have Q3 := After.cell (keep h11 q3)
          have CF := fun p : After w1 => p.of (F.out p.w)
          refine wp_region_after (by kernel_rfl) (by kernel_rfl) ?_
          repeat (any_goals (go_big_quiet_step (first | (with_reducible exact CF _))))
          refine wpQuiet_nil ?_
          intro w2 h12'
          have h12 := h11.trans (h12'.mono h11.size)
          clear A0 A1 A2 A3 Q0 Q1 Q2 Q3 CF h12'
          go_upto_region 4 with fail
          have d0 := keep h12 c0
          have d1 := keep h12 c1
          have d2 := keep h12 c2
          have d3 := keep h12 c3
          go_wp2_with fail
          refine (F.out w2).mono ?_
          rintro e w3 ⟨rfl, h13'⟩
          have h13 := h12.trans (h13'.mono h12.size)
          clear d0 d1 d2 d3 h13'
          go_upto_region 6 with fail
          have A0 := After.cell (keep h13 c0)
          have A1 := After.cell (keep h13 c1)
          have A2 := After.cell (keep h13 c2)
          have A3 := After.cell (keep h13 c3)
          have Q0 := After.cell (keep h13 q0)
          have Q1 := After.cell (keep h13 q1)
          have Q2 := After.cell (keep h13 q2)
          have Q3 := After.cell (keep h13 q3)
          have CF := fun p : After w3 => p.of (F.out p.w)
          refine wp_region_after (by kernel_rfl) (by kernel_rfl) ?_
          repeat (any_goals (go_big_quiet_step (first | (with_reducible exact CF _))))
          refine wpQuiet_nil ?_
          intro w4 h14'
          have h14 := h13.trans (h14'.mono h13.size)
          clear A0 A1 A2 A3 Q0 Q1 Q2 Q3 CF h14'
          clear q0 q1 q2 q3
          have o2 := ho1.later h14
          have b2 := HBB.out.trans (h14.mono hbs1)
          clear ho1 c0 c1 c2 c3 h14
          go_wp2
          go_ret
          exact ⟨_, n, cap, rfl, by rw [HL.out, R.out]; exact o2, b2⟩
      · have R := Lib.hid (HZ.out.trans (if_neg (fun h => hn1 h.1)))
        have e1 : (q.n == fr) = false := by simp [hn1]
        clear hn1
        have A0 := After.cell (keep h11 c0)
        have A1 := After.cell (keep h11 c1)
        have A2 := After.cell (keep h11 c2)
        have A3 := After.cell (keep h11 c3)
        have Q0 := After.cell (keep h11 q0)
        have Q1 := After.cell (keep h11 q1)
        have Q2 := After.cell (keep h11 q2)
        have Q3 := After.cell (keep h11 q3)
        have CF := fun p : After w1 => p.of (F.out p.w)
        refine wp_region_after (by kernel_rfl) (by kernel_rfl) ?_
        repeat (any_goals (go_big_quiet_step (first | (with_reducible exact CF _))))
        refine wpQuiet_nil ?_
        intro w2 h12'
        have h12 := h11.trans (h12'.mono h11.size)
        clear A0 A1 A2 A3 Q0 Q1 Q2 Q3 CF h12'
        go_upto_region 4 with fail
        have d0 := keep h12 c0
        have d1 := keep h12 c1
        have d2 := keep h12 c2
        have d3 := keep h12 c3
        go_wp2_with fail
        refine (F.out w2).mono ?_
        rintro e w3 ⟨rfl, h13'⟩
        have h13 := h12.trans (h13'.mono h12.size)
        clear d0 d1 d2 d3 h13'
        go_upto_region 6 with fail
        have A0 := After.cell (keep h13 c0)
        have A1 := After.cell (keep h13 c1)
        have A2 := After.cell (keep h13 c2)
        have A3 := After.cell (keep h13 c3)
        have Q0 := After.cell (keep h13 q0)
        have Q1 := After.cell (keep h13 q1)
        have Q2 := After.cell (keep h13 q2)
        have Q3 := After.cell (keep h13 q3)
        have CF := fun p : After w3 => p.of (F.out p.w)
        refine wp_region_after (by kernel_rfl) (by kernel_rfl) ?_
        repeat (any_goals (go_big_quiet_step (first | (with_reducible exact CF _))))
        refine wpQuiet_nil ?_
        intro w4 h14'
        have h14 := h13.trans (h14'.mono h13.size)
        clear A0 A1 A2 A3 Q0 Q1 Q2 Q3 CF h14'
        clear q0 q1 q2 q3
        have o2 := ho1.later h14
        have b2 := HBB.out.trans (h14.mono hbs1)
        clear ho1 c0 c1 c2 c3 h14
        go_wp2
        go_ret
        exact ⟨_, n, cap, rfl, by rw [HL.out, R.out]; exact o2, b2⟩
    · have F : Hid (∀ w', Calls Try.prog 34 #[rtV r] w' fun e w'' => e = .returned (.bool true) ∧ Below w'.heap.size w' w'') := Lib.hid (fun w' => hf ▸ finite34 r w')
      have HZ := Lib.hid (HY.out.trans (if_pos hf))
      clear hf
      cases hbt : betB r q
      · have R := Lib.hid (HZ.out.trans (if_neg (by rw [hbt]; simp)))
        have BT : Hid (∀ w', Calls Try.prog 45 #[rtV r, rtV q] w' fun e w'' => e = .returned (.bool false) ∧ Below w'.heap.size w' w'') := Lib.hid (fun w' => hbt ▸ better45 r q w')
        clear hbt
        have A0 := After.cell (keep h11 c0)
        have A1 := After.cell (keep h11 c1)
        have A2 := After.cell (keep h11 c2)
        have A3 := After.cell (keep h11 c3)
        have Q0 := After.cell (keep h11 q0)
        have Q1 := After.cell (keep h11 q1)
        have Q2 := After.cell (keep h11 q2)
        have Q3 := After.cell (keep h11 q3)
        have CF := fun p : After w1 => p.of (F.out p.w)
        have CB := fun p : After w1 => p.of (BT.out p.w)
        refine wp_region_after (by kernel_rfl) (by kernel_rfl) ?_
        repeat (any_goals (go_big_quiet_step (first | (with_reducible exact CF _) | (with_reducible exact CB _))))
        refine wpQuiet_nil ?_
        intro w2 h12'
        have h12 := h11.trans (h12'.mono h11.size)
        clear A0 A1 A2 A3 Q0 Q1 Q2 Q3 CF CB h12'
        go_upto_region 4 with fail
        have d0 := keep h12 c0
        have d1 := keep h12 c1
        have d2 := keep h12 c2
        have d3 := keep h12 c3
        go_wp2_with fail
        refine (F.out w2).mono ?_
        rintro e w3 ⟨rfl, h13'⟩
        have h13 := h12.trans (h13'.mono h12.size)
        clear d0 d1 d2 d3 h13'
        go_upto_region 6 with fail
        have A0 := After.cell (keep h13 c0)
        have A1 := After.cell (keep h13 c1)
        have A2 := After.cell (keep h13 c2)
        have A3 := After.cell (keep h13 c3)
        have Q0 := After.cell (keep h13 q0)
        have Q1 := After.cell (keep h13 q1)
        have Q2 := After.cell (keep h13 q2)
        have Q3 := After.cell (keep h13 q3)
        have CF := fun p : After w3 => p.of (F.out p.w)
        refine wp_region_after (by kernel_rfl) (by kernel_rfl) ?_
        repeat (any_goals (go_big_quiet_step (first | (with_reducible exact CF _))))
        refine wpQuiet_nil ?_
        intro w4 h14'
        have h14 := h13.trans (h14'.mono h13.size)
        clear A0 A1 A2 A3 Q0 Q1 Q2 Q3 CF h14'
        clear q0 q1 q2 q3
        have o2 := ho1.later h14
        have b2 := HBB.out.trans (h14.mono hbs1)
        clear ho1 c0 c1 c2 c3 h14
        go_wp2
        go_ret
        exact ⟨_, n, cap, rfl, by rw [HL.out, R.out]; exact o2, b2⟩
      · have R := Lib.hid (HZ.out.trans (if_pos hbt))
        have BT : Hid (∀ w', Calls Try.prog 45 #[rtV r, rtV q] w' fun e w'' => e = .returned (.bool true) ∧ Below w'.heap.size w' w'') := Lib.hid (fun w' => hbt ▸ better45 r q w')
        clear hbt
        have A0 := After.cell (keep h11 c0)
        have A1 := After.cell (keep h11 c1)
        have A2 := After.cell (keep h11 c2)
        have A3 := After.cell (keep h11 c3)
        have Q0 := After.cell (keep h11 q0)
        have Q1 := After.cell (keep h11 q1)
        have Q2 := After.cell (keep h11 q2)
        have Q3 := After.cell (keep h11 q3)
        have CF := fun p : After w1 => p.of (F.out p.w)
        have CB := fun p : After w1 => p.of (BT.out p.w)
        refine wp_region_after (by kernel_rfl) (by kernel_rfl) ?_
        repeat (any_goals (go_big_quiet_step (first | (with_reducible exact CF _) | (with_reducible exact CB _))))
        refine wpQuiet_nil ?_
        intro w2 h12'
        have h12 := h11.trans (h12'.mono h11.size)
        clear A0 A1 A2 A3 Q0 Q1 Q2 Q3 CF CB h12'
        obtain ⟨T, hT, oT, gT⟩ := (ho1.later h12).set4 HKQ.out r
        have b2 := Below.grow (HBB.out.trans (h12.mono hbs1)) gT (Nat.le_trans hbs1 h12.size) HG.out
        have OT := Lib.hid oT
        have HTT := Lib.hid hT
        have z0 := (ho1.later h12).free (by omega) (k * 4)
        have z1 := (ho1.later h12).free (by omega) (k * 4 + 1)
        have z2 := (ho1.later h12).free (by omega) (k * 4 + 2)
        have z3 := (ho1.later h12).free (by omega) (k * 4 + 3)
        have d0 := keep h12 c0
        have d1 := keep h12 c1
        have d2 := keep h12 c2
        have d3 := keep h12 c3
        have x0 := keep h12 q0
        have x1 := keep h12 q1
        have x2 := keep h12 q2
        have x3 := keep h12 q3
        clear oT gT ho1 c0 c1 c2 c3 q0 q1 q2 q3 h12
        go_wp2
        go_ret
        exact ⟨_, n, cap, rfl, by rw [HL.out, R.out]; exact OT.out, b2⟩
end Go.Proofs.Ytlmoeempblgdkaa

