/- Break and Hop. -/
import Derived.Test.YtlmoeempblgdkaaWj
namespace Go.Proofs.Ytlmoeempblgdkaa
open Go.RowKit Go.BigFrame
set_option linter.unusedVariables false
set_option linter.unusedSimpArgs false

def mx (f : Rt → Rt) (t : List Rt) (j : Nat) : List Rt := (t.take j).map f ++ t.drop j
theorem mx_zero (f : Rt → Rt) (t : List Rt) : mx f t 0 = t := by simp [mx]
theorem mx_all (f : Rt → Rt) {t : List Rt} {j : Nat} (h : t.length ≤ j) : mx f t j = t.map f := by
  unfold mx; rw [List.take_of_length_le h, List.drop_eq_nil_of_le h, List.append_nil]
theorem mx_get {f : Rt → Rt} {t : List Rt} {j : Nat} {r : Rt} (h : t[j]? = some r) : (mx f t j)[j]? = some r := by
  have hl : j < t.length := (List.getElem?_eq_some_iff.1 h).1
  unfold mx
  rw [List.getElem?_append_right (by simp; omega)]
  simp [Nat.min_eq_left (Nat.le_of_lt hl)]
  exact h
theorem mx_succ {f : Rt → Rt} {t : List Rt} {j : Nat} {r : Rt} (h : t[j]? = some r) : mx f t (j + 1) = (t.take j).map f ++ f r :: t.drop (j + 1) := by
  unfold mx
  rw [take_snoc h, List.map_append, List.append_assoc]
  rfl
theorem mx_same {f : Rt → Rt} {t : List Rt} {j : Nat} {r : Rt} (h : t[j]? = some r) (hf : f r = r) : mx f t (j + 1) = mx f t j := by
  rw [mx_succ h, hf]
  unfold mx
  rw [drop_cons h]
theorem mx_set {f : Rt → Rt} {t : List Rt} {j : Nat} {r : Rt} (h : t[j]? = some r) : (mx f t j).set j (f r) = mx f t (j + 1) := by
  have hl : j < t.length := (List.getElem?_eq_some_iff.1 h).1
  rw [mx_succ h]
  unfold mx
  rw [drop_cons h, List.set_append_right _ _ (by simp; omega)]
  simp [Nat.min_eq_left (Nat.le_of_lt hl)]
def sIn (t : List Rt) : Prop := ∀ r ∈ t, 0 ≤ r.s ∧ r.s ≤ 65535
theorem seen_tab {t : List Rt} {self : Int} (h : chk t (lim self) = 0) : Seen t := by
  have h24 : ¬ 24 < t.length := fun h2 => by rw [chk_long h2] at h; cases h
  have hn : nodeB (lim self) = true := by rw [node_lim, lim_lim]; simp
  refine seen_of ?_
  rcases Classical.em (chk1 none t = 0) with h1 | h1
  · exact h1
  · rw [chk_one h24 hn h1] at h; exact absurd h h1
theorem sin_tab (t : List Rt) (self : Int) : sIn (tab t self) := by
  unfold tab
  split
  · rename_i h
    intro r hr
    have := rok_node ((seen_tab h).ok r hr)
    omega
  · intro r hr
    rw [List.mem_singleton] at hr
    subst hr
    exact ⟨Int.le_refl _, by show (0 : Int) ≤ 65535; omega⟩
set_option maxRecDepth 40000 in
set_option maxHeartbeats 16000000 in
theorem brk16 (A : Option Addr) (n cap : Nat) (t : List Rt) (self next : Int) (w : World) (hn : n ≤ 100) (hr : Rd w ER A n t) :
    Calls Try.prog 16 #[.slice A n cap, .int .i64 self, .int .i64 next] w (SlEnd w (brk t self next)) := by
  have S := Lib.hid (sane31 A n cap t self w hn hr)
  have ND := Lib.hid (fun w' => node32 next w')
  have HSI := Lib.hid (sin_tab t self)
  have HTB := Lib.hid (tb_tab t self)
  clear hr hn
  go_enter Try.func16, Try.ntmps16
  go_wp2_with fail
  refine (limit30 self w).mono ?_
  rintro e w' ⟨rfl, rfl⟩
  go_wp2_with fail
  refine S.out.mono ?_
  rintro e w1 ⟨A1, n1, p1, rfl, ho, hb1⟩
  have hn1 : n1 ≤ 24 := by rw [← ho.1]; exact HTB.out.le
  have HLN := Lib.hid ho.1
  cases hnf : nodeB next
  · have HU := Lib.hid (show brk t self next = tab t self by unfold brk; rw [if_neg (by rw [hnf]; simp)])
    rw [hnf] at ND
    clear hnf
    go_wp2_with fail
    refine (ND.out w1).mono ?_
    rintro e w' ⟨rfl, rfl⟩
    go_wp2
    go_ret
    exact ⟨A1, n1, p1, rfl, by rw [HU.out]; exact ho, hb1⟩
  · have HU := Lib.hid (show brk t self next = (tab t self).map (brk1 (lim self) next) by unfold brk; rw [if_pos hnf])
    rw [hnf] at ND
    clear hnf
    generalize tab t self = tt at *
    go_wp2_with fail
    refine (ND.out w1).mono ?_
    rintro e w' ⟨rfl, rfl⟩
    go_wp2
    go_loopw [20] (fun i wr => ∃ j : Nat, j ≤ n1 ∧ i = .int .i64 j ∧ Ow wr w.heap.size 40 ER (.slice A1 n1 p1) n1 (mx (brk1 (lim self) next) tt j) ∧ Below w.heap.size w wr) (fun i _ => n1 - (intOf i).toNat)
    case atStart => exact ⟨0, Nat.zero_le _, rfl, by rw [mx_zero]; exact ho, hb1⟩
    case round =>
      clear ho hb1
      obtain ⟨j, hj, rfl, ho, hbr⟩ := hrel
      by_cases hlt : j < n1
      · obtain ⟨g, rfl, hgb, hgl⟩ := ho.at0 (by omega)
        obtain ⟨r, hrj⟩ : ∃ r, tt[j]? = some r := ⟨_, List.getElem?_eq_getElem (by have := HLN.out; omega)⟩
        obtain ⟨b', off', r', hA', hr', e0, e1, e2, e3⟩ := rt_at ho.rd hlt
        obtain ⟨rfl, rfl⟩ : g = b' ∧ 0 = off' := by cases hA'; exact ⟨rfl, rfl⟩
        obtain rfl : r = r' := by rw [mx_get hrj] at hr'; cases hr'; rfl
        simp only [Nat.zero_add] at e0 e1 e2 e3
        have hs := HSI.out r (List.mem_of_getElem? hrj)
        obtain ⟨hs1, hs2⟩ := hs
        have HRJ := Lib.hid hrj
        have HGB := Lib.hid hgb
        clear hA' hr' hrj hgb
        go_upto_region 8 with fail
        obtain ⟨V, hV, hBV, hzV, hkV⟩ := boxeds wr (rtC r) 40
        rw [hV]
        have a0 := hkV.at 0 (v := .int .i64 r.d) rfl
        have a1 := hkV.at 1 (v := .int .i64 r.s) rfl
        have a3 := hkV.at 3 (v := .int .i64 r.n) rfl
        have hbV := hbr.trans (hBV.mono hbr.size)
        have oV := ho.later hBV
        have q0 := keep hBV e0
        have q1 := keep hBV e1
        have q2 := keep hBV e2
        have q3 := keep hBV e3
        clear e0 e1 e2 e3 hzV hkV ho hbr hgl hBV
        by_cases hcond : r.n = next ∧ r.d ≠ lim self
        · obtain ⟨h1, h2⟩ := hcond
          have HF := Lib.hid (show brk1 (lim self) next r = ⟨r.d, r.s + 1, 255, 255⟩ by unfold brk1; rw [if_pos ⟨h1, h2⟩])
          have c1 : (r.n == next) = true := by simp [h1]
          have c2 : (r.d == lim self) = false := by rw [beq_eq_false_iff_ne]; exact h2
          have c3 : (r.d != lim self) = true := by rw [bne, c2]; rfl
          obtain ⟨T, hT, oT, gT⟩ := oV.set4 (mx_get HRJ.out) ⟨r.d, r.s + 1, 255, 255⟩
          have OT := Lib.hid (show Ow T w.heap.size 40 ER (.slice (some ⟨g, 0, none⟩) n1 p1) n1 (mx (brk1 (lim self) next) tt (j + 1)) from by rw [← mx_set HRJ.out, HF.out]; exact oT)
          have b2 := Below.grow hbV gT hbV.size HGB.out
          have z0 := oV.free (by omega) (j * 4)
          have z1 := oV.free (by omega) (j * 4 + 1)
          have z2 := oV.free (by omega) (j * 4 + 2)
          have z3 := oV.free (by omega) (j * 4 + 3)
          clear h1 h2 oT gT oV hbV
          go_wp2
          all_goals first | (exfalso; simp_all; done) | skip
          go_roundw
          case rel => exact ⟨j + 1, by omega, by go_num, OT.out, b2⟩
          case measure => simp [intOf]; omega
        · have HF := Lib.hid (show brk1 (lim self) next r = r by unfold brk1; rw [if_neg hcond])
          have OT := Lib.hid (show Ow V w.heap.size 40 ER (.slice (some ⟨g, 0, none⟩) n1 p1) n1 (mx (brk1 (lim self) next) tt (j + 1)) from by rw [mx_same HRJ.out HF.out]; exact oV)
          have hc' : ¬ r.n = next ∨ (r.n = next ∧ r.d = lim self) := by
            by_cases h1 : r.n = next
            · exact .inr ⟨h1, by rcases Classical.em (r.d = lim self) with h2 | h2; exact h2; exact absurd ⟨h1, h2⟩ hcond⟩
            · exact .inl h1
          clear hcond oV q0 q1 q2 q3
          rcases hc' with h1 | ⟨h1, h2⟩
          · have c1 : (r.n == next) = false := by rw [beq_eq_false_iff_ne]; exact h1
            clear h1
            go_wp2
            all_goals first | (exfalso; simp_all; done) | skip
            go_roundw
            case rel => exact ⟨j + 1, by omega, by go_num, OT.out, hbV⟩
            case measure => simp [intOf]; omega
          · have c1 : (r.n == next) = true := by simp [h1]
            have c2 : (r.d == lim self) = true := by simp [h2]
            have c3 : (r.d != lim self) = false := by simp [h2]
            clear h1 h2
            go_wp2
            all_goals first | (exfalso; simp_all; done) | skip
            go_roundw
            case rel => exact ⟨j + 1, by omega, by go_num, OT.out, hbV⟩
            case measure => simp [intOf]; omega
      · rw [mx_all _ (by have := HLN.out; omega)] at ho
        go_wp2
        go_ret
        exact ⟨A1, n1, p1, rfl, by rw [HU.out]; exact ho, hbr⟩
/-- Hop -/
theorem hop_none {t : List Rt} {x : Int} (h : ∀ r ∈ t, r.d ≠ x) : hop t x = (0, false) := by
  unfold hop
  rw [List.find?_eq_none.2 (fun r hr => by simp [h r hr])]
theorem hop_some {t : List Rt} {x : Int} {k : Nat} {q : Rt} (hq : t[k]? = some q) (hd : q.d = x) (hb : ∀ r ∈ t.take k, r.d ≠ x) : hop t x = if finB q = true then (q.n, true) else (0, false) := by
  unfold hop
  have : t.find? (fun r => decide (r.d = x)) = some q := by
    rw [← List.take_append_drop k t, List.find?_append, List.find?_eq_none.2 (fun r hr => by simp [hb r hr]), drop_cons hq]
    simp [hd]
  rw [this]
def HopEnd (w : World) (p : Int × Bool) (e : Ending) (w' : World) : Prop := e = .returned (.tuple #[.int .i64 p.1, .bool p.2]) ∧ Below w.heap.size w w'
set_option maxHeartbeats 4000000 in
theorem hop14 (A : Option Addr) (n cap : Nat) (t : List Rt) (x : Int) (w : World) (hn : n ≤ 1000) (hr : Rd w ER A n t) :
    Calls Try.prog 14 #[.slice A n cap, .int .i64 x] w (HopEnd w (hop t x)) := by
  have hlen : t.length = n := hr.1
  have hB0 := Below.refl w.heap.size w
  go_enter Try.func14, Try.ntmps14
  go_wp2
  go_loopw [10] (fun i wr => ∃ j : Nat, j ≤ n ∧ i = .int .i64 j ∧ (∀ r ∈ t.take j, r.d ≠ x) ∧ Below w.heap.size w wr) (fun i _ => n - (intOf i).toNat)
  case atStart => exact ⟨0, Nat.zero_le _, rfl, by simp, hB0⟩
  case round =>
    clear hB0
    obtain ⟨j, hj, rfl, hno, hbr⟩ := hrel
    by_cases hlt : j < n
    · obtain ⟨b, off, r, hA, hla, e0, e1, e2, e3⟩ := rt_at (hr.later hbr) hlt
      rw [hA]
      have HLA := Lib.hid hla
      have HNO := Lib.hid hno
      clear hla hno
      go_upto_region 4 with fail
      obtain ⟨V, hV, hBV, hzV, hkV⟩ := boxeds wr (rtC r) 40
      rw [hV]
      have a0 := hkV.at 0 (v := .int .i64 r.d) rfl
      have a1 := hkV.at 1 (v := .int .i64 r.s) rfl
      have a2 := hkV.at 2 (v := .int .i64 r.c) rfl
      have a3 := hkV.at 3 (v := .int .i64 r.n) rfl
      have hbV := hbr.trans (hBV.mono hbr.size)
      clear e0 e1 e2 e3 hzV hkV hbr hBV
      by_cases hd : r.d = x
      · have d1 : (r.d == x) = true := by simp [hd]
        have HH := Lib.hid (hop_some HLA.out hd HNO.out)
        clear hd
        cases hf : finB r
        · have F := Lib.hid (hf ▸ finite34 r V)
          have H2 := Lib.hid (HH.out.trans (if_neg (by rw [hf]; simp)))
          clear hf
          go_wp2_with fail
          all_goals first | (exfalso; simp_all; done) | skip
          refine F.out.mono ?_
          rintro e w2 ⟨rfl, hb2⟩
          have hb3 := hbV.trans (hb2.mono hbV.size)
          clear hb2 a0 a1 a2 a3
          go_wp2
          refine bodyPost_ret (v := .tuple #[.int .i64 0, .bool false]) (by simp [results, Try.results14, go_sem]) rfl ?_
          exact ⟨by rw [H2.out], hb3⟩
        · have F := Lib.hid (hf ▸ finite34 r V)
          have H2 := Lib.hid (HH.out.trans (if_pos hf))
          clear hf
          go_wp2_with fail
          all_goals first | (exfalso; simp_all; done) | skip
          refine F.out.mono ?_
          rintro e w2 ⟨rfl, hb2⟩
          have hb3 := hbV.trans (hb2.mono hbV.size)
          have b3 := keep hb2 a3
          clear hb2 a0 a1 a2 a3
          go_wp2
          refine bodyPost_ret (v := .tuple #[.int .i64 r.n, .bool true]) (by simp [results, Try.results14, go_sem]) rfl ?_
          exact ⟨by rw [H2.out], hb3⟩
      · have d1 : (r.d == x) = false := by rw [beq_eq_false_iff_ne]; exact hd
        have HN2 := Lib.hid (show ∀ y ∈ t.take (j + 1), y.d ≠ x by
          rw [take_snoc HLA.out]
          intro y hy
          rcases List.mem_append.1 hy with hy | hy
          · exact HNO.out y hy
          · rw [List.mem_singleton] at hy; subst hy; exact hd)
        clear hd
        go_wp2
        all_goals first | (exfalso; simp_all; done) | skip
        go_roundw
        case rel => exact ⟨j + 1, by omega, by go_num, HN2.out, hbV⟩
        case measure => simp [intOf]; omega
    · have H2 := Lib.hid (hop_none (t := t) (x := x) (by rw [List.take_of_length_le (by omega)] at hno; exact hno))
      clear hno
      go_wp2
      refine bodyPost_ret (v := .tuple #[.int .i64 0, .bool false]) (by simp [results, Try.results14, go_sem]) rfl ?_
      exact ⟨by rw [H2.out], hbr⟩
set_option maxHeartbeats 4000000 in
theorem hop15 (A : Option Addr) (n cap : Nat) (t : List Rt) (x : Int) (w : World) (hn : n ≤ 1000) (hr : Rd w ER A n t) :
    Calls Try.prog 15 #[.slice A n cap, .int .i64 x] w (HopEnd w (hop t x)) := by
  have hlen : t.length = n := hr.1
  go_enter Try.func15, Try.ntmps15
  go_wp2_with fail
  refine (find40 A n cap t x w hn hr).mono ?_
  rintro e w1 ⟨z, rfl, hf, hb1⟩
  rcases hf with ⟨rfl, hno⟩ | ⟨k, q, rfl, hkq, hqd, hbf⟩
  · have H2 := Lib.hid (hop_none (t := t) (x := x) hno)
    clear hno
    go_wp2
    refine bodyPost_ret (v := .tuple #[.int .i64 0, .bool false]) (by simp [results, Try.results15, go_sem]) rfl ?_
    exact ⟨by rw [H2.out], hb1⟩
  · have HH := Lib.hid (hop_some hkq hqd hbf)
    have hkn : k < n := by rw [← hlen]; exact (List.getElem?_eq_some_iff.1 hkq).1
    obtain ⟨b, off, r, hA, hla, e0, e1, e2, e3⟩ := rt_at (hr.later hb1) hkn
    obtain rfl : q = r := by rw [hkq] at hla; cases hla; rfl
    rw [hA]
    have hx0 : (0 : Int) ≤ (k : Int) := by omega
    have hx1 : (k : Int) < (n : Int) := by omega
    have hx2 : ¬ ((k : Int) < 0) := by omega
    clear hkq hqd hbf hla
    cases hf : finB q
    · have F := Lib.hid (hf ▸ finite41 q w1)
      have H2 := Lib.hid (HH.out.trans (if_neg (by rw [hf]; simp)))
      clear hf
      go_wp2_with fail
      refine F.out.mono ?_
      rintro e w2 ⟨rfl, hb2⟩
      have hb3 := hb1.trans (hb2.mono hb1.size)
      clear hb2 e0 e1 e2 e3
      go_wp2
      refine bodyPost_ret (v := .tuple #[.int .i64 0, .bool false]) (by simp [results, Try.results15, go_sem]) rfl ?_
      exact ⟨by rw [H2.out], hb3⟩
    · have F := Lib.hid (hf ▸ finite41 q w1)
      have H2 := Lib.hid (HH.out.trans (if_pos hf))
      clear hf
      go_wp2_with fail
      refine F.out.mono ?_
      rintro e w2 ⟨rfl, hb2⟩
      have hb3 := hb1.trans (hb2.mono hb1.size)
      have f3 := keep hb2 e3
      clear hb2 e0 e1 e2 e3
      go_wp2
      refine bodyPost_ret (v := .tuple #[.int .i64 q.n, .bool true]) (by simp [results, Try.results15, go_sem]) rfl ?_
      exact ⟨by rw [H2.out], hb3⟩
end Go.Proofs.Ytlmoeempblgdkaa

