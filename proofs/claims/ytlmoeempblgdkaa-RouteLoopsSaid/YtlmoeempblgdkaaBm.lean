/- Bump. -/
import Derived.Test.YtlmoeempblgdkaaLf
namespace Go.Proofs.Ytlmoeempblgdkaa
open Go.RowKit Go.BigFrame
set_option linter.unusedVariables false
set_option linter.unusedSimpArgs false

def bump1 (self : Int) (r : Rt) : Rt := if r.d = self ∧ r.s < 65534 then ⟨r.d, r.s + 2, r.c, r.n⟩ else r
def bump (t : List Rt) (self : Int) : List Rt := (tab t self).map (bump1 (lim self))
theorem own_in (t : List Rt) (self : Int) : ∃ r ∈ tab t self, r.d = lim self := by
  by_cases h : chk t (lim self) = 0
  · rw [tab_yes h]
    have := (chk_zero h).2.2.2.1
    rw [List.all_eq_false] at this
    obtain ⟨r, hr, hd⟩ := this
    exact ⟨r, hr, by simpa using hd⟩
  · rw [tab_no h]
    exact ⟨_, List.mem_singleton.2 rfl, rfl⟩
theorem map_one {f : Rt → Rt} {t : List Rt} {k : Nat} {q : Rt} (hq : t[k]? = some q) (h : ∀ (i : Nat) (r : Rt), i ≠ k → t[i]? = some r → f r = r) : t.map f = t.set k (f q) := by
  apply List.ext_getElem?
  intro i
  rw [List.getElem?_map, List.getElem?_set]
  split
  · rename_i hk
    subst hk
    rw [hq, if_pos (List.getElem?_eq_some_iff.1 hq).1]
    rfl
  · rename_i hk
    cases hr : t[i]? with
    | none => rfl
    | some r => exact congrArg some (h i r (fun e => hk e.symm) hr)
theorem bump_at {t : List Rt} {self : Int} {k : Nat} {q : Rt} (hq : (tab t self)[k]? = some q) (hd : q.d = lim self) : bump t self = if q.s < 65534 then (tab t self).set k ⟨q.d, q.s + 2, q.c, q.n⟩ else tab t self := by
  have hasc := (tb_tab t self).asc
  have e : bump t self = (tab t self).set k (bump1 (lim self) q) := by
    unfold bump
    refine map_one hq (fun i r hik hr => ?_)
    unfold bump1
    rw [if_neg]
    rintro ⟨h1, _⟩
    exact hik (asc_at hasc hr hq (h1.trans hd.symm))
  rw [e]
  unfold bump1
  by_cases hs : q.s < 65534
  · rw [if_pos ⟨hd, hs⟩, if_pos hs]
  · rw [if_neg (fun h => hs h.2), if_neg hs]
    apply List.ext_getElem?
    intro i
    rw [List.getElem?_set]
    split
    · rename_i hk
      subst hk
      rw [hq, if_pos (List.getElem?_eq_some_iff.1 hq).1]
    · rfl
theorem len_bump (t : List Rt) (self : Int) : (bump t self).length ≤ 24 := by
  unfold bump; rw [List.length_map]; exact (tb_tab t self).le
set_option maxRecDepth 40000 in
set_option maxHeartbeats 16000000 in
theorem bump26 (A : Option Addr) (n cap : Nat) (t : List Rt) (self : Int) (w : World) (hn : n ≤ 100) (hr : Rd w ER A n t) :
    Calls Try.prog 26 #[.slice A n cap, .int .i64 self] w (SlEnd w (bump t self)) := by
  have S := Lib.hid (sane31 A n cap t self w hn hr)
  have HSI := Lib.hid (sin_tab t self)
  have HTB := Lib.hid (tb_tab t self)
  have HOI := Lib.hid (own_in t self)
  have HBA := Lib.hid (fun k q => bump_at (t := t) (self := self) (k := k) (q := q))
  have HLI := Lib.hid (lim_in self)
  clear hr hn
  go_enter Try.func26, Try.ntmps26
  go_wp2_with fail
  refine (limit30 self w).mono ?_
  rintro e w' ⟨rfl, rfl⟩
  go_wp2_with fail
  refine S.out.mono ?_
  rintro e w1 ⟨A1, n1, p1, rfl, ho, hb1⟩
  have hn1 : n1 ≤ 24 := by rw [← ho.1]; exact HTB.out.le
  have HLN := Lib.hid ho.1
  generalize tab t self = tt at *
  have F := Lib.hid (find43 A1 n1 p1 tt (lim self) w1 (by omega) ho.rd HTB.out.asc HTB.out.din HLI.out.1 HLI.out.2)
  go_wp2_with fail
  refine F.out.mono ?_
  rintro e w2 ⟨k, b, hk, hc, hb, rfl, hb2⟩
  have o2 := ho.later hb2
  have b2 := hb1.trans (hb2.mono hb1.size)
  obtain ⟨q, hq, hd⟩ : ∃ q, tt[k]? = some q ∧ q.d = lim self := by
    obtain ⟨q, hq, hd⟩ := HOI.out
    obtain ⟨i, hi⟩ := List.getElem?_of_mem hq
    have hik : k ≤ i := by
      rcases Nat.lt_or_ge i k with h | h
      · have := hc.1 i q h hi; omega
      · exact h
    rcases Nat.eq_or_lt_of_le hik with rfl | hlt
    · exact ⟨q, hi, hd⟩
    · have hil : i < tt.length := (List.getElem?_eq_some_iff.1 hi).1
      have hk' : k < tt.length := by omega
      have h1 := asc_lt HTB.out.asc (List.getElem?_eq_getElem hk') hi hlt
      have h2 := hc.2 k _ (Nat.le_refl _) (List.getElem?_eq_getElem hk')
      omega
  obtain rfl : b = true := hb.2 ⟨q, hq, hd⟩
  have hkn : k < n1 := by rw [← HLN.out]; exact (List.getElem?_eq_some_iff.1 hq).1
  obtain ⟨g, rfl, hgb, hgl⟩ := o2.at0 (by omega)
  obtain ⟨b', off', r', hA', hr', e0, e1, e2, e3⟩ := rt_at o2.rd hkn
  obtain ⟨rfl, rfl⟩ : g = b' ∧ 0 = off' := by cases hA'; exact ⟨rfl, rfl⟩
  obtain rfl : r' = q := by rw [hq] at hr'; cases hr'; rfl
  simp only [Nat.zero_add] at e0 e1 e2 e3
  obtain ⟨hs1, hs2⟩ := HSI.out r' (List.mem_of_getElem? hq)
  have HE := Lib.hid (HBA.out k r' hq hd)
  have HQ := Lib.hid hq
  have HGB := Lib.hid hgb
  have z1 := o2.free (by omega) (k * 4 + 1)
  clear hb hc hd hA' hr' hq hgb hgl ho hb1 hb2 F S e0 e2 e3
  by_cases hlt : r'.s < 65534
  · have HU := Lib.hid (HE.out.trans (if_pos hlt))
    have oT := o2.setField HQ.out (j := 1) (by decide) (.int .i64 (r'.s + 2)) (a' := ⟨r'.d, r'.s + 2, r'.c, r'.n⟩) rfl
    have gT := grown_setCell w2 ⟨g, k * 4 + 1, none⟩ (.int .i64 (r'.s + 2))
    have hbT := Below.grow b2 gT b2.size HGB.out
    have OT := Lib.hid oT
    clear oT gT b2 o2
    go_wp2
    go_ret
    exact ⟨_, n1, p1, rfl, by rw [HU.out]; exact OT.out, hbT⟩
  · have HU := Lib.hid (HE.out.trans (if_neg hlt))
    clear z1
    go_wp2
    go_ret
    exact ⟨_, n1, p1, rfl, by rw [HU.out]; exact o2, b2⟩
set_option maxRecDepth 40000 in
set_option maxHeartbeats 16000000 in
theorem bump27 (A : Option Addr) (n cap : Nat) (t : List Rt) (self : Int) (w : World) (hn : n ≤ 100) (hr : Rd w ER A n t) :
    Calls Try.prog 27 #[.slice A n cap, .int .i64 self] w (SlEnd w (bump t self)) := by
  have S := Lib.hid (table36 A n cap t self w hn hr)
  have HSI := Lib.hid (sin_tab t self)
  have HTB := Lib.hid (tb_tab t self)
  have HOI := Lib.hid (own_in t self)
  have HBA := Lib.hid (fun k q => bump_at (t := t) (self := self) (k := k) (q := q))
  clear hr hn
  go_enter Try.func27, Try.ntmps27
  go_wp2_with fail
  refine S.out.mono ?_
  rintro e w1 ⟨A1, n1, p1, rfl, ho, hb1⟩
  have hn1 : n1 ≤ 24 := by rw [← ho.1]; exact HTB.out.le
  have HLN := Lib.hid ho.1
  generalize tab t self = tt at *
  go_wp2_with fail
  refine (limit37 self w1).mono ?_
  rintro e w' ⟨rfl, rfl⟩
  have F := Lib.hid (find40 A1 n1 p1 tt (lim self) w1 (by omega) ho.rd)
  go_wp2_with fail
  refine F.out.mono ?_
  rintro e w2 ⟨z, rfl, hz, hb2⟩
  have o2 := ho.later hb2
  have b2 := hb1.trans (hb2.mono hb1.size)
  obtain ⟨k, q, rfl, hq, hd⟩ : ∃ (k : Nat) (q : Rt), z = k ∧ tt[k]? = some q ∧ q.d = lim self := by
    obtain ⟨q, hq, hd⟩ := HOI.out
    rcases hz with ⟨_, h⟩ | ⟨k, q, h1, h2, h3, _⟩
    · exact absurd hd (h q hq)
    · exact ⟨k, q, h1, h2, h3⟩
  have hkn : k < n1 := by rw [← HLN.out]; exact (List.getElem?_eq_some_iff.1 hq).1
  obtain ⟨g, rfl, hgb, hgl⟩ := o2.at0 (by omega)
  obtain ⟨b', off', r', hA', hr', e0, e1, e2, e3⟩ := rt_at o2.rd hkn
  obtain ⟨rfl, rfl⟩ : g = b' ∧ 0 = off' := by cases hA'; exact ⟨rfl, rfl⟩
  obtain rfl : r' = q := by rw [hq] at hr'; cases hr'; rfl
  simp only [Nat.zero_add] at e0 e1 e2 e3
  obtain ⟨hs1, hs2⟩ := HSI.out r' (List.mem_of_getElem? hq)
  have HE := Lib.hid (HBA.out k r' hq hd)
  have HQ := Lib.hid hq
  have HGB := Lib.hid hgb
  have z1 := o2.free (by omega) (k * 4 + 1)
  clear hz hd hA' hr' hq hgb hgl ho hb1 hb2 F S e0 e2 e3
  by_cases hlt : r'.s < 65534
  · have HU := Lib.hid (HE.out.trans (if_pos hlt))
    have oT := o2.setField HQ.out (j := 1) (by decide) (.int .i64 (r'.s + 2)) (a' := ⟨r'.d, r'.s + 2, r'.c, r'.n⟩) rfl
    have gT := grown_setCell w2 ⟨g, k * 4 + 1, none⟩ (.int .i64 (r'.s + 2))
    have hbT := Below.grow b2 gT b2.size HGB.out
    have OT := Lib.hid oT
    clear oT gT b2 o2
    go_wp2
    go_ret
    exact ⟨_, n1, p1, rfl, by rw [HU.out]; exact OT.out, hbT⟩
  · have HU := Lib.hid (HE.out.trans (if_neg hlt))
    clear z1
    go_wp2
    go_ret
    exact ⟨_, n1, p1, rfl, by rw [HU.out]; exact o2, b2⟩
end Go.Proofs.Ytlmoeempblgdkaa
