/- Triggers; fires of the program. -/
import Derived.Test.YtkdnkieecchobaaHd
namespace Go.Proofs.Ytkdnkieecchobaa
open Go.RowKit Go.BigFrame
set_option linter.unusedVariables false

structure Tg where
  kind : Int
  key : Ky
  ev : Ky
  name : ByteArray
  n : Int
  m : Int
abbrev tgC (t : Tg) : Array Value := #[.int .i64 t.kind, .int .i64 t.key.dev, .string t.key.a, .string t.key.b, .int .i64 t.ev.dev, .string t.ev.a, .string t.ev.b, .string t.name, .int .i64 t.n, .int .i64 t.m]
abbrev tgV (t : Tg) : Value := .agg (tgC t)
theorem info36 : (Try.prog.info? 36).map (fun i => (i.zero, i.size)) = some (some (.agg #[.int .i64 0, .int .i64 0, .string .empty, .string .empty, .int .i64 0, .string .empty, .string .empty, .string .empty, .int .i64 0, .int .i64 0]), 10) := by kernel_rfl
def noText : ByteArray := ⟨#[]⟩
theorem noText_list : noText.toList = [] := by rw [ByteArray.toList_eq]; rfl
theorem isEmpty_yes {x : ByteArray} (h : x = noText) : x.toList.isEmpty = true := by rw [h, noText_list]; rfl
theorem isEmpty_no {x : ByteArray} (h : x ≠ noText) : x.toList.isEmpty = false := by
  cases e : x.toList.isEmpty with
  | false => rfl
  | true => exact absurd (bytes_toList ((List.isEmpty_iff.1 e).trans noText_list.symm)) h
def fireP (t : Tg) (r : ByteArray) (h : Hap) : Prop :=
  (t.kind = 1 ∧ t.key ∈ h.ch) ∨ (t.kind = 2 ∧ t.ev ∈ h.ev) ∨ (t.kind = 3 ∧ strk h.fr h.til t.n t.m) ∨ (t.kind = 4 ∧ h.mode ≠ noText ∧ (t.name = noText ∨ t.name = h.mode)) ∨ (t.kind = 5 ∧ h.st = true) ∨ (t.kind = 6 ∧ r ∈ h.held)

set_option maxRecDepth 20000 in
set_option maxHeartbeats 8000000 in
theorem fires36 (t : Tg) (r : ByteArray) (c : Hc) (h : Hap) (w : World) (b : Bool) (hr : HRd w c h) (b1 : c.n1 ≤ 200) (b2 : c.n2 ≤ 200) (b3 : c.n3 ≤ 200) (hwin : winOk h.fr h.til) (hb : b = true ↔ fireP t r h) :
    Calls Try.prog 36 #[tgV t, .string r, hpV c h] w fun e w' => e = .returned (.bool b) ∧ Below w.heap.size w w' := by
  obtain ⟨W, hW, hB, hz, hk⟩ := boxeds w (tgC t) 36
  obtain ⟨W2, hW2, hB2, hz2, hk2⟩ := boxeds W (hpC c h) 26
  obtain ⟨kd, key, ev, nm, tn, tm⟩ := t
  have hkp := hk.later hB2
  have hBx := hB.trans (hB2.mono (by omega))
  have hrx := hr.later hBx
  have t0 := hkp.at 0 (v := .int .i64 kd) rfl
  have HB := Lib.hid hb
  have Z := Lib.hid hz
  have Z2 := Lib.hid hz2
  clear hb hz hz2 hk hr
  by_cases k1 : kd = 1
  · have HM := Lib.hid (show b = true ↔ key ∈ h.ch by rw [HB.out]; unfold fireP; simp [k1])
    subst k1
    have C := Lib.hid (contains49 c.A1 c.n1 c.c1 h.ch key W2 b (by omega) hrx.r1 HM.out)
    have p0 := hk2.at 0 (v := .slice c.A1 c.n1 c.c1) rfl
    have t1 := hkp.at 1 (v := .int .i64 key.dev) rfl
    have t2 := hkp.at 2 (v := .string key.a) rfl
    have t3 := hkp.at 3 (v := .string key.b) rfl
    clear hrx hkp hk2 HB HM
    go_enter Try.func36, Try.ntmps36
    go_wp2_with fail
    refine C.out.mono ?_
    rintro e w1 ⟨rfl, hb1⟩
    have hBy := hBx.trans (hb1.mono hBx.size)
    clear p0 t1 t2 t3 hb1 C
    go_wp2
    go_ret
    exact ⟨rfl, hBy⟩
  by_cases k2 : kd = 2
  · have HM := Lib.hid (show b = true ↔ ev ∈ h.ev by rw [HB.out]; unfold fireP; simp [k2])
    subst k2
    have C := Lib.hid (contains50 c.A2 c.n2 c.c2 h.ev ev W2 b (by omega) hrx.r2 HM.out)
    have p0 := hk2.at 1 (v := .slice c.A2 c.n2 c.c2) rfl
    have t1 := hkp.at 4 (v := .int .i64 ev.dev) rfl
    have t2 := hkp.at 5 (v := .string ev.a) rfl
    have t3 := hkp.at 6 (v := .string ev.b) rfl
    clear hrx hkp hk2 HB HM k1
    go_enter Try.func36, Try.ntmps36
    go_wp2_with fail
    refine C.out.mono ?_
    rintro e w1 ⟨rfl, hb1⟩
    have hBy := hBx.trans (hb1.mono hBx.size)
    clear p0 t1 t2 t3 hb1 C
    go_wp2
    go_ret
    exact ⟨rfl, hBy⟩
  by_cases k3 : kd = 3
  · have HM := Lib.hid (show b = true ↔ strk h.fr h.til tn tm by rw [HB.out]; unfold fireP; simp [k3])
    subst k3
    have C := Lib.hid (strikes51 h.fr h.til tn tm W2 b hwin HM.out)
    have p2 := hk2.at 2 (v := .int .i64 h.fr) rfl
    have p3 := hk2.at 3 (v := .int .i64 h.til) rfl
    have t1 := hkp.at 8 (v := .int .i64 tn) rfl
    have t2 := hkp.at 9 (v := .int .i64 tm) rfl
    clear hrx hkp hk2 HB HM k1 k2 hwin
    go_enter Try.func36, Try.ntmps36
    go_wp2_with fail
    refine C.out.mono ?_
    rintro e w1 ⟨rfl, rfl⟩
    clear p2 p3 t1 t2 C
    go_wp2
    go_ret
    exact ⟨rfl, hBx⟩
  by_cases k4 : kd = 4
  · have HM := Lib.hid (show b = true ↔ (h.mode ≠ noText ∧ (nm = noText ∨ nm = h.mode)) by rw [HB.out]; unfold fireP; simp [k4])
    subst k4
    have p4 := hk2.at 4 (v := .string h.mode) rfl
    have t1 := hkp.at 7 (v := .string nm) rfl
    clear hrx hkp hk2 HB k1 k2 k3 hwin
    by_cases m0 : h.mode = noText
    · have hm := isEmpty_yes m0
      have HE := Lib.hid (show false = b by cases b with
        | false => rfl
        | true => exact absurd m0 (HM.out.1 rfl).1)
      clear m0 HM
      go_enter Try.func36, Try.ntmps36
      go_wp2
      go_ret
      exact ⟨ret_bool HE.out, hBx⟩
    · have hm := isEmpty_no m0
      by_cases m1 : nm = noText
      · have hm1 := isEmpty_yes m1
        have HE := Lib.hid (show true = b from (HM.out.2 ⟨m0, .inl m1⟩).symm)
        clear m0 m1 HM
        go_enter Try.func36, Try.ntmps36
        go_wp2
        go_ret
        exact ⟨ret_bool HE.out, hBx⟩
      · have hm1 := isEmpty_no m1
        by_cases m2 : nm = h.mode
        · have hm2 : (nm.toList == h.mode.toList) = true := by rw [m2]; simp
          have HE := Lib.hid (show true = b from (HM.out.2 ⟨m0, .inr m2⟩).symm)
          clear m0 m1 m2 HM
          go_enter Try.func36, Try.ntmps36
          go_wp2
          go_ret
          exact ⟨ret_bool HE.out, hBx⟩
        · have hm2 : (nm.toList == h.mode.toList) = false := by rw [beq_eq_false_iff_ne]; exact fun e => m2 (bytes_toList e)
          have HE := Lib.hid (show false = b by cases b with
            | false => rfl
            | true => exact ((HM.out.1 rfl).2.elim m1 m2).elim)
          clear m0 m1 m2 HM
          go_enter Try.func36, Try.ntmps36
          go_wp2
          go_ret
          exact ⟨ret_bool HE.out, hBx⟩
  by_cases k5 : kd = 5
  · have HM := Lib.hid (show h.st = b by
      have : b = true ↔ h.st = true := by rw [HB.out]; unfold fireP; simp [k5]
      cases b <;> cases hs : h.st <;> simp_all)
    subst k5
    have p5 := hk2.at 5 (v := .bool h.st) rfl
    clear hrx hkp hk2 HB k1 k2 k3 k4 hwin
    go_enter Try.func36, Try.ntmps36
    go_wp2
    go_ret
    exact ⟨ret_bool HM.out, hBx⟩
  by_cases k6 : kd = 6
  · have HM := Lib.hid (show b = true ↔ r ∈ h.held by rw [HB.out]; unfold fireP; simp [k6])
    subst k6
    have C := Lib.hid (contains52 c.A3 c.n3 c.c3 h.held r W2 b (by omega) hrx.r3 HM.out)
    have p6 := hk2.at 6 (v := .slice c.A3 c.n3 c.c3) rfl
    clear hrx hkp hk2 HB HM k1 k2 k3 k4 k5 hwin
    go_enter Try.func36, Try.ntmps36
    go_wp2_with fail
    refine C.out.mono ?_
    rintro e w1 ⟨rfl, rfl⟩
    clear p6 C
    go_wp2
    go_ret
    exact ⟨rfl, hBx⟩
  · have HM := Lib.hid (show false = b by
      cases b with
      | false => rfl
      | true => have := HB.out.1 rfl; unfold fireP at this; simp [k1, k2, k3, k4, k5, k6] at this)
    have d1 : (kd == 1) = false := by rw [beq_eq_false_iff_ne]; exact k1
    have d2 : (kd == 2) = false := by rw [beq_eq_false_iff_ne]; exact k2
    have d3 : (kd == 3) = false := by rw [beq_eq_false_iff_ne]; exact k3
    have d4 : (kd == 4) = false := by rw [beq_eq_false_iff_ne]; exact k4
    have d5 : (kd == 5) = false := by rw [beq_eq_false_iff_ne]; exact k5
    have d6 : (kd == 6) = false := by rw [beq_eq_false_iff_ne]; exact k6
    clear hrx hkp hk2 HB k1 k2 k3 k4 k5 k6 hwin
    go_enter Try.func36, Try.ntmps36
    go_wp2
    go_ret
    exact ⟨ret_bool HM.out, hBx⟩
end Go.Proofs.Ytkdnkieecchobaa
