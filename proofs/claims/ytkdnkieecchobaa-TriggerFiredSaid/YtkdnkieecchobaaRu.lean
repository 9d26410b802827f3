/- Rules: how they lie in memory; some, Any. -/
import Derived.Test.YtkdnkieecchobaaHf
import Derived.Test.YtkdnkieecchobaaHg
import Derived.Test.YtkdnkieecchobaaOpen
import Derived.Test.YtkdnkieecchobaaLf
namespace Go.Proofs.Ytkdnkieecchobaa
open Go.RowKit Go.BigFrame
set_option linter.unusedVariables false
set_option linter.unusedSimpArgs false

def EG : Enc Tg := ⟨fun t => (tgC t).toList, 10, by omega, fun _ => rfl, fun t u hu => by simp [tgC] at hu; rcases hu with rfl | rfl | rfl | rfl | rfl | rfl | rfl | rfl | rfl | rfl <;> rfl⟩
structure Ru where
  name : ByteArray
  x1 : Value
  A : Option Addr
  n : Nat
  c : Nat
  x3 : Value
  x4 : Value
  x5 : Value
  x6 : Value
  x7 : Value
  x8 : Value
  x9 : Value
  x10 : Value
  x11 : Value
  x12 : Value
  x13 : Value
  x14 : Value
  on : List Tg
  ok : x1.oneCell' = true ∧ x3.oneCell' = true ∧ x4.oneCell' = true ∧ x5.oneCell' = true ∧ x6.oneCell' = true ∧ x7.oneCell' = true ∧ x8.oneCell' = true ∧ x9.oneCell' = true ∧ x10.oneCell' = true ∧ x11.oneCell' = true ∧ x12.oneCell' = true ∧ x13.oneCell' = true ∧ x14.oneCell' = true
abbrev ruC (r : Ru) : Array Value := #[.string r.name, r.x1, .slice r.A r.n r.c, r.x3, r.x4, r.x5, r.x6, r.x7, r.x8, r.x9, r.x10, r.x11, r.x12, r.x13, r.x14]
abbrev ruV (r : Ru) : Value := .agg (ruC r)
theorem ru_one (r : Ru) : ∀ u ∈ (ruC r).toList, u.oneCell' = true := by
  obtain ⟨h1, h3, h4, h5, h6, h7, h8, h9, h10, h11, h12, h13, h14⟩ := r.ok
  intro u hu
  simp [ruC] at hu
  rcases hu with rfl | rfl | rfl | rfl | rfl | rfl | rfl | rfl | rfl | rfl | rfl | rfl | rfl | rfl | rfl
  · rfl
  · exact h1
  · rfl
  · exact h3
  · exact h4
  · exact h5
  · exact h6
  · exact h7
  · exact h8
  · exact h9
  · exact h10
  · exact h11
  · exact h12
  · exact h13
  · exact h14
def ER : Enc Ru := ⟨fun r => (ruC r).toList, 15, by omega, fun _ => rfl, ru_one⟩
theorem info50 : (Try.prog.info? 50).map (fun i => i.size) = some 15 := by kernel_rfl
theorem tg_at {w : World} {A : Option Addr} {n : Nat} {l : List Tg} (h : Rd w EG A n l) {k : Nat} (hk : k < n) :
    ∃ (b off : Nat) (t : Tg), A = some ⟨b, off, none⟩ ∧ l[k]? = some t ∧ w.cell? ⟨b, off + k * 10, none⟩ = some (.int .i64 t.kind) ∧ w.cell? ⟨b, off + k * 10 + 1, none⟩ = some (.int .i64 t.key.dev) ∧ w.cell? ⟨b, off + k * 10 + 2, none⟩ = some (.string t.key.a) ∧ w.cell? ⟨b, off + k * 10 + 3, none⟩ = some (.string t.key.b) ∧ w.cell? ⟨b, off + k * 10 + 4, none⟩ = some (.int .i64 t.ev.dev) ∧ w.cell? ⟨b, off + k * 10 + 5, none⟩ = some (.string t.ev.a) ∧ w.cell? ⟨b, off + k * 10 + 6, none⟩ = some (.string t.ev.b) ∧ w.cell? ⟨b, off + k * 10 + 7, none⟩ = some (.string t.name) ∧ w.cell? ⟨b, off + k * 10 + 8, none⟩ = some (.int .i64 t.n) ∧ w.cell? ⟨b, off + k * 10 + 9, none⟩ = some (.int .i64 t.m) := by
  obtain ⟨b, off, t, e1, e2, hc⟩ := h.elem hk
  exact ⟨b, off, t, e1, e2, hc 0 _ rfl, hc 1 _ rfl, hc 2 _ rfl, hc 3 _ rfl, hc 4 _ rfl, hc 5 _ rfl, hc 6 _ rfl, hc 7 _ rfl, hc 8 _ rfl, hc 9 _ rfl⟩
theorem ru_at {w : World} {A : Option Addr} {n : Nat} {l : List Ru} (h : Rd w ER A n l) {k : Nat} (hk : k < n) :
    ∃ (b off : Nat) (r : Ru), A = some ⟨b, off, none⟩ ∧ l[k]? = some r ∧ w.cell? ⟨b, off + k * 15, none⟩ = some (.string r.name) ∧ w.cell? ⟨b, off + k * 15 + 1, none⟩ = some (r.x1) ∧ w.cell? ⟨b, off + k * 15 + 2, none⟩ = some (.slice r.A r.n r.c) ∧ w.cell? ⟨b, off + k * 15 + 3, none⟩ = some (r.x3) ∧ w.cell? ⟨b, off + k * 15 + 4, none⟩ = some (r.x4) ∧ w.cell? ⟨b, off + k * 15 + 5, none⟩ = some (r.x5) ∧ w.cell? ⟨b, off + k * 15 + 6, none⟩ = some (r.x6) ∧ w.cell? ⟨b, off + k * 15 + 7, none⟩ = some (r.x7) ∧ w.cell? ⟨b, off + k * 15 + 8, none⟩ = some (r.x8) ∧ w.cell? ⟨b, off + k * 15 + 9, none⟩ = some (r.x9) ∧ w.cell? ⟨b, off + k * 15 + 10, none⟩ = some (r.x10) ∧ w.cell? ⟨b, off + k * 15 + 11, none⟩ = some (r.x11) ∧ w.cell? ⟨b, off + k * 15 + 12, none⟩ = some (r.x12) ∧ w.cell? ⟨b, off + k * 15 + 13, none⟩ = some (r.x13) ∧ w.cell? ⟨b, off + k * 15 + 14, none⟩ = some (r.x14) := by
  obtain ⟨b, off, t, e1, e2, hc⟩ := h.elem hk
  exact ⟨b, off, t, e1, e2, hc 0 _ rfl, hc 1 _ rfl, hc 2 _ rfl, hc 3 _ rfl, hc 4 _ rfl, hc 5 _ rfl, hc 6 _ rfl, hc 7 _ rfl, hc 8 _ rfl, hc 9 _ rfl, hc 10 _ rfl, hc 11 _ rfl, hc 12 _ rfl, hc 13 _ rfl, hc 14 _ rfl⟩
/-- some trigger of the rule fires -/
def anyP (r : Ru) (h : Hap) : Prop := ∃ t ∈ r.on, fireP t r.name h
theorem anyP_take {l : List Tg} {j : Nat} {t : Tg} {P : Tg → Prop} (h : l[j]? = some t) (h0 : ¬ ∃ x ∈ l.take j, P x) (h1 : ¬ P t) : ¬ ∃ x ∈ l.take (j + 1), P x := by
  rw [take_snoc h]
  rintro ⟨x, hx, hp⟩
  rcases List.mem_append.1 hx with hx | hx
  · exact h0 ⟨x, hx, hp⟩
  · rw [List.mem_singleton] at hx; subst hx; exact h1 hp

set_option maxRecDepth 20000 in
set_option maxHeartbeats 8000000 in
theorem some43 (r : Ru) (c : Hc) (h : Hap) (w : World) (b : Bool) (hn : r.n ≤ 20) (ho : Rd w EG r.A r.n r.on) (hr : HRd w c h) (sc : sm c 200) (hwin : winOk h.fr h.til) (hb : b = true ↔ anyP r h) :
    Calls Try.prog 43 #[ruV r, hpV c h] w fun e w' => e = .returned (.bool b) ∧ Below w.heap.size w w' := by
  obtain ⟨W, hW, hB, hz, hk⟩ := boxeds w (ruC r) 50
  obtain ⟨W2, hW2, hB2, hz2, hk2⟩ := boxeds W (hpC c h) 26
  have hkp := hk.later hB2
  have hBx := hB.trans (hB2.mono hB.size)
  have hox := ho.later hBx
  have hrx := hr.later hBx
  have HB := Lib.hid hb
  have HF := Lib.hid hBx
  have p2 := hkp.at 2 (v := .slice r.A r.n r.c) rfl
  have FF := Lib.hid (fun (t : Tg) (w' : World) (q : Bool) (hx : Below W2.heap.size W2 w') (hq : q = true ↔ fireP t r.name h) => fires36 t r.name c h w' q (hrx.later hx) sc.1 sc.2.1 sc.2.2 hwin hq)
  have hU0 := Below.refl W2.heap.size W2
  clear hz hz2 hk hB hB2 hBx ho hr hb hrx hwin sc
  go_enter Try.func43, Try.ntmps43
  go_wp2
  clear p2
  go_loopw [10] (fun i wr => ∃ j : Nat, j ≤ r.n ∧ i = .int .i64 j ∧ (¬ ∃ x ∈ r.on.take j, fireP x r.name h) ∧ Below W2.heap.size W2 wr) (fun i _ => r.n - (intOf i).toNat)
  case atStart => exact ⟨0, Nat.zero_le _, rfl, by simp, hU0⟩
  case round =>
    clear hU0
    obtain ⟨j, hj, rfl, hno, hbr⟩ := hrel
    by_cases hlt : j < r.n
    · obtain ⟨q, hq⟩ := bool_of (∃ t, r.on[j]? = some t ∧ fireP t r.name h)
      obtain ⟨ab, off, t, hA, hla, e0, e1, e2, e3, e4, e5, e6, e7, e8, e9⟩ := tg_at (hox.later hbr) hlt
      have hq' : q = true ↔ fireP t r.name h := by
        rw [hq]
        exact ⟨fun ⟨x, hx, hp⟩ => by rw [hla] at hx; cases hx; exact hp, fun hp => ⟨t, hla, hp⟩⟩
      rw [hA]
      have HQ := Lib.hid hq'
      have HN := Lib.hid hno
      have HLA := Lib.hid hla
      have hbr0 := Lib.hid hbr
      clear hq hq' hno hla
      go_upto_region 4 with fail
      obtain ⟨V, hV, hBV, hzV, hkV⟩ := boxeds wr (tgC t) 36
      rw [hV]
      have hbV := hbr.trans (hBV.mono hbr.size)
      have a0 := hkV.at 0 (v := .int .i64 t.kind) rfl
      have a1 := hkV.at 1 (v := .int .i64 t.key.dev) rfl
      have a2 := hkV.at 2 (v := .string t.key.a) rfl
      have a3 := hkV.at 3 (v := .string t.key.b) rfl
      have a4 := hkV.at 4 (v := .int .i64 t.ev.dev) rfl
      have a5 := hkV.at 5 (v := .string t.ev.a) rfl
      have a6 := hkV.at 6 (v := .string t.ev.b) rfl
      have a7 := hkV.at 7 (v := .string t.name) rfl
      have a8 := hkV.at 8 (v := .int .i64 t.n) rfl
      have a9 := hkV.at 9 (v := .int .i64 t.m) rfl
      have n0 := (hkp.later hbV).at 0 (v := .string r.name) rfl
      have d0 := (hk2.later hbV).at 0 (v := .slice c.A1 c.n1 c.c1) rfl
      have d1 := (hk2.later hbV).at 1 (v := .slice c.A2 c.n2 c.c2) rfl
      have d2 := (hk2.later hbV).at 2 (v := .int .i64 h.fr) rfl
      have d3 := (hk2.later hbV).at 3 (v := .int .i64 h.til) rfl
      have d4 := (hk2.later hbV).at 4 (v := .string h.mode) rfl
      have d5 := (hk2.later hbV).at 5 (v := .bool h.st) rfl
      have d6 := (hk2.later hbV).at 6 (v := .slice c.A3 c.n3 c.c3) rfl
      have hbV' := Lib.hid hbV
      clear hBV hzV hkV hbr hbV e0 e1 e2 e3 e4 e5 e6 e7 e8 e9
      cases q
      · have F := Lib.hid (FF.out t V false hbV'.out HQ.out)
        have NP : Hid (¬ fireP t r.name h) := Lib.hid (fun hp => by have := HQ.out.2 hp; cases this)
        clear HQ
        go_wp2_with fail
        refine F.out.mono ?_
        rintro e w2 ⟨rfl, hb2⟩
        have hb3 := hbV'.out.trans (hb2.mono hbV'.out.size)
        have hno' : ¬ ∃ x ∈ r.on.take (j + 1), fireP x r.name h := anyP_take HLA.out HN.out NP.out
        have HN2 := Lib.hid hno'
        clear hno' hb2 a0 a1 a2 a3 a4 a5 a6 a7 a8 a9 n0 d0 d1 d2 d3 d4 d5 d6
        go_wp2
        go_roundw
        case rel => exact ⟨j + 1, by omega, by go_num, HN2.out, hb3⟩
        case measure => simp [intOf]; omega
      · have F := Lib.hid (FF.out t V true hbV'.out HQ.out)
        have YP : Hid (fireP t r.name h) := Lib.hid (HQ.out.1 rfl)
        clear HQ
        go_wp2_with fail
        refine F.out.mono ?_
        rintro e w2 ⟨rfl, hb2⟩
        have hb3 := HF.out.trans ((hbV'.out.trans (hb2.mono hbV'.out.size)).mono HF.out.size)
        have hbt : b = true := HB.out.2 ⟨t, List.mem_of_getElem? HLA.out, YP.out⟩
        have HBT := Lib.hid hbt
        clear hbt hb2 a0 a1 a2 a3 a4 a5 a6 a7 a8 a9 n0 d0 d1 d2 d3 d4 d5 d6
        go_wp2
        go_ret
        exact ⟨by rw [HBT.out]; rfl, hb3⟩
    · have hbf : b = false := by
        cases hb : b
        · rfl
        · exfalso
          rw [List.take_of_length_le (by rw [hox.1]; omega)] at hno
          exact hno (HB.out.1 hb)
      have HBT := Lib.hid hbf
      have hb3 := HF.out.trans (hbr.mono HF.out.size)
      clear hbf hno
      go_wp2
      go_ret
      exact ⟨by rw [HBT.out]; rfl, hb3⟩
end Go.Proofs.Ytkdnkieecchobaa
