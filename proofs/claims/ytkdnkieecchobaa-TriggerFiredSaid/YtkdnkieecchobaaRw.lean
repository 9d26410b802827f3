/- Fired, of the program and of the document. -/
import Derived.Test.YtkdnkieecchobaaRv
import Derived.Test.YtkdnkieecchobaaHb
import Derived.Laws.Tables
namespace Go.Proofs.Ytkdnkieecchobaa
open Go.RowKit Go.BigFrame
set_option linter.unusedVariables false
set_option linter.unusedSimpArgs false

abbrev z50 : Array Value := #[.string ⟨#[]⟩, .int .i64 0, .slice none 0 0, .int .i64 0, .int .i64 0, .int .i64 0, .string ⟨#[]⟩, .int .i64 0, .int .i64 0, .string ⟨#[]⟩, .int .i64 0, .string ⟨#[]⟩, .string ⟨#[]⟩, .slice none 0 0, .slice none 0 0]
theorem ru_all (r : Ru) : (ruC r).all (·.oneCell') = true := by
  rw [Array.all_eq_true_iff_forall_mem]
  intro u hu
  exact ru_one r u (Array.mem_toList_iff.2 hu)
def nms (p : Ru → Bool) (l : List Ru) : List ByteArray := (l.filter p).map Ru.name
theorem nms_yes {p : Ru → Bool} {l : List Ru} {j : Nat} {r : Ru} (h : l[j]? = some r) (hp : p r = true) : nms p (l.take (j + 1)) = nms p (l.take j) ++ [r.name] := by
  unfold nms
  rw [take_snoc h, List.filter_append, List.map_append]
  simp [hp]
theorem nms_no {p : Ru → Bool} {l : List Ru} {j : Nat} {r : Ru} (h : l[j]? = some r) (hp : p r = false) : nms p (l.take (j + 1)) = nms p (l.take j) := by
  unfold nms
  rw [take_snoc h, List.filter_append, List.map_append]
  simp [hp]
/-- rules that can be read, not too many -/
structure Rus (w : World) (A : Option Addr) (n : Nat) (l : List Ru) : Prop where
  rd : Rd w ER A n l
  le : n ≤ 20
  on : ∀ r ∈ l, Rd w EG r.A r.n r.on
  lo : ∀ r ∈ l, r.n ≤ 20
theorem Rus.later {w w' : World} {A : Option Addr} {n : Nat} {l : List Ru} (r : Rus w A n l) (hb : Below w.heap.size w w') : Rus w' A n l := ⟨r.rd.later hb, r.le, fun x hx => (r.on x hx).later hb, r.lo⟩

set_option maxRecDepth 20000 in
set_option maxHeartbeats 8000000 in
theorem fired23 (A : Option Addr) (n cap : Nat) (l : List Ru) (c : Hc) (h : Hap) (w : World) (p : Ru → Bool) (hl : Rus w A n l) (hr : HRd w c h) (sc : sm c 100) (hp : ∀ r, p r = true ↔ anyP r (norm h)) :
    Calls Try.prog 23 #[.slice A n cap, hpV c h] w (OwEnd 9 ET w (setO sLt (nms p l))) := by
  obtain ⟨i0, hi0, hz0, hz1, hz2⟩ := info_parts info9
  obtain ⟨W, hW, hB, hz, hk⟩ := boxeds w (hpC c h) 26
  have s2 := sm_up sc (show 100 ≤ 200 by omega)
  have q0 := hk.at 0 (v := .slice c.A1 c.n1 c.c1) rfl
  have q1 := hk.at 1 (v := .slice c.A2 c.n2 c.c2) rfl
  have q2 := hk.at 2 (v := .int .i64 h.fr) rfl
  have q3 := hk.at 3 (v := .int .i64 h.til) rfl
  have q4 := hk.at 4 (v := .string h.mode) rfl
  have q5 := hk.at 5 (v := .bool h.st) rfl
  have q6 := hk.at 6 (v := .slice c.A3 c.n3 c.c3) rfl
  clear hz
  go_enter Try.func23, Try.ntmps23
  go_wp2_with fail
  refine (norm12 c h W (hr.later hB) s2.1 s2.2.1 s2.2.2).mono ?_
  rintro e w2 ⟨cN, rfl, hoN, hb2⟩
  have hsN := sm_up (hr.sm sc hoN.rd) (show 100 ≤ 200 by omega)
  have HWN := winOk_norm h
  obtain ⟨V, hV, hBV, hzV, hkN⟩ := boxeds w2 (hpC cN (norm h)) 26
  have hrN := hoN.rd.later hBV
  generalize norm h = x at *
  have hbV := hB.trans ((hb2.mono hB.size).trans (hBV.mono (Nat.le_trans hB.size hb2.size)))
  have hlV := hl.later hbV
  have hn20 : n ≤ 20 := hlV.le
  have SM := Lib.hid (fun (r : Ru) (w' : World) (b : Bool) (hn : r.n ≤ 20) (ho : Rd V EG r.A r.n r.on) (hx : Below V.heap.size V w') (hb : b = true ↔ anyP r x) => some43 r cN x w' b hn (ho.later hx) (hrN.later hx) hsN HWN hb)
  have HF := Lib.hid hbV
  have hU0 := Below.refl V.heap.size V
  clear q0 q1 q2 q3 q4 q5 q6 hk hB hb2 hBV hbV hzV hrN hoN hr hl s2 sc hsN HWN
  go_wp2
  go_loopw [6, 13] (fun s i wr => ∃ (j m cp : Nat) (B : Option Addr), j ≤ n ∧ m ≤ j ∧ i = .int .i64 j ∧ s = .slice B m cp ∧ Ow wr V.heap.size 9 ET (.slice B m cp) m (nms p (l.take j)) ∧ Below V.heap.size V wr) (fun _ i _ => n - (intOf i).toNat)
  case atStart => exact ⟨0, 0, 0, none, by omega, by omega, rfl, rfl, Ow.nil _ _ _ _, hU0⟩
  case round =>
    clear hU0
    obtain ⟨j, m, cp, B, hj, hm, rfl, rfl, ho, hbr⟩ := hrel
    by_cases hlt : j < n
    · obtain ⟨ab, off, r, hA, hla, e0, e1, e2, e3, e4, e5, e6, e7, e8, e9, e10, e11, e12, e13, e14⟩ := ru_at (hlV.rd.later hbr) hlt
      have hmem : r ∈ l := List.mem_of_getElem? hla
      rw [hA]
      have HO := Lib.hid ho
      have HLA := Lib.hid hla
      clear ho hla
      go_upto_region 6 with (refine wpList_store_row (o := ⟨none, Op.store 50 (.tmp 8) (.tmp 16), _, _, _, _⟩) rfl 50 (.tmp 8) (.tmp 16) rfl wr.heap.size (ruC r) rfl rfl 50 z50 (Blk.new wr 50 z50) info50 rfl (ru_all r) ?_)
      have hkT0 : Blk ((wr.alloc (.cells z50 50)).setRow wr.heap.size (ruC r)) wr.heap.size 50 (ruC r) := (Blk.new wr 50 z50).setRow
      have hBT0 : Below wr.heap.size wr ((wr.alloc (.cells z50 50)).setRow wr.heap.size (ruC r)) := below_setRow ((Below.refl _ _).alloc (Nat.le_refl _) _) (Nat.le_refl _) (by simp) _
      generalize (wr.alloc (.cells z50 50)).setRow wr.heap.size (ruC r) = T at *
      have hkT := hkT0
      have hBT := hBT0
      clear hkT0 hBT0
      have hbT := hbr.trans (hBT.mono hbr.size)
      have a0 := hkT.at 0 (v := .string r.name) rfl
      have a1 := hkT.at 1 (v := r.x1) rfl
      have a2 := hkT.at 2 (v := .slice r.A r.n r.c) rfl
      have a3 := hkT.at 3 (v := r.x3) rfl
      have a4 := hkT.at 4 (v := r.x4) rfl
      have a5 := hkT.at 5 (v := r.x5) rfl
      have a6 := hkT.at 6 (v := r.x6) rfl
      have a7 := hkT.at 7 (v := r.x7) rfl
      have a8 := hkT.at 8 (v := r.x8) rfl
      have a9 := hkT.at 9 (v := r.x9) rfl
      have a10 := hkT.at 10 (v := r.x10) rfl
      have a11 := hkT.at 11 (v := r.x11) rfl
      have a12 := hkT.at 12 (v := r.x12) rfl
      have a13 := hkT.at 13 (v := r.x13) rfl
      have a14 := hkT.at 14 (v := r.x14) rfl
      have d0 := (hkN.later hbT).at 0 (v := .slice cN.A1 cN.n1 cN.c1) rfl
      have d1 := (hkN.later hbT).at 1 (v := .slice cN.A2 cN.n2 cN.c2) rfl
      have d2 := (hkN.later hbT).at 2 (v := .int .i64 x.fr) rfl
      have d3 := (hkN.later hbT).at 3 (v := .int .i64 x.til) rfl
      have d4 := (hkN.later hbT).at 4 (v := .string x.mode) rfl
      have d5 := (hkN.later hbT).at 5 (v := .bool x.st) rfl
      have d6 := (hkN.later hbT).at 6 (v := .slice cN.A3 cN.n3 cN.c3) rfl
      have OT := Lib.hid (HO.out.later hBT)
      clear e0 e1 e2 e3 e4 e5 e6 e7 e8 e9 e10 e11 e12 e13 e14 hBT hbr HO
      cases hpr : p r
      · have F := Lib.hid (SM.out r T false (hlV.lo r hmem) (hlV.on r hmem) hbT (hpr ▸ hp r))
        have HBT := Lib.hid hbT
        have HP := Lib.hid hpr
        clear hpr hbT
        go_wp2_with fail
        refine F.out.mono ?_
        rintro e w3 ⟨rfl, hb3⟩
        have hbr3 := HBT.out.trans (hb3.mono HBT.out.size)
        have o3 := OT.out.later hb3
        have n0 := (hkT.later hb3).at 0 (v := .string r.name) rfl
        clear hb3 a0 a1 a2 a3 a4 a5 a6 a7 a8 a9 a10 a11 a12 a13 a14 d0 d1 d2 d3 d4 d5 d6 F
        rw [← nms_no HLA.out HP.out] at o3
        clear n0
        go_wp2
        go_roundw
        case rel => exact ⟨j + 1, m, cp, B, by omega, by omega, by go_num, rfl, o3, hbr3⟩
        case measure => simp [intOf]; omega
      · have F := Lib.hid (SM.out r T true (hlV.lo r hmem) (hlV.on r hmem) hbT (hpr ▸ hp r))
        have HBT := Lib.hid hbT
        have HP := Lib.hid hpr
        clear hpr hbT
        go_wp2_with fail
        refine F.out.mono ?_
        rintro e w3 ⟨rfl, hb3⟩
        have hbr3 := HBT.out.trans (hb3.mono HBT.out.size)
        have o3 := OT.out.later hb3
        have n0 := (hkT.later hb3).at 0 (v := .string r.name) rfl
        clear hb3 a0 a1 a2 a3 a4 a5 a6 a7 a8 a9 a10 a11 a12 a13 a14 d0 d1 d2 d3 d4 d5 d6 F
        go_wp2_with (at_builtin; refine wpList_append_rd _ rfl (.tmp 20) (.tmp 23) 24 rfl V.heap.size 9 i0 _ ET Try.underlying24 hi0 hz0 hz1 rfl (.slice B m cp) m (nms p (l.take j)) rfl (o3.later ((Below.refl _ _).alloc (Nat.le_refl _) _)) (some ⟨w3.heap.size, 0, none⟩) 1 1 [r.name] rfl (tx_one r.name w3 9) (by unfold maxLen; have := hlV.le; omega) (by rw [hz2]; have := hlV.le; omega) (by have := hbr3.size; simp; omega) ?_; intro A1 cap1 w4 o4 hg)
        have o3' : Ow (w3.alloc (.cells #[.string r.name] 9)) V.heap.size 9 ET (.slice B m cp) m (nms p (l.take j)) := o3.later ((Below.refl _ _).alloc (Nat.le_refl _) _)
        have hb4 := Below.row (hbr3.alloc hbr3.size (.cells #[.string r.name] 9)) hg (by have := hbr3.size; simp; omega) (Nat.le_refl _) o3'.lt
        rw [← nms_yes HLA.out HP.out] at o4
        clear hg o3 o3' hbr3 n0
        go_roundw
        case rel => exact ⟨j + 1, m + 1, cap1, A1, by omega, by omega, by go_num, rfl, o4, hb4⟩
        case measure => simp [intOf]; omega
    · have hjn : n = j := by omega
      rw [List.take_of_length_le (by rw [hlV.rd.1]; omega)] at ho
      have hm20 : m ≤ 200 := by have := hlV.le; omega
      clear hjn
      go_wp2_with fail
      refine (set29 B m cp (nms p l) wr hm20 ho.rd).mono ?_
      rintro e w3 ⟨A3, n3, c3, rfl, o3, hb3⟩
      have hb4 := HF.out.trans ((hbr.trans (hb3.mono hbr.size)).mono HF.out.size)
      have o4 := o3.rebase (base' := w.heap.size) (Nat.le_trans HF.out.size hbr.size)
      clear o3 hb3 hbr ho
      go_wp2
      go_ret
      exact ⟨A3, n3, c3, rfl, o4, hb4⟩

set_option maxRecDepth 20000 in
set_option maxHeartbeats 8000000 in
theorem fired24 (A : Option Addr) (n cap : Nat) (l : List Ru) (c : Hc) (h : Hap) (w : World) (p : Ru → Bool) (hl : Rus w A n l) (hr : HRd w c h) (sc : sm c 100) (hp : ∀ r, p r = true ↔ anyP r (norm h)) :
    Calls Try.prog 24 #[.slice A n cap, hpV c h] w (OwEnd 9 ET w (setO sLt (nms p l))) := by
  obtain ⟨i0, hi0, hz0, hz1, hz2⟩ := info_parts info9
  obtain ⟨V, hW, hB, hz, hk⟩ := boxeds w (hpC c h) 26
  have hrV := hr.later hB
  have hlV := hl.later hB
  have hn20 : n ≤ 20 := hlV.le
  have SM := Lib.hid (fun (r : Ru) (w' : World) (b : Bool) (hn : r.n ≤ 20) (ho : Rd V EG r.A r.n r.on) (hx : Below V.heap.size V w') (hb : b = true ↔ anyP r (norm h)) => any21 r c h w' b hn (ho.later hx) (hrV.later hx) sc hb)
  have HF := Lib.hid hB
  have hU0 := Below.refl V.heap.size V
  clear hB hrV hr hl sc hz
  go_enter Try.func24, Try.ntmps24
  go_wp2
  go_loopw [5, 6] (fun s i wr => ∃ (j m cp : Nat) (B : Option Addr), j ≤ n ∧ m ≤ j ∧ i = .int .i64 j ∧ s = .slice B m cp ∧ Ow wr V.heap.size 9 ET (.slice B m cp) m (nms p (l.take j)) ∧ Below V.heap.size V wr) (fun _ i _ => n - (intOf i).toNat)
  case atStart => exact ⟨0, 0, 0, none, by omega, by omega, rfl, rfl, Ow.nil _ _ _ _, hU0⟩
  case round =>
    clear hU0
    obtain ⟨j, m, cp, B, hj, hm, rfl, rfl, ho, hbr⟩ := hrel
    by_cases hlt : j < n
    · obtain ⟨ab, off, r, hA, hla, e0, e1, e2, e3, e4, e5, e6, e7, e8, e9, e10, e11, e12, e13, e14⟩ := ru_at (hlV.rd.later hbr) hlt
      have hmem : r ∈ l := List.mem_of_getElem? hla
      rw [hA]
      have HO := Lib.hid ho
      have HLA := Lib.hid hla
      clear ho hla
      have E0 : ∀ w', Below wr.heap.size wr w' → _ := fun w' hb => keep hb e0
      have E1 : ∀ w', Below wr.heap.size wr w' → _ := fun w' hb => keep hb e1
      have E2 : ∀ w', Below wr.heap.size wr w' → _ := fun w' hb => keep hb e2
      have E3 : ∀ w', Below wr.heap.size wr w' → _ := fun w' hb => keep hb e3
      have E4 : ∀ w', Below wr.heap.size wr w' → _ := fun w' hb => keep hb e4
      have E5 : ∀ w', Below wr.heap.size wr w' → _ := fun w' hb => keep hb e5
      have E6 : ∀ w', Below wr.heap.size wr w' → _ := fun w' hb => keep hb e6
      have E7 : ∀ w', Below wr.heap.size wr w' → _ := fun w' hb => keep hb e7
      have E8 : ∀ w', Below wr.heap.size wr w' → _ := fun w' hb => keep hb e8
      have E9 : ∀ w', Below wr.heap.size wr w' → _ := fun w' hb => keep hb e9
      have E10 : ∀ w', Below wr.heap.size wr w' → _ := fun w' hb => keep hb e10
      have E11 : ∀ w', Below wr.heap.size wr w' → _ := fun w' hb => keep hb e11
      have E12 : ∀ w', Below wr.heap.size wr w' → _ := fun w' hb => keep hb e12
      have E13 : ∀ w', Below wr.heap.size wr w' → _ := fun w' hb => keep hb e13
      have E14 : ∀ w', Below wr.heap.size wr w' → _ := fun w' hb => keep hb e14
      have D0 : ∀ w', Below wr.heap.size wr w' → w'.cell? ⟨w.heap.size, 0, none⟩ = some (.slice c.A1 c.n1 c.c1) := fun w' hb => keep hb ((hk.later hbr).at 0 rfl)
      have D1 : ∀ w', Below wr.heap.size wr w' → w'.cell? ⟨w.heap.size, 1, none⟩ = some (.slice c.A2 c.n2 c.c2) := fun w' hb => keep hb ((hk.later hbr).at 1 rfl)
      have D2 : ∀ w', Below wr.heap.size wr w' → w'.cell? ⟨w.heap.size, 2, none⟩ = some (.int .i64 h.fr) := fun w' hb => keep hb ((hk.later hbr).at 2 rfl)
      have D3 : ∀ w', Below wr.heap.size wr w' → w'.cell? ⟨w.heap.size, 3, none⟩ = some (.int .i64 h.til) := fun w' hb => keep hb ((hk.later hbr).at 3 rfl)
      have D4 : ∀ w', Below wr.heap.size wr w' → w'.cell? ⟨w.heap.size, 4, none⟩ = some (.string h.mode) := fun w' hb => keep hb ((hk.later hbr).at 4 rfl)
      have D5 : ∀ w', Below wr.heap.size wr w' → w'.cell? ⟨w.heap.size, 5, none⟩ = some (.bool h.st) := fun w' hb => keep hb ((hk.later hbr).at 5 rfl)
      have D6 : ∀ w', Below wr.heap.size wr w' → w'.cell? ⟨w.heap.size, 6, none⟩ = some (.slice c.A3 c.n3 c.c3) := fun w' hb => keep hb ((hk.later hbr).at 6 rfl)
      have hS0 := Below.refl wr.heap.size wr
      clear e0 e1 e2 e3 e4 e5 e6 e7 e8 e9 e10 e11 e12 e13 e14
      cases hpr : p r
      · have F : Hid (∀ w', Below wr.heap.size wr w' → Calls Try.prog 21 #[ruV r, hpV c h] w' (fun e w'' => e = .returned (.bool false) ∧ Below w'.heap.size w' w'')) := Lib.hid (fun w' hx => SM.out r w' false (hlV.lo r hmem) (hlV.on r hmem) (hbr.trans (hx.mono hbr.size)) (hpr ▸ hp r))
        have HBR := Lib.hid hbr
        have HP := Lib.hid hpr
        clear hpr hbr
        go_wp2
        go_region_held3 (fun w' => Below wr.heap.size wr w') (with_reducible (repeat (first | assumption | refine Below.drew ?_ | refine Below.trans ?_ (Below.mono hbF ?_) | refine @Below.size wr.heap.size wr _ ?_)))
          (first | (go_at_call 21; refine (F.out _ (by assumption)).mono ?_; rintro e w3 ⟨rfl, hbF⟩))
        have hb3 : Below wr.heap.size wr w3 := ((Below.refl _ _).drew).trans hbF
        have o3 := HO.out.later hb3
        have hbr3 := HBR.out.trans (hb3.mono HBR.out.size)
        have n0 := E0 w3 hb3
        clear hbF hb3 hS0 E0 E1 E2 E3 E4 E5 E6 E7 E8 E9 E10 E11 E12 E13 E14 D0 D1 D2 D3 D4 D5 D6 F
        rw [← nms_no HLA.out HP.out] at o3
        clear n0
        go_wp2
        go_roundw
        case rel => exact ⟨j + 1, m, cp, B, by omega, by omega, by go_num, rfl, o3, hbr3⟩
        case measure => simp [intOf]; omega
      · have F : Hid (∀ w', Below wr.heap.size wr w' → Calls Try.prog 21 #[ruV r, hpV c h] w' (fun e w'' => e = .returned (.bool true) ∧ Below w'.heap.size w' w'')) := Lib.hid (fun w' hx => SM.out r w' true (hlV.lo r hmem) (hlV.on r hmem) (hbr.trans (hx.mono hbr.size)) (hpr ▸ hp r))
        have HBR := Lib.hid hbr
        have HP := Lib.hid hpr
        clear hpr hbr
        go_wp2
        go_region_held3 (fun w' => Below wr.heap.size wr w') (with_reducible (repeat (first | assumption | refine Below.drew ?_ | refine Below.trans ?_ (Below.mono hbF ?_) | refine @Below.size wr.heap.size wr _ ?_)))
          (first | (go_at_call 21; refine (F.out _ (by assumption)).mono ?_; rintro e w3 ⟨rfl, hbF⟩))
        have hb3 : Below wr.heap.size wr w3 := ((Below.refl _ _).drew).trans hbF
        have o3 := HO.out.later hb3
        have hbr3 := HBR.out.trans (hb3.mono HBR.out.size)
        have n0 := E0 w3 hb3
        clear hbF hb3 hS0 E0 E1 E2 E3 E4 E5 E6 E7 E8 E9 E10 E11 E12 E13 E14 D0 D1 D2 D3 D4 D5 D6 F
        go_wp2_with (at_builtin; refine wpList_append_rd _ rfl (.tmp 19) (.tmp 25) 24 rfl V.heap.size 9 i0 _ ET Try.underlying24 hi0 hz0 hz1 rfl (.slice B m cp) m (nms p (l.take j)) rfl (o3.later ((Below.refl _ _).alloc (Nat.le_refl _) _)) (some ⟨w3.heap.size, 0, none⟩) 1 1 [r.name] rfl (tx_one r.name w3 9) (by unfold maxLen; have := hlV.le; omega) (by rw [hz2]; have := hlV.le; omega) (by have := hbr3.size; simp; omega) ?_; intro A1 cap1 w4 o4 hg)
        have o3' : Ow (w3.alloc (.cells #[.string r.name] 9)) V.heap.size 9 ET (.slice B m cp) m (nms p (l.take j)) := o3.later ((Below.refl _ _).alloc (Nat.le_refl _) _)
        have hb4 := Below.row (hbr3.alloc hbr3.size (.cells #[.string r.name] 9)) hg (by have := hbr3.size; simp; omega) (Nat.le_refl _) o3'.lt
        rw [← nms_yes HLA.out HP.out] at o4
        clear hg o3 o3' hbr3 n0
        go_roundw
        case rel => exact ⟨j + 1, m + 1, cap1, A1, by omega, by omega, by go_num, rfl, o4, hb4⟩
        case measure => simp [intOf]; omega
    · rw [List.take_of_length_le (by rw [hlV.rd.1]; omega)] at ho
      have hm20 : m ≤ 200 := by have := hlV.le; omega
      go_wp2_with fail
      refine (sorted34 B m cp (nms p l) wr hm20 ho.rd).mono ?_
      rintro e w3 ⟨A3, n3, c3, rfl, o3, hb3⟩
      have hb4 := HF.out.trans ((hbr.trans (hb3.mono hbr.size)).mono HF.out.size)
      have o4 := o3.rebase (base' := w.heap.size) (Nat.le_trans HF.out.size hbr.size)
      clear o3 hb3 hbr ho
      go_wp2
      go_ret
      exact ⟨A3, n3, c3, rfl, o4, hb4⟩
end Go.Proofs.Ytkdnkieecchobaa
