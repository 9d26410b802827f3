/- The law TriggerFired. -/
import Derived.Test.YtkdnkieecchobaaRw
import Derived.Test.YtkdnkieecchobaaWe
namespace Go.Proofs.Ytkdnkieecchobaa
open Go.RowKit Go.BigFrame
set_option linter.unusedVariables false
set_option linter.unusedSimpArgs false

set_option maxRecDepth 20000 in
set_option maxHeartbeats 8000000 in
theorem lawFired9 (A : Option Addr) (n cap : Nat) (l : List Ru) (c : Hc) (h : Hap) (w : World) (hn : n ≤ 9223372036854775807) (hl : Rd w ER A n l) (hon : ∀ r ∈ l, Rd w EG r.A r.n r.on) (hr : HRd w c h) :
    Calls Try.prog 9 #[.slice A n cap, hpV c h] w fun e w' => e = .returned (.bool true) ∧ Below w.heap.size w w' := by
  obtain ⟨W, hW, hB, hz, hk⟩ := boxeds w (hpC c h) 26
  have LV := Lib.hid lives11
  have HF := Lib.hid hB
  have p0 := hk.at 0 (v := .slice c.A1 c.n1 c.c1) rfl
  have p1 := hk.at 1 (v := .slice c.A2 c.n2 c.c2) rfl
  have p2 := hk.at 2 (v := .int .i64 h.fr) rfl
  have p3 := hk.at 3 (v := .int .i64 h.til) rfl
  have p4 := hk.at 4 (v := .string h.mode) rfl
  have p5 := hk.at 5 (v := .bool h.st) rfl
  have p6 := hk.at 6 (v := .slice c.A3 c.n3 c.c3) rfl
  cases hg : greatB c
  · have G := Lib.hid (great_fact c h hg W)
    have sc := greatB_no hg
    have HK := Lib.hid (fun w' (hb : Below W.heap.size W w') => hk.later hb)
    have HL := Lib.hid (hl.later hB)
    have HO := Lib.hid (fun r (hm : r ∈ l) => (hon r hm).later hB)
    have HR := Lib.hid (hr.later hB)
    have HS := Lib.hid sc
    have hlen := hl.1
    clear hz hk hB hl hon hr sc hg
    by_cases h20 : 20 < n
    · go_enter Try.func9, Try.ntmps9
      go_wp2_with fail
      refine (G.out).mono ?_
      rintro e w1 ⟨rfl, hb1⟩
      go_wp2_with fail
      refine (LV.out w1).mono ?_
      rintro e w2 ⟨rfl, hb2⟩
      have hBF := (HF.out.trans (hb1.mono HF.out.size)).trans (hb2.mono (Nat.le_trans HF.out.size hb1.size))
      go_wp2
      go_ret
      exact ⟨rfl, hBF⟩
    · go_enter Try.func9, Try.ntmps9
      go_wp2_with fail
      refine (G.out).mono ?_
      rintro e w1 ⟨rfl, hb1⟩
      clear p0 p1 p2 p3 p4 p5 p6 G
      go_wp2
      go_loopw [5] (fun i wr => wr = w1 ∧ ∃ j : Nat, j ≤ n ∧ i = .int .i64 j ∧ ∀ r ∈ l.take j, r.n ≤ 20) (fun i _ => n - (intOf i).toNat)
      case atStart => exact ⟨rfl, 0, Nat.zero_le _, rfl, by simp⟩
      case round =>
        obtain ⟨rfl, j, hj, rfl, hall⟩ := hrel
        by_cases hlt : j < n
        · obtain ⟨ab, off, r, hA, hla, e0, e1, e2, e3, e4, e5, e6, e7, e8, e9, e10, e11, e12, e13, e14⟩ := ru_at (HL.out.later hb1) hlt
          rw [hA]
          have HLA := Lib.hid hla
          have HALL := Lib.hid hall
          clear hla hall e0 e1 e3 e4 e5 e6 e7 e8 e9 e10 e11 e12 e13 e14
          by_cases hr20 : 20 < r.n
          · go_wp2_with fail
            refine (LV.out _).mono ?_
            rintro e w2 ⟨rfl, hb2⟩
            have hBF := (HF.out.trans (hb1.mono HF.out.size)).trans (hb2.mono (Nat.le_trans HF.out.size hb1.size))
            clear e2
            go_wp2
            go_ret
            exact ⟨rfl, hBF⟩
          · have hall' : ∀ x ∈ l.take (j + 1), x.n ≤ 20 := by
              rw [take_snoc HLA.out]
              intro x hx
              rcases List.mem_append.1 hx with hx | hx
              · exact HALL.out x hx
              · rw [List.mem_singleton] at hx; subst hx; omega
            have HA2 := Lib.hid hall'
            clear hall'
            go_wp2
            go_roundw
            case rel => exact ⟨trivial, j + 1, by omega, by go_num, HA2.out⟩
            case measure => simp [intOf]; omega
        · have hlo : ∀ r ∈ l, r.n ≤ 20 := by rw [List.take_of_length_le (by omega)] at hall; exact hall
          have HRU := Lib.hid (show Rus W A n l from ⟨HL.out, by omega, HO.out, hlo⟩)
          obtain ⟨p, hp⟩ : ∃ p : Ru → Bool, ∀ r, p r = true ↔ anyP r (norm h) := by classical exact ⟨fun r => decide (anyP r (norm h)), fun r => by simp⟩
          have HP := Lib.hid hp
          have HB1 := Lib.hid hb1
          clear hall hlo hb1 hp
          go_wp2
          go_loopw [6] (fun i wr => ∃ j : Nat, j ≤ n ∧ i = .int .i64 j ∧ Below W.heap.size W wr) (fun i _ => n - (intOf i).toNat)
          case atStart => exact ⟨0, Nat.zero_le _, rfl, HB1.out⟩
          case round =>
            obtain ⟨k, hk', rfl, hbr⟩ := hrel
            by_cases hlt2 : k < n
            · obtain ⟨ab, off, r, hA, hla, e0, e1, e2, e3, e4, e5, e6, e7, e8, e9, e10, e11, e12, e13, e14⟩ := ru_at HRU.out.rd hlt2
              have hmem : r ∈ l := List.mem_of_getElem? hla
              rw [hA]
              have E0 : ∀ w', Below W.heap.size W w' → _ := fun w' hb => keep hb e0
              have E1 : ∀ w', Below W.heap.size W w' → _ := fun w' hb => keep hb e1
              have E2 : ∀ w', Below W.heap.size W w' → _ := fun w' hb => keep hb e2
              have E3 : ∀ w', Below W.heap.size W w' → _ := fun w' hb => keep hb e3
              have E4 : ∀ w', Below W.heap.size W w' → _ := fun w' hb => keep hb e4
              have E5 : ∀ w', Below W.heap.size W w' → _ := fun w' hb => keep hb e5
              have E6 : ∀ w', Below W.heap.size W w' → _ := fun w' hb => keep hb e6
              have E7 : ∀ w', Below W.heap.size W w' → _ := fun w' hb => keep hb e7
              have E8 : ∀ w', Below W.heap.size W w' → _ := fun w' hb => keep hb e8
              have E9 : ∀ w', Below W.heap.size W w' → _ := fun w' hb => keep hb e9
              have E10 : ∀ w', Below W.heap.size W w' → _ := fun w' hb => keep hb e10
              have E11 : ∀ w', Below W.heap.size W w' → _ := fun w' hb => keep hb e11
              have E12 : ∀ w', Below W.heap.size W w' → _ := fun w' hb => keep hb e12
              have E13 : ∀ w', Below W.heap.size W w' → _ := fun w' hb => keep hb e13
              have E14 : ∀ w', Below W.heap.size W w' → _ := fun w' hb => keep hb e14
              have D0 : ∀ w', Below W.heap.size W w' → w'.cell? ⟨w.heap.size, 0, none⟩ = some (.slice c.A1 c.n1 c.c1) := fun w' hb => (HK.out _ hb).at 0 rfl
              have D1 : ∀ w', Below W.heap.size W w' → w'.cell? ⟨w.heap.size, 1, none⟩ = some (.slice c.A2 c.n2 c.c2) := fun w' hb => (HK.out _ hb).at 1 rfl
              have D2 : ∀ w', Below W.heap.size W w' → w'.cell? ⟨w.heap.size, 2, none⟩ = some (.int .i64 h.fr) := fun w' hb => (HK.out _ hb).at 2 rfl
              have D3 : ∀ w', Below W.heap.size W w' → w'.cell? ⟨w.heap.size, 3, none⟩ = some (.int .i64 h.til) := fun w' hb => (HK.out _ hb).at 3 rfl
              have D4 : ∀ w', Below W.heap.size W w' → w'.cell? ⟨w.heap.size, 4, none⟩ = some (.string h.mode) := fun w' hb => (HK.out _ hb).at 4 rfl
              have D5 : ∀ w', Below W.heap.size W w' → w'.cell? ⟨w.heap.size, 5, none⟩ = some (.bool h.st) := fun w' hb => (HK.out _ hb).at 5 rfl
              have D6 : ∀ w', Below W.heap.size W w' → w'.cell? ⟨w.heap.size, 6, none⟩ = some (.slice c.A3 c.n3 c.c3) := fun w' hb => (HK.out _ hb).at 6 rfl
              clear e0 e1 e2 e3 e4 e5 e6 e7 e8 e9 e10 e11 e12 e13 e14 hla
              cases hpr : p r
              · have F1 : Hid (∀ w', Below W.heap.size W w' → Calls Try.prog 20 #[ruV r, hpV c h] w' (fun e w'' => e = .returned (.bool false) ∧ Below w'.heap.size w' w'')) := Lib.hid (fun w' hx => any20 r c h w' false (HRU.out.lo r hmem) ((HRU.out.on r hmem).later hx) (HR.out.later hx) HS.out (hpr ▸ HP.out r))
                have F2 : Hid (∀ w', Below W.heap.size W w' → Calls Try.prog 21 #[ruV r, hpV c h] w' (fun e w'' => e = .returned (.bool false) ∧ Below w'.heap.size w' w'')) := Lib.hid (fun w' hx => any21 r c h w' false (HRU.out.lo r hmem) ((HRU.out.on r hmem).later hx) (HR.out.later hx) HS.out (hpr ▸ HP.out r))
                clear hpr
                have HBR := Lib.hid hbr
                go_wp2
                go_region_held3 (fun w' => Below W.heap.size W w') (with_reducible (repeat (first | assumption | refine Below.drew ?_ | refine Below.trans ?_ (Below.mono hbA ?_) | refine Below.trans ?_ (Below.mono hbB ?_) | refine @Below.size W.heap.size W _ ?_)))
                  (first
                    | (go_at_call 20; refine (F1.out _ (by assumption)).mono ?_; rintro e wA ⟨rfl, hbA⟩)
                    | (go_at_call 21; refine (F2.out _ (by assumption)).mono ?_; rintro e wB ⟨rfl, hbB⟩))
                have hbX : Below W.heap.size W wA := (HBR.out.drew).trans (hbA.mono HBR.out.size)
                have hbY := hbX.trans (hbB.mono hbX.size)
                clear hbA hbB hbX hbr E0 E1 E2 E3 E4 E5 E6 E7 E8 E9 E10 E11 E12 E13 E14 D0 D1 D2 D3 D4 D5 D6 F1 F2
                go_wp2
                go_roundw
                case rel => exact ⟨k + 1, by omega, by go_num, hbY⟩
                case measure => simp [intOf]; omega
              · have F1 : Hid (∀ w', Below W.heap.size W w' → Calls Try.prog 20 #[ruV r, hpV c h] w' (fun e w'' => e = .returned (.bool true) ∧ Below w'.heap.size w' w'')) := Lib.hid (fun w' hx => any20 r c h w' true (HRU.out.lo r hmem) ((HRU.out.on r hmem).later hx) (HR.out.later hx) HS.out (hpr ▸ HP.out r))
                have F2 : Hid (∀ w', Below W.heap.size W w' → Calls Try.prog 21 #[ruV r, hpV c h] w' (fun e w'' => e = .returned (.bool true) ∧ Below w'.heap.size w' w'')) := Lib.hid (fun w' hx => any21 r c h w' true (HRU.out.lo r hmem) ((HRU.out.on r hmem).later hx) (HR.out.later hx) HS.out (hpr ▸ HP.out r))
                clear hpr
                have HBR := Lib.hid hbr
                go_wp2
                go_region_held3 (fun w' => Below W.heap.size W w') (with_reducible (repeat (first | assumption | refine Below.drew ?_ | refine Below.trans ?_ (Below.mono hbA ?_) | refine Below.trans ?_ (Below.mono hbB ?_) | refine @Below.size W.heap.size W _ ?_)))
                  (first
                    | (go_at_call 20; refine (F1.out _ (by assumption)).mono ?_; rintro e wA ⟨rfl, hbA⟩)
                    | (go_at_call 21; refine (F2.out _ (by assumption)).mono ?_; rintro e wB ⟨rfl, hbB⟩))
                have hbX : Below W.heap.size W wA := (HBR.out.drew).trans (hbA.mono HBR.out.size)
                have hbY := hbX.trans (hbB.mono hbX.size)
                clear hbA hbB hbX hbr E0 E1 E2 E3 E4 E5 E6 E7 E8 E9 E10 E11 E12 E13 E14 D0 D1 D2 D3 D4 D5 D6 F1 F2
                go_wp2
                go_roundw
                case rel => exact ⟨k + 1, by omega, by go_num, hbY⟩
                case measure => simp [intOf]; omega
            · have F1 : Hid (∀ w', Below W.heap.size W w' → Calls Try.prog 23 #[.slice A n cap, hpV c h] w' (OwEnd 9 ET w' (setO sLt (nms p l)))) := Lib.hid (fun w' hx => fired23 A n cap l c h w' p (HRU.out.later hx) (HR.out.later hx) HS.out HP.out)
              have F2 : Hid (∀ w', Below W.heap.size W w' → Calls Try.prog 24 #[.slice A n cap, hpV c h] w' (OwEnd 9 ET w' (setO sLt (nms p l)))) := Lib.hid (fun w' hx => fired24 A n cap l c h w' p (HRU.out.later hx) (HR.out.later hx) HS.out HP.out)
              have hnm : (setO sLt (nms p l)).length ≤ 20 := by
                refine Nat.le_trans (len_setO _) ?_
                unfold nms
                rw [List.length_map]
                refine Nat.le_trans (List.length_filter_le _ _) ?_
                rw [HRU.out.rd.1]; exact HRU.out.le
              have S1 : Hid (∀ (w' : World) (A1 A2 : Option Addr) (m1 m2 c1 c2 : Nat), Rd w' ET A1 m1 (setO sLt (nms p l)) → Rd w' ET A2 m2 (setO sLt (nms p l)) → Calls Try.prog 22 #[.slice A1 m1 c1, .slice A2 m2 c2] w' (fun e w'' => e = .returned (.bool true) ∧ Below w'.heap.size w' w'')) := Lib.hid (fun w' A1 A2 m1 m2 c1 c2 r1 r2 => by
                obtain rfl : m1 = m2 := r1.1.symm.trans r2.1
                exact texts_eq A1 A2 m1 c1 c2 _ w' (by have := r1.1; omega) r1 r2)
              generalize setO sLt (nms p l) = x at F1 F2 S1 hnm
              have D0 : ∀ w', Below W.heap.size W w' → w'.cell? ⟨w.heap.size, 0, none⟩ = some (.slice c.A1 c.n1 c.c1) := fun w' hb => (HK.out _ hb).at 0 rfl
              have D1 : ∀ w', Below W.heap.size W w' → w'.cell? ⟨w.heap.size, 1, none⟩ = some (.slice c.A2 c.n2 c.c2) := fun w' hb => (HK.out _ hb).at 1 rfl
              have D2 : ∀ w', Below W.heap.size W w' → w'.cell? ⟨w.heap.size, 2, none⟩ = some (.int .i64 h.fr) := fun w' hb => (HK.out _ hb).at 2 rfl
              have D3 : ∀ w', Below W.heap.size W w' → w'.cell? ⟨w.heap.size, 3, none⟩ = some (.int .i64 h.til) := fun w' hb => (HK.out _ hb).at 3 rfl
              have D4 : ∀ w', Below W.heap.size W w' → w'.cell? ⟨w.heap.size, 4, none⟩ = some (.string h.mode) := fun w' hb => (HK.out _ hb).at 4 rfl
              have D5 : ∀ w', Below W.heap.size W w' → w'.cell? ⟨w.heap.size, 5, none⟩ = some (.bool h.st) := fun w' hb => (HK.out _ hb).at 5 rfl
              have D6 : ∀ w', Below W.heap.size W w' → w'.cell? ⟨w.heap.size, 6, none⟩ = some (.slice c.A3 c.n3 c.c3) := fun w' hb => (HK.out _ hb).at 6 rfl
              have HBR := Lib.hid hbr
              clear hnm HK
              go_wp2
              go_region_held3 (fun w' => Below W.heap.size W w') (with_reducible (repeat (first | assumption | refine Below.drew ?_ | refine Below.trans ?_ (Below.mono hbA ?_) | refine Below.trans ?_ (Below.mono hbB ?_) | refine Below.trans ?_ (Below.mono hbS ?_) | refine Below.trans ?_ (Below.mono hbL ?_) | refine @Below.size W.heap.size W _ ?_)))
                (first
                  | (go_at_call 23; refine (F1.out _ (by assumption)).mono ?_; rintro e wA ⟨A1, m1, c1, rfl, oA, hbA⟩; have rA := oA.rd)
                  | (go_at_call 24; refine (F2.out _ (by assumption)).mono ?_; rintro e wB ⟨A2, m2, c2, rfl, oB, hbB⟩; have rB := oB.rd)
                  | (go_at_call 22; refine (S1.out _ A1 A2 m1 m2 c1 c2 (rA.later (by assumption)) rB).mono ?_; rintro e wS ⟨rfl, hbS⟩)
                  | (go_at_call 11; refine (LV.out _).mono ?_; rintro e wL ⟨rfl, hbL⟩))
              have x1 : Below W.heap.size W wA := (HBR.out.drew).trans (hbA.mono HBR.out.size)
              have x2 := x1.trans (hbB.mono x1.size)
              have x3 := x2.trans (hbS.mono x2.size)
              have x4 := x3.trans (hbL.mono x3.size)
              have hfin := HF.out.trans (x4.mono HF.out.size)
              clear x1 x2 x3 x4 hbA hbB hbS hbL hbr oA oB rA rB F1 F2 S1 D0 D1 D2 D3 D4 D5 D6
              go_wp2
              go_ret
              exact ⟨rfl, hfin⟩
  · have G := Lib.hid (great_fact c h hg W)
    clear hz hg hl hon hr
    go_enter Try.func9, Try.ntmps9
    go_wp2_with fail
    refine (G.out).mono ?_
    rintro e w1 ⟨rfl, hb1⟩
    go_wp2_with fail
    refine (LV.out w1).mono ?_
    rintro e w2 ⟨rfl, hb2⟩
    have hBF := (HF.out.trans (hb1.mono HF.out.size)).trans (hb2.mono (Nat.le_trans HF.out.size hb1.size))
    go_wp2
    go_ret
    exact ⟨rfl, hBF⟩
end Go.Proofs.Ytkdnkieecchobaa
