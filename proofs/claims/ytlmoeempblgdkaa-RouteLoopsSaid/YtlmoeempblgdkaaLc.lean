/- Encode of the document. -/
import Derived.Test.YtlmoeempblgdkaaLb
namespace Go.Proofs.Ytlmoeempblgdkaa
open Go.RowKit Go.BigFrame
set_option linter.unusedVariables false
set_option linter.unusedSimpArgs false

theorem append_own2 {α : Type} {P : Program} (w : World) (base : Nat) (t ty e : TypeId) (i : TypeInfo) (z : Value) (E : Enc α) (ht : P.underlying t = some (.slice e)) (hi : P.info? e = some i) (hz : i.zero = some z)
    (hsize : i.size = E.size) (hzs : z.cells.size = E.size) (v : Value) (n : Nat) (l : List α) (hown : Ow w base e E v n l)
    (A : Option Addr) (m c : Nat) (k : List α) (hr : Rd w E A m k) (h63 : n + m ≤ maxLen) (hbytes : (n + m) * i.bytes ≤ 140737488355328) (hbase : base ≤ w.heap.size) :
    ∃ (B : Option Addr) (cap : Nat) (w' : World), (Builtin.append_ #[t, t] ty #[v, .slice A m c]).run P w = .ok (.slice B (n + m) cap) w' ∧ Ow w' base e E (.slice B (n + m) cap) (n + m) (l ++ k) ∧ w.grownBy w' v.ownBlock := append_own w base t ty e i z E ht hi hz hsize hzs v n l hown A m c k hr h63 hbytes hbase
theorem u8_in {n : Int} (h0 : 0 ≤ n) (h1 : n < 256) : IntKind.u8.wrap n = n := by
  have : IntKind.u8.wrap n = n % 256 := by simp [IntKind.wrap, IntKind.bits, IntKind.signed]
  rw [this]; omega
set_option maxRecDepth 20000 in
set_option maxHeartbeats 8000000 in
theorem enc21 (A : Option Addr) (n cap : Nat) (t : List Rt) (w : World) (hn : n ≤ 100) (hr : Rd w ER A n t) :
    Calls Try.prog 21 #[.slice A n cap] w fun e w' => e = .returned (.string (strOfNums (ebs t))) ∧ Below w.heap.size w w' := by
  have hlen : t.length = n := hr.1
  obtain ⟨i0, hi0, hz0, hz1, hz2⟩ := info_parts info5
  go_enter Try.func21, Try.ntmps21
  go_wp2
  go_loopw [3, 4] (fun s i wr => ∃ (j m cp : Nat) (B : Option Addr), j ≤ n ∧ i = .int .i64 j ∧ s = .slice B m cp ∧ Ow wr w.heap.size 5 EB (.slice B m cp) m ((t.take j).foldl ebs1 []) ∧ Below w.heap.size w wr) (fun _ i _ => n - (intOf i).toNat)
  case atStart => exact ⟨0, 0, 0, none, Nat.zero_le _, rfl, rfl, Ow.nil _ _ _ _, Below.refl _ _⟩
  case round =>
    obtain ⟨j, m, cp, B, hj, rfl, rfl, ho, hbr⟩ := hrel
    by_cases hlt : j < n
    · obtain ⟨b, off, r, hA, hla, e0, e1, e2, e3⟩ := rt_at (hr.later hbr) hlt
      rw [hA]
      have HST := Lib.hid (foldl_snoc ebs1 [] hla)
      have hm : m ≤ 100 := by rw [← ho.1]; exact ebs_le _ _ (by simp)
      have HML := Lib.hid ho.1
      generalize (t.take j).foldl ebs1 [] = bb at *
      have U := Lib.hid (usable38 r wr)
      clear hla
      cases hu : usB r
      · have HS := Lib.hid (HST.out.trans (show ebs1 bb r = bb by unfold ebs1; rw [if_neg (fun h => by rw [hu] at h; cases h.1)]))
        rw [hu] at U
        clear hu
        go_wp2_with fail
        refine U.out.mono ?_
        rintro e w3 ⟨rfl, hb3⟩
        have o3 := ho.later hb3
        have hb4 := hbr.trans (hb3.mono hbr.size)
        clear hb3 ho hbr e0 e1 e2 e3
        go_wp2
        go_roundw
        case rel => exact ⟨j + 1, m, cp, B, by omega, by go_num, rfl, by rw [HS.out]; exact o3, hb4⟩
        case measure => simp [intOf]; omega
      · rw [hu] at U
        have hua := us_all hu
        obtain ⟨u1, u2, u3, u4, u5, u6⟩ := hua
        by_cases h96 : m < 96
        · have HS := Lib.hid (HST.out.trans (show ebs1 bb r = bb ++ four r by unfold ebs1; rw [if_pos ⟨hu, by have := HML.out; omega⟩]))
          clear hu
          go_wp2_with fail
          refine U.out.mono ?_
          rintro e w3 ⟨rfl, hb3⟩
          have o3 := ho.later hb3
          have hb4 := hbr.trans (hb3.mono hbr.size)
          go_upto_region 6 with fail
          have bA0 : Below w3.heap.size w3 (w3.alloc (.cells #[.int .u8 r.d, .int .u8 (r.s / 256), .int .u8 (r.s % 256), .int .u8 r.c] 5)).drew := Below.drew ((Below.refl _ _).alloc (Nat.le_refl _) _)
          have oA := o3.later bA0
          have bA := hb4.trans (bA0.mono hb4.size)
          obtain ⟨Bx, px, V1, hr1, ho1, hg1⟩ := append_own2 (P := Try.prog) _ w.heap.size 60 60 5 i0 _ EB Try.underlying60 hi0 hz0 hz1 rfl _ m bb oA (some ⟨w3.heap.size, 0, none⟩) 4 4 (four r) ((four_rd r w3).later (Below.drew (Below.refl _ _))) (by unfold maxLen; omega) (by rw [hz2]; omega) bA.size
          have b1 := Below.row bA hg1 bA.size (Nat.le_refl _) oA.lt
          have f0 := keep hb3 e0
          have f1 := keep hb3 e1
          have f2 := keep hb3 e2
          have f3 := keep hb3 e3
          have g0 : w3.drew.cell? _ = _ := f0
          have g1 : w3.drew.cell? _ = _ := f1
          have g2 : w3.drew.cell? _ = _ := f2
          have hx0 : (0 : Int) ≤ (j : Int) := by omega
          have hx1 : (j : Int) < (n : Int) := by omega
          have HO1 := Lib.hid ho1
          have HB1 := Lib.hid b1
          have y2 : r.s.tdiv 256 = r.s / 256 := Int.tdiv_eq_ediv_of_nonneg u3
          have y3 : r.s.tmod 256 = r.s % 256 := Int.tmod_eq_emod_of_nonneg u3
          have y4 : IntKind.i64.wrap (r.s / 256) = r.s / 256 := IntWalk.i64_in _ (by omega)
          have y1 : IntKind.u8.wrap r.d = r.d := u8_in (by omega) (by omega)
          have y5 : IntKind.u8.wrap (r.s / 256) = r.s / 256 := u8_in (by omega) (by omega)
          have y6 : IntKind.u8.wrap (r.s % 256) = r.s % 256 := u8_in (by omega) (by omega)
          have y7 : IntKind.u8.wrap r.c = r.c := u8_in (by omega) (by omega)
          clear u1 u2 u3 u4 u5 u6 hg1 oA bA bA0 o3 hb4 hb3 ho hbr e0 e1 e2 e3 ho1 b1
          go_region_law (refine step_append_run rfl _ _ 60 60 rfl _ _ (by simp [Act.eval]) (by simp [Act.eval]) hr1 ?_)
          all_goals clear y1 y2 y3 y4 y5 y6 y7
          all_goals go_wp2
          all_goals
            go_roundw
            case rel => exact ⟨j + 1, m + 4, px, Bx, by omega, by go_num, rfl, by rw [HS.out]; exact HO1.out, HB1.out⟩
            case measure => simp [intOf]; omega
        · have HS := Lib.hid (HST.out.trans (show ebs1 bb r = bb by unfold ebs1; rw [if_neg (fun h => by have := HML.out; have := h.2; omega)]))
          clear hu
          go_wp2_with fail
          refine U.out.mono ?_
          rintro e w3 ⟨rfl, hb3⟩
          have o3 := ho.later hb3
          have hb4 := hbr.trans (hb3.mono hbr.size)
          clear hb3 ho hbr e0 e1 e2 e3
          go_wp2
          go_roundw
          case rel => exact ⟨j + 1, m, cp, B, by omega, by go_num, rfl, by rw [HS.out]; exact o3, hb4⟩
          case measure => simp [intOf]; omega
    · rw [List.take_of_length_le (by omega)] at ho
      have hcv := conv_str ho
      clear ho
      go_wp2
      go_ret
      exact ⟨rfl, hbr⟩
end Go.Proofs.Ytlmoeempblgdkaa
