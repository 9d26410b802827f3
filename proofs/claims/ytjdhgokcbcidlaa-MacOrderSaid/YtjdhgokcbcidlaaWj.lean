/- The walk of MacOrder. -/
import Derived.Test.YtjdhgokcbcidlaaWg
import Derived.Test.YtjdhgokcbcidlaaOr
import Derived.Deep.CutBlock
import Derived.Deep.RegionHeld3
namespace Go.Proofs.Ytjdhgokcbcidlaa
open Go.RowKit Go.BigFrame
set_option linter.unusedVariables false

structure Opn where
  kind : Int
  i : Int
  f : Fr
  ok : Bool
def encO (o : Opn) : List Value := [.int .i64 o.kind, .int .i64 o.i, .int .i64 o.f.kind, .int .i64 o.f.src, .int .i64 o.f.to, .int .i64 o.f.source, .int .i64 o.f.target, .int .i64 o.f.seq, .int .i64 o.f.hops, .bool o.f.urgent, .string o.f.data, .bool o.ok]
theorem encO_one (m : Opn) : ∀ u ∈ encO m, u.oneCell' = true := by
  intro u hu
  simp [encO] at hu
  rcases hu with rfl | rfl | rfl | rfl | rfl | rfl | rfl | rfl | rfl | rfl | rfl | rfl <;> rfl
def EO : Enc Opn := ⟨encO, 12, by omega, fun _ => rfl, encO_one⟩
theorem op_at {w : World} {A : Option Addr} {n : Nat} {l : List Opn} (h : Rd w EO A n l) {k : Nat} (hk : k < n) :
    ∃ (b off : Nat) (a : Opn), A = some ⟨b, off, none⟩ ∧ l[k]? = some a ∧
      w.cell? ⟨b, off + k * 12, none⟩ = some (.int .i64 a.kind) ∧ w.cell? ⟨b, off + k * 12 + 1, none⟩ = some (.int .i64 a.i) ∧
      w.cell? ⟨b, off + k * 12 + 2, none⟩ = some (.int .i64 a.f.kind) ∧ w.cell? ⟨b, off + k * 12 + 3, none⟩ = some (.int .i64 a.f.src) ∧ w.cell? ⟨b, off + k * 12 + 4, none⟩ = some (.int .i64 a.f.to) ∧
      w.cell? ⟨b, off + k * 12 + 5, none⟩ = some (.int .i64 a.f.source) ∧ w.cell? ⟨b, off + k * 12 + 6, none⟩ = some (.int .i64 a.f.target) ∧ w.cell? ⟨b, off + k * 12 + 7, none⟩ = some (.int .i64 a.f.seq) ∧
      w.cell? ⟨b, off + k * 12 + 8, none⟩ = some (.int .i64 a.f.hops) ∧ w.cell? ⟨b, off + k * 12 + 9, none⟩ = some (.bool a.f.urgent) ∧ w.cell? ⟨b, off + k * 12 + 10, none⟩ = some (.string a.f.data) ∧
      w.cell? ⟨b, off + k * 12 + 11, none⟩ = some (.bool a.ok) := by
  obtain ⟨b, off, a, e1, e2, hc⟩ := h.elem hk
  exact ⟨b, off, a, e1, e2, hc 0 _ rfl, hc 1 _ rfl, hc 2 _ rfl, hc 3 _ rfl, hc 4 _ rfl, hc 5 _ rfl, hc 6 _ rfl, hc 7 _ rfl, hc 8 _ rfl, hc 9 _ rfl, hc 10 _ rfl, hc 11 _ rfl⟩

set_option maxRecDepth 20000 in
set_option maxHeartbeats 8000000 in
theorem lawOrder6 (A : Option Addr) (n cap : Nat) (l : List Opn) (w : World) (hn : n ≤ cap) (hcap : cap ≤ 9223372036854775807) (hr : Rd w EO A n l) :
    Calls Try.prog 6 #[.slice A n cap] w fun e w' => e = .returned (.bool true) ∧ Below w.heap.size w w' := by
  have LV : Hid (∀ w, Calls Try.prog 9 #[] w fun e w' => e = .returned (.bool true) ∧ Below w.heap.size w w') := Lib.hid lives9
  by_cases h : 80 < n
  · go_enter Try.func6, Try.ntmps6
    go_wp2_with fail
    refine (LV.out _).mono ?_
    rintro e w1 ⟨rfl, hb⟩
    go_wp2
    go_ret
    exact ⟨rfl, hb⟩
  · go_enter Try.func6, Try.ntmps6
    go_wp2
    go_loopw [3, 4] (fun m i wr => ∃ (j m' cap' : Nat) (A' : Option Addr) (M : List Sn), j ≤ n ∧ i = .int .i64 j ∧ m = .slice A' m' cap' ∧ m' ≤ cap' ∧ cap' ≤ 9223372036854775807 ∧ Rd wr ES A' m' M ∧ OInv M ∧ Below w.heap.size w wr) (fun _ i _ => n - (intOf i).toNat)
    case atStart => exact ⟨0, 0, 0, none, [], by omega, rfl, rfl, by omega, by omega, Rd.none_ _ _ _, OInv.nil, Below.refl _ _⟩
    case round =>
      obtain ⟨j, m', cap', A', M, hj, rfl, rfl, hmc, hc', hM, hI, hbr⟩ := hrel
      have HI := Lib.hid hI
      have HM16 := Lib.hid (List.take_of_length_le hI.1)
      have hm16 : m' ≤ 16 := by rw [← hM.1]; exact hI.1
      clear hI
      by_cases hlt : j < n
      · obtain ⟨b, off, o, rfl, hlf, q0, q1, q2, q3, q4, q5, q6, q7, q8, q9, q10, q11⟩ := op_at (hr.later hbr) hlt
        go_upto_block 2 with fail
        go_cut [3] (fun s3 wz => ∃ (A2 : Option Addr) (n2 c2 : Nat) (M2 : List Sn), s3 = .slice A2 n2 c2 ∧ n2 ≤ c2 ∧ c2 ≤ 9223372036854775807 ∧ Rd wz ES A2 n2 M2 ∧ OInv M2 ∧ Below w.heap.size w wz)
        case first =>
          by_cases k0 : o.kind = 0
          · have hkb : (o.kind == 0) = true := by simpa using k0
            have P : Hid (Calls Try.prog 10 #[.slice A' m' cap', frV o.f] wr (PtEnd wr (putS M o.f))) := Lib.hid (by
              have := put10 A' m' cap' M o.f wr hmc hc' hM
              rwa [HM16.out] at this)
            have HN := Lib.hid (HI.out.put o.f)
            generalize putS M o.f = r at *
            obtain ⟨r1, r2⟩ := r
            clear k0 hlf hM hmc hc' hr HI HM16
            go_wp2_with fail
            refine P.out.mono ?_
            rintro e w1 ⟨A1, n1, c1, he, ho1, hb1⟩
            obtain rfl : e = .returned (.tuple #[.slice A1 n1 c1, .bool r2]) := he
            have hr1 := ho1.rd
            have hc1 := ho1.cap
            have hB1 := hbr.trans (hb1.mono hbr.size)
            go_wp2
            go_meet
            exact ⟨A1, n1, c1, r1, rfl, hc1.1, hc1.2, hr1, HN.out, hB1⟩
          by_cases k1 : o.kind = 1
          · have hkb0 : (o.kind == 0) = false := by simpa using k0
            have hkb : (o.kind == 1) = true := by simpa using k1
            have P : Hid (∀ w', Below wr.heap.size wr w' → Calls Try.prog 13 #[.slice A' m' cap', .int .i64 o.i, .bool o.ok] w' (PtEnd w' (resS M o.i o.ok))) := Lib.hid (fun w' hb => by
              have := result13 A' m' cap' M o.i o.ok w' hmc hc' (hM.later hb)
              rwa [HM16.out] at this)
            have HN := Lib.hid (HI.out.res o.i o.ok)
            generalize resS M o.i o.ok = r at *
            obtain ⟨r1, r2⟩ := r
            have K1 : ∀ w', Below wr.heap.size wr w' → w'.cell? ⟨b, off + j * 12 + 1, none⟩ = some (.int .i64 o.i) := fun w' hb => keep hb q1
            have K11 : ∀ w', Below wr.heap.size wr w' → w'.cell? ⟨b, off + j * 12 + 11, none⟩ = some (.bool o.ok) := fun w' hb => keep hb q11
            have hU0 := Below.refl wr.heap.size wr
            clear k0 k1 hlf hM hmc hc' hr HI HM16 q0 q2 q3 q4 q5 q6 q7 q8 q9 q10 q1 q11
            go_wp2_with fail
            go_region_held3 (fun w' => Below wr.heap.size wr w') (first | assumption | (exact Below.drew (by assumption)) | (exact Below.trans (by assumption) (Below.mono hb2 (Below.size (by assumption)))))
              (first
                | (go_at_call 13; refine (P.out _ (by assumption)).mono ?_; rintro e w2 ⟨A1, n1, c1, he, ho1, hb2⟩; obtain rfl : e = .returned (.tuple #[.slice A1 n1 c1, .bool r2]) := he))
            all_goals
              have hr1 := ho1.rd
              have hc1 := ho1.cap
              go_wp2
              go_meet
              exact ⟨A1, n1, c1, r1, rfl, hc1.1, hc1.2, hr1, HN.out, hbr.trans (Below.mono (by assumption) hbr.size)⟩
          by_cases k2 : o.kind = 2
          · have hkb0 : (o.kind == 0) = false := by simpa using k0
            have hkb1 : (o.kind == 1) = false := by simpa using k1
            have hkb : (o.kind == 2) = true := by simpa using k2
            have P : Hid (Calls Try.prog 17 #[.slice A' m' cap'] wr (SlEnd wr (M.map tick1))) := Lib.hid (by
              have := tick17 A' m' cap' M wr hmc hc' hM
              rwa [HM16.out] at this)
            have HN := Lib.hid HI.out.tick
            generalize M.map tick1 = r1 at *
            clear k0 k1 k2 hlf hM hmc hc' hr HI HM16
            go_wp2_with fail
            refine P.out.mono ?_
            rintro e w1 ⟨A1, n1, c1, rfl, ho1, hb1⟩
            have hr1 := ho1.rd
            have hc1 := ho1.cap
            have hB1 := hbr.trans (hb1.mono hbr.size)
            go_wp2
            go_meet
            exact ⟨A1, n1, c1, r1, rfl, hc1.1, hc1.2, hr1, HN.out, hB1⟩
          · have hkb0 : (o.kind == 0) = false := by simpa using k0
            have hkb1 : (o.kind == 1) = false := by simpa using k1
            have hkb : (o.kind == 2) = false := by simpa using k2
            clear k0 k1 k2
            go_wp2
            go_meet
            exact ⟨A', m', cap', M, rfl, hmc, hc', hM, HI.out, hbr⟩
        case rest =>
          clear hM hmc hc' HI HM16 hbr hm16 q0 q1 q2 q3 q4 q5 q6 q7 q8 q9 q10 q11
          obtain ⟨A2, n2, c2, M2, rfl, hn2, hc2, hM2, hI2, hB2⟩ := hcut
          obtain ⟨wy, rfl⟩ : ∃ wy, wy = wc := ⟨_, rfl⟩
          have HI2 := Lib.hid hI2
          have hn16 : n2 ≤ 16 := by rw [← hM2.1]; exact hI2.1
          clear hI2
          go_wp2
          go_loop [5] (fun i => ∃ k : Nat, k ≤ n2 ∧ i = .int .i64 k) (fun i => n2 - (intOf i).toNat)
          case atStart => exact ⟨0, by omega, rfl⟩
          case round =>
            obtain ⟨k, hk, rfl⟩ := hrel
            by_cases hkn : k < n2
            · obtain ⟨b2, off2, a, rfl, hla, p0, p1, p2, p3, p4, p5, p6, p7, p8, p9, p10⟩ := snd_at hM2 hkn
              obtain ⟨o1, o2, o3, o4, o5⟩ := HI2.out.2.2 a (List.mem_of_getElem? hla)
              have HO := Lib.hid o1
              clear o1 p0 p1 p2 p3 p4 p5 p6 p8
              by_cases hk0 : k = 0
              · have hz : decide (0 < k) = false := decide_eq_false (by omega)
                have HK := Lib.hid hk0
                clear hk0
                rcases (show a.f.urgent = true ∨ a.f.urgent = false by cases a.f.urgent <;> simp) with hu | hu
                · have hw := HO.out hu
                  rw [hu] at p7
                  rw [hw] at p10
                  clear hu hla
                  go_wp2
                  go_round
                  case rel => exact ⟨k + 1, by omega, by go_num⟩
                  case measure => simp [intOf]; omega
                · rw [hu] at p7
                  clear hu hla
                  go_wp2
                  go_round
                  case rel => exact ⟨k + 1, by omega, by go_num⟩
                  case measure => simp [intOf]; omega
              · obtain ⟨k', hq⟩ : ∃ k', k = k' + 1 := ⟨k - 1, by omega⟩
                obtain ⟨b3, off3, c, hA, hlc, s0, s1, s2, s3, s4, s5, s6, s7, s8, s9, s10⟩ := snd_at hM2 (k := k') (by omega)
                cases hA
                have hip : (k : Int) - 1 = k' := by omega
                have hz : decide (0 < k) = true := decide_eq_true (by omega)
                have HU := Lib.hid (show a.f.urgent = true → c.f.urgent = true from by
                  have h1 := (List.getElem?_eq_some_iff.1 hlc)
                  obtain ⟨i1, e1⟩ := h1
                  rw [hq] at hla
                  obtain ⟨i2, e2⟩ := List.getElem?_eq_some_iff.1 hla
                  have := List.pairwise_iff_getElem.1 HI2.out.2.1 _ _ i1 i2 (by omega)
                  rw [e1, e2] at this
                  exact this)
                clear s0 s1 s2 s3 s4 s5 s6 s8 s9 s10 hlc hq
                rcases (show a.f.urgent = true ∨ a.f.urgent = false by cases a.f.urgent <;> simp) with hu | hu
                · have hw := HO.out hu
                  rw [HU.out hu] at s7
                  rw [hu] at p7
                  rw [hw] at p10
                  clear hu hla
                  go_wp2
                  go_round
                  case rel => exact ⟨k + 1, by omega, by go_num⟩
                  case measure => simp [intOf]; omega
                · rw [hu] at p7
                  clear hu hla
                  go_wp2
                  go_round
                  case rel => exact ⟨k + 1, by omega, by go_num⟩
                  case measure => simp [intOf]; omega
            · go_wp2
              go_roundw
              case rel => exact ⟨j + 1, n2, c2, A2, M2, by omega, by go_num, rfl, hn2, hc2, hM2, HI2.out, hB2⟩
              case measure => simp [intOf]; omega
      · obtain rfl : n = j := by omega
        have H4 := Lib.hid (four HI.out)
        have H4l := Lib.hid (show (ticks M 4).length ≤ 16 from (ticks_inv HI.out 4).1)
        have T1 := Lib.hid (fun (w : World) A n c h1 h2 hr => by have := tick17 A n c M w h1 h2 hr; rwa [List.take_of_length_le HI.out.1] at this)
        have T2 := Lib.hid (fun (w : World) A n c h1 h2 hr => by have := tick17 A n c (ticks M 1) w h1 h2 hr; rwa [List.take_of_length_le (ticks_inv HI.out 1).1] at this)
        have T3 := Lib.hid (fun (w : World) A n c h1 h2 hr => by have := tick17 A n c (ticks M 2) w h1 h2 hr; rwa [List.take_of_length_le (ticks_inv HI.out 2).1] at this)
        have T4 := Lib.hid (fun (w : World) A n c h1 h2 hr => by have := tick17 A n c (ticks M 3) w h1 h2 hr; rwa [List.take_of_length_le (ticks_inv HI.out 3).1] at this)
        clear hr hlt hj HI HM16 hm16
        go_wp2_with fail
        refine (T1.out wr _ _ _ hmc hc' hM).mono ?_
        rintro e w1 ⟨A1, n1, c1, rfl, ho1, hb1⟩
        have hB1 := hbr.trans (hb1.mono hbr.size)
        have hr1 : Rd w1 ES A1 n1 (ticks M 1) := ho1.rd
        have hc1 := ho1.cap
        clear T1 ho1 hb1 hbr hM hmc hc'
        go_wp2_with fail
        refine (T2.out w1 _ _ _ hc1.1 hc1.2 hr1).mono ?_
        rintro e w2 ⟨A2, n2, c2, rfl, ho2, hb2⟩
        have hB2 := hB1.trans (hb2.mono hB1.size)
        have hr2 : Rd w2 ES A2 n2 (ticks M 2) := ho2.rd
        have hc2 := ho2.cap
        clear T2 ho2 hb2 hB1 hr1 hc1
        go_wp2_with fail
        refine (T3.out w2 _ _ _ hc2.1 hc2.2 hr2).mono ?_
        rintro e w3 ⟨A3, n3, c3, rfl, ho3, hb3⟩
        have hB3 := hB2.trans (hb3.mono hB2.size)
        have hr3 : Rd w3 ES A3 n3 (ticks M 3) := ho3.rd
        have hc3 := ho3.cap
        clear T3 ho3 hb3 hB2 hr2 hc2
        go_wp2_with fail
        refine (T4.out w3 _ _ _ hc3.1 hc3.2 hr3).mono ?_
        rintro e w4 ⟨A4, n4, c4, rfl, ho4, hb4⟩
        have hB4 := hB3.trans (hb4.mono hB3.size)
        have hr4 : Rd w4 ES A4 n4 (ticks M 4) := ho4.rd
        have hc4 := ho4.cap
        clear T4 ho4 hb4 hB3 hr3 hc3
        generalize ticks M 4 = M4 at *
        have hn4 : n4 ≤ 16 := by rw [← hr4.1]; exact H4l.out
        obtain ⟨wo, rfl⟩ : ∃ wo : World, wo = w4 := ⟨_, rfl⟩
        go_wp2
        go_loop [7] (fun i => ∃ k : Nat, k ≤ n4 ∧ i = .int .i64 k) (fun i => n4 - (intOf i).toNat)
        case atStart => exact ⟨0, by omega, rfl⟩
        case round =>
          obtain ⟨k, hk, rfl⟩ := hrel
          by_cases hkn : k < n4
          · obtain ⟨b2, off2, a, rfl, hla, p0, p1, p2, p3, p4, p5, p6, p7, p8, p9, p10⟩ := snd_at hr4 hkn
            rw [H4.out a (List.mem_of_getElem? hla)] at p10
            clear p0 p1 p2 p3 p4 p5 p6 p7 p8 p9 hla
            go_wp2
            go_round
            case rel => exact ⟨k + 1, by omega, by go_num⟩
            case measure => simp [intOf]; omega
          · have NX := Lib.hid (next15 A4 n4 c4 M4 wo hc4.1 hc4.2 hr4)
            have hnx := next_zero H4.out
            rw [List.take_of_length_le H4l.out, hnx, hr4.1] at NX
            clear hnx
            by_cases hz : n4 = 0
            · subst hz
              have NX' : Hid (Calls Try.prog 15 #[.slice A4 0 c4] wo fun e w' => e = .returned (.int .i64 (-1)) ∧ Below wo.heap.size wo w') := Lib.hid NX.out
              go_wp2_with fail
              refine NX'.out.mono ?_
              rintro e w5 ⟨rfl, hb5⟩
              have hB5 := hB4.trans (hb5.mono hB4.size)
              go_wp2_with fail
              refine (LV.out _).mono ?_
              rintro e w6 ⟨rfl, hb6⟩
              have hB6 := hB5.trans (hb6.mono hB5.size)
              go_wp2
              go_ret
              exact ⟨rfl, hB6⟩
            · have NX' : Hid (Calls Try.prog 15 #[.slice A4 n4 c4] wo fun e w' => e = .returned (.int .i64 0) ∧ Below wo.heap.size wo w') := Lib.hid (by have := NX.out; rwa [if_neg hz] at this)
              have hzi : ((n4 : Int) == 0) = false := by simp; omega
              clear hz
              go_wp2_with fail
              refine NX'.out.mono ?_
              rintro e w5 ⟨rfl, hb5⟩
              have hB5 := hB4.trans (hb5.mono hB4.size)
              go_wp2_with fail
              refine (LV.out _).mono ?_
              rintro e w6 ⟨rfl, hb6⟩
              have hB6 := hB5.trans (hb6.mono hB5.size)
              go_wp2
              go_ret
              exact ⟨rfl, hB6⟩
end Go.Proofs.Ytjdhgokcbcidlaa
