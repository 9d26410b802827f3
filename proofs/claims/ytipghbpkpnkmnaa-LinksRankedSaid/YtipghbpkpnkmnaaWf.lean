/- Seen and Forget of the reference. -/
import Derived.Test.YtipghbpkpnkmnaaWe
namespace Go.Proofs.Ytipghbpkpnkmnaa
open Go.RowKit Go.BigFrame
set_option linter.unusedVariables false

theorem outR_yes {l : List Link} {v : Int} {j : Nat} {a : Link} (h : l[j]? = some a) (ha : ¬ a.node = v) : outR (l.take (j + 1)) v = outR (l.take j) v ++ [a] := by
  have : (a.node != v) = true := by rw [bne_iff_ne]; exact ha
  rw [take_snoc h]; simp [outR, this]
theorem outR_no {l : List Link} {v : Int} {j : Nat} {a : Link} (h : l[j]? = some a) (ha : a.node = v) : outR (l.take (j + 1)) v = outR (l.take j) v := by
  rw [take_snoc h]; simp [outR, ha]
theorem outR_len (l : List Link) (v : Int) : (outR l v).length ≤ l.length := List.length_filter_le _ _

set_option maxHeartbeats 2000000 in
theorem forget14 (A : Option Addr) (n cap : Nat) (l : List Link) (v : Int) (w : World) (hn : n ≤ 9223372036854775807) (hr : Rd w EL A n l) :
    Calls Try.prog 14 #[.slice A n cap, .int .i64 v] w (SlEnd w (outR (tab l) v)) := by
  obtain ⟨i0, hi0, hz0, hz1, hz2⟩ := info_parts info38
  have VL := Lib.hid (valid27 A n cap l w hn hr)
  have hl24 := tab_len l
  generalize tab l = t at *
  clear hr
  go_enter Try.func14, Try.ntmps14
  go_wp2_with fail
  refine VL.out.mono ?_
  rintro e w0 ⟨A1, n1, c1, rfl, ho1, hb0⟩
  have hn1 : n1 ≤ 24 := by rw [← ho1.1]; exact hl24
  have hr1 := ho1.rd
  have hl1 := ho1.1
  clear VL ho1
  go_wp2
  go_loopw [6, 7] (fun o i wr => ∃ (j m' cap' : Nat) (A' : Option Addr), j ≤ n1 ∧ m' ≤ j ∧ i = .int .i64 j ∧ o = .slice A' m' cap' ∧ Ow wr w0.heap.size 38 EL (.slice A' m' cap') m' (outR (t.take j) v) ∧ Below w0.heap.size w0 wr) (fun _ i _ => n1 - (intOf i).toNat)
  case atStart => exact ⟨0, 0, 0, none, by omega, by omega, rfl, rfl, by simpa [outR] using Ow.nil w0 w0.heap.size 38 EL, Below.refl _ _⟩
  case round =>
    obtain ⟨j, m', cap', A', hj, hmj, rfl, rfl, hown, hbr⟩ := hrel
    by_cases hlt : j < n1
    · obtain ⟨b, off, a, rfl, hla, q0, q1, q2⟩ := link_at (hr1.later hbr) hlt
      by_cases hv : a.node = v
      · have HC := Lib.hid (outR_no hla hv)
        have hvb : (a.node == v) = true := by simpa using hv
        have hvb' : (a.node != v) = false := by simp [hv]
        rw [← HC.out] at hown
        clear hv hla
        go_wp2
        go_roundw
        case rel => exact ⟨j + 1, m', cap', A', by omega, by omega, by go_num, rfl, hown, hbr⟩
        case measure => simp [intOf]; omega
      · have HC := Lib.hid (outR_yes hla hv)
        have hvb' : (a.node != v) = true := by rw [bne_iff_ne]; exact hv
        clear hv hla
        go_wp2_with (at_builtin; refine wpList_append_rd _ rfl (.tmp 23) (.tmp 28) 22 rfl w0.heap.size 38 i0 _ EL Try.underlying22 hi0 hz0 hz1 rfl (.slice A' m' cap') m' (outR (t.take j) v) rfl (hown.later ((Below.refl _ _).alloc (Nat.le_refl _) _)) (some ⟨wr.heap.size, 0, none⟩) 1 1 [a] rfl (link_one a wr 38) (by unfold maxLen; omega) (by rw [hz2]; omega) (by have := hbr.size; simp; omega) ?_; intro A2 cap2 w2 hown2 hg)
        have hB3 : Below w0.heap.size w0 w2 := Below.row (hbr.alloc hbr.size _) hg (by have := hbr.size; simp; omega) (Nat.le_refl _) (hown.later ((Below.refl _ _).alloc (Nat.le_refl _) _)).lt
        rw [← HC.out] at hown2
        clear hg hown hbr
        go_wp2
        go_roundw
        case rel => exact ⟨j + 1, m' + 1, cap2, A2, by omega, by omega, by go_num, rfl, hown2, hB3⟩
        case measure => simp [intOf]; omega
    · have HE := Lib.hid (show t.take j = t by rw [List.take_of_length_le (by rw [hl1]; omega)])
      go_wp2
      go_ret
      exact ⟨A', m', cap', rfl, by rw [HE.out] at hown; exact hown.rebase hb0.size, hb0.trans (hbr.mono hb0.size)⟩

theorem tw_take {R : List Link} {v : Int} {j : Nat} (hj : j ≤ R.length) (h : ∀ (i : Nat) (b : Link), i < j → R[i]? = some b → b.node < v) (he : ∀ b : Link, R[j]? = some b → ¬ b.node < v) : R.takeWhile (fun a => decide (a.node < v)) = R.take j := by
  induction R generalizing j with
  | nil => simp
  | cons b r ih =>
    cases j with
    | zero =>
      have := he b rfl
      rw [List.take_zero, List.takeWhile_cons_of_neg (by rw [decide_eq_false this]; decide)]
    | succ j =>
      have := h 0 b (by omega) rfl
      rw [List.take_succ_cons, List.takeWhile_cons_of_pos (by exact decide_eq_true this), ih (by simpa using hj) (fun i c h1 h2 => h (i + 1) c (by omega) h2) (fun c hc => he c (by simpa using hc))]

set_option maxRecDepth 20000 in
set_option maxHeartbeats 4000000 in
theorem seen12 (A : Option Addr) (n cap : Nat) (l : List Link) (v : Int) (ok : Bool) (w : World) (hn : n ≤ 9223372036854775807) (hr : Rd w EL A n l) :
    Calls Try.prog 12 #[.slice A n cap, .int .i64 v, .bool ok] w (SlEnd w (seenR (tab l) v ok)) := by
  obtain ⟨i0, hi0, hz0, hz1, hz2⟩ := info_parts info38
  have VL := Lib.hid (valid27 A n cap l w hn hr)
  have HG := Lib.hid (tab_good l)
  have hl24 := tab_len l
  generalize tab l = t at *
  clear hr
  go_enter Try.func12, Try.ntmps12
  go_wp2_with fail
  refine VL.out.mono ?_
  rintro e w1 ⟨A1, n1, c1, rfl, ho1, hb1⟩
  have hn1 : n1 ≤ 24 := by rw [← ho1.1]; exact hl24
  have hl1 := ho1.1
  have AT : Hid (Calls Try.prog 28 #[.slice A1 n1 c1, .int .i64 v] w1 (AtEnd w1 (atR t v))) := Lib.hid (by
    have := at28 A1 n1 c1 t v w1 (by omega) ho1.rd
    rwa [tab_of_good HG.out] at this)
  have FG : Hid (∀ w', Rd w' EL A1 n1 t → Calls Try.prog 14 #[.slice A1 n1 c1, .int .i64 v] w' (SlEnd w' (outR t v))) := Lib.hid (fun w' hr => by
    have := forget14 A1 n1 c1 t v w' (by omega) hr
    rwa [tab_of_good HG.out] at this)
  have HS := Lib.hid (show seenR t v ok = if v < 0 ∨ 250 < v ∨ (atR t v = none ∧ 24 ≤ t.length) then t
    else (outR t v).takeWhile (fun a => decide (a.node < v)) ++ upd ⟨v, ((atR t v).getD l0).bits, ((atR t v).getD l0).count⟩ ok :: (outR t v).drop ((outR t v).takeWhile (fun a => decide (a.node < v))).length from rfl)
  have HX : Hid (∀ x, atR t v = some x → 0 ≤ x.bits ∧ x.bits < 65536 ∧ 0 ≤ x.count ∧ x.count ≤ 16) := Lib.hid (fun x hx => by
    obtain ⟨_, _, b3, b4, b5, _, b7⟩ := good_bits (HG.out.2.2 x (List.mem_of_find?_eq_some hx))
    exact ⟨b5, b7, b3, b4⟩)
  have hR24 : (outR t v).length ≤ 24 := Nat.le_trans (outR_len t v) hl24
  generalize atR t v = ax at *
  generalize outR t v = R at *
  generalize seenR t v ok = r at *
  clear VL
  go_wp2_with fail
  refine AT.out.mono ?_
  rintro e w2 ⟨rfl, hb2⟩
  obtain ⟨x, hx⟩ : ∃ x, ax.getD l0 = x := ⟨_, rfl⟩
  have hxb : 0 ≤ x.bits ∧ x.bits < 65536 ∧ 0 ≤ x.count ∧ x.count ≤ 16 := by
    rw [← hx]
    cases ax with
    | none => decide
    | some y => exact HX.out y rfl
  obtain ⟨k1, k2, k3, k4⟩ := hxb
  rw [hx] at HS ⊢
  have ho2 := ho1.later hb2
  have hB2 := hb1.trans (hb2.mono hb1.size)
  obtain ⟨V, hV, hBV, hzV, hkV⟩ := boxed w2 #[.int .i64 x.node, .int .i64 x.bits, .int .i64 x.count] 38
  have hr2 := ho2.rd
  have hoV := ho2.later hBV
  have hBV2 := hB2.trans (hBV.mono hB2.size)
  have hw1 := hb1.size
  have hw2 := hb2.size
  have hHX := Lib.hid hx
  clear AT HX ho1 hb1 hb2 ho2 hB2 hx
  by_cases hno : v < 0 ∨ 250 < v ∨ (ax = none ∧ 24 ≤ t.length)
  · have HR := Lib.hid (show r = t by rw [HS.out, if_pos hno])
    clear HS FG
    have hcs : (v < 0) ∨ (¬ v < 0 ∧ 250 < v) ∨ (¬ v < 0 ∧ ¬ 250 < v ∧ ax = none ∧ n1 = 24) := by
      rcases hno with h | h | ⟨h, h'⟩
      · exact .inl h
      · exact .inr (.inl ⟨by omega, h⟩)
      · by_cases c1 : v < 0
        · exact .inl c1
        · by_cases c2 : 250 < v
          · exact .inr (.inl ⟨c1, c2⟩)
          · exact .inr (.inr ⟨c1, c2, h, by omega⟩)
    clear hno
    rcases hcs with h | ⟨h, h'⟩ | ⟨h, h', rfl, rfl⟩
    all_goals
      go_wp2
      go_ret
      exact ⟨A1, _, c1, rfl, by rw [HR.out]; exact hoV, hBV2⟩
  · have HR := Lib.hid (show r = R.takeWhile (fun a => decide (a.node < v)) ++ upd ⟨v, x.bits, x.count⟩ ok :: R.drop (R.takeWhile (fun a => decide (a.node < v))).length by rw [HS.out, if_neg hno])
    have hv0 : ¬ v < 0 := by omega
    have hv1 : ¬ 250 < v := by omega
    have hax : ax = none → ¬ 24 ≤ n1 := fun h h' => hno (.inr (.inr ⟨h, by omega⟩))
    obtain ⟨u, hu⟩ : ∃ u, u = upd ⟨v, x.bits, x.count⟩ ok := ⟨_, rfl⟩
    rw [← hu] at HR
    have HU := Lib.hid hu
    have e0 := hkV.at 0 (v := .int .i64 x.node) rfl
    have e1 := hkV.at 1 (v := .int .i64 x.bits) rfl
    have e2 := hkV.at 2 (v := .int .i64 x.count) rfl
    have z0 := hkV.frozen 0
    have z1 := hkV.frozen 1
    have z2 := hkV.frozen 2
    have hwV := hkV.lt
    have hxx : ax.isSome = false → n1 < 24 := fun h => by
      cases ax with
      | none => have := hax rfl; omega
      | some y => cases h
    generalize ax.isSome = fb at *
    clear HS hno hax hu hHX
    go_upto_region 3 with fail
    go_cut [36] (fun s wz => s = .bool false ∧ wz = V)
    case first =>
      clear hV e0 e1 e2 z0 z1 z2 HG FG
      cases fb with
      | true =>
        go_wp2
        go_meet
        exact ⟨congrArg Value.bool (by simp; omega), rfl⟩
      | false =>
        have h24 := hxx rfl
        go_wp2
        go_meet
        exact ⟨congrArg Value.bool (by simp; omega), rfl⟩
    case rest =>
      obtain ⟨rfl, hVc⟩ := hcut
      subst hVc
      obtain ⟨wy, rfl⟩ : ∃ wy, wy = wc := ⟨_, rfl⟩
      obtain ⟨bt, hbt⟩ : ∃ bt : Int, (if ok = true then 1 else 0) = bt := ⟨_, rfl⟩
      have HBT := Lib.hid hbt
      have hb0 : 0 ≤ bt ∧ bt ≤ 1 := by rw [← hbt]; split <;> omega
      clear hxx hbt
      go_upto_if 38 with fail
      go_cut [10] (fun s wz => s = .int .i64 bt ∧ wz = wy)
      case first =>
        clear hV e0 e1 e2 z0 z1 z2 HG FG
        cases ok with
        | true =>
          have hb1 : 1 = bt := HBT.out
          have HB1 := Lib.hid hb1
          clear hb1
          go_wp2
          go_meet
          exact ⟨by rw [HB1.out], rfl⟩
        | false =>
          have hb1 : 0 = bt := HBT.out
          have HB1 := Lib.hid hb1
          clear hb1
          go_wp2
          go_meet
          exact ⟨by rw [HB1.out], rfl⟩
      case rest =>
        obtain ⟨rfl, hVc⟩ := hcut
        subst hVc
        obtain ⟨wy, rfl⟩ : ∃ wy, wy = wc := ⟨_, rfl⟩
        obtain ⟨hb0, hb1⟩ := hb0
        have hgw : w2.heap.size < wy.heap.size := hwV
        have hw8 : w.heap.size ≤ w2.heap.size := by omega
        have HR3 : ∀ a b c, Rd (((wy.setCell ⟨w2.heap.size, 0, none⟩ a).setCell ⟨w2.heap.size, 1, none⟩ b).setCell ⟨w2.heap.size, 2, none⟩ c) EL A1 n1 t := fun a b c =>
          hr2.later (((hBV.setCell (p := ⟨w2.heap.size, 0, none⟩) (Nat.le_refl _) a).setCell (p := ⟨w2.heap.size, 1, none⟩) (Nat.le_refl _) b).setCell (p := ⟨w2.heap.size, 2, none⟩) (Nat.le_refl _) c)
        have HR4 : ∀ a b c d, Rd ((((wy.setCell ⟨w2.heap.size, 0, none⟩ a).setCell ⟨w2.heap.size, 1, none⟩ b).setCell ⟨w2.heap.size, 2, none⟩ c).setCell ⟨w2.heap.size, 2, none⟩ d) EL A1 n1 t := fun a b c d =>
          hr2.later ((((hBV.setCell (p := ⟨w2.heap.size, 0, none⟩) (Nat.le_refl _) a).setCell (p := ⟨w2.heap.size, 1, none⟩) (Nat.le_refl _) b).setCell (p := ⟨w2.heap.size, 2, none⟩) (Nat.le_refl _) c).setCell (p := ⟨w2.heap.size, 2, none⟩) (Nat.le_refl _) d)
        clear hV hBV
        generalize hg8 : w2.heap.size = g8 at *
        clear hg8 hr2
        have HUn : Hid (u.node = v) := Lib.hid (by rw [HU.out]; rfl)
        have HUb : Hid (u.bits = (2 * x.bits + bt) % 65536) := Lib.hid (by rw [HU.out, ← HBT.out]; rfl)
        have HUc : Hid (u.count = if 16 < x.count + 1 then 16 else x.count + 1) := Lib.hid (by rw [HU.out]; rfl)
        go_upto_if 52 with fail
        go_cut [52] (fun s wz => Blk wz g8 38 (encL u).toArray ∧ Below w.heap.size w wz ∧ g8 < wz.heap.size ∧ Rd wz EL A1 n1 t)
        case first =>
          by_cases h16 : 16 < x.count + 1
          · go_wp2
            go_meet
            refine ⟨?_, (((hBV2.setCell (p := ⟨g8, 0, none⟩) hw8 _).setCell (p := ⟨g8, 1, none⟩) hw8 _).setCell (p := ⟨g8, 2, none⟩) hw8 _).setCell (p := ⟨g8, 2, none⟩) hw8 _, by simpa [World.setCell] using hgw, HR4 _ _ _ _⟩
            have he : (encL u).toArray = #[.int .i64 v, .int .i64 ((2 * x.bits + bt) % 65536), .int .i64 16] := by
              unfold encL; rw [HUn.out, HUb.out, HUc.out, if_pos h16]
            rw [he]
            exact (((hkV.set_ 0 _).set_ 1 _).set_ 2 _).set_ 2 _
          · go_wp2
            go_meet
            refine ⟨?_, ((hBV2.setCell (p := ⟨g8, 0, none⟩) hw8 _).setCell (p := ⟨g8, 1, none⟩) hw8 _).setCell (p := ⟨g8, 2, none⟩) hw8 _, by simpa [World.setCell] using hgw, HR3 _ _ _⟩
            have he : (encL u).toArray = #[.int .i64 v, .int .i64 ((2 * x.bits + bt) % 65536), .int .i64 (x.count + 1)] := by
              unfold encL; rw [HUn.out, HUb.out, HUc.out, if_neg (by omega)]
            rw [he]
            exact ((hkV.set_ 0 _).set_ 1 _).set_ 2 _
        case rest =>
          obtain ⟨hk6, hB6, hg6, hr6⟩ := hcut
          obtain ⟨w6, rfl⟩ : ∃ w6, w6 = wc := ⟨_, rfl⟩
          clear HR3 HR4 hkV hBV2 hoV hwV hgw HU HUb HUc HBT hb0 hb1 k1 k2 k3 k4 e0 e1 e2 z0 z1 z2
          have FR := Lib.hid (FG.out w6 hr6)
          clear FG hr6
          go_wp2_with fail
          refine FR.out.mono ?_
          rintro e w7 ⟨A7, n7, c7, rfl, ho7, hb7⟩
          have hk7 := hk6.later hb7
          have hB7 := hB6.trans (hb7.mono hB6.size)
          have hr7 := ho7.rd
          have hl7 := ho7.1
          have hn7 : n7 ≤ 24 := by rw [← hl7]; exact hR24
          have hg7 : g8 < w7.heap.size := by have := hb7.size; omega
          have hform := ho7.2.2
          have hw7 := hB7.size
          clear hk6 hB6 hg6 hb7 FR ho7
          go_wp2
          go_loopw [11, 13] (fun o i wr => ∃ (j cap' : Nat) (A' : Option Addr), j ≤ n7 ∧ i = .int .i64 j ∧ o = .slice A' j cap' ∧ Ow wr w7.heap.size 38 EL (.slice A' j cap') j (R.take j) ∧ Hid (∀ (i : Nat) (b : Link), i < j → R[i]? = some b → b.node < v) ∧ Below w7.heap.size w7 wr) (fun _ i _ => n7 - (intOf i).toNat)
          case atStart => exact ⟨0, 0, none, by omega, rfl, rfl, by simpa using Ow.nil w7 w7.heap.size 38 EL, Lib.hid (fun i b h => by omega), Below.refl _ _⟩
          case round =>
            obtain ⟨j, cap', A', hj, rfl, rfl, hown, hi, hbr⟩ := hrel
            by_cases hgo : ∃ a, R[j]? = some a ∧ a.node < v
            · obtain ⟨a, hla', hv⟩ := hgo
              have hlt : j < n7 := by rw [← hl7]; exact (List.getElem?_eq_some_iff.1 hla').1
              obtain ⟨b, off, a2, rfl, hla, q0, q1, q2⟩ := link_at (hr7.later hbr) hlt
              obtain rfl : a = a2 := by rw [hla'] at hla; exact Option.some.inj hla
              have HN : Hid (∀ (i : Nat) (b : Link), i < j + 1 → R[i]? = some b → b.node < v) := Lib.hid (fun i c h1 h2 => by
                rcases Nat.lt_or_ge i j with d | d
                · exact hi.out i c d h2
                · obtain rfl : i = j := by omega
                  rw [hla] at h2; cases h2; exact hv)
              have HC := Lib.hid (take_snoc hla)
              clear hla hla' hi hform
              go_wp2_with (at_builtin; refine wpList_append_rd _ rfl (.tmp 72) (.tmp 77) 22 rfl w7.heap.size 38 i0 _ EL Try.underlying22 hi0 hz0 hz1 rfl (.slice A' j cap') j (R.take j) rfl (hown.later ((Below.refl _ _).alloc (Nat.le_refl _) _)) (some ⟨wr.heap.size, 0, none⟩) 1 1 [a] rfl (link_one a wr 38) (by unfold maxLen; omega) (by rw [hz2]; omega) (by have := hbr.size; simp; omega) ?_; intro A2 cap2 w8 hown2 hg)
              have hB3 : Below w7.heap.size w7 w8 := Below.row (hbr.alloc hbr.size _) hg (by have := hbr.size; simp; omega) (Nat.le_refl _) (hown.later ((Below.refl _ _).alloc (Nat.le_refl _) _)).lt
              rw [← HC.out] at hown2
              clear hg hown hbr
              go_wp2
              go_roundw
              case rel => exact ⟨j + 1, cap2, A2, by omega, by go_num, rfl, hown2, HN, hB3⟩
              case measure => simp [intOf]; omega
            · have HT := Lib.hid (tw_take (R := R) (v := v) (j := j) (by omega) hi.out (fun b hb hv => hgo ⟨b, hb, hv⟩))
              have HRR : Hid (r = R.take j ++ u :: R.drop j) := Lib.hid (by
                rw [HR.out, HT.out, List.length_take, Nat.min_eq_left (by omega)])
              obtain ⟨kd, hkd⟩ : ∃ kd, R.drop j = kd := ⟨_, rfl⟩
              have HKD := Lib.hid hkd
              have hkl : kd.length = n7 - j := by rw [← hkd, List.length_drop, hl7]
              clear hkd HT HR
              by_cases hlt : j < n7
              · obtain ⟨b, off, a, hA, hla, q0, q1, q2⟩ := link_at (hr7.later hbr) hlt
                have hv : ¬ a.node < v := fun c => hgo ⟨a, hla, c⟩
                rcases hform with ⟨h1, h2⟩ | ⟨g, cap0, cur, h1, _, _, hnc, hcm, _⟩
                · cases h1; cases hA
                obtain ⟨hA7, hc7⟩ : A7 = some ⟨g, 0, none⟩ ∧ cap0 = c7 := by cases h1; exact ⟨rfl, rfl⟩
                subst hA7 hc7
                obtain ⟨rfl, rfl⟩ : g = b ∧ 0 = off := by cases hA; exact ⟨rfl, rfl⟩
                simp only [Nat.zero_add] at q0 q1 q2
                clear h1 hA
                have hS : Rd w7 EL (some ⟨g, j * 3, none⟩) (n7 - j) kd := by
                  have := hr7.drop (q := j) (by omega)
                  rw [Nat.zero_add, HKD.out] at this
                  exact this
                have hcq : ¬ (cap0 = j) := by omega
                have hqn1 : (j : Int) ≤ (n7 : Int) := by omega
                have hqn2 : (j : Int) ≤ (cap0 : Int) := by omega
                have hform : True := trivial
                clear hgo hla
                have hu0 := keep hbr (hk7.at 0 (v := .int .i64 u.node) rfl)
                have hu1 := keep hbr (hk7.at 1 (v := .int .i64 u.bits) rfl)
                have hu2 := keep hbr (hk7.at 2 (v := .int .i64 u.count) rfl)
                clear hk7 hi hform hr7
                go_wp2_with (first
                  | (at_builtin; refine wpList_append_rd _ rfl (.tmp 79) (.tmp 81) 22 rfl w7.heap.size 38 i0 _ EL Try.underlying22 hi0 hz0 hz1 rfl (.slice A' j cap') j (R.take j) rfl (hown.later ((Below.refl _ _).alloc (Nat.le_refl _) _)) (some ⟨wr.heap.size, 0, none⟩) 1 1 [u] rfl (link_one u wr 38) (by unfold maxLen; omega) (by rw [hz2]; omega) (by have := hbr.size; simp; omega) ?_; intro A2 cap2 w8 hown2 hg; have hB8 : Below w7.heap.size w7 w8 := Below.row (hbr.alloc hbr.size _) hg (by have := hbr.size; simp; omega) (Nat.le_refl _) (hown.later ((Below.refl _ _).alloc (Nat.le_refl _) _)).lt; have hS8 := hS.later hB8; clear hg hown hbr hu0 hu1 hu2)
                  | (at_builtin; refine wpList_append_rd _ rfl (.tmp 83) (.tmp 88) 22 rfl w7.heap.size 38 i0 _ EL Try.underlying22 hi0 hz0 hz1 rfl (.slice A2 (j + 1) cap2) (j + 1) (R.take j ++ [u]) rfl hown2 (some ⟨g, j * 3, none⟩) (n7 - j) (cap0 - j) kd rfl hS8 (by unfold maxLen; omega) (by rw [hz2]; omega) hB8.size ?_; intro A3 cap3 w9 hown3 hg3))
                have hB9 : Below w7.heap.size w7 w9 := Below.row hB8 hg3 hB8.size (Nat.le_refl _) hown2.lt
                clear hg3 hown2
                go_wp2
                go_ret
                exact ⟨A3, _, cap3, rfl, by rw [HRR.out, HKD.out]; rw [List.append_assoc] at hown3; exact hown3.rebase hw7, hB7.trans (hB9.mono hw7)⟩
              · obtain rfl : j = n7 := by omega
                obtain rfl : kd = [] := List.eq_nil_of_length_eq_zero (by omega)
                clear hgo
                rcases hform with ⟨h1, h2⟩ | ⟨g, cap0, cur, h1, _, _, hnc, hcm, _⟩
                · cases h1
                  have hS : Rd w7 EL none 0 ([] : List Link) := Rd.none_ _ _ _
                  have hform : True := trivial
                  have hu0 := keep hbr (hk7.at 0 (v := .int .i64 u.node) rfl)
                  have hu1 := keep hbr (hk7.at 1 (v := .int .i64 u.bits) rfl)
                  have hu2 := keep hbr (hk7.at 2 (v := .int .i64 u.count) rfl)
                  clear hk7 hi hform hr7
                  go_wp2_with (first
                    | (at_builtin; refine wpList_append_rd _ rfl (.tmp 79) (.tmp 81) 22 rfl w7.heap.size 38 i0 _ EL Try.underlying22 hi0 hz0 hz1 rfl (.slice A' 0 cap') 0 (R.take 0) rfl (hown.later ((Below.refl _ _).alloc (Nat.le_refl _) _)) (some ⟨wr.heap.size, 0, none⟩) 1 1 [u] rfl (link_one u wr 38) (by unfold maxLen; omega) (by rw [hz2]; omega) (by have := hbr.size; simp; omega) ?_; intro A2 cap2 w8 hown2 hg; have hB8 : Below w7.heap.size w7 w8 := Below.row (hbr.alloc hbr.size _) hg (by have := hbr.size; simp; omega) (Nat.le_refl _) (hown.later ((Below.refl _ _).alloc (Nat.le_refl _) _)).lt; have hS8 := hS.later hB8; clear hg hown hbr hu0 hu1 hu2)
                    | (at_builtin; refine wpList_append_rd _ rfl (.tmp 83) (.tmp 88) 22 rfl w7.heap.size 38 i0 _ EL Try.underlying22 hi0 hz0 hz1 rfl (.slice A2 (0 + 1) cap2) (0 + 1) (R.take 0 ++ [u]) rfl hown2 (none) (0) (0) [] rfl hS8 (by unfold maxLen; omega) (by rw [hz2]; omega) hB8.size ?_; intro A3 cap3 w9 hown3 hg3))
                  have hB9 : Below w7.heap.size w7 w9 := Below.row hB8 hg3 hB8.size (Nat.le_refl _) hown2.lt
                  clear hg3 hown2
                  go_wp2
                  go_ret
                  exact ⟨A3, _, cap3, rfl, by rw [HRR.out, HKD.out]; rw [List.append_assoc] at hown3; exact hown3.rebase hw7, hB7.trans (hB9.mono hw7)⟩
                · obtain ⟨hA7, hc7⟩ : A7 = some ⟨g, 0, none⟩ ∧ cap0 = c7 := by cases h1; exact ⟨rfl, rfl⟩
                  subst hA7 hc7
                  clear h1
                  by_cases hcq : cap0 = j
                  · have hS : Rd w7 EL (some ⟨g, 0, none⟩) 0 ([] : List Link) := Rd.none_ _ _ _
                    subst hcq
                    have hform : True := trivial
                    have hu0 := keep hbr (hk7.at 0 (v := .int .i64 u.node) rfl)
                    have hu1 := keep hbr (hk7.at 1 (v := .int .i64 u.bits) rfl)
                    have hu2 := keep hbr (hk7.at 2 (v := .int .i64 u.count) rfl)
                    clear hk7 hi hform hr7
                    go_wp2_with (first
                      | (at_builtin; refine wpList_append_rd _ rfl (.tmp 79) (.tmp 81) 22 rfl w7.heap.size 38 i0 _ EL Try.underlying22 hi0 hz0 hz1 rfl (.slice A' cap0 cap') cap0 (R.take cap0) rfl (hown.later ((Below.refl _ _).alloc (Nat.le_refl _) _)) (some ⟨wr.heap.size, 0, none⟩) 1 1 [u] rfl (link_one u wr 38) (by unfold maxLen; omega) (by rw [hz2]; omega) (by have := hbr.size; simp; omega) ?_; intro A2 cap2 w8 hown2 hg; have hB8 : Below w7.heap.size w7 w8 := Below.row (hbr.alloc hbr.size _) hg (by have := hbr.size; simp; omega) (Nat.le_refl _) (hown.later ((Below.refl _ _).alloc (Nat.le_refl _) _)).lt; have hS8 := hS.later hB8; clear hg hown hbr hu0 hu1 hu2)
                      | (at_builtin; refine wpList_append_rd _ rfl (.tmp 83) (.tmp 88) 22 rfl w7.heap.size 38 i0 _ EL Try.underlying22 hi0 hz0 hz1 rfl (.slice A2 (cap0 + 1) cap2) (cap0 + 1) (R.take cap0 ++ [u]) rfl hown2 (some ⟨g, 0, none⟩) (0) (0) [] rfl hS8 (by unfold maxLen; omega) (by rw [hz2]; omega) hB8.size ?_; intro A3 cap3 w9 hown3 hg3))
                    have hB9 : Below w7.heap.size w7 w9 := Below.row hB8 hg3 hB8.size (Nat.le_refl _) hown2.lt
                    clear hg3 hown2
                    go_wp2
                    go_ret
                    exact ⟨A3, _, cap3, rfl, by rw [HRR.out, HKD.out]; rw [List.append_assoc] at hown3; exact hown3.rebase hw7, hB7.trans (hB9.mono hw7)⟩
                  · have hS : Rd w7 EL (some ⟨g, j * 3, none⟩) 0 ([] : List Link) := Rd.none_ _ _ _
                    have hqn2 : (j : Int) ≤ (cap0 : Int) := by omega
                    have hform : True := trivial
                    have hu0 := keep hbr (hk7.at 0 (v := .int .i64 u.node) rfl)
                    have hu1 := keep hbr (hk7.at 1 (v := .int .i64 u.bits) rfl)
                    have hu2 := keep hbr (hk7.at 2 (v := .int .i64 u.count) rfl)
                    clear hk7 hi hform hr7
                    go_wp2_with (first
                      | (at_builtin; refine wpList_append_rd _ rfl (.tmp 79) (.tmp 81) 22 rfl w7.heap.size 38 i0 _ EL Try.underlying22 hi0 hz0 hz1 rfl (.slice A' j cap') j (R.take j) rfl (hown.later ((Below.refl _ _).alloc (Nat.le_refl _) _)) (some ⟨wr.heap.size, 0, none⟩) 1 1 [u] rfl (link_one u wr 38) (by unfold maxLen; omega) (by rw [hz2]; omega) (by have := hbr.size; simp; omega) ?_; intro A2 cap2 w8 hown2 hg; have hB8 : Below w7.heap.size w7 w8 := Below.row (hbr.alloc hbr.size _) hg (by have := hbr.size; simp; omega) (Nat.le_refl _) (hown.later ((Below.refl _ _).alloc (Nat.le_refl _) _)).lt; have hS8 := hS.later hB8; clear hg hown hbr hu0 hu1 hu2)
                      | (at_builtin; refine wpList_append_rd _ rfl (.tmp 83) (.tmp 88) 22 rfl w7.heap.size 38 i0 _ EL Try.underlying22 hi0 hz0 hz1 rfl (.slice A2 (j + 1) cap2) (j + 1) (R.take j ++ [u]) rfl hown2 (some ⟨g, j * 3, none⟩) (0) (cap0 - j) [] rfl hS8 (by unfold maxLen; omega) (by rw [hz2]; omega) hB8.size ?_; intro A3 cap3 w9 hown3 hg3))
                    have hB9 : Below w7.heap.size w7 w9 := Below.row hB8 hg3 hB8.size (Nat.le_refl _) hown2.lt
                    clear hg3 hown2
                    go_wp2
                    go_ret
                    exact ⟨A3, _, cap3, rfl, by rw [HRR.out, HKD.out]; rw [List.append_assoc] at hown3; exact hown3.rebase hw7, hB7.trans (hB9.mono hw7)⟩
end Go.Proofs.Ytipghbpkpnkmnaa
