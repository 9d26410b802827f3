/- events of the document's answer: the walk. -/
import Derived.Test.YtkdnkieecchobaaWg
import Derived.Test.YtkdnkieecchobaaWb
namespace Go.Proofs.Ytkdnkieecchobaa
open Go.RowKit Go.BigFrame
set_option linter.unusedVariables false
theorem eql34_same {a b : Ky} (h : a = b) (w : World) : (binOp .eql 34 (kyV a) (kyV b)).run Try.prog w = .ok (.bool true) w := by
  subst h
  rw [run_eql_struct, run_equalIn_struct w 9999 34 _ _ (by kernel_rfl) (by kernel_rfl)]
  simp [go_sem]
theorem eql34_diff {a b : Ky} (h : a ≠ b) (w : World) : (binOp .eql 34 (kyV a) (kyV b)).run Try.prog w = .ok (.bool false) w := by
  rw [run_eql_struct, run_equalIn_struct w 9999 34 _ _ (by kernel_rfl) (by kernel_rfl)]
  simp [go_sem]
  intro h0 h1 h2
  exact h (ky_ext h0 (bytes_toList h1) (bytes_toList h2))
theorem Ow.setK {w : World} {base : Nat} {t : TypeId} {g n cap : Nat} {l : List Ky} (h : Ow w base t EK (.slice (some ⟨g, 0, none⟩) n cap) n l) {i : Nat} {a : Ky} (hi : l[i]? = some a) (u : Ky) :
    Ow (((w.setCell ⟨g, i * 3, none⟩ (.int .i64 u.dev)).setCell ⟨g, i * 3 + 1, none⟩ (.string u.a)).setCell ⟨g, i * 3 + 2, none⟩ (.string u.b)) base t EK (.slice (some ⟨g, 0, none⟩) n cap) n (l.set i u) := by
  have hil : i < l.length := (List.getElem?_eq_some_iff.1 hi).1
  have h1 := h.setField (j := 0) (a' := ⟨u.dev, a.a, a.b⟩) hi (by decide) (.int .i64 u.dev) rfl
  have h2 := h1.setField (i := i) (j := 1) (a := ⟨u.dev, a.a, a.b⟩) (a' := ⟨u.dev, u.a, a.b⟩) (by rw [List.getElem?_set_self hil]) (by decide) (.string u.a) rfl
  have h3 := h2.setField (i := i) (j := 2) (a := ⟨u.dev, u.a, a.b⟩) (a' := ⟨u.dev, u.a, u.b⟩) (by rw [List.getElem?_set_self (by simpa using hil)]) (by decide) (.string u.b) rfl
  rw [List.set_set, List.set_set] at h3
  exact h3

set_option maxRecDepth 20000 in
set_option maxHeartbeats 8000000 in
theorem events33 (A : Option Addr) (n cap : Nat) (l : List Ky) (w : World) (hn : n ≤ 200) (hr : Rd w EK A n l) :
    Calls Try.prog 33 #[.slice A n cap] w (OwEnd 34 EK w (setO kLt l)) := by
  obtain ⟨i0, hi0, hz0, hz1, hz2⟩ := info_parts info34
  go_enter Try.func33, Try.ntmps33
  go_wp2
  go_loopw [3, 4] (fun v i wr => ∃ (j m c : Nat) (B : Option Addr) (k : List Ky), j ≤ n ∧ m ≤ j ∧ i = .int .i64 j ∧ v = .slice B m c ∧ k = setO kLt (l.take j) ∧ Ow wr w.heap.size 34 EK (.slice B m c) m k ∧ Below w.heap.size w wr) (fun _ i _ => n - (intOf i).toNat)
  case atStart => exact ⟨0, 0, 0, none, [], by omega, by omega, rfl, rfl, rfl, Ow.nil _ _ _ _, Below.refl _ _⟩
  case round =>
    obtain ⟨j, m, c, B, k, hj, hmj, rfl, rfl, hkk, hown, hbr⟩ := hrel
    have hrr := hr.later hbr
    by_cases hlt : j < n
    · obtain ⟨b, off, x, rfl, hla, q0, q1, q2⟩ := ky_at hrr hlt
      have HT := Lib.hid (snoc_setO (lt := kLt) hla)
      have HS := Lib.hid (srt_setO kLin (l.take j))
      rw [← hkk] at HT HS
      have HLA := Lib.hid hla
      clear hkk hla
      have hkl : k.length = m := hown.1
      obtain ⟨wo, rfl⟩ : ∃ wo : World, wo = wr := ⟨_, rfl⟩
      go_wp2
      go_loopw [5, 6] (fun z5 z6 wi => ∃ (t : Nat) (d : Bool), t ≤ m ∧ z6 = .int .i64 t ∧ z5 = .bool d ∧ (d = true ↔ x ∈ k.take t) ∧ Ow wi w.heap.size 34 EK (.slice B m c) m k ∧ Below w.heap.size w wi) (fun _ z _ => m - (intOf z).toNat)
      case atStart => exact ⟨0, false, Nat.zero_le _, rfl, rfl, by simp, hown, hbr⟩
      case round =>
        clear hown hbr hrr q0 q1 q2
        obtain ⟨t, d, ht, rfl, rfl, hd, hown, hbr⟩ := hrel
        obtain ⟨b0, off0, x0, hA0, hla0, p0, p1, p2⟩ := ky_at (hr.later hbr) hlt
        cases hA0
        obtain rfl : x = x0 := by have := HLA.out; rw [this] at hla0; exact Option.some.inj hla0
        clear hla0
        by_cases htm : t < m
        · obtain ⟨b2, off2, y, rfl, hly, q0, q1, q2⟩ := ky_at hown.rd htm
          have P0 := After.cell p0
          have P1 := After.cell p1
          have P2 := After.cell p2
          have Q0 := After.cell q0
          have Q1 := After.cell q1
          have Q2 := After.cell q2
          clear p0 p1 p2 q0 q1 q2
          have HD : Hid ((d = true ∨ y = x) ↔ x ∈ k.take (t + 1)) := Lib.hid (by
            rw [take_snoc hly, List.mem_append, ← hd, List.mem_singleton]
            constructor
            · rintro (h | h)
              · exact .inl h
              · exact .inr h.symm
            · rintro (h | h)
              · exact .inl h
              · exact .inr h.symm)
          clear hd hly
          cases d with
          | true =>
            go_wp2
            refine wp_region_after (by kernel_rfl) (by kernel_rfl) ?_
            repeat (go_big_quiet_step (fail))
            refine wpQuiet_nil ?_
            intro w2 hb2
            have ho2 := hown.later hb2
            have hB2 := hbr.trans (hb2.mono hbr.size)
            clear P0 P1 P2 Q0 Q1 Q2 hown hb2 hbr
            go_wp2
            go_roundw
            case rel => exact ⟨t + 1, true, by omega, by go_num, rfl, ⟨fun _ => HD.out.1 (.inl trivial), fun _ => rfl⟩, ho2, hB2⟩
            case measure => simp [intOf]; omega
          | false =>
            by_cases hyx : y = x
            · have he := fun w => eql34_same hyx w
              have HI := Lib.hid (HD.out.1 (.inr hyx))
              clear hyx HD
              go_wp2
              refine wp_region_after (by kernel_rfl) (by kernel_rfl) ?_
              repeat (go_big_quiet_step (fail))
              refine wpQuiet_nil ?_
              intro w2 hb2
              have ho2 := hown.later hb2
              have hB2 := hbr.trans (hb2.mono hbr.size)
              clear P0 P1 P2 Q0 Q1 Q2 hown hb2 hbr
              go_wp2
              go_roundw
              case rel => exact ⟨t + 1, true, by omega, by go_num, rfl, ⟨fun _ => HI.out, fun _ => rfl⟩, ho2, hB2⟩
              case measure => simp [intOf]; omega
            · have he := fun w => eql34_diff hyx w
              have HI := Lib.hid (show x ∉ k.take (t + 1) from fun h => (HD.out.2 h).elim (fun e => by cases e) hyx)
              clear hyx HD
              go_wp2
              refine wp_region_after (by kernel_rfl) (by kernel_rfl) ?_
              repeat (go_big_quiet_step (fail))
              refine wpQuiet_nil ?_
              intro w2 hb2
              have ho2 := hown.later hb2
              have hB2 := hbr.trans (hb2.mono hbr.size)
              clear P0 P1 P2 Q0 Q1 Q2 hown hb2 hbr
              go_wp2
              go_roundw
              case rel => exact ⟨t + 1, false, by omega, by go_num, rfl, ⟨fun e => (by cases e), fun h => absurd h HI.out⟩, ho2, hB2⟩
              case measure => simp [intOf]; omega
        · have hkt : k.take t = k := List.take_of_length_le (by omega)
          rw [hkt] at hd
          clear hkt
          cases d with
          | true =>
            have hin := hd.1 rfl
            have HE := Lib.hid (show insO kLt x k = k by
              exact srt_eq kLin (srt_insO kLin HS.out) HS.out (fun z => (mem_insO kLin).trans ⟨fun h => h.elim (fun e => e ▸ hin) id, .inr⟩))
            rw [← HT.out] at HE
            clear hin hd p0 p1 p2
            go_wp2
            go_roundw
            case rel => exact ⟨j + 1, m, c, B, k, by omega, by omega, by go_num, rfl, HE.out.symm, hown, hbr⟩
            case measure => simp [intOf]; omega
          | false =>
            have HX := Lib.hid (show x ∉ k from fun h => by have := hd.2 h; cases this)
            clear hd
            obtain ⟨wa, rfl⟩ : ∃ wa : World, wa = wr := ⟨_, rfl⟩
            go_wp2_with (at_builtin; refine wpList_append_rd _ rfl (.tmp 34) (.tmp 39) 23 rfl w.heap.size 34 i0 _ EK Try.underlying23 hi0 hz0 hz1 rfl (.slice B m c) m k rfl (hown.later ((Below.refl _ _).alloc (Nat.le_refl _) _)) (some ⟨wa.heap.size, 0, none⟩) 1 1 [x] rfl (ky_one x wa 34) (by unfold maxLen; omega) (by rw [hz2]; omega) (by have := hbr.size; simp; omega) ?_; intro A1 cap1 w3 hown1 hg)
            have hb3 : Below w.heap.size w w3 := Below.row (hbr.alloc hbr.size _) hg (by have := hbr.size; simp; omega) (Nat.le_refl _) (hown.later ((Below.refl _ _).alloc (Nat.le_refl _) _)).lt
            obtain ⟨g, rfl, hgb, hgl⟩ := hown1.at0 (by omega)
            clear hg hown hbr p0 p1 p2
            go_loopw [7] (fun z wi => ∃ t : Nat, t ≤ m ∧ z = .int .i64 t ∧ (∀ i y, t ≤ i → k[i]? = some y → kLt x y = true) ∧ Ow wi w.heap.size 34 EK (.slice (some ⟨g, 0, none⟩) (m + 1) cap1) (m + 1) (k.take t ++ x :: k.drop t) ∧ Below w.heap.size w wi ∧ g < wi.heap.size) (fun z _ => (intOf z).toNat)
            case atStart => exact ⟨m, Nat.le_refl _, by go_num, fun i y hi hy => absurd (List.getElem?_eq_some_iff.1 hy).1 (by omega), by rw [List.take_of_length_le (by omega), List.drop_eq_nil_of_le (by omega)]; exact hown1, hb3, hgl⟩
            case round =>
              clear hown1 hb3 hgl
              obtain ⟨t, ht, rfl, hab, hown, hbr, hgl⟩ := hrel
              rcases Nat.eq_zero_or_pos t with h0 | h0
              · have HE := Lib.hid (bub_end kLin HS.out HX.out (t := t) (by omega) hab (.inl h0))
                rw [← HT.out] at HE
                subst h0
                clear hab
                go_wp2
                refine wp_region_after (by kernel_rfl) (by kernel_rfl) ?_
                repeat (go_big_quiet_step (fail))
                refine wpQuiet_nil ?_
                intro w2 hb2
                have ho2 := hown.later hb2
                have hB2 := hbr.trans (hb2.mono hbr.size)
                clear hb2 hown hbr
                go_wp2
                go_roundw
                case rel => exact ⟨j + 1, m + 1, cap1, some ⟨g, 0, none⟩, _, by omega, by omega, by go_num, rfl, rfl, by rw [HE.out]; exact ho2, hB2⟩
                case measure => simp [intOf]; omega
              · obtain ⟨t, rfl⟩ : ∃ t', t = t' + 1 := ⟨t - 1, by omega⟩
                obtain ⟨y, hy⟩ : ∃ y, k[t]? = some y := ⟨_, List.getElem?_eq_getElem (by omega)⟩
                obtain ⟨hx1, hy1⟩ := bub_get k x y hy
                obtain ⟨b1, o1, x1, hA1, hx1', q0, q1, q2⟩ := ky_at hown.rd (k := t + 1) (by omega)
                cases hA1
                obtain rfl : x = x1 := by rw [hx1] at hx1'; exact Option.some.inj hx1'
                obtain ⟨b2, o2, y1, hA2, hy1', r0, r1, r2⟩ := ky_at hown.rd (k := t) (by omega)
                cases hA2
                obtain rfl : y = y1 := by rw [hy1] at hy1'; exact Option.some.inj hy1'
                rw [Nat.zero_add] at q0 q1 q2 r0 r1 r2
                have Q0 := After.cell q0
                have Q1 := After.cell q1
                have Q2 := After.cell q2
                have R0 := After.cell r0
                have R1 := After.cell r1
                have R2 := After.cell r2
                have hp : (0 : Int) < (t : Int) + 1 := by omega
                cases hxy : kLt x y with
                | false =>
                  have HE := Lib.hid (bub_end kLin HS.out HX.out (t := t + 1) (by omega) hab (.inr ⟨y, by simpa using hy, hxy⟩))
                  rw [← HT.out] at HE
                  have L : ∀ p : After wr, Calls Try.prog 47 #[kyV x, kyV y] p.w fun e w' => e = .returned (.bool false) ∧ ∃ q : After wr, w' = q.w := fun p => p.of (by have := less47 x y p.w; rw [hxy] at this; exact this)
                  clear hab hxy hx1 hy1 hx1' hy1' q0 q1 q2 r0 r1 r2 hy
                  go_wp2
                  refine wp_region_after (by kernel_rfl) (by kernel_rfl) ?_
                  repeat (go_big_quiet_step ((with_reducible exact L _)))
                  refine wpQuiet_nil ?_
                  intro w2 hb2
                  have ho2 := hown.later hb2
                  have hB2 := hbr.trans (hb2.mono hbr.size)
                  clear hb2 hown hbr Q0 Q1 Q2 R0 R1 R2 L
                  go_wp2
                  go_roundw
                  case rel => exact ⟨j + 1, m + 1, cap1, some ⟨g, 0, none⟩, _, by omega, by omega, by go_num, rfl, rfl, by rw [HE.out]; exact ho2, hB2⟩
                  case measure => simp [intOf]; omega
                | true =>
                  have L : ∀ p : After wr, Calls Try.prog 47 #[kyV x, kyV y] p.w fun e w' => e = .returned (.bool true) ∧ ∃ q : After wr, w' = q.w := fun p => p.of (by have := less47 x y p.w; rw [hxy] at this; exact this)
                  have HAB : Hid (∀ i z, t ≤ i → k[i]? = some z → kLt x z = true) := Lib.hid (fun i z hi hz => by
                    rcases Nat.lt_or_ge t i with h | h
                    · exact hab i z h hz
                    · obtain rfl : i = t := by omega
                      rw [hy] at hz; cases hz; exact hxy)
                  have HB := Lib.hid (bub k x y hy)
                  have HX1 := Lib.hid hx1
                  have HY1 := Lib.hid hy1
                  clear hab hxy hx1 hy1 hx1' hy1' q0 q1 q2 r0 r1 r2 hy
                  go_wp2
                  refine wp_region_after (by kernel_rfl) (by kernel_rfl) ?_
                  repeat (go_big_quiet_step ((with_reducible exact L _)))
                  refine wpQuiet_nil ?_
                  intro w2 hb2
                  obtain ⟨W, hW, hBx, hzx, hkx⟩ := boxed w2 #[.int .i64 x.dev, .string x.a, .string x.b] 34
                  have e0 : w2.cell? ⟨g, (t + 1) * 3, none⟩ = some (.int .i64 x.dev) := Q0 ⟨w2, hb2⟩
                  have e1 : w2.cell? ⟨g, (t + 1) * 3 + 1, none⟩ = some (.string x.a) := Q1 ⟨w2, hb2⟩
                  have e2 : w2.cell? ⟨g, (t + 1) * 3 + 2, none⟩ = some (.string x.b) := Q2 ⟨w2, hb2⟩
                  have d0 : W.cell? ⟨g, t * 3, none⟩ = some (.int .i64 y.dev) := keep hBx (R0 ⟨w2, hb2⟩)
                  have d1 : W.cell? ⟨g, t * 3 + 1, none⟩ = some (.string y.a) := keep hBx (R1 ⟨w2, hb2⟩)
                  have d2 : W.cell? ⟨g, t * 3 + 2, none⟩ = some (.string y.b) := keep hBx (R2 ⟨w2, hb2⟩)
                  have E0 := keep hBx e0
                  have E1 := keep hBx e1
                  have E2 := keep hBx e2
                  have hgl2 : g < w2.heap.size := Nat.lt_of_lt_of_le hgl hb2.size
                  have ho2 := (hown.later hb2).later hBx
                  have hB2 := (hbr.trans (hb2.mono hbr.size)).trans (hBx.mono (Nat.le_trans hbr.size hb2.size))
                  have hs1 := ho2.setK HX1.out y
                  have hs2 := hs1.setK (i := t) (a := y) (by rw [List.getElem?_set_ne (by omega)]; exact HY1.out) x
                  rw [HB.out] at hs2
                  have f0 := ho2.free (by omega) ((t + 1) * 3)
                  have f1 := ho2.free (by omega) ((t + 1) * 3 + 1)
                  have f2 := ho2.free (by omega) ((t + 1) * 3 + 2)
                  have g0 := hs1.free (by omega) (t * 3)
                  have g1 := hs1.free (by omega) (t * 3 + 1)
                  have g2 := hs1.free (by omega) (t * 3 + 2)
                  obtain ⟨b3, o3, y3, hA3, hy3, D0, D1, D2⟩ := ky_at hs1.rd (k := t) (by omega)
                  cases hA3
                  rw [Nat.zero_add] at D0 D1 D2
                  have hne : w2.heap.size ≠ g := by omega
                  have hkf := ((hkx.far (p := ⟨g, (t + 1) * 3, none⟩) hne (.int .i64 y.dev)).far (p := ⟨g, (t + 1) * 3 + 1, none⟩) hne (.string y.a)).far (p := ⟨g, (t + 1) * 3 + 2, none⟩) hne (.string y.b)
                  have X0 := hkf.at 0 (v := .int .i64 x.dev) rfl
                  have X1 := hkf.at 1 (v := .string x.a) rfl
                  have X2 := hkf.at 2 (v := .string x.b) rfl
                  clear hb2 hown hbr Q0 Q1 Q2 R0 R1 R2 ho2 hs1 hBx L hy3 hkf hne
                  have hBs : Below w.heap.size w ((((((W.setCell ⟨g, (t + 1) * 3, none⟩ (.int .i64 y.dev)).setCell ⟨g, (t + 1) * 3 + 1, none⟩ (.string y.a)).setCell ⟨g, (t + 1) * 3 + 2, none⟩ (.string y.b)).setCell ⟨g, t * 3, none⟩ (.int .i64 x.dev)).setCell ⟨g, t * 3 + 1, none⟩ (.string x.a)).setCell ⟨g, t * 3 + 2, none⟩ (.string x.b)) :=
                    Below.setCell (p := ⟨g, t * 3 + 2, none⟩) (Below.setCell (p := ⟨g, t * 3 + 1, none⟩) (Below.setCell (p := ⟨g, t * 3, none⟩) (Below.setCell (p := ⟨g, (t + 1) * 3 + 2, none⟩) (Below.setCell (p := ⟨g, (t + 1) * 3 + 1, none⟩) (Below.setCell (p := ⟨g, (t + 1) * 3, none⟩) hB2 hgb _) hgb _) hgb _) hgb _) hgb _) hgb _
                  have hgW : g < W.heap.size := Nat.lt_trans hgl2 hzx
                  go_wp2
                  go_roundw
                  case rel => exact ⟨t, by omega, by go_num, HAB.out, hs2, hBs, by simpa using hgW⟩
                  case measure => simp [intOf]
    · have hE := Lib.hid (show setO kLt l = k by rw [hkk, List.take_of_length_le (by rw [hr.1]; omega)])
      clear hkk
      go_wp2
      go_ret
      exact ⟨B, m, c, rfl, by rw [hE.out]; exact hown, hbr⟩
end Go.Proofs.Ytkdnkieecchobaa
