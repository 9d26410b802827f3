/- Sorted of texts (the document's answer): the walk. -/
import Derived.Test.YtkdnkieecchobaaWg
namespace Go.Proofs.Ytkdnkieecchobaa
open Go.RowKit Go.BigFrame
set_option linter.unusedVariables false
theorem Ow.setT {w : World} {base : Nat} {g n cap : Nat} {l : List ByteArray} (h : Ow w base 9 ET (.slice (some ⟨g, 0, none⟩) n cap) n l) {i : Nat} {a : ByteArray} (hi : l[i]? = some a) (u : ByteArray) :
    Ow (w.setCell ⟨g, i, none⟩ (.string u)) base 9 ET (.slice (some ⟨g, 0, none⟩) n cap) n (l.set i u) := by
  have := h.setField (j := 0) (a' := u) hi (by decide) (.string u) rfl
  rw [show i * ET.size + 0 = i from Nat.mul_one i] at this
  exact this

set_option maxRecDepth 20000 in
set_option maxHeartbeats 8000000 in
theorem sorted34 (A : Option Addr) (n cap : Nat) (l : List ByteArray) (w : World) (hn : n ≤ 200) (hr : Rd w ET A n l) :
    Calls Try.prog 34 #[.slice A n cap] w (OwEnd 9 ET w (setO sLt l)) := by
  obtain ⟨i0, hi0, hz0, hz1, hz2⟩ := info_parts info9
  go_enter Try.func34, Try.ntmps34
  go_wp2
  go_loopw [3, 4] (fun v i wr => ∃ (j m c : Nat) (B : Option Addr) (k : List ByteArray), j ≤ n ∧ m ≤ j ∧ i = .int .i64 j ∧ v = .slice B m c ∧ k = setO sLt (l.take j) ∧ Ow wr w.heap.size 9 ET (.slice B m c) m k ∧ Below w.heap.size w wr) (fun _ i _ => n - (intOf i).toNat)
  case atStart => exact ⟨0, 0, 0, none, [], by omega, by omega, rfl, rfl, rfl, Ow.nil _ _ _ _, Below.refl _ _⟩
  case round =>
    obtain ⟨j, m, c, B, k, hj, hmj, rfl, rfl, hkk, hown, hbr⟩ := hrel
    have hrr := hr.later hbr
    by_cases hlt : j < n
    · obtain ⟨b, off, x, rfl, hla, q0⟩ := tx_at hrr hlt
      have HT := Lib.hid (snoc_setO (lt := sLt) hla)
      have HS := Lib.hid (srt_setO sLin (l.take j))
      have HM := Lib.hid (mem_setO sLin (z := x) (l.take j))
      rw [← hkk] at HT HS HM
      have IX := Lib.hid (index39 (some ⟨b, off, none⟩) n cap l x wr (by omega) hrr)
      have HLA := Lib.hid hla
      clear hkk hla
      go_wp2_with fail
      refine IX.out.mono ?_
      rintro e w1 ⟨⟨i, rfl, hi⟩, rfl⟩
      obtain ⟨j', rfl, hj', hnot⟩ : ∃ j' : Nat, i = j' ∧ l[j']? = some x ∧ x ∉ l.take j' := by
        rcases hi with ⟨_, h⟩ | h
        · exact absurd (List.mem_of_getElem? HLA.out) h
        · exact h
      have hjj : j' ≤ j := by
        rcases Nat.lt_or_ge j j' with h | h
        · exact absurd (List.mem_of_getElem? (i := j) (by rw [List.getElem?_take, if_pos h]; exact HLA.out)) hnot
        · exact h
      have HN := Lib.hid hnot
      have HJ := Lib.hid hj'
      clear hi hnot hj' IX
      by_cases hjl : j' < j
      · have hin : x ∈ k := HM.out.2 (List.mem_of_getElem? (i := j') (by rw [List.getElem?_take, if_pos hjl]; exact HJ.out))
        have HE := Lib.hid (show insO sLt x k = k by
          exact srt_eq sLin (srt_insO sLin HS.out) HS.out (fun z => (mem_insO sLin).trans ⟨fun h => h.elim (fun e => e ▸ hin) id, .inr⟩))
        rw [← HT.out] at HE
        clear hin q0 hrr
        go_wp2
        go_roundw
        case rel => exact ⟨j + 1, m, c, B, k, by omega, by omega, by go_num, rfl, HE.out.symm, hown, hbr⟩
        case measure => simp [intOf]; omega
      · obtain rfl : j' = j := by omega
        have hout : x ∉ k := fun h => HN.out (HM.out.1 h)
        have HX := Lib.hid hout
        clear hout hjl
        go_wp2_with (at_builtin; refine wpList_append_rd _ rfl (.tmp 21) (.tmp 26) 24 rfl w.heap.size 9 i0 _ ET Try.underlying24 hi0 hz0 hz1 rfl (.slice B m c) m k rfl (hown.later ((Below.refl _ _).alloc (Nat.le_refl _) _)) (some ⟨wr.heap.size, 0, none⟩) 1 1 [x] rfl (tx_one x wr 9) (by unfold maxLen; omega) (by rw [hz2]; omega) (by have := hbr.size; simp; omega) ?_; intro A1 cap1 w3 hown1 hg)
        have hb3 : Below w.heap.size w w3 := Below.row (hbr.alloc hbr.size _) hg (by have := hbr.size; simp; omega) (Nat.le_refl _) (hown.later ((Below.refl _ _).alloc (Nat.le_refl _) _)).lt
        have hkl : k.length = m := hown.1
        obtain ⟨g, rfl, hgb, hgl⟩ := hown1.at0 (by omega)
        clear hg hown hbr hrr q0
        obtain ⟨wo, rfl⟩ : ∃ wo : World, wo = wr := ⟨_, rfl⟩
        go_loopw [5] (fun z wi => ∃ t : Nat, t ≤ m ∧ z = .int .i64 t ∧ (∀ i y, t ≤ i → k[i]? = some y → sLt x y = true) ∧ Ow wi w.heap.size 9 ET (.slice (some ⟨g, 0, none⟩) (m + 1) cap1) (m + 1) (k.take t ++ x :: k.drop t) ∧ Below w.heap.size w wi) (fun z _ => (intOf z).toNat)
        case atStart => exact ⟨m, Nat.le_refl _, by go_num, fun i y hi hy => absurd (List.getElem?_eq_some_iff.1 hy).1 (by omega), by rw [List.take_of_length_le (by omega), List.drop_eq_nil_of_le (by omega)]; exact hown1, hb3⟩
        case round =>
          clear hown1 hb3
          obtain ⟨t, ht, rfl, hab, hown, hbr⟩ := hrel
          rcases Nat.eq_zero_or_pos t with h0 | h0
          · have HE := Lib.hid (bub_end sLin HS.out HX.out (t := t) (by omega) hab (.inl h0))
            rw [← HT.out] at HE
            subst h0
            clear hab
            go_wp2
            refine wp_region_after (by kernel_rfl) (by kernel_rfl) ?_
            repeat (go_big_quiet_step (fail))
            refine wpQuiet_nil ?_
            intro w2 hb2
            have ho2 := hown.later hb2
            have hB2 := hbr.trans (hb2.mono hbr.size)
            clear hb2 hown hbr
            go_wp2
            go_roundw
            case rel => exact ⟨j' + 1, m + 1, cap1, some ⟨g, 0, none⟩, _, by omega, by omega, by go_num, rfl, rfl, by rw [HE.out]; exact ho2, hB2⟩
            case measure => simp [intOf]; omega
          · obtain ⟨t, rfl⟩ : ∃ t', t = t' + 1 := ⟨t - 1, by omega⟩
            obtain ⟨y, hy⟩ : ∃ y, k[t]? = some y := ⟨_, List.getElem?_eq_getElem (by omega)⟩
            obtain ⟨hx1, hy1⟩ := bub_get k x y hy
            obtain ⟨b1, o1, x1, hA1, hx1', q1⟩ := tx_at hown.rd (k := t + 1) (by omega)
            cases hA1
            obtain rfl : x = x1 := by rw [hx1] at hx1'; exact Option.some.inj hx1'
            obtain ⟨b2, o2, y1, hA2, hy1', q2⟩ := tx_at hown.rd (k := t) (by omega)
            cases hA2
            obtain rfl : y = y1 := by rw [hy1] at hy1'; exact Option.some.inj hy1'
            rw [Nat.zero_add] at q1 q2
            have Q1 := After.cell q1
            have Q2 := After.cell q2
            have hp : (0 : Int) < (t : Int) + 1 := by omega
            cases hxy : sLt x y with
            | false =>
              have HE := Lib.hid (bub_end sLin HS.out HX.out (t := t + 1) (by omega) hab (.inr ⟨y, by simpa using hy, hxy⟩))
              rw [← HT.out] at HE
              have hbl : Op.bytesLess x.toList y.toList = false := hxy
              clear hab hxy hx1 hy1 hx1' hy1' q1 q2 hy
              go_wp2
              refine wp_region_after (by kernel_rfl) (by kernel_rfl) ?_
              repeat (go_big_quiet_step (fail))
              refine wpQuiet_nil ?_
              intro w2 hb2
              have ho2 := hown.later hb2
              have hB2 := hbr.trans (hb2.mono hbr.size)
              clear hb2 hown hbr Q1 Q2
              go_wp2
              go_roundw
              case rel => exact ⟨j' + 1, m + 1, cap1, some ⟨g, 0, none⟩, _, by omega, by omega, by go_num, rfl, rfl, by rw [HE.out]; exact ho2, hB2⟩
              case measure => simp [intOf]; omega
            | true =>
              have hbl : Op.bytesLess x.toList y.toList = true := hxy
              have HAB : Hid (∀ i z, t ≤ i → k[i]? = some z → sLt x z = true) := Lib.hid (fun i z hi hz => by
                rcases Nat.lt_or_ge t i with h | h
                · exact hab i z h hz
                · obtain rfl : i = t := by omega
                  rw [hy] at hz; cases hz; exact hxy)
              have HB := Lib.hid (bub k x y hy)
              have HX1 := Lib.hid hx1
              have HY1 := Lib.hid hy1
              clear hab hxy hx1 hy1 hx1' hy1' q1 q2 hy
              go_wp2
              refine wp_region_after (by kernel_rfl) (by kernel_rfl) ?_
              repeat (go_big_quiet_step (fail))
              refine wpQuiet_nil ?_
              intro w2 hb2
              have ho2 := hown.later hb2
              have hB2 := hbr.trans (hb2.mono hbr.size)
              have q1 : w2.cell? ⟨g, t + 1, none⟩ = some (.string x) := Q1 ⟨w2, hb2⟩
              have q2 : w2.cell? ⟨g, t, none⟩ = some (.string y) := Q2 ⟨w2, hb2⟩
              have f1 := ho2.free (by omega) (t + 1)
              have f2 := ho2.free (by omega) t
              have hs1 := ho2.setT HX1.out y
              have hs2 := hs1.setT (i := t) (a := y) (by rw [List.getElem?_set_ne (by omega)]; exact HY1.out) x
              rw [HB.out] at hs2
              have g2 := hs1.free (by omega) t
              have hBs : Below w.heap.size w ((w2.setCell ⟨g, t + 1, none⟩ (.string y)).setCell ⟨g, t, none⟩ (.string x)) := Below.setCell (p := ⟨g, t, none⟩) (Below.setCell (p := ⟨g, t + 1, none⟩) hB2 hgb _) hgb _
              clear hb2 hown hbr Q1 Q2 ho2 hB2 hs1
              go_wp2
              go_roundw
              case rel => exact ⟨t, by omega, by go_num, HAB.out, hs2, hBs⟩
              case measure => simp [intOf]
    · have hE := Lib.hid (show setO sLt l = k by rw [hkk, List.take_of_length_le (by rw [hr.1]; omega)])
      clear hkk
      go_wp2
      go_ret
      exact ⟨B, m, c, rfl, by rw [hE.out]; exact hown, hbr⟩
end Go.Proofs.Ytkdnkieecchobaa
