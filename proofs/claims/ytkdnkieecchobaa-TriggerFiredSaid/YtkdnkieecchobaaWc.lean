/- set of the program, at texts. -/
import Derived.Test.YtkdnkieecchobaaWa
import Derived.Test.YtkdnkieecchobaaInzT
namespace Go.Proofs.Ytkdnkieecchobaa
open Go.RowKit Go.BigFrame
set_option linter.unusedVariables false

theorem before30w (p q : ByteArray) (w : World) : Calls Try.prog 30 #[.string p, .string q] w fun e w' => e = .returned (.bool (sLt p q)) ∧ w = w' := by
  go_enter Try.func30, Try.ntmps30
  go_wp2
  go_ret
  exact ⟨rfl, rfl⟩

set_option maxHeartbeats 8000000 in
theorem set29 (A : Option Addr) (n cap : Nat) (l : List ByteArray) (w : World) (hn : n ≤ 200) (hr : Rd w ET A n l) :
    Calls Try.prog 29 #[.slice A n cap, .func (.func 30) #[] #[]] w (OwEnd 9 ET w (setO sLt l)) := by
  go_enter Try.func29, Try.ntmps29
  go_wp2
  go_loopw [5, 11] (fun v i wr => ∃ (j m c : Nat) (B : Option Addr) (k : List ByteArray), j ≤ n ∧ m ≤ j ∧ i = .int .i64 j ∧ v = .slice B m c ∧ k = setO sLt (l.take j) ∧ Ow wr w.heap.size 9 ET (.slice B m c) m k ∧ Below w.heap.size w wr) (fun _ i _ => n - (intOf i).toNat)
  case atStart => exact ⟨0, 0, 0, none, [], by omega, by omega, rfl, rfl, rfl, Ow.nil _ _ _ _, Below.refl _ _⟩
  case round =>
    obtain ⟨j, m, c, B, k, hj, hmj, rfl, rfl, hkk, hown, hbr⟩ := hrel
    have hrr := hr.later hbr
    by_cases hlt : j < n
    · obtain ⟨b, off, x, rfl, hla, q0⟩ := tx_at hrr hlt
      have HT := Lib.hid (snoc_setO (lt := sLt) hla)
      have HS := Lib.hid (srt_setO sLin (l.take j))
      rw [← hkk] at HT HS
      clear hkk hla hrr
      go_wp2
      clear q0
      obtain ⟨wo, rfl⟩ : ∃ wo : World, wo = wr := ⟨_, rfl⟩
      have hlen := hown.1
      go_loopw [8] (fun z wi => wi = wo ∧ ∃ t : Nat, t ≤ m ∧ z = .int .i64 t ∧ (∀ i y, i < t → k[i]? = some y → sLt y x = true)) (fun z _ => m - (intOf z).toNat)
      case atStart => exact ⟨rfl, 0, Nat.zero_le _, rfl, fun i y h => absurd h (by omega)⟩
      case round =>
        obtain ⟨rfl, t, ht, rfl, hless⟩ := hrel
        by_cases htm : t < m
        · obtain ⟨b2, off2, y, rfl, hly, q0⟩ := tx_at hown.rd htm
          cases hyx : sLt y x with
          | true =>
            have L := Lib.hid (before30w y x wr)
            rw [hyx] at L
            have hless' : ∀ i z, i < t + 1 → k[i]? = some z → sLt z x = true := fun i z hi hz => by
              rcases Nat.lt_or_ge i t with h | h
              · exact hless i z h hz
              · obtain rfl : i = t := by omega
                rw [hly] at hz; cases hz; exact hyx
            have hL' := Lib.hid hless'
            clear hless hless' hyx hly
            go_wp2_with fail
            refine L.out.mono ?_
            rintro e w1 ⟨rfl, rfl⟩
            go_wp2
            go_roundw
            case rel => exact ⟨trivial, t + 1, by omega, by go_num, hL'.out⟩
            case measure => simp [intOf]; omega
          | false =>
            have L := Lib.hid (before30w y x wr)
            rw [hyx] at L
            have HA := Lib.hid (insO_at sLin HS.out (x := x) (j := t) (by rw [hlen]; exact ht) hless (fun z hz => by rw [hly] at hz; cases hz; exact hyx))
            clear hless hyx
            have hdm : ((t : Int) == (m : Int)) = false := by rw [beq_eq_false_iff_ne]; omega
            go_wp2_with fail
            refine L.out.mono ?_
            rintro e w1 ⟨rfl, rfl⟩
            clear L
            by_cases hyx : y = x
            · have he : (y.toList == x.toList) = true := by rw [hyx]; simp
              have HE := Lib.hid (HA.out.1 (by rw [hly, hyx]))
              rw [← HT.out] at HE
              clear hyx hly HA
              go_wp2
              go_roundw
              case rel => exact ⟨j + 1, m, c, _, k, by omega, by omega, by go_num, rfl, HE.out.symm, hown, hbr⟩
              case measure => simp [intOf]; omega
            · have he : (y.toList == x.toList) = false := by rw [beq_eq_false_iff_ne]; exact fun e => hyx (bytes_toList e)
              have HE := Lib.hid (HA.out.2 (by rw [hly]; exact fun e => hyx (Option.some.inj e)))
              rw [← HT.out] at HE
              clear hyx hly HA
              have HI := Lib.hid (insert46 w.heap.size (some ⟨b2, off2, none⟩) t m c k x wr.heap.size (wr.alloc (.cells #[.string x] 9)) (by omega) ht (hown.later ((Below.refl _ _).alloc (Nat.le_refl _) _)) (by have := hbr.size; simp; omega) (Blk.new wr 9 _) (fun e => by have := (hown.lt _ e).2; omega))
              rw [← HE.out] at HI
              have hlt3 := hown.lt
              clear hown
              go_wp2_with fail
              refine HI.out.mono ?_
              rintro e w4 ⟨A4, c4, rfl, ho4, hg4⟩
              have hB4 : Below w.heap.size w w4 := Below.row (hbr.alloc hbr.size _) hg4 (by have := hbr.size; simp; omega) (Nat.le_refl _) (fun k hk => ⟨(hlt3 k hk).1, by have := (hlt3 k hk).2; simp; omega⟩)
              clear HI hg4 hlt3 hbr
              go_wp2
              go_roundw
              case rel => exact ⟨j + 1, m + 1, c4, A4, _, by omega, by omega, by go_num, rfl, rfl, ho4, hB4⟩
              case measure => simp [intOf]; omega
        · obtain rfl : t = m := by omega
          have HE := Lib.hid ((insO_at sLin HS.out (x := x) (j := t) (by rw [hlen]; exact ht) hless (fun z hz => by rw [List.getElem?_eq_none (by rw [hlen]; exact Nat.le_refl _)] at hz; cases hz)).2 (by rw [List.getElem?_eq_none (by rw [hlen]; exact Nat.le_refl _)]; exact fun e => by cases e))
          rw [← HT.out] at HE
          have HI := Lib.hid (insert46 w.heap.size B t t c k x wr.heap.size (wr.alloc (.cells #[.string x] 9)) (by omega) ht (hown.later ((Below.refl _ _).alloc (Nat.le_refl _) _)) (by have := hbr.size; simp; omega) (Blk.new wr 9 _) (fun e => by have := (hown.lt _ e).2; omega))
          rw [← HE.out] at HI
          have hlt3 := hown.lt
          clear hless htm hown
          go_wp2_with fail
          refine HI.out.mono ?_
          rintro e w4 ⟨A4, c4, rfl, ho4, hg4⟩
          have hB4 : Below w.heap.size w w4 := Below.row (hbr.alloc hbr.size _) hg4 (by have := hbr.size; simp; omega) (Nat.le_refl _) (fun k hk => ⟨(hlt3 k hk).1, by have := (hlt3 k hk).2; simp; omega⟩)
          clear HI hg4 hlt3 hbr
          go_wp2
          go_roundw
          case rel => exact ⟨j + 1, t + 1, c4, A4, _, by omega, by omega, by go_num, rfl, rfl, ho4, hB4⟩
          case measure => simp [intOf]; omega
    · have hE := Lib.hid (show setO sLt l = k by rw [hkk, List.take_of_length_le (by rw [hr.1]; omega)])
      clear hkk
      go_wp2
      go_ret
      exact ⟨B, m, c, rfl, by rw [hE.out]; exact hown, hbr⟩
end Go.Proofs.Ytkdnkieecchobaa
