/- set of the program, at keys, events, texts. -/
import Derived.Test.YtkdnkieecchobaaInzK
import Derived.Test.YtkdnkieecchobaaInzE
namespace Go.Proofs.Ytkdnkieecchobaa
open Go.RowKit Go.BigFrame
set_option linter.unusedVariables false

/-- a result that is a slice of the call's own -/
def OwEnd {α : Type} (t : TypeId) (E : Enc α) (w : World) (l : List α) (en : Ending) (w' : World) : Prop :=
  ∃ (A : Option Addr) (n cap : Nat), en = .returned (.slice A n cap) ∧ Ow w' w.heap.size t E (.slice A n cap) n l ∧ Below w.heap.size w w'
theorem snoc_setO {α : Type} {lt : α → α → Bool} {l : List α} {j : Nat} {a : α} (h : l[j]? = some a) : setO lt (l.take (j + 1)) = insO lt a (setO lt (l.take j)) := by
  rw [take_snoc h, setO_snoc]
theorem neq32_same {a b : Ky} (h : a = b) (w : World) : (binOp .neq 32 (kyV a) (kyV b)).run Try.prog w = .ok (.bool false) w := by
  subst h
  rw [run_neq_struct, run_equalIn_struct w 9999 32 _ _ (by kernel_rfl) (by kernel_rfl)]
  simp [go_sem]
theorem neq32_diff {a b : Ky} (h : a ≠ b) (w : World) : (binOp .neq 32 (kyV a) (kyV b)).run Try.prog w = .ok (.bool true) w := by
  rw [run_neq_struct, run_equalIn_struct w 9999 32 _ _ (by kernel_rfl) (by kernel_rfl)]
  simp [go_sem]
  intro h0 h1 h2
  exact h (ky_ext h0 (bytes_toList h1) (bytes_toList h2))

set_option maxHeartbeats 8000000 in
theorem set25 (A : Option Addr) (n cap : Nat) (l : List Ky) (w : World) (hn : n ≤ 200) (hr : Rd w EK A n l) :
    Calls Try.prog 25 #[.slice A n cap, .func (.func 26) #[] #[]] w (OwEnd 32 EK w (setO kLt l)) := by
  go_enter Try.func25, Try.ntmps25
  go_wp2
  go_loopw [5, 11] (fun v i wr => ∃ (j m c : Nat) (B : Option Addr) (k : List Ky), j ≤ n ∧ m ≤ j ∧ i = .int .i64 j ∧ v = .slice B m c ∧ k = setO kLt (l.take j) ∧ Ow wr w.heap.size 32 EK (.slice B m c) m k ∧ Below w.heap.size w wr) (fun _ i _ => n - (intOf i).toNat)
  case atStart => exact ⟨0, 0, 0, none, [], by omega, by omega, rfl, rfl, rfl, Ow.nil _ _ _ _, Below.refl _ _⟩
  case round =>
    obtain ⟨j, m, c, B, k, hj, hmj, rfl, rfl, hkk, hown, hbr⟩ := hrel
    have hrr := hr.later hbr
    by_cases hlt : j < n
    · obtain ⟨b, off, x, rfl, hla, q0, q1, q2⟩ := ky_at hrr hlt
      have HT := Lib.hid (snoc_setO (lt := kLt) hla)
      have HS := Lib.hid (srt_setO kLin (l.take j))
      rw [← hkk] at HT HS
      obtain ⟨W, hW, hB, hz, hk⟩ := boxed wr #[.int .i64 x.dev, .string x.a, .string x.b] 32
      clear hkk hla
      have hBW := hbr.trans (hB.mono hbr.size)
      have hoW := hown.later hB
      have hmc := hown.cap
      clear hrr hown hB
      go_wp2
      clear q0 q1 q2
      obtain ⟨wo, rfl⟩ : ∃ wo : World, wo = wr := ⟨_, rfl⟩
      go_loopw [8] (fun z wi => ∃ t : Nat, t ≤ m ∧ z = .int .i64 t ∧ (∀ i y, i < t → k[i]? = some y → kLt y x = true) ∧ Blk wi wo.heap.size 32 #[.int .i64 x.dev, .string x.a, .string x.b] ∧ Ow wi w.heap.size 32 EK (.slice B m c) m k ∧ Below w.heap.size w wi ∧ W.heap.size ≤ wi.heap.size) (fun z _ => m - (intOf z).toNat)
      case atStart => exact ⟨0, Nat.zero_le _, rfl, fun i y h => absurd h (by omega), hk, hoW, hBW, Nat.le_refl _⟩
      case round =>
        clear hk hoW hBW
        obtain ⟨t, ht, rfl, hless, hkr, hor, hbr2, hWr⟩ := hrel
        have P0 := After.cell (hkr.at 0 (v := .int .i64 x.dev) rfl)
        have P1 := After.cell (hkr.at 1 (v := .string x.a) rfl)
        have P2 := After.cell (hkr.at 2 (v := .string x.b) rfl)
        have hlen := hor.1
        by_cases htm : t < m
        · obtain ⟨b2, off2, y, rfl, hly, q0, q1, q2⟩ := ky_at hor.rd htm
          have Q0 := After.cell q0
          have Q1 := After.cell q1
          have Q2 := After.cell q2
          clear q0 q1 q2
          cases hyx : kLt y x with
          | true =>
            have L : ∀ p : After wr, Calls Try.prog 26 #[kyV y, kyV x] p.w fun e w' => e = .returned (.bool true) ∧ ∃ q : After wr, w' = q.w := fun p => p.of (by have := less26 y x p.w; rw [hyx] at this; exact this)
            have hless' : ∀ i z, i < t + 1 → k[i]? = some z → kLt z x = true := fun i z hi hz => by
              rcases Nat.lt_or_ge i t with h | h
              · exact hless i z h hz
              · obtain rfl : i = t := by omega
                rw [hly] at hz; cases hz; exact hyx
            have hL' := Lib.hid hless'
            clear hless hless' hyx hly
            go_wp2
            refine wp_region_after (by kernel_rfl) (by kernel_rfl) ?_
            repeat (go_big_quiet_step ((with_reducible exact L _)))
            refine wpQuiet_nil ?_
            intro w2 hb2
            have hk2 := hkr.later hb2
            have ho2 := hor.later hb2
            have hB2 := hbr2.trans (hb2.mono hbr2.size)
            have hW2 := Nat.le_trans hWr hb2.size
            clear Q0 Q1 Q2 P0 P1 P2 L hkr hor hb2 hbr2 hWr
            go_wp2
            go_roundw
            case rel => exact ⟨t + 1, by omega, by go_num, hL'.out, hk2, ho2, hB2, hW2⟩
            case measure => simp [intOf]; omega
          | false =>
            have L : ∀ p : After wr, Calls Try.prog 26 #[kyV y, kyV x] p.w fun e w' => e = .returned (.bool false) ∧ ∃ q : After wr, w' = q.w := fun p => p.of (by have := less26 y x p.w; rw [hyx] at this; exact this)
            have HA := Lib.hid (insO_at kLin HS.out (x := x) (j := t) (by rw [hlen]; exact ht) hless (fun z hz => by rw [hly] at hz; cases hz; exact hyx))
            clear hless hyx
            have hdm : ((t : Int) == (m : Int)) = false := by rw [beq_eq_false_iff_ne]; omega
            go_wp2
            refine wp_region_after (by kernel_rfl) (by kernel_rfl) ?_
            repeat (go_big_quiet_step ((with_reducible exact L _)))
            refine wpQuiet_nil ?_
            intro w2 hb2
            have hk2 := hkr.later hb2
            have ho2 := hor.later hb2
            have hB2 := hbr2.trans (hb2.mono hbr2.size)
            have hW2 := Nat.le_trans hWr hb2.size
            clear P0 P1 P2 Q0 Q1 Q2 L
            obtain ⟨b3, off3, y3, hA3, hly3, q0, q1, q2⟩ := ky_at ho2.rd htm
            cases hA3
            obtain rfl : y = y3 := by rw [hly] at hly3; exact Option.some.inj hly3
            have Q0 := After.cell q0
            have Q1 := After.cell q1
            have Q2 := After.cell q2
            have P0 := After.cell (hk2.at 0 (v := .int .i64 x.dev) rfl)
            have P1 := After.cell (hk2.at 1 (v := .string x.a) rfl)
            have P2 := After.cell (hk2.at 2 (v := .string x.b) rfl)
            clear q0 q1 q2 hkr hor hb2 hbr2 hWr hly3
            by_cases hyx : y = x
            · have he := fun w => neq32_same hyx w
              have HE := Lib.hid (HA.out.1 (by rw [hly, hyx]))
              rw [← HT.out] at HE
              clear hyx hly HA
              go_wp2
              refine wp_region_after (by kernel_rfl) (by kernel_rfl) ?_
              repeat (go_big_quiet_step (fail))
              refine wpQuiet_nil ?_
              intro w3 hb3
              have ho3 := ho2.later hb3
              have hB3 := hB2.trans (hb3.mono hB2.size)
              clear Q0 Q1 Q2 P0 P1 P2 he hk2 ho2 hb3 hB2 hW2
              go_wp2
              go_roundw
              case rel => exact ⟨j + 1, m, c, _, k, by omega, by omega, by go_num, rfl, HE.out.symm, ho3, hB3⟩
              case measure => simp [intOf]; omega
            · have he := fun w => neq32_diff hyx w
              have HE := Lib.hid (HA.out.2 (by rw [hly]; exact fun e => hyx (Option.some.inj e)))
              rw [← HT.out] at HE
              clear hyx hly HA
              go_wp2
              refine wp_region_after (by kernel_rfl) (by kernel_rfl) ?_
              repeat (go_big_quiet_step (fail))
              refine wpQuiet_nil ?_
              intro w3 hb3
              have hk3 := hk2.later hb3
              have ho3 := ho2.later hb3
              have hB3 := hB2.trans (hb3.mono hB2.size)
              clear Q0 Q1 Q2 P0 P1 P2 he hk2 ho2 hb3 hB2 hW2
              have HI := Lib.hid (insert44 w.heap.size (some ⟨b2, off2, none⟩) t m c k x w3.heap.size (w3.alloc (.cells #[.int .i64 x.dev, .string x.a, .string x.b] 32)) (by omega) ht (ho3.later ((Below.refl _ _).alloc (Nat.le_refl _) _)) (by have := hB3.size; simp; omega) (Blk.new w3 32 _) (fun e => by have := (ho3.lt _ e).2; omega))
              rw [← HE.out] at HI
              have r0 := hk3.at 0 (v := .int .i64 x.dev) rfl
              have r1 := hk3.at 1 (v := .string x.a) rfl
              have r2 := hk3.at 2 (v := .string x.b) rfl
              have hlt3 := ho3.lt
              clear hk3 ho3
              go_wp2_with fail
              refine HI.out.mono ?_
              rintro e w4 ⟨A4, c4, rfl, ho4, hg4⟩
              have hB4 : Below w.heap.size w w4 := Below.row (hB3.alloc hB3.size _) hg4 (by have := hB3.size; simp; omega) (Nat.le_refl _) (fun k hk => ⟨(hlt3 k hk).1, by have := (hlt3 k hk).2; simp; omega⟩)
              clear HI hg4 r0 r1 r2 hlt3 hB3
              go_wp2
              go_roundw
              case rel => exact ⟨j + 1, m + 1, c4, A4, _, by omega, by omega, by go_num, rfl, rfl, ho4, hB4⟩
              case measure => simp [intOf]; omega
        · obtain rfl : t = m := by omega
          have HE := Lib.hid ((insO_at kLin HS.out (x := x) (j := t) (by rw [hlen]; exact ht) hless (fun z hz => by rw [List.getElem?_eq_none (by rw [hlen]; exact Nat.le_refl _)] at hz; cases hz)).2 (by rw [List.getElem?_eq_none (by rw [hlen]; exact Nat.le_refl _)]; exact fun e => by cases e))
          rw [← HT.out] at HE
          clear hless htm
          go_wp2
          refine wp_region_after (by kernel_rfl) (by kernel_rfl) ?_
          repeat (go_big_quiet_step (fail))
          refine wpQuiet_nil ?_
          intro w2 hb2
          have hk2 := hkr.later hb2
          have ho2 := hor.later hb2
          have hB2 := hbr2.trans (hb2.mono hbr2.size)
          have hW2 := Nat.le_trans hWr hb2.size
          clear P0 P1 P2 hkr hor hb2 hbr2 hWr
          go_wp2
          refine wp_region_after (by kernel_rfl) (by kernel_rfl) ?_
          repeat (go_big_quiet_step (fail))
          refine wpQuiet_nil ?_
          intro w3 hb3
          have hk3 := hk2.later hb3
          have ho3 := ho2.later hb3
          have hB3 := hB2.trans (hb3.mono hB2.size)
          clear hk2 ho2 hb3 hB2 hW2
          have HI := Lib.hid (insert44 w.heap.size B t t c k x w3.heap.size (w3.alloc (.cells #[.int .i64 x.dev, .string x.a, .string x.b] 32)) (by omega) ht (ho3.later ((Below.refl _ _).alloc (Nat.le_refl _) _)) (by have := hB3.size; simp; omega) (Blk.new w3 32 _) (fun e => by have := (ho3.lt _ e).2; omega))
          rw [← HE.out] at HI
          have r0 := hk3.at 0 (v := .int .i64 x.dev) rfl
          have r1 := hk3.at 1 (v := .string x.a) rfl
          have r2 := hk3.at 2 (v := .string x.b) rfl
          have hlt3 := ho3.lt
          clear hk3 ho3
          go_wp2_with fail
          refine HI.out.mono ?_
          rintro e w4 ⟨A4, c4, rfl, ho4, hg4⟩
          have hB4 : Below w.heap.size w w4 := Below.row (hB3.alloc hB3.size _) hg4 (by have := hB3.size; simp; omega) (Nat.le_refl _) (fun k hk => ⟨(hlt3 k hk).1, by have := (hlt3 k hk).2; simp; omega⟩)
          clear HI hg4 r0 r1 r2 hlt3 hB3
          go_wp2
          go_roundw
          case rel => exact ⟨j + 1, t + 1, c4, A4, _, by omega, by omega, by go_num, rfl, rfl, ho4, hB4⟩
          case measure => simp [intOf]; omega
    · have hE := Lib.hid (show setO kLt l = k by rw [hkk, List.take_of_length_le (by rw [hr.1]; omega)])
      clear hkk
      go_wp2
      go_ret
      exact ⟨B, m, c, rfl, by rw [hE.out]; exact hown, hbr⟩
end Go.Proofs.Ytkdnkieecchobaa
