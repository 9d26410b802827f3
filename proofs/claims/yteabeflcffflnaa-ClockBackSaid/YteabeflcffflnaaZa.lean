/- The walks of Check. -/
import Derived.Test.YteabeflcffflnaaZone
import Derived.Test.YteabeflcffflnaaBlk
namespace Go.Proofs.Yteabeflcffflnaa
open Go.RowKit Go.BigFrame

/-- the changes lie in memory -/
def Chg (w : World) (A : Option Addr) (l : Ch) : Prop :=
  l.length = 0 ∨ ∃ b off : Nat, A = some ⟨b, off, none⟩ ∧ b < w.heap.size ∧ ∀ k, k < l.length → w.cell? ⟨b, off + k * 2, none⟩ = some (.int .i64 (ct l k)) ∧ w.cell? ⟨b, off + k * 2 + 1, none⟩ = some (.int .i64 (co l k))
theorem Chg.later {w w' : World} {A : Option Addr} {l : Ch} (h : Chg w A l) (hb : Below w.heap.size w w') : Chg w' A l := by
  rcases h with h | ⟨b, off, h1, h2, h3⟩
  · exact .inl h
  · exact .inr ⟨b, off, h1, Nat.lt_of_lt_of_le h2 hb.size, fun k hk => ⟨keep hb (h3 k hk).1, keep hb (h3 k hk).2⟩⟩
theorem Chg.get {w : World} {A : Option Addr} {l : Ch} (h : Chg w A l) {k : Nat} (hk : k < l.length) :
    ∃ b off : Nat, A = some ⟨b, off, none⟩ ∧ b < w.heap.size ∧ ∀ k, k < l.length → w.cell? ⟨b, off + k * 2, none⟩ = some (.int .i64 (ct l k)) ∧ w.cell? ⟨b, off + k * 2 + 1, none⟩ = some (.int .i64 (co l k)) := by
  rcases h with h | h
  · omega
  · exact h

def wideB (x : Int) : Bool := decide (x < -840 ∨ 840 < x)
theorem wideB_t {x : Int} (h : wideI x) : wideB x = true := decide_eq_true h
theorem wideB_f {x : Int} (h : ¬ wideI x) : wideB x = false := decide_eq_false h
theorem wideB38 (y : Int) (w : World) : Calls Try.prog 38 #[.int .i64 y] w fun e w' => e = .returned (.bool (wideB y)) ∧ w = w' := wide38 y w

theorem wide_t {y : Int} (w : World) (h : wideI y) : Calls Try.prog 38 #[.int .i64 y] w fun e w' => e = .returned (.bool true) ∧ w = w' := by
  have := wideB38 y w; rwa [wideB_t h] at this
theorem wide_f {y : Int} (w : World) (h : ¬ wideI y) : Calls Try.prog 38 #[.int .i64 y] w fun e w' => e = .returned (.bool false) ∧ w = w' := by
  have := wideB38 y w; rwa [wideB_f h] at this

set_option maxHeartbeats 1000000 in
theorem check22 (o : Int) (A : Option Addr) (l : Ch) (cap : Nat) (w : World) (hl : l.length ≤ 70) (hc : Chg w A l) :
    Calls Try.prog 22 #[.agg #[.int .i64 o, .slice A l.length cap]] w fun e w' => e = .returned (.int .i64 (chk o l)) ∧ Below w.heap.size w w' := by
  obtain ⟨W, hW, hB, hz, hk⟩ := boxed w #[.int .i64 o, .slice A l.length cap] 34
  have hc' := hc.later hB
  have k0 := hk.at 0 (v := .int .i64 o) rfl
  have k1 := hk.at 1 (v := .slice A l.length cap) rfl
  generalize hn : l.length = n at *
  by_cases hw0 : wideI o
  · have hw1 := wideB_t hw0
    have he : chk o l = 2 := chk_2 (.inl hw0)
    have HE := Lib.hid he
    clear hn he hw0
    go_enter Try.func22, Try.ntmps22
    go_wp2_with (go_at_call 38; refine (wideB38 _ _).mono ?_; rintro e w' ⟨rfl, rfl⟩)
    go_ret
    exact ⟨ret_int HE.out.symm, hB⟩
  · have hw1 := wideB_f hw0
    have HN := Lib.hid hn
    clear hn
    go_enter Try.func22, Try.ntmps22
    go_wp2_with (go_at_call 38; refine (wideB38 _ _).mono ?_; rintro e w' ⟨rfl, rfl⟩)
    clear hW
    go_loopw [12] (fun s wr => ∃ k : Nat, k ≤ n ∧ s = .int .i64 k ∧ (∀ j, j < k → ¬ badC l j) ∧ Below W.heap.size W wr) (fun s _ => n - (intOf s).toNat)
    case atStart => exact ⟨0, Nat.zero_le _, rfl, fun j hj => by omega, Below.refl _ _⟩
    case round =>
      obtain ⟨k, hkn, rfl, hgood, hbr⟩ := hrel
      have HG := Lib.hid hgood
      clear hgood
      by_cases hlt : k < n
      · obtain ⟨b, off, rfl, hb, hcell⟩ := (hc'.later hbr).get (k := k) (by rw [HN.out]; exact hlt)
        rw [HN.out] at hcell
        obtain ⟨q0, q1⟩ := hcell k hlt
        clear hcell
        obtain ⟨V, hV, hBV, hzV, hkV⟩ := boxed wr #[.int .i64 (ct l k), .int .i64 (co l k)] 46
        have C0 := After.cell (hkV.at 0 (v := .int .i64 (ct l k)) rfl)
        have C1 := After.cell (hkV.at 1 (v := .int .i64 (co l k)) rfl)
        have M : ∀ p : After V, Calls Try.prog 36 #[.int .i64 (ct l k)] p.w fun e w'' => e = .returned (.int .i64 (clampM (ct l k))) ∧ ∃ q : After V, w'' = q.w := fun p => p.same (valid36 _ p.w)
        clear hkV hk hc hc' k0 k1
        by_cases hbad : badC l k
        · have HC := Lib.hid (chk_2 (o := o) (.inr ⟨k, by rw [HN.out]; exact hlt, hbad⟩))
          by_cases hw : wideI (co l k)
          · have L : ∀ p : After V, Calls Try.prog 38 #[.int .i64 (co l k)] p.w fun e w'' => e = .returned (.bool true) ∧ ∃ q : After V, w'' = q.w := fun p => p.same (wide_t p.w hw)
            clear hbad hw
            go_wp2_with fail
            refine wp_region_after (by kernel_rfl) (by kernel_rfl) ?_
            repeat (go_big_quiet_step (first | (go_at_call 38; exact L _) | (go_at_call 36; exact M _)))
            refine wpQuiet_nil ?_
            intro w1 hb1
            have hB1 : Below w.heap.size w w1 := ((hB.trans (hbr.mono (by omega))).trans (hBV.mono (Nat.le_trans hB.size hbr.size))).trans (hb1.mono (Nat.le_trans (Nat.le_trans hB.size hbr.size) hBV.size))
            clear hb1 C0 C1 L M hV
            go_wp2
            go_ret
            exact ⟨ret_int HC.out.symm, hB1⟩
          · have L : ∀ p : After V, Calls Try.prog 38 #[.int .i64 (co l k)] p.w fun e w'' => e = .returned (.bool false) ∧ ∃ q : After V, w'' = q.w := fun p => p.same (wide_f p.w hw)
            have hm2 : (ct l k != clampM (ct l k)) = true := by
              rw [bne_iff_ne]; intro h; have := clampM_bd (ct l k)
              rcases hbad with c | c | c
              · exact hw c
              · omega
              · omega
            clear hbad hw
            go_wp2_with fail
            refine wp_region_after (by kernel_rfl) (by kernel_rfl) ?_
            repeat (go_big_quiet_step (first | (go_at_call 38; exact L _) | (go_at_call 36; exact M _)))
            refine wpQuiet_nil ?_
            intro w1 hb1
            have hB1 : Below w.heap.size w w1 := ((hB.trans (hbr.mono (by omega))).trans (hBV.mono (Nat.le_trans hB.size hbr.size))).trans (hb1.mono (Nat.le_trans (Nat.le_trans hB.size hbr.size) hBV.size))
            clear hb1 C0 C1 L M hV
            go_wp2
            go_ret
            exact ⟨ret_int HC.out.symm, hB1⟩
        · have L : ∀ p : After V, Calls Try.prog 38 #[.int .i64 (co l k)] p.w fun e w'' => e = .returned (.bool false) ∧ ∃ q : After V, w'' = q.w := fun p => p.same (wide_f p.w (fun c => hbad (.inl c)))
          have hm2 : (ct l k != clampM (ct l k)) = false := by
            have h : 0 ≤ ct l k ∧ ct l k ≤ 1073741824 := by unfold badC at hbad; omega
            rw [clampM_id h.1 h.2]; simp
          have HBD := Lib.hid hbad
          clear hbad
          go_wp2_with fail
          refine wp_region_after (by kernel_rfl) (by kernel_rfl) ?_
          repeat (go_big_quiet_step (first | (go_at_call 38; exact L _) | (go_at_call 36; exact M _)))
          refine wpQuiet_nil ?_
          intro w1 hb1
          have hB1 : Below W.heap.size W w1 := (hbr.trans (hBV.mono hbr.size)).trans (hb1.mono (Nat.le_trans hbr.size hBV.size))
          clear hb1 C0 C1 L M hV
          go_wp2
          go_roundw
          case rel =>
            refine ⟨k + 1, by omega, by go_num, ?_, hB1⟩
            intro j hj
            rcases Nat.lt_or_ge j k with c | c
            · exact HG.out j c
            · obtain rfl : j = k := by omega
              exact HBD.out
          case measure => simp [intOf]; omega
      · obtain rfl : k = n := by omega
        have HNB : Hid (¬ (wideI o ∨ ∃ j, j < l.length ∧ badC l j)) := Lib.hid (by
          rintro (c | ⟨j, hj, c⟩)
          · exact hw0 c
          · rw [HN.out] at hj; exact HG.out j hj c)
        have hkr := hk.later hbr
        have r1 := hkr.at 1 (v := .slice A k cap) rfl
        have hcr := hc'.later hbr
        have hBr : Below w.heap.size w wr := hB.trans (hbr.mono (by omega))
        clear hk hc hc' k0 k1 hbr hB hw0 HG
        by_cases h64 : 64 < k
        · have HC := Lib.hid (chk_3 HNB.out (by rw [HN.out]; exact h64))
          go_wp2
          go_ret
          exact ⟨ret_int HC.out.symm, hBr⟩
        · have H64 : Hid (¬ 64 < l.length) := Lib.hid (by rw [HN.out]; exact h64)
          go_wp2
          generalize k = n at *
          obtain ⟨wo, rfl⟩ : ∃ wo : World, wo = wr := ⟨_, rfl⟩
          go_loopw [5] (fun s ws => ∃ k : Nat, 1 ≤ k ∧ (k ≤ n ∨ k = 1) ∧ s = .int .i64 k ∧ (∀ j, 1 ≤ j → j < k → ct l (j - 1) < ct l j) ∧ Below wo.heap.size wo ws) (fun s _ => n - (intOf s).toNat)
          case atStart => exact ⟨1, by omega, by omega, rfl, fun j hj hj2 => by omega, Below.refl _ _⟩
          case round =>
            obtain ⟨k, hk1, hkn, rfl, hord, hbs⟩ := hrel
            have HO := Lib.hid hord
            have r1s := keep hbs r1
            have hBs : Below w.heap.size w wr := hBr.trans (hbs.mono hBr.size)
            clear hord
            by_cases hlt : k < n
            · obtain ⟨b, off, rfl, hb, hcell⟩ := (hcr.later hbs).get (k := k) (by rw [HN.out]; exact hlt)
              rw [HN.out] at hcell
              have q0 := (hcell k hlt).1
              have p0 := (hcell (k - 1) (by omega)).1
              have D1 := After.cell r1s
              have D2 := After.cell q0
              have D3 := After.cell p0
              have hkk : 1 ≤ (k : Int) := by omega
              clear hcell hcr r1
              go_wp2_with fail
              refine wp_region_after (by kernel_rfl) (by kernel_rfl) ?_
              repeat (go_big_quiet_step (fail))
              refine wpQuiet_nil ?_
              intro w1 hb1
              have hB1 : Below wo.heap.size wo w1 := hbs.trans (hb1.mono hbs.size)
              have hB2 : Below w.heap.size w w1 := hBs.trans (hb1.mono hBs.size)
              clear D1 D2 D3 q0 p0 hb1
              by_cases hle : ct l k ≤ ct l (k - 1)
              · have HC := Lib.hid (chk_14 HNB.out H64.out ⟨k, hk1, by rw [HN.out]; exact hlt, hle⟩)
                go_wp2
                go_ret
                exact ⟨ret_int HC.out.symm, hB2⟩
              · have HL := Lib.hid hle
                go_wp2
                go_roundw
                case rel =>
                  refine ⟨k + 1, by omega, by omega, by go_num, ?_, hB1⟩
                  intro j hj hj2
                  rcases Nat.lt_or_ge j k with c | c
                  · exact HO.out j hj c
                  · obtain rfl : j = k := by omega
                    have := HL.out; omega
                case measure => simp [intOf]; omega
            · have HC := Lib.hid (chk_0 HNB.out H64.out (by
                rintro ⟨j, hj, hj2, hj3⟩
                rw [HN.out] at hj2
                have := HO.out j hj (by omega)
                omega))
              go_wp2
              go_ret
              exact ⟨ret_int HC.out.symm, hBs⟩
end Go.Proofs.Yteabeflcffflnaa
