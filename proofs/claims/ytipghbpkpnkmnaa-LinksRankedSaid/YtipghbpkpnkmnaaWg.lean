/- Quotients, costs and qualities of the program. -/
import Derived.Test.YtipghbpkpnkmnaaWf
namespace Go.Proofs.Ytipghbpkpnkmnaa
open Go.RowKit Go.BigFrame
set_option linter.unusedVariables false

theorem sat41 (x : Int) (w : World) (h0 : 0 ≤ x) (h1 : x ≤ 100000) : Calls Try.prog 41 #[.int .i64 x] w fun e w' => e = .returned (.int .i64 x) ∧ w = w' := by
  go_enter Try.func41, Try.ntmps41
  go_wp2
  all_goals go_ret
  all_goals go_light
  all_goals exact ⟨ret_int (by omega), rfl⟩
def floorD (x y : Int) : Int := if y = 0 then 0 else x / y
def ceilD (x y : Int) : Int := if x % y = 0 then x / y else x / y + 1
set_option maxHeartbeats 1000000 in
theorem floor35 (x y : Int) (w : World) (h0 : 0 ≤ x) (h1 : x ≤ 100000) (h2 : 0 ≤ y) (h3 : y ≤ 1000) : Calls Try.prog 35 #[.int .i64 x, .int .i64 y] w fun e w' => e = .returned (.int .i64 (floorD x y)) ∧ w = w' := by
  have S1 := Lib.hid (fun w => sat41 x w h0 h1)
  have S2 := Lib.hid (fun w => sat41 y w h2 (by omega))
  by_cases hy : y = 0
  · have HF := Lib.hid (show floorD x y = 0 by unfold floorD; rw [if_pos hy])
    subst hy
    go_enter Try.func35, Try.ntmps35
    go_wp2_with fail
    refine (S1.out _).mono ?_
    rintro e w1 ⟨rfl, rfl⟩
    go_wp2_with fail
    refine (S2.out _).mono ?_
    rintro e w1 ⟨rfl, rfl⟩
    go_wp2
    go_ret
    exact ⟨ret_int HF.out.symm, rfl⟩
  · have HF := Lib.hid (show floorD x y = x / y by unfold floorD; rw [if_neg hy])
    have hyp : 0 < y := by omega
    have hyb : (y == 0) = false := by simpa using hy
    have hdx : decide (x < 0) = false := decide_eq_false (by omega)
    have hdy : decide (y < 0) = false := decide_eq_false (by omega)
    go_enter Try.func35, Try.ntmps35
    go_wp2_with fail
    refine (S1.out _).mono ?_
    rintro e w1 ⟨rfl, rfl⟩
    go_wp2_with fail
    refine (S2.out _).mono ?_
    rintro e w1 ⟨rfl, rfl⟩
    go_wp2
    all_goals (go_ret; exact ⟨ret_int HF.out.symm, rfl⟩)
set_option maxHeartbeats 1000000 in
theorem ceil32 (x y : Int) (w : World) (h0 : 0 ≤ x) (h1 : x ≤ 100000) (h2 : 0 < y) (h3 : y ≤ 1000) : Calls Try.prog 32 #[.int .i64 x, .int .i64 y] w fun e w' => e = .returned (.int .i64 (ceilD x y)) ∧ w = w' := by
  have S1 := Lib.hid (fun w => sat41 x w h0 h1)
  have S2 := Lib.hid (fun w => sat41 y w (by omega) (by omega))
  have hq0 : 0 ≤ x / y := Int.ediv_nonneg h0 (by omega)
  have hq1 : x / y ≤ x := Int.ediv_le_self y h0
  have hyb : (y == 0) = false := by simp; omega
  have hdx : decide (x < 0) = false := decide_eq_false (by omega)
  have hdy : decide (y < 0) = false := decide_eq_false (by omega)
  by_cases hm : x % y = 0
  · have HF := Lib.hid (show ceilD x y = x / y by unfold ceilD; rw [if_pos hm])
    have HM := Lib.hid hm
    have hmb : (x % y != 0) = false := by simpa using hm
    clear hm
    go_enter Try.func32, Try.ntmps32
    go_wp2_with fail
    refine (S1.out _).mono ?_
    rintro e w1 ⟨rfl, rfl⟩
    go_wp2_with fail
    refine (S2.out _).mono ?_
    rintro e w1 ⟨rfl, rfl⟩
    go_wp2
    all_goals (first | (go_ret; exact ⟨ret_int HF.out.symm, rfl⟩) | (exfalso; have := HM.out; contradiction))
  · have HF := Lib.hid (show ceilD x y = x / y + 1 by unfold ceilD; rw [if_neg hm])
    have hmb : (x % y != 0) = true := by rw [bne_iff_ne]; exact hm
    go_enter Try.func32, Try.ntmps32
    go_wp2_with fail
    refine (S1.out _).mono ?_
    rintro e w1 ⟨rfl, rfl⟩
    go_wp2_with fail
    refine (S2.out _).mono ?_
    rintro e w1 ⟨rfl, rfl⟩
    go_wp2
    all_goals (go_ret; exact ⟨ret_int HF.out.symm, rfl⟩)

/-- how many bits are 1 -/
def pcN : Nat → Nat → Nat
  | 0, _ => 0
  | f + 1, n => n % 2 + pcN f (n / 2)
theorem pcN_zero (f : Nat) : pcN f 0 = 0 := by
  induction f with
  | zero => rfl
  | succ f ih => simp [pcN, ih]
theorem pcN_le (f n : Nat) : pcN f n ≤ f := by
  induction f generalizing n with
  | zero => exact Nat.le_refl _
  | succ f ih => have := ih (n / 2); simp only [pcN]; omega
theorem pcN_fuel : ∀ (f g n : Nat), n < 2 ^ f → f ≤ g → pcN g n = pcN f n := by
  intro f
  induction f with
  | zero => intro g n h _; obtain rfl : n = 0 := by simpa using h
            rw [pcN_zero, pcN_zero]
  | succ f ih =>
    intro g n h hg
    obtain ⟨g, rfl⟩ : ∃ k, g = k + 1 := ⟨g - 1, by omega⟩
    rw [pcN, pcN, ih g (n / 2) (by rw [Nat.pow_succ] at h; omega) (by omega)]
def pc (x : Int) : Nat := pcN 16 x.toNat
theorem pc_le (x : Int) : pc x ≤ 16 := pcN_le _ _
theorem pc_step {k : Nat} (hk : k < 65536) : pc (k : Int) = k % 2 + pc ((k / 2 : Nat) : Int) := by
  unfold pc
  simp only [Int.toNat_natCast]
  rw [show pcN 16 k = k % 2 + pcN 15 (k / 2) from rfl, pcN_fuel 15 16 (k / 2) (by omega) (by omega)]
theorem pc_zero : pc 0 = 0 := pcN_zero 16

/-- what successes returns -/
def succT (t : List Link) (v : Int) : Int × Int := match t[pos t v]? with
  | some a => if fnd t v then ((pc a.bits : Int), a.count) else (0, 0)
  | none => (0, 0)
def SuEnd (w : World) (r : Int × Int) (en : Ending) (w' : World) : Prop := en = .returned (.tuple #[.int .i64 r.1, .int .i64 r.2]) ∧ Below w.heap.size w w'
theorem succT_no {t : List Link} {v : Int} (h : fnd t v = false) : succT t v = (0, 0) := by
  unfold succT; rw [h]; cases t[pos t v]? <;> rfl
theorem succT_yes {t : List Link} {v : Int} {a : Link} (h : fnd t v = true) (ha : t[pos t v]? = some a) : succT t v = ((pc a.bits : Int), a.count) := by
  unfold succT; rw [h, ha]; rfl
theorem succT_bd {t : List Link} (hg : Good t) (v : Int) : 0 ≤ (succT t v).1 ∧ (succT t v).1 ≤ 16 ∧ 0 ≤ (succT t v).2 ∧ (succT t v).2 ≤ 16 := by
  cases h : fnd t v with
  | false => rw [succT_no h]; decide
  | true =>
    obtain ⟨a, ha, _⟩ := fnd_some h
    rw [succT_yes h ha]
    obtain ⟨_, _, b3, b4, b5, _, b7⟩ := good_bits (hg.2.2 a (List.mem_of_getElem? ha))
    have := pc_le a.bits
    exact ⟨by simp only []; omega, by simp only []; omega, b3, b4⟩

set_option maxHeartbeats 2000000 in
theorem succ31 (A : Option Addr) (n cap : Nat) (l : List Link) (v : Int) (w : World) (hn : n ≤ 9223372036854775807) (hr : Rd w EL A n l) :
    Calls Try.prog 31 #[.slice A n cap, .int .i64 v] w (SuEnd w (succT (tab l) v)) := by
  have TB := Lib.hid (table24 A n cap l w hn hr)
  have hl24 := tab_len l
  have HG := Lib.hid (tab_good l)
  generalize tab l = t at *
  clear hr
  go_enter Try.func31, Try.ntmps31
  go_wp2_with fail
  refine TB.out.mono ?_
  rintro e w1 ⟨A1, n1, c1, rfl, ho1, hb1⟩
  have hn1 : n1 ≤ 24 := by rw [← ho1.1]; exact hl24
  have FD := Lib.hid (find25 A1 n1 c1 t v w1 (by omega) ho1.rd)
  cases hf : fnd t v with
  | false =>
    have HF := Lib.hid (succT_no hf)
    rw [hf] at FD
    clear hf TB
    go_wp2_with fail
    refine FD.out.mono ?_
    rintro e w2 ⟨rfl, hb2⟩
    go_wp2
    go_ret2
    exact ⟨by rw [HF.out]; rfl, hb1.trans (hb2.mono hb1.size)⟩
  | true =>
    obtain ⟨a, ha, hav⟩ := fnd_some hf
    have HF := Lib.hid (succT_yes hf ha)
    have hlt : pos t v < n1 := by
      have := (List.getElem?_eq_some_iff.1 ha).1
      rwa [ho1.1] at this
    obtain ⟨_, _, b3, b4, b5, _, b7⟩ := good_bits (HG.out.2.2 a (List.mem_of_getElem? ha))
    rw [hf] at FD
    clear hf TB hav HG
    generalize pos t v = i at *
    go_wp2_with fail
    refine FD.out.mono ?_
    rintro e w2 ⟨rfl, hb2⟩
    have hr2 := ho1.rd.later hb2
    have hB2 := hb1.trans (hb2.mono hb1.size)
    obtain ⟨b, off, a', rfl, hla, q0, q1, q2⟩ := link_at hr2 hlt
    obtain rfl : a = a' := by rw [ha] at hla; exact Option.some.inj hla
    obtain ⟨K, hK⟩ : ∃ K : Nat, a.bits = K := ⟨a.bits.toNat, by omega⟩
    have hK65 : K < 65536 := by omega
    have HK := Lib.hid hK
    rw [hK] at q1
    have HP := Lib.hid (pc_le (K : Int))
    clear FD ho1 hb1 hb2 ha hla b5 b7 hK
    go_wp2
    go_loop [9, 10] (fun n x => ∃ c k : Nat, k < 65536 ∧ c ≤ 16 ∧ n = .int .i64 c ∧ x = .int .i64 k ∧ Hid (c + pc (k : Int) = pc (K : Int))) (fun _ x => (intOf x).toNat)
    case atStart => exact ⟨0, K, hK65, by omega, rfl, rfl, Lib.hid (by omega)⟩
    case round =>
      obtain ⟨c, k, hk, hc, rfl, rfl, hp⟩ := hrel
      by_cases hk0 : 0 < k
      · have HN : Hid (c + k % 2 + pc ((k / 2 : Nat) : Int) = pc (K : Int)) := Lib.hid (by rw [← hp.out, pc_step hk]; omega)
        have hc2 : c + k % 2 ≤ 16 := by have := HN.out; have := HP.out; omega
        clear hp
        go_wp2
        go_round
        case rel => exact ⟨c + k % 2, k / 2, by omega, hc2, by go_num, by go_num, HN⟩
        case measure => simp [intOf]; omega
      · obtain rfl : k = 0 := by omega
        have HC : Hid (c = pc (K : Int)) := Lib.hid (by have h := hp.out; have h0 := pc_zero; simp only [Int.natCast_zero] at h; omega)
        have p2 := After.cell q2
        clear hp
        go_wp2
        refine wp_region_after (by kernel_rfl) (by kernel_rfl) ?_
        repeat (go_big_quiet_step (fail))
        refine wpQuiet_nil ?_
        intro w3 hb3
        go_wp2
        go_ret2
        exact ⟨by rw [HF.out, HC.out, HK.out]; rfl, hB2.trans (hb3.mono hB2.size)⟩

def costT (t : List Link) (v : Int) : Int := if (succT t v).1 = 0 then 255 else ceilD (10 * (succT t v).2) (succT t v).1
def qualT (t : List Link) (v : Int) : Int := floorD (100 * (succT t v).1) (succT t v).2
theorem cost16 (A : Option Addr) (n cap : Nat) (l : List Link) (v : Int) (w : World) (hn : n ≤ 9223372036854775807) (hr : Rd w EL A n l) :
    Calls Try.prog 16 #[.slice A n cap, .int .i64 v] w fun e w' => e = .returned (.int .i64 (costT (tab l) v)) ∧ Below w.heap.size w w' := by
  have SU := Lib.hid (succ31 A n cap l v w hn hr)
  have hbd := succT_bd (tab_good l) v
  have HC := Lib.hid (show costT (tab l) v = if (succT (tab l) v).1 = 0 then 255 else ceilD (10 * (succT (tab l) v).2) (succT (tab l) v).1 from rfl)
  generalize costT (tab l) v = r at *
  generalize succT (tab l) v = s at *
  obtain ⟨s1, s2⟩ := s
  obtain ⟨g1, g2, g3, g4⟩ := hbd
  simp only [] at g1 g2 g3 g4 HC
  by_cases h0 : s1 = 0
  · have HR := Lib.hid (show r = 255 by rw [HC.out, if_pos h0])
    subst h0
    clear HC
    go_enter Try.func16, Try.ntmps16
    go_wp2_with fail
    refine SU.out.mono ?_
    rintro e w1 ⟨rfl, hb1⟩
    go_wp2
    go_ret
    exact ⟨ret_int HR.out.symm, hb1⟩
  · have HR := Lib.hid (show r = ceilD (10 * s2) s1 by rw [HC.out, if_neg h0])
    have CE := Lib.hid (fun w => ceil32 (10 * s2) s1 w (by omega) (by omega) (by omega) (by omega))
    have hb0 : (s1 == 0) = false := by simpa using h0
    clear HC h0
    go_enter Try.func16, Try.ntmps16
    go_wp2_with fail
    refine SU.out.mono ?_
    rintro e w1 ⟨rfl, hb1⟩
    go_wp2_with fail
    refine (CE.out _).mono ?_
    rintro e w2 ⟨rfl, rfl⟩
    go_wp2
    go_ret
    exact ⟨ret_int HR.out.symm, hb1⟩
theorem qual19 (A : Option Addr) (n cap : Nat) (l : List Link) (v : Int) (w : World) (hn : n ≤ 9223372036854775807) (hr : Rd w EL A n l) :
    Calls Try.prog 19 #[.slice A n cap, .int .i64 v] w fun e w' => e = .returned (.int .i64 (qualT (tab l) v)) ∧ Below w.heap.size w w' := by
  have SU := Lib.hid (succ31 A n cap l v w hn hr)
  have hbd := succT_bd (tab_good l) v
  have HC := Lib.hid (show qualT (tab l) v = floorD (100 * (succT (tab l) v).1) (succT (tab l) v).2 from rfl)
  generalize qualT (tab l) v = r at *
  generalize succT (tab l) v = s at *
  obtain ⟨s1, s2⟩ := s
  obtain ⟨g1, g2, g3, g4⟩ := hbd
  simp only [] at g1 g2 g3 g4 HC
  have CE := Lib.hid (fun w => floor35 (100 * s1) s2 w (by omega) (by omega) (by omega) (by omega))
  go_enter Try.func19, Try.ntmps19
  go_wp2_with fail
  refine SU.out.mono ?_
  rintro e w1 ⟨rfl, hb1⟩
  go_wp2_with fail
  refine (CE.out _).mono ?_
  rintro e w2 ⟨rfl, rfl⟩
  go_wp2
  go_ret
  exact ⟨ret_int HC.out.symm, hb1⟩
end Go.Proofs.Ytipghbpkpnkmnaa
