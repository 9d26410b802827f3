/- Two places of a row of numbers are swapped; two blocks of equal length are swapped. -/
import Derived.Test.YtipghbpkpnkmnaaSp
import Derived.Test.YtipghbpkpnkmnaaWi
namespace Go.Proofs.Ytipghbpkpnkmnaa
open Go.RowKit Go.BigFrame
set_option linter.unusedVariables false

theorem Ow.setI {w : World} {base : Nat} {g n cap : Nat} {l : List Int} (h : Ow w base 3 EI (.slice (some ⟨g, 0, none⟩) n cap) n l) {i : Nat} {a : Int} (hi : l[i]? = some a) (u : Int) :
    Ow (w.setCell ⟨g, i, none⟩ (.int .i64 u)) base 3 EI (.slice (some ⟨g, 0, none⟩) n cap) n (l.set i u) := by
  have := h.setField (j := 0) (a' := u) hi (by decide) (.int .i64 u) rfl
  rw [show i * EI.size + 0 = i from Nat.mul_one i] at this
  exact this
/-- what a place holds -/
theorem Ow.gvc {w : World} {base : Nat} {g n cap : Nat} {l : List Int} (h : Ow w base 3 EI (.slice (some ⟨g, 0, none⟩) n cap) n l) {i : Nat} (hi : i < n) : w.cell? ⟨g, i, none⟩ = some (.int .i64 (gv l i)) := by
  obtain ⟨b, off, a, e1, e2, e3⟩ := int_at h.rd hi
  cases e1
  have hg := gv_at (L := l) (i := i) (by rw [h.1]; exact hi)
  rw [hg] at e2
  obtain rfl : gv l i = a := Option.some.inj e2
  rwa [Nat.zero_add] at e3
/-- the world behind a swap -/
def swW (w : World) (g : Nat) (l : List Int) (i j : Nat) : World := (w.setCell ⟨g, i, none⟩ (.int .i64 (gv l j))).setCell ⟨g, j, none⟩ (.int .i64 (gv l i))
theorem Ow.swap {w : World} {base : Nat} {g n cap : Nat} {l : List Int} (h : Ow w base 3 EI (.slice (some ⟨g, 0, none⟩) n cap) n l) {i j : Nat} (hi : i < n) (hj : j < n) :
    Ow (swW w g l i j) base 3 EI (.slice (some ⟨g, 0, none⟩) n cap) n (sw l i j) := by
  have h1 := h.setI (gv_at (L := l) (i := i) (by rw [h.1]; exact hi)) (gv l j)
  exact h1.setI (gv_at (L := l.set i (gv l j)) (i := j) (by rw [List.length_set, h.1]; exact hj)) (gv l i)
theorem swW_below {B : Nat} {w0 w : World} (hb : Below B w0 w) {g : Nat} (hg : B ≤ g) (l : List Int) (i j : Nat) : Below B w0 (swW w g l i j) :=
  Below.setCell (p := ⟨g, j, none⟩) (Below.setCell (p := ⟨g, i, none⟩) hb hg _) hg _
/-- what a sorting function leaves: a row for which Q holds -/
def SoEnd (W0 : World) (B g n cap : Nat) (Q : List Int → Prop) (en : Ending) (w' : World) : Prop :=
  en = .returned (.tuple #[]) ∧ ∃ L, Q L ∧ Ow w' B 3 EI (.slice (some ⟨g, 0, none⟩) n cap) n L ∧ Below B W0 w'
/-- the comparison of the costs, from any world behind W0 -/
def CmpOk (cs : Int → Int) (W0 : World) (B : Nat) (p : Option Addr) : Prop :=
  ∀ wr : World, Below B W0 wr → ∀ x y : Int, Calls Try.prog 38 #[.int .i64 x, .int .i64 y, .pointer p] wr fun e w' => e = .returned (.int .i64 (cs x - cs y)) ∧ Below wr.heap.size wr w'
abbrev cmpV (p : Option Addr) : Value := .func (.func 38) #[] #[.pointer p]

set_option maxRecDepth 20000 in
set_option maxHeartbeats 4000000 in
theorem swr49 (W0 : World) (B g n cap a b k : Nat) (F : Value) (L : List Int) (w : World) (hn : n ≤ 24) (hab : a + k ≤ b) (hbk : b + k ≤ n) (hw : Below B W0 w) (ho : Ow w B 3 EI (.slice (some ⟨g, 0, none⟩) n cap) n L) :
    Calls Try.prog 49 #[.slice (some ⟨g, 0, none⟩) n cap, .int .i64 a, .int .i64 b, .int .i64 k, F] w (SoEnd W0 B g n cap (Sr a b k L)) := by
  go_enter Try.func49, Try.ntmps49
  go_wp2
  go_loopw [10] (fun v wr => ∃ (i : Nat) (M : List Int), i ≤ k ∧ v = .int .i64 i ∧ Sr a b i L M ∧ Ow wr B 3 EI (.slice (some ⟨g, 0, none⟩) n cap) n M ∧ Below B W0 wr) (fun v _ => k - (intOf v).toNat)
  case atStart => exact ⟨0, L, by omega, rfl, Sr.zero a b L, ho, hw⟩
  case round =>
    clear ho hw
    obtain ⟨i, M, hi, rfl, hs, hown, hbr⟩ := hrel
    by_cases hlt : i < k
    · have hs' := Lib.hid (hs.step hab hlt (by rw [← hs.1, hown.1]; exact hbk))
      have q1 := hown.gvc (i := a + i) (by omega)
      have q2 := hown.gvc (i := b + i) (by omega)
      have f1 := hown.free (by omega) (a + i)
      obtain ⟨g', hg0, hgb, hgl⟩ := hown.at0 (by omega)
      cases hg0
      have o2 := hown.swap (i := a + i) (j := b + i) (by omega) (by omega)
      have f2 := (hown.setI (gv_at (L := M) (i := a + i) (by rw [hown.1]; omega)) (gv M (b + i))).free (by omega) (b + i)
      have hb2 := swW_below hbr hgb M (a + i) (b + i)
      unfold swW at o2 hb2
      clear hs hown
      generalize gv M (a + i) = x at *
      generalize gv M (b + i) = y at *
      go_wp2
      go_region
      go_wp2
      go_roundw
      case rel => exact ⟨i + 1, _, by omega, by go_num, hs'.out, o2.later (Below.refl _ _).drew, hb2.drew⟩
      case measure => simp [intOf]; omega
    · obtain rfl : k = i := by omega
      go_wp2
      go_end0
      exact ⟨rfl, M, hs, hown, hbr⟩
end Go.Proofs.Ytipghbpkpnkmnaa
