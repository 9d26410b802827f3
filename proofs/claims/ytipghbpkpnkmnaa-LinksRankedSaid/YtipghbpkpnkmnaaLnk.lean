/- Links, and how they lie in memory; small callees. -/
import Derived.Test.YtipghbpkpnkmnaaRdx
import Derived.Lib.SliceRun
import Derived.Laws.StructEq
namespace Go.Proofs.Ytipghbpkpnkmnaa
open Go.RowKit Go.BigFrame
set_option linter.unusedVariables false

structure Link where
  node : Int
  bits : Int
  count : Int
def encL (a : Link) : List Value := [.int .i64 a.node, .int .i64 a.bits, .int .i64 a.count]
abbrev lkV (a : Link) : Value := .agg #[.int .i64 a.node, .int .i64 a.bits, .int .i64 a.count]
theorem encL_one (m : Link) : ∀ u ∈ encL m, u.oneCell' = true := by
  intro u hu
  simp [encL] at hu
  rcases hu with rfl | rfl | rfl <;> rfl
def EL : Enc Link := ⟨encL, 3, by omega, fun _ => rfl, encL_one⟩
def l0 : Link := ⟨0, 0, 0⟩
theorem EL_size : EL.size = 3 := rfl
theorem info38 : (Try.prog.info? 38).map (fun i => (i.zero, i.size, i.bytes)) = some (some (.agg #[.int .i64 0, .int .i64 0, .int .i64 0]), 3, 24) := by kernel_rfl
theorem info3 : (Try.prog.info? 3).map (fun i => (i.zero, i.size, i.bytes)) = some (some (.int .i64 0), 1, 8) := by kernel_rfl
/-- numbers -/
def encI (a : Int) : List Value := [.int .i64 a]
def EI : Enc Int := ⟨encI, 1, by omega, fun _ => rfl, fun a u hu => by simp [encI] at hu; subst hu; rfl⟩

/-- The three cells of a link that is read. -/
theorem link_at {w : World} {A : Option Addr} {n : Nat} {l : List Link} (h : Rd w EL A n l) {k : Nat} (hk : k < n) :
    ∃ (b off : Nat) (a : Link), A = some ⟨b, off, none⟩ ∧ l[k]? = some a ∧
      w.cell? ⟨b, off + k * 3, none⟩ = some (.int .i64 a.node) ∧ w.cell? ⟨b, off + k * 3 + 1, none⟩ = some (.int .i64 a.bits) ∧ w.cell? ⟨b, off + k * 3 + 2, none⟩ = some (.int .i64 a.count) := by
  obtain ⟨b, off, a, e1, e2, hc⟩ := h.elem hk
  exact ⟨b, off, a, e1, e2, hc 0 _ rfl, hc 1 _ rfl, hc 2 _ rfl⟩
theorem int_at {w : World} {A : Option Addr} {n : Nat} {l : List Int} (h : Rd w EI A n l) {k : Nat} (hk : k < n) :
    ∃ (b off : Nat) (a : Int), A = some ⟨b, off, none⟩ ∧ l[k]? = some a ∧ w.cell? ⟨b, off + k, none⟩ = some (.int .i64 a) := by
  obtain ⟨b, off, a, e1, e2, hc⟩ := h.elem hk
  refine ⟨b, off, a, e1, e2, ?_⟩
  have := hc 0 _ rfl
  rw [show off + k * EI.size + 0 = off + k by rw [show EI.size = 1 from rfl]; omega] at this
  exact this

/-- A result that is a slice of links of the call's own. -/
def SlEnd (w : World) (l : List Link) (en : Ending) (w' : World) : Prop :=
  ∃ (A : Option Addr) (n cap : Nat), en = .returned (.slice A n cap) ∧ Ow w' w.heap.size 38 EL (.slice A n cap) n l ∧ Below w.heap.size w w'

theorem take_snoc {α : Type} {l : List α} {k : Nat} {a : α} (h : l[k]? = some a) : l.take (k + 1) = l.take k ++ [a] := by
  have hlt : k < l.length := (List.getElem?_eq_some_iff.1 h).1
  rw [List.take_succ_eq_append_getElem hlt, (List.getElem?_eq_some_iff.1 h).2]
theorem link_one (a : Link) (w : World) (t : TypeId) : Rd (w.alloc (.cells #[.int .i64 a.node, .int .i64 a.bits, .int .i64 a.count] t)) EL (some ⟨w.heap.size, 0, none⟩) 1 [a] := Rd.one_new w EL a t
theorem int_one (a : Int) (w : World) (t : TypeId) : Rd (w.alloc (.cells #[.int .i64 a] t)) EI (some ⟨w.heap.size, 0, none⟩) 1 [a] := Rd.one_new w EI a t
theorem link_ext {a b : Link} (h0 : a.node = b.node) (h1 : a.bits = b.bits) (h2 : a.count = b.count) : a = b := by
  obtain ⟨⟩ := a; obtain ⟨⟩ := b
  simp at h0 h1 h2
  subst h0 h1 h2; rfl
theorem neq38_same {a b : Link} (h : a = b) (w : World) : (binOp .neq 38 (lkV a) (lkV b)).run Try.prog w = .ok (.bool false) w := by
  subst h
  rw [run_neq_struct, run_equalIn_struct w 9999 38 _ _ (by kernel_rfl) (by kernel_rfl)]
  simp [go_sem]
theorem shl_one {c : Int} (h0 : 0 ≤ c) (h1 : c ≤ 16) : wrap64 (2 ^ c.toNat) = 2 ^ c.toNat := by
  obtain ⟨k, rfl⟩ : ∃ k : Nat, c = k := ⟨c.toNat, by omega⟩
  have hk : k ≤ 16 := by omega
  have : k = 0 ∨ k = 1 ∨ k = 2 ∨ k = 3 ∨ k = 4 ∨ k = 5 ∨ k = 6 ∨ k = 7 ∨ k = 8 ∨ k = 9 ∨ k = 10 ∨ k = 11 ∨ k = 12 ∨ k = 13 ∨ k = 14 ∨ k = 15 ∨ k = 16 := by omega
  rcases this with rfl | rfl | rfl | rfl | rfl | rfl | rfl | rfl | rfl | rfl | rfl | rfl | rfl | rfl | rfl | rfl | rfl <;> decide +kernel

/-- A table is checked. -/
def bad (a : Link) : Prop := a.node < 0 ∨ 250 < a.node ∨ a.count < 0 ∨ 16 < a.count ∨ a.bits < 0 ∨ (2 : Int) ^ a.count.toNat ≤ a.bits
instance (a : Link) : Decidable (bad a) := by unfold bad; infer_instance
def errF : List Link → Option Int → Int
  | [], _ => 0
  | a :: r, p => if bad a then 2 else match p with
    | none => errF r (some a.node)
    | some q => if a.node ≤ q then 14 else errF r (some a.node)
def chk (l : List Link) : Int := if 24 < l.length then 3 else errF l none
def prv (l : List Link) (j : Nat) : Option Int := match j with
  | 0 => none
  | k + 1 => (l[k]?).map (fun a => a.node)
theorem errF_cons (a : Link) (r : List Link) (p : Option Int) : errF (a :: r) p = if bad a then 2 else match p with
    | none => errF r (some a.node)
    | some q => if a.node ≤ q then 14 else errF r (some a.node) := by cases p <;> rfl
theorem errF_at {l : List Link} {j : Nat} {a : Link} (h : l[j]? = some a) : errF (l.drop j) (prv l j) = if bad a then 2 else match prv l j with
    | none => errF (l.drop (j + 1)) (prv l (j + 1))
    | some q => if a.node ≤ q then 14 else errF (l.drop (j + 1)) (prv l (j + 1)) := by
  have hlt : j < l.length := (List.getElem?_eq_some_iff.1 h).1
  have he : l[j] = a := (List.getElem?_eq_some_iff.1 h).2
  have h2 : prv l (j + 1) = some a.node := by simp [prv, h]
  rw [List.drop_eq_getElem_cons hlt, he, errF_cons, h2]
theorem chk_bad {l : List Link} {j : Nat} {a : Link} (h : l[j]? = some a) (hi : chk l = errF (l.drop j) (prv l j)) (hb : bad a) : chk l = 2 := by
  rw [hi, errF_at h, if_pos hb]
theorem chk_first {l : List Link} {j : Nat} {a : Link} (h : l[j]? = some a) (hi : chk l = errF (l.drop j) (prv l j)) (hb : ¬ bad a) (hj : j = 0) : chk l = errF (l.drop (j + 1)) (prv l (j + 1)) := by
  rw [hi, errF_at h, if_neg hb]; subst hj; rfl
theorem chk_order {l : List Link} {j : Nat} {a b : Link} (h : l[j]? = some a) (hi : chk l = errF (l.drop j) (prv l j)) (hb : ¬ bad a) {p : Nat} (hj : j = p + 1) (hp : l[p]? = some b) (ho : a.node ≤ b.node) : chk l = 14 := by
  rw [hi, errF_at h, if_neg hb]; subst hj
  simp [prv, hp, ho]
theorem chk_next {l : List Link} {j : Nat} {a b : Link} (h : l[j]? = some a) (hi : chk l = errF (l.drop j) (prv l j)) (hb : ¬ bad a) {p : Nat} (hj : j = p + 1) (hp : l[p]? = some b) (ho : ¬ a.node ≤ b.node) : chk l = errF (l.drop (j + 1)) (prv l (j + 1)) := by
  rw [hi, errF_at h, if_neg hb]; subst hj
  simp [prv, hp, ho]
theorem chk_end {l : List Link} {j : Nat} (hi : chk l = errF (l.drop j) (prv l j)) (hj : j = l.length) : chk l = 0 := by
  rw [hi, List.drop_eq_nil_of_le (by omega), errF]
theorem chk_start {l : List Link} (h : l.length ≤ 24) : chk l = errF (l.drop 0) (prv l 0) := by
  unfold chk; rw [if_neg (by omega)]; rfl

set_option maxHeartbeats 1000000 in
theorem power30 (c : Int) (w : World) (h0 : 0 ≤ c) (h1 : c ≤ 16) : Calls Try.prog 30 #[.int .i64 c] w fun e w' => e = .returned (.int .i64 (2 ^ c.toNat)) ∧ w = w' := by
  obtain ⟨k, rfl⟩ : ∃ k : Nat, c = k := ⟨c.toNat, by omega⟩
  have HP : Hid (∀ j : Nat, j ≤ 16 → (1 : Int) ≤ 2 ^ j ∧ (2 : Int) ^ j ≤ 65536) := Lib.hid (fun j hj => by
    have h2 : (2 : Int) ^ j ≤ 2 ^ 16 := by
      have := Nat.pow_le_pow_right (show 2 > 0 by decide) hj
      have h3 : ((2 ^ j : Nat) : Int) ≤ ((2 ^ 16 : Nat) : Int) := by exact_mod_cast this
      simpa using h3
    have h4 : (1 : Int) ≤ 2 ^ j := by
      have := Nat.one_le_two_pow (n := j)
      have h3 : ((1 : Nat) : Int) ≤ ((2 ^ j : Nat) : Int) := by exact_mod_cast this
      simpa using h3
    exact ⟨h4, by simpa using h2⟩)
  simp only [Int.toNat_natCast]
  go_enter Try.func30, Try.ntmps30
  go_wp2
  go_loop [3, 4] (fun p i => ∃ (j : Nat) (z : Int), j ≤ k ∧ i = .int .i64 j ∧ p = .int .i64 z ∧ Hid (z = 2 ^ j)) (fun _ i => k - (intOf i).toNat)
  case atStart => exact ⟨0, 1, by omega, rfl, rfl, Lib.hid rfl⟩
  case round =>
    obtain ⟨j, z, hj, rfl, rfl, hz⟩ := hrel
    obtain ⟨hz1, hz2⟩ : 1 ≤ z ∧ z ≤ 65536 := by rw [hz.out]; exact HP.out j (by omega)
    by_cases hlt : j < k
    · have HN : Hid (2 * z = 2 ^ (j + 1)) := Lib.hid (by rw [hz.out, Int.pow_succ]; omega)
      go_wp2
      go_round
      case rel => exact ⟨j + 1, 2 * z, by omega, by go_num, by go_num, HN⟩
      case measure => simp [intOf]; omega
    · have HE : Hid (z = 2 ^ k) := Lib.hid (by rw [hz.out, show j = k by omega])
      clear hz
      go_wp2
      go_ret
      exact ⟨ret_int HE.out, rfl⟩
end Go.Proofs.Ytipghbpkpnkmnaa
