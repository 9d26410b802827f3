/- The state of the law RouteLoops: the tables, their history. -/
import Derived.Test.YtlmoeempblgdkaaLl
namespace Go.Proofs.Ytlmoeempblgdkaa
open Go.RowKit Go.BigFrame
set_option linter.unusedVariables false
set_option linter.unusedSimpArgs false

structure Ac where
  k : Int
  a : Int
  b : Int
  c : Int
  o : Int
def encA (x : Ac) : List Value := [.int .i64 x.k, .int .i64 x.a, .int .i64 x.b, .int .i64 x.c, .int .i64 x.o]
abbrev acC (x : Ac) : Array Value := #[.int .i64 x.k, .int .i64 x.a, .int .i64 x.b, .int .i64 x.c, .int .i64 x.o]
theorem encA_one (m : Ac) : ∀ u ∈ encA m, u.oneCell' = true := by
  intro u hu
  simp [encA] at hu
  rcases hu with rfl | rfl | rfl | rfl | rfl <;> rfl
def EA : Enc Ac := ⟨encA, 5, by omega, fun _ => rfl, encA_one⟩
theorem ac_at {w : World} {A : Option Addr} {n : Nat} {l : List Ac} (h : Rd w EA A n l) {k : Nat} (hk : k < n) :
    ∃ (b off : Nat) (a : Ac), A = some ⟨b, off, none⟩ ∧
      w.cell? ⟨b, off + k * 5, none⟩ = some (.int .i64 a.k) ∧ w.cell? ⟨b, off + k * 5 + 1, none⟩ = some (.int .i64 a.a) ∧ w.cell? ⟨b, off + k * 5 + 2, none⟩ = some (.int .i64 a.b) ∧ w.cell? ⟨b, off + k * 5 + 3, none⟩ = some (.int .i64 a.c) ∧ w.cell? ⟨b, off + k * 5 + 4, none⟩ = some (.int .i64 a.o) := by
  obtain ⟨b, off, a, e1, e2, hc⟩ := h.elem hk
  exact ⟨b, off, a, e1, hc 0 _ rfl, hc 1 _ rfl, hc 2 _ rfl, hc 3 _ rfl, hc 4 _ rfl⟩
structure HSt (w0 : World) (g B0 : Nat) (B : Option Addr) (m cp : Nat) (sl : Nat → Sl) (ts : Nat → List Rt) (hl : List (Nat → Sl)) (wr : World) : Prop where
  gb : w0.heap.size ≤ g ∧ g < B0 ∧ B0 ≤ wr.heap.size
  m0 : 0 < m
  blk : Blk wr g 47 (arr sl)
  tw : ∀ x : Nat, x < 6 → Tw wr (sl x) (ts x)
  inv : LInv ts
  ow : Ow wr B0 47 E6 (.slice B m cp) m hl
  old : ∀ f ∈ hl, ∃ h : Nat → List Rt, ∀ x : Nat, x < 6 → Tw wr (f x) (h x) ∧ Kept (h x) (ts x) ∧ (h x).length ≤ 24
  below : Below w0.heap.size w0 wr
theorem HSt.later {w0 : World} {g B0 : Nat} {B : Option Addr} {m cp : Nat} {sl : Nat → Sl} {ts : Nat → List Rt} {hl : List (Nat → Sl)} {wr w' : World} (h : HSt w0 g B0 B m cp sl ts hl wr) (hb : Below wr.heap.size wr w') : HSt w0 g B0 B m cp sl ts hl w' :=
  ⟨⟨h.gb.1, h.gb.2.1, Nat.le_trans h.gb.2.2 hb.size⟩, h.m0, h.blk.later hb, fun x hx => (h.tw x hx).later hb, h.inv, h.ow.later hb, fun f hf => by
    obtain ⟨t, ht⟩ := h.old f hf
    exact ⟨t, fun x hx => ⟨(ht x hx).1.later hb, (ht x hx).2⟩⟩, h.below.trans (hb.mono h.below.size)⟩
theorem HSt.put {w0 : World} {g B0 : Nat} {B : Option Addr} {m cp : Nat} {sl : Nat → Sl} {ts : Nat → List Rt} {hl : List (Nat → Sl)} {wr : World} (h : HSt w0 g B0 B m cp sl ts hl wr) {a : Nat} (ha : a < 6) {s : Sl} {u : List Rt} (hs : Tw wr s u) (hL : LInv (putT ts a u)) (hk : Kept (ts a) u) :
    HSt w0 g B0 B m cp (putS sl a s) (putT ts a u) hl (wr.setCell ⟨g, a, none⟩ (sv s)) := by
  have hg := grown_setCell wr ⟨g, a, none⟩ (sv s)
  refine ⟨⟨h.gb.1, h.gb.2.1, by simp [World.setCell]; exact h.gb.2.2⟩, h.m0, arr_put sl ha s ▸ h.blk.set_ a (sv s), fun x hx => ?_, hL, h.ow.far h.gb.2.1 _, fun f hf => ?_, Below.grow h.below hg h.below.size h.gb.1⟩
  · by_cases hxa : x = a
    · subst hxa
      rw [putS_same, putT_same]
      exact hs.grown h.blk (by decide) hg
    · rw [putS_other hxa, putT_other hxa]
      exact (h.tw x hx).grown h.blk (by decide) hg
  · obtain ⟨t, ht⟩ := h.old f hf
    exact ⟨t, fun x hx => ⟨(ht x hx).1.grown h.blk (by decide) hg, (ht x hx).2.1.trans (kept_put hk x), (ht x hx).2.2⟩⟩
theorem HSt.app {w0 : World} {g B0 : Nat} {B : Option Addr} {m cp : Nat} {sl : Nat → Sl} {ts : Nat → List Rt} {hl : List (Nat → Sl)} {wr w' : World} (h : HSt w0 g B0 B m cp sl ts hl wr) {A1 : Option Addr} {cap1 : Nat}
    (ho : Ow w' B0 47 E6 (.slice A1 (m + 1) cap1) (m + 1) (hl ++ [sl])) (hg : wr.grownBy w' (Value.slice B m cp).ownBlock) : HSt w0 g B0 A1 (m + 1) cap1 sl ts (hl ++ [sl]) w' := by
  obtain ⟨k, cur, rfl, hBk, hkk, _⟩ := h.ow.row h.m0
  have hg' : wr.grownBy w' (some k) := hg
  have hgk : g ≠ k := by have := h.gb.2.1; omega
  have T : ∀ (s : Sl) (l : List Rt), Tw wr s l → Tw w' s l := fun s l ht => ht.grown hkk (by decide) hg'
  refine ⟨⟨h.gb.1, h.gb.2.1, Nat.le_trans h.gb.2.2 hg'.size⟩, by omega, h.blk.grown hg' hgk, fun x hx => T _ _ (h.tw x hx), h.inv, ho, fun f hf => ?_, Below.row h.below hg h.below.size (by have := h.gb; omega) h.ow.lt⟩
  rcases List.mem_append.1 hf with hf | hf
  · obtain ⟨t, ht⟩ := h.old f hf
    exact ⟨t, fun x hx => ⟨T _ _ (ht x hx).1, (ht x hx).2⟩⟩
  · rw [List.mem_singleton] at hf
    subst hf
    exact ⟨ts, fun x hx => ⟨T _ _ (h.tw x hx), Kept.refl _, (h.inv.ok x hx).le⟩⟩
theorem six_rd (f : Nat → Sl) (w : World) : Rd (w.alloc (.cells (arr f) 47)) E6 (some ⟨w.heap.size, 0, none⟩) 1 [f] := Rd.one_new w E6 f 47
theorem ow_six (f : Nat → Sl) (w : World) : Ow (w.alloc (.cells (arr f) 47)) w.heap.size 47 E6 (.slice (some ⟨w.heap.size, 0, none⟩) 1 1) 1 [f] :=
  Ow.mk_ rfl (Nat.le_refl _) (Blk.new w 47 (arr f)) (Nat.le_refl _) (by unfold maxLen; omega) (by simp [E6]) (by simp [Enc.flat, E6, encS])
end Go.Proofs.Ytlmoeempblgdkaa
