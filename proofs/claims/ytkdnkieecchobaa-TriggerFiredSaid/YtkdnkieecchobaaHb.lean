/- Norm of the document's answer. -/
import Derived.Test.YtkdnkieecchobaaHa
import Derived.Deep.RegionHeld3
namespace Go.Proofs.Ytkdnkieecchobaa
open Go.RowKit Go.BigFrame
set_option linter.unusedVariables false

theorem later_new' {w w' : World} {cs : Array Value} {t : TypeId} (hb : Below (w.alloc (.cells cs t)).drew.heap.size (w.alloc (.cells cs t)).drew w') : Blk w' w.heap.size t cs := Blk.later (w := (w.alloc (.cells cs t)).drew) (Blk.new w t cs) hb
theorem later_new {w w' : World} {cs : Array Value} {t : TypeId} (hb : Below (w.alloc (.cells cs t)).heap.size (w.alloc (.cells cs t)) w') : Blk w' w.heap.size t cs := (Blk.new w t cs).later hb

theorem step_store_row {P : Program} {ops : Array Oper} {o : Oper} {a : Act} {w : World} {K : Act → World → Prop} {Q : Exit → Act → World → Prop} {E : Prop}
    (hg : o.guard = none) (ty : TypeId) (x y : Operand) (ho : o.op = .store ty x y) (g : Nat) (cells : Array Value) (hx : a.eval x = .pointer (some ⟨g, 0, none⟩)) (hy : a.eval y = .agg cells)
    (t : TypeId) (old : Array Value) (hb : Blk w g t old) (hi : (P.info? ty).map (fun i => i.size) = some cells.size) (hold : old.size = cells.size) (h1 : cells.all (·.oneCell') = true)
    (h : K (a.put o.dst undef) (w.setRow g cells)) :
    if Region.wanted o (yielded ops a.tmps) = true then Oper.wp P o a w K Q else E := by
  have hw : Region.wanted o (yielded ops a.tmps) = true := by simp [Region.wanted, hg]
  rw [if_pos hw]
  exact wp_store_row ty x y ho g cells hx hy t old hb hi hold h1 h
theorem Blk.setRow {w : World} {g : Nat} {t : TypeId} {old cells : Array Value} (h : Blk w g t old) : Blk (w.setRow g cells) g t cells := setRow_heap w g old cells t _ h
theorem grown_setRow (w : World) (g : Nat) (cells : Array Value) : w.grownBy (w.setRow g cells) (some g) :=
  ⟨rfl, rfl, rfl, by simp [World.setRow], fun k _ hne => by
    have : k ≠ g := fun e => hne (by rw [e])
    simp [World.setRow, Array.getElem?_modify, Ne.symm this]⟩
theorem below_setRow {B g : Nat} {a w : World} (h : Below B a w) (hp : B ≤ g) (hB : B ≤ w.heap.size) (cells : Array Value) : Below B a (w.setRow g cells) := Below.grow h (grown_setRow w g cells) hB hp
def OwX {α : Type} (w : World) (b0 g : Nat) (e : TypeId) (E : Enc α) (v : Value) (n : Nat) (l : List α) : Prop := Ow w b0 e E v n l ∧ v.ownBlock ≠ some g
theorem Ow.x {α : Type} {w : World} {base b0 g : Nat} {e : TypeId} {E : Enc α} {v : Value} {n : Nat} {l : List α} (h : Ow w base e E v n l) (hb : b0 ≤ base) (hne : ∀ k, base ≤ k → k < w.heap.size → k ≠ g) : OwX w b0 g e E v n l :=
  ⟨h.rebase hb, fun e => hne g (h.lt g e).1 (h.lt g e).2 rfl⟩
theorem OwX.grown {α : Type} {w w' : World} {b0 g : Nat} {e : TypeId} {E : Enc α} {v : Value} {n : Nat} {l : List α} (h : OwX w b0 g e E v n l) (hg : w.grownBy w' (some g)) : OwX w' b0 g e E v n l :=
  ⟨h.1.kept hg (.inr h.2), h.2⟩
theorem OwX.grownBelow {α : Type} {w w' : World} {b0 g g' : Nat} {e : TypeId} {E : Enc α} {v : Value} {n : Nat} {l : List α} (h : OwX w b0 g e E v n l) (hg : w.grownBy w' (some g')) (hlt : g' < b0) : OwX w' b0 g e E v n l :=
  ⟨h.1.grown hg hlt, h.2⟩
theorem OwX.later {α : Type} {w w' : World} {b0 g : Nat} {e : TypeId} {E : Enc α} {v : Value} {n : Nat} {l : List α} (h : OwX w b0 g e E v n l) (hb : Below w.heap.size w w') : OwX w' b0 g e E v n l := ⟨h.1.later hb, h.2⟩
def N14 (W2 : World) (h : Hap) (z : Value) (wz : World) : Prop :=
  ∃ (g m2 d2 m3 d3 : Nat) (A2 A3 : Option Addr), z = .pointer (some ⟨g, 0, none⟩) ∧ W2.heap.size ≤ g ∧ Blk wz g 26 #[.slice none 0 0, .slice A2 m2 d2, .int .i64 h.fr, .int .i64 h.til, .string h.mode, .bool h.st, .slice A3 m3 d3] ∧ OwX wz W2.heap.size g 34 EK (.slice A2 m2 d2) m2 (setO kLt h.ev) ∧ OwX wz W2.heap.size g 9 ET (.slice A3 m3 d3) m3 (setO sLt h.held) ∧ Below W2.heap.size W2 wz
set_option maxRecDepth 20000 in
set_option maxHeartbeats 8000000 in
theorem norm14 (c : Hc) (h : Hap) (w : World) (hr : HRd w c h) (b1 : c.n1 ≤ 200) (b2 : c.n2 ≤ 200) (b3 : c.n3 ≤ 200) :
    Calls Try.prog 14 #[hpV c h] w (HEnd w (norm h)) := by
  obtain ⟨W, hW, hB, hz, hk⟩ := boxeds w (hpC c h) 26
  obtain ⟨W2, hW2, hB2, hz2, hk2⟩ := boxeds W #[.slice none 0 0, .slice none 0 0, .int .i64 0, .int .i64 0, .string ⟨#[]⟩, .bool false, .slice none 0 0] 26
  have HZ0 := Lib.hid hz
  have HZ2 := Lib.hid hz2
  have HZL := Lib.hid (show w.heap.size ≤ W2.heap.size by omega)
  have hkp2 := hk.later hB2
  have hBx := hB.trans (hB2.mono (by omega))
  have l1 : w.heap.size < W.heap.size := by omega
  have l2 : w.heap.size < W2.heap.size := by omega
  have l3 : W.heap.size < W2.heap.size := by omega
  have PE : Hid (∀ w', Below W2.heap.size W2 w' → Calls Try.prog 33 #[.slice c.A2 c.n2 c.c2] w' (OwEnd 34 EK w' (setO kLt h.ev))) := Lib.hid (fun w' hb => events33 c.A2 c.n2 c.c2 h.ev w' b2 ((hr.r2.later hBx).later hb))
  have PT : Hid (∀ w', Below W2.heap.size W2 w' → Calls Try.prog 34 #[.slice c.A3 c.n3 c.c3] w' (OwEnd 9 ET w' (setO sLt h.held))) := Lib.hid (fun w' hb => sorted34 c.A3 c.n3 c.c3 h.held w' b3 ((hr.r3.later hBx).later hb))
  have K1 : ∀ w', Below W2.heap.size W2 w' → w'.cell? ⟨w.heap.size, 1, none⟩ = some (.slice c.A2 c.n2 c.c2) := fun w' hb => keep hb (hkp2.at 1 rfl)
  have K2 : ∀ w', Below W2.heap.size W2 w' → w'.cell? ⟨w.heap.size, 2, none⟩ = some (.int .i64 h.fr) := fun w' hb => keep hb (hkp2.at 2 rfl)
  have K3 : ∀ w', Below W2.heap.size W2 w' → w'.cell? ⟨w.heap.size, 3, none⟩ = some (.int .i64 h.til) := fun w' hb => keep hb (hkp2.at 3 rfl)
  have K4 : ∀ w', Below W2.heap.size W2 w' → w'.cell? ⟨w.heap.size, 4, none⟩ = some (.string h.mode) := fun w' hb => keep hb (hkp2.at 4 rfl)
  have K5 : ∀ w', Below W2.heap.size W2 w' → w'.cell? ⟨w.heap.size, 5, none⟩ = some (.bool h.st) := fun w' hb => keep hb (hkp2.at 5 rfl)
  have K6 : ∀ w', Below W2.heap.size W2 w' → w'.cell? ⟨w.heap.size, 6, none⟩ = some (.slice c.A3 c.n3 c.c3) := fun w' hb => keep hb (hkp2.at 6 rfl)
  have hU0 := Below.refl W2.heap.size W2
  clear hz hz2
  go_enter Try.func14, Try.ntmps14
  go_upto_region 1 with fail
  go_cut [3] (fun z wz => N14 W2 h z wz)
  case first =>
   go_region_held3 (fun w' => Below W2.heap.size W2 w') (with_reducible (repeat (first | assumption | refine Below.setCell ?_ ?_ _ | refine Below.drew ?_ | refine Below.alloc ?_ ?_ _ | refine Below.trans ?_ (Below.mono hbE ?_) | refine Below.trans ?_ (Below.mono hbT ?_) | exact Nat.le_refl _ | refine @Below.size W2.heap.size W2 _ ?_)))
     (first
       | (go_at_call 33; refine (PE.out _ (by assumption)).mono ?_; rintro e wE ⟨A2, m2, d2, rfl, hoE, hbE⟩; (first | (with_reducible have nn2 := Blk.later nn1 hbE); have a0 := nn2.at 0 (v := .slice none 0 0) rfl; have a1 := nn2.at 1 (v := .slice none 0 0) rfl; have a2 := nn2.at 2 (v := .int .i64 0) rfl; have a3 := nn2.at 3 (v := .int .i64 0) rfl; have a4 := nn2.at 4 (v := .string ⟨#[]⟩) rfl; have a5 := nn2.at 5 (v := .bool false) rfl; have a6 := nn2.at 6 (v := .slice none 0 0) rfl; have z0 := nn2.frozen 0; have z1 := nn2.frozen 1; have z2 := nn2.frozen 2; have z3 := nn2.frozen 3; have z4 := nn2.frozen 4; have z5 := nn2.frozen 5; have z6 := nn2.frozen 6 | (with_reducible have nn1 := later_new hbE); have a0 := nn1.at 0 (v := .slice none 0 0) rfl; have a1 := nn1.at 1 (v := .slice none 0 0) rfl; have a2 := nn1.at 2 (v := .int .i64 0) rfl; have a3 := nn1.at 3 (v := .int .i64 0) rfl; have a4 := nn1.at 4 (v := .string ⟨#[]⟩) rfl; have a5 := nn1.at 5 (v := .bool false) rfl; have a6 := nn1.at 6 (v := .slice none 0 0) rfl; have z0 := nn1.frozen 0; have z1 := nn1.frozen 1; have z2 := nn1.frozen 2; have z3 := nn1.frozen 3; have z4 := nn1.frozen 4; have z5 := nn1.frozen 5; have z6 := nn1.frozen 6 | (with_reducible have nn1 := later_new' hbE); have a0 := nn1.at 0 (v := .slice none 0 0) rfl; have a1 := nn1.at 1 (v := .slice none 0 0) rfl; have a2 := nn1.at 2 (v := .int .i64 0) rfl; have a3 := nn1.at 3 (v := .int .i64 0) rfl; have a4 := nn1.at 4 (v := .string ⟨#[]⟩) rfl; have a5 := nn1.at 5 (v := .bool false) rfl; have a6 := nn1.at 6 (v := .slice none 0 0) rfl; have z0 := nn1.frozen 0; have z1 := nn1.frozen 1; have z2 := nn1.frozen 2; have z3 := nn1.frozen 3; have z4 := nn1.frozen 4; have z5 := nn1.frozen 5; have z6 := nn1.frozen 6 | skip))
       | (go_at_call 34; refine (PT.out _ (by assumption)).mono ?_; rintro e wT ⟨A3, m3, d3, rfl, hoT, hbT⟩; (first | (with_reducible have nn2 := Blk.later nn1 hbT); have a0 := nn2.at 0 (v := .slice none 0 0) rfl; have a1 := nn2.at 1 (v := .slice none 0 0) rfl; have a2 := nn2.at 2 (v := .int .i64 0) rfl; have a3 := nn2.at 3 (v := .int .i64 0) rfl; have a4 := nn2.at 4 (v := .string ⟨#[]⟩) rfl; have a5 := nn2.at 5 (v := .bool false) rfl; have a6 := nn2.at 6 (v := .slice none 0 0) rfl; have z0 := nn2.frozen 0; have z1 := nn2.frozen 1; have z2 := nn2.frozen 2; have z3 := nn2.frozen 3; have z4 := nn2.frozen 4; have z5 := nn2.frozen 5; have z6 := nn2.frozen 6 | (with_reducible have nn1 := later_new hbT); have a0 := nn1.at 0 (v := .slice none 0 0) rfl; have a1 := nn1.at 1 (v := .slice none 0 0) rfl; have a2 := nn1.at 2 (v := .int .i64 0) rfl; have a3 := nn1.at 3 (v := .int .i64 0) rfl; have a4 := nn1.at 4 (v := .string ⟨#[]⟩) rfl; have a5 := nn1.at 5 (v := .bool false) rfl; have a6 := nn1.at 6 (v := .slice none 0 0) rfl; have z0 := nn1.frozen 0; have z1 := nn1.frozen 1; have z2 := nn1.frozen 2; have z3 := nn1.frozen 3; have z4 := nn1.frozen 4; have z5 := nn1.frozen 5; have z6 := nn1.frozen 6 | (with_reducible have nn1 := later_new' hbT); have a0 := nn1.at 0 (v := .slice none 0 0) rfl; have a1 := nn1.at 1 (v := .slice none 0 0) rfl; have a2 := nn1.at 2 (v := .int .i64 0) rfl; have a3 := nn1.at 3 (v := .int .i64 0) rfl; have a4 := nn1.at 4 (v := .string ⟨#[]⟩) rfl; have a5 := nn1.at 5 (v := .bool false) rfl; have a6 := nn1.at 6 (v := .slice none 0 0) rfl; have z0 := nn1.frozen 0; have z1 := nn1.frozen 1; have z2 := nn1.frozen 2; have z3 := nn1.frozen 3; have z4 := nn1.frozen 4; have z5 := nn1.frozen 5; have z6 := nn1.frozen 6 | skip)))
   · have bE : Below W2.heap.size W2 wE := Below.trans (Below.drew (Below.refl _ _)) hbE
     have bT : Below W2.heap.size W2 wT := bE.trans (hbT.mono bE.size)
     have hbN : Below wT.heap.size wT (wT.alloc (Obj.cells #[.slice none 0 0, .slice A2 m2 d2, .int .i64 h.fr, .int .i64 h.til, .string h.mode, .bool h.st, .slice A3 m3 d3] 26)) := (Below.refl _ _).alloc (Nat.le_refl _) _
     have x1 : OwX wE W2.heap.size wT.heap.size 34 EK (.slice A2 m2 d2) m2 (setO kLt h.ev) := hoE.x (by first | exact Nat.le_refl _ | exact bE.size | (have := bE.size; simp; omega) | simp) (fun k h1 h2 => by have := hbT.size; omega)
     have x2 : OwX wT W2.heap.size wT.heap.size 9 ET (.slice A3 m3 d3) m3 (setO sLt h.held) := hoT.x (by first | exact Nat.le_refl _ | exact bE.size | (have := bE.size; simp; omega) | simp) (fun k h1 h2 => by omega)
     have HF : Hid (N14 W2 h _ _) := Lib.hid ⟨wT.heap.size, m2, d2, m3, d3, A2, A3, rfl, bT.size, Blk.new _ _ _, (x1.later hbT).later hbN, x2.later hbN, bT.trans (hbN.mono bT.size)⟩
     clear x1 x2 hoE hoT hbE hbT bE bT hbN PE PT K1 K2 K3 K4 K5 K6
     go_wp2
     go_meet
     exact HF.out
   · obtain ⟨WN, hWN, hkN, hgN, hsN⟩ := stored7 nn1 (.slice none 0 0) (.slice A2 m2 d2) (.int .i64 h.fr) (.int .i64 h.til) (.string h.mode) (.bool h.st) (.slice A3 m3 d3)
     have bE : Below W2.heap.size W2 wE := Below.trans (Below.drew (Below.refl _ _)) hbE
     have bT : Below W2.heap.size W2 wT := (bE.alloc bE.size _).trans (hbT.mono (by have := bE.size; simp; omega))
     have hsT : wE.heap.size + 1 ≤ wT.heap.size := by have := hbT.size; simpa using this
     have x1 : OwX wE W2.heap.size wE.heap.size 34 EK (.slice A2 m2 d2) m2 (setO kLt h.ev) := hoE.x (by first | exact Nat.le_refl _ | exact bE.size | (have := bE.size; simp; omega) | simp) (fun k h1 h2 => by omega)
     have x2 : OwX wT W2.heap.size wE.heap.size 9 ET (.slice A3 m3 d3) m3 (setO sLt h.held) := hoT.x (by first | exact Nat.le_refl _ | exact bE.size | (have := bE.size; simp; omega) | simp) (fun k h1 h2 => by simp at h1; omega)
     have x1' := (x1.later ((Below.refl _ _).alloc (Nat.le_refl _) _)).later hbT
     have HF : Hid (N14 W2 h (.pointer (some ⟨wE.heap.size, 0, none⟩)) WN) := Lib.hid ⟨wE.heap.size, m2, d2, m3, d3, A2, A3, rfl, bE.size, hkN, x1'.grown hgN, x2.grown hgN, Below.grow bT hgN bT.size bE.size⟩
     rw [← hWN] at HF
     clear hWN x1 x2 x1' hoE hoT hbE hbT bE bT PE PT K1 K2 K3 K4 K5 K6 hkN hgN hsN hsT nn1
     go_wp2
     go_meet
     exact HF.out
   · obtain ⟨WN, hWN, hkN, hgN, hsN⟩ := stored7 nn2 (.slice none 0 0) (.slice A2 m2 d2) (.int .i64 h.fr) (.int .i64 h.til) (.string h.mode) (.bool h.st) (.slice A3 m3 d3)
     have bE : Below W2.heap.size W2 wE := Below.trans ((Below.refl _ _).alloc (Nat.le_refl _) _).drew (hbE.mono (by simp))
     have bT : Below W2.heap.size W2 wT := bE.trans (hbT.mono bE.size)
     have hsE : W2.heap.size + 1 ≤ wE.heap.size := by have := hbE.size; simpa using this
     have x1 : OwX wE W2.heap.size W2.heap.size 34 EK (.slice A2 m2 d2) m2 (setO kLt h.ev) := hoE.x (by first | exact Nat.le_refl _ | exact bE.size | (have := bE.size; simp; omega) | simp) (fun k h1 h2 => by simp at h1; omega)
     have x2 : OwX wT W2.heap.size W2.heap.size 9 ET (.slice A3 m3 d3) m3 (setO sLt h.held) := hoT.x (by first | exact Nat.le_refl _ | exact bE.size | (have := bE.size; simp; omega) | simp) (fun k h1 h2 => by omega)
     have x1' := x1.later hbT
     have HF : Hid (N14 W2 h (.pointer (some ⟨W2.heap.size, 0, none⟩)) WN) := Lib.hid ⟨W2.heap.size, m2, d2, m3, d3, A2, A3, rfl, Nat.le_refl _, hkN, x1'.grown hgN, x2.grown hgN, Below.grow bT hgN bT.size (Nat.le_refl _)⟩
     rw [← hWN] at HF
     clear hWN x1 x2 x1' hoE hoT hbE hbT bE bT PE PT K1 K2 K3 K4 K5 K6 hkN hgN hsN hsE nn1 nn2
     go_wp2
     go_meet
     exact HF.out
  case rest =>
  obtain ⟨g, m2, d2, m3, d3, A2, A3, rfl, hgW, hkg, hx2, hx3, hbg⟩ := hcut
  obtain ⟨wx, rfl⟩ : ∃ wx, wx = wc := ⟨_, rfl⟩
  have hz := HZ0.out
  have hz2 := HZ2.out
  have hkp := hkp2.later hbg
  have hkr := hk2.later hbg
  have hBg := hBx.trans (hbg.mono (by omega))
  have l4 : W.heap.size + 1 ≤ g := by omega
  have L4 := Lib.hid l4
  have L5 := Lib.hid l1
  clear PE PT K1 K2 K3 K4 K5 K6 hkp2 hk hk2 hB hB2 hBx hU0 hz hz2 hbg l1 l2 l3 l4 hW hW2
  go_wp2
  go_loopw [4] (fun i wr => ∃ (j m c' : Nat) (B : Option Addr), j ≤ c.n1 ∧ m ≤ j ∧ i = .int .i64 j ∧ Blk wr g 26 #[.slice B m c', .slice A2 m2 d2, .int .i64 h.fr, .int .i64 h.til, .string h.mode, .bool h.st, .slice A3 m3 d3] ∧ OwX wr W2.heap.size g 32 EK (.slice B m c') m (setO kLt (h.ch.take j)) ∧ OwX wr W2.heap.size g 34 EK (.slice A2 m2 d2) m2 (setO kLt h.ev) ∧ OwX wr W2.heap.size g 9 ET (.slice A3 m3 d3) m3 (setO sLt h.held) ∧ Blk wr w.heap.size 26 (hpC c h) ∧ Blk wr W.heap.size 26 #[.slice none 0 0, .slice none 0 0, .int .i64 0, .int .i64 0, .string ⟨#[]⟩, .bool false, .slice none 0 0] ∧ Below w.heap.size w wr) (fun i _ => c.n1 - (intOf i).toNat)
  case atStart => exact ⟨0, 0, 0, none, by omega, by omega, rfl, hkg, ⟨Ow.nil _ _ _ _, by simp [Value.ownBlock]⟩, hx2, hx3, hkp, hkr, hBg⟩
  case round =>
    clear hkg hx2 hx3 hkp hkr hBg
    obtain ⟨j, m, c', B, hj, hmj, rfl, hkg, hx1, hx2, hx3, hkp, hkr, hbr⟩ := hrel
    have q0 := hkp.at 0 (v := .slice c.A1 c.n1 c.c1) rfl
    by_cases hlt : j < c.n1
    · obtain ⟨b, off, x, hA, hla, e0, e1, e2⟩ := ky_at (hr.r1.later hbr) hlt
      have HT := Lib.hid (snoc_setO (lt := kLt) hla)
      have HS := Lib.hid (srt_setO kLin (h.ch.take j))
      have Q0 := After.cell q0
      have E0 := After.cell e0
      have E1 := After.cell e1
      have E2 := After.cell e2
      have G0 := After.cell (hkg.at 0 (v := .slice B m c') rfl)
      rw [hA] at Q0 q0
      clear hla e0 e1 e2
      go_wp2
      refine wp_region_after_tail 7 (by kernel_rfl) (by kernel_rfl) ?_
      simp only [List.take_succ_cons, List.take_zero, List.drop_succ_cons, List.drop_zero]
      repeat (go_big_quiet_step (fail))
      refine wpQuiet_nil ?_
      intro w2 hb2
      clear Q0 E0 E1 E2 G0
      have hx1 := hx1.later hb2
      have hx2 := hx2.later hb2
      have hx3 := hx3.later hb2
      have hkg := hkg.later hb2
      have hkp := hkp.later hb2
      have hkr := hkr.later hb2
      have hB2 := hbr.trans (hb2.mono hbr.size)
      have hgl : g < w2.heap.size := hkg.lt
      clear hb2 hbr q0
      go_wp2_with fail
      refine (put35 B m c' (setO kLt (h.ch.take j)) x w2 (by omega) hx1.1.rd HS.out).mono ?_
      rintro e w3 ⟨A1, m1, d1, rfl, ho1, hb3⟩
      rw [← HT.out] at ho1
      have hz0 := HZ0.out
      have hz2 := HZ2.out
      have y4 := L4.out
      have y5 := L5.out
      have hm1 : m1 ≤ j + 1 := by rw [← ho1.1]; exact Nat.le_trans (len_setO _) (by rw [List.length_take]; omega)
      have f0 := (hkg.later hb3).frozen 0
      have f0' := (hkg.later hb3).at 0 (v := .slice B m c') rfl
      obtain ⟨T1, hT1, hkT, hgT, hsT⟩ := stored (hkg.later hb3) 0 (.slice A1 m1 d1) (cs' := #[.slice A1 m1 d1, .slice A2 m2 d2, .int .i64 h.fr, .int .i64 h.til, .string h.mode, .bool h.st, .slice A3 m3 d3]) (by simp)
      have hz4 := hb3.size
      have ho1x : OwX w3 W2.heap.size g 32 EK (.slice A1 m1 d1) m1 (setO kLt (h.ch.take (j + 1))) := ho1.x (by omega) (fun k h1 h2 => by omega)
      have hx1 := ho1x.grown hgT
      have hx2 := (hx2.later hb3).grown hgT
      have hx3 := (hx3.later hb3).grown hgT
      have hkp := (hkp.later hb3).grown hgT (by omega)
      have hkr := (hkr.later hb3).grown hgT (by omega)
      have hB3 := Below.grow (hB2.trans (hb3.mono hB2.size)) hgT (by have := hB2.size; omega) (by omega)
      clear hz0 hz2 y4 y5 ho1 ho1x hb3 hkg hgT hsT hz4 hB2 hgl
      go_wp2
      go_roundw
      case rel => exact ⟨j + 1, m1, d1, A1, by omega, hm1, by go_num, hkT, hx1, hx2, hx3, hkp, hkr, hB3⟩
      case measure => simp [intOf]; omega
    · have hE : setO kLt (h.ch.take j) = setO kLt h.ch := by rw [List.take_of_length_le (by rw [hr.r1.1]; omega)]
      rw [hE] at hx1
      clear hE
      have hz0 := HZ0.out
      have hz2 := HZ2.out
      have HX1 := Lib.hid (show (Value.slice B m c').ownBlock ≠ some W.heap.size from fun e => by have := (hx1.1.lt _ e).1; omega)
      have HX2 := Lib.hid (show (Value.slice A2 m2 d2).ownBlock ≠ some W.heap.size from fun e => by have := (hx2.1.lt _ e).1; omega)
      have HX3 := Lib.hid (show (Value.slice A3 m3 d3).ownBlock ≠ some W.heap.size from fun e => by have := (hx3.1.lt _ e).1; omega)
      clear hz0 hz2
      have q2 := hkp.at 2 (v := .int .i64 h.fr) rfl
      have q3 := hkp.at 3 (v := .int .i64 h.til) rfl
      by_cases hw : h.fr < 0 ∨ h.til < h.fr ∨ 1073741824 < h.til
      · have HW := Lib.hid (show win h.fr h.til = (-1, -1) by unfold win; rw [if_pos hw])
        have y4 := L4.out
        have y5 := L5.out
        obtain ⟨T1, hT1, hk1, hg1, hs1⟩ := stored hkg 2 (.int .i64 (-1)) (cs' := #[.slice B m c', .slice A2 m2 d2, .int .i64 (-1), .int .i64 h.til, .string h.mode, .bool h.st, .slice A3 m3 d3]) (by simp)
        obtain ⟨T2, hT2, hk2, hg2, hs2⟩ := stored hk1 3 (.int .i64 (-1)) (cs' := #[.slice B m c', .slice A2 m2 d2, .int .i64 (-1), .int .i64 (-1), .string h.mode, .bool h.st, .slice A3 m3 d3]) (by simp)
        have f0 := hkg.frozen 2
        have f0' := hkg.at 2 (v := .int .i64 h.fr) rfl
        have f1 := hk1.frozen 3
        have f1' := hk1.at 3 (v := .int .i64 h.til) rfl
        have hkr2 := (hkr.grown hg1 (by omega)).grown hg2 (by omega)
        have hb2 := Below.grow (Below.grow hbr hg1 (by have := hbr.size; omega) (by omega)) hg2 (by have := hbr.size; omega) (by omega)
        have x1 := (hx1.grown hg1).grown hg2
        have x2 := (hx2.grown hg1).grown hg2
        have x3 := (hx3.grown hg1).grown hg2
        clear y4 y5
        obtain ⟨T6, hT6, hk6, hg6, hs6⟩ := stored7 hkr2 (.slice B m c') (.slice A2 m2 d2) (.int .i64 (-1)) (.int .i64 (-1)) (.string h.mode) (.bool h.st) (.slice A3 m3 d3)
        have c0 := hk2.at 0 (v := .slice B m c') rfl
        have c1 := hk2.at 1 (v := .slice A2 m2 d2) rfl
        have c2 := hk2.at 2 (v := .int .i64 (-1)) rfl
        have c3 := hk2.at 3 (v := .int .i64 (-1)) rfl
        have c4 := hk2.at 4 (v := .string h.mode) rfl
        have c5 := hk2.at 5 (v := .bool h.st) rfl
        have c6 := hk2.at 6 (v := .slice A3 m3 d3) rfl
        have g0 := hkr2.frozen 0
        have g1 := hkr2.frozen 1
        have g2 := hkr2.frozen 2
        have g3 := hkr2.frozen 3
        have g4 := hkr2.frozen 4
        have g5 := hkr2.frozen 5
        have g6 := hkr2.frozen 6
        have e0 := hkr2.at 0 (v := .slice none 0 0) rfl
        have e1 := hkr2.at 1 (v := .slice none 0 0) rfl
        have e2 := hkr2.at 2 (v := .int .i64 0) rfl
        have e3 := hkr2.at 3 (v := .int .i64 0) rfl
        have e4 := hkr2.at 4 (v := .string ⟨#[]⟩) rfl
        have e5 := hkr2.at 5 (v := .bool false) rfl
        have e6 := hkr2.at 6 (v := .slice none 0 0) rfl
        have y4 := L4.out
        have y5 := L5.out
        have hBy := Below.grow hb2 hg6 (by have := hb2.size; omega) (by omega)
        have o1 := (x1).1.kept hg6 (.inr (fun e => HX1.out e))
        have o2 := (x2).1.kept hg6 (.inr (fun e => HX2.out e))
        have o3 := (x3).1.kept hg6 (.inr (fun e => HX3.out e))
        clear y4 y5 hx1 hx2 hx3 x1 x2 x3 hb2 hbr hkr hkr2 hkg hkp hk1 hk2 hg1 hg2 hg6 hs1 hs2 hs6
        have h' : h.fr < 0 ∨ (¬ h.fr < 0 ∧ h.til < h.fr) ∨ (¬ h.fr < 0 ∧ ¬ h.til < h.fr ∧ 1073741824 < h.til) := by omega
        clear hw
        rcases h' with h1 | ⟨h1, h2⟩ | ⟨h1, h2, h3⟩
        all_goals
          go_wp2
          refine bodyPost_ret (results_cell_row rfl _ _ W.heap.size 26 _ (0, 0) _ rfl hk6 Try.underlying26 rfl size26) rfl ?_
          exact ⟨⟨B, m, c', A2, m2, d2, A3, m3, d3⟩, by unfold norm; rw [HW.out], ⟨o1.rebase HZL.out, o2.rebase HZL.out, o3.rebase HZL.out⟩, hBy⟩
      · obtain ⟨h1, h2, h3⟩ : ¬ h.fr < 0 ∧ ¬ h.til < h.fr ∧ ¬ 1073741824 < h.til := by omega
        by_cases h4 : h.fr < h.til - 1440
        · have HW := Lib.hid (show win h.fr h.til = (h.til - 1440, h.til) by unfold win; rw [if_neg hw, Int.max_def, if_pos (by omega)])
          have y4 := L4.out
          have y5 := L5.out
          obtain ⟨T2, hT2, hk2, hg2, hs2⟩ := stored hkg 2 (.int .i64 (h.til - 1440)) (cs' := #[.slice B m c', .slice A2 m2 d2, .int .i64 (h.til - 1440), .int .i64 h.til, .string h.mode, .bool h.st, .slice A3 m3 d3]) (by simp)
          have f0 := hkg.frozen 2
          have f0' := hkg.at 2 (v := .int .i64 h.fr) rfl
          have hkr2 := hkr.grown hg2 (by omega)
          have hb2 := Below.grow hbr hg2 (by have := hbr.size; omega) (by omega)
          have x1 := hx1.grown hg2
          have x2 := hx2.grown hg2
          have x3 := hx3.grown hg2
          clear y4 y5
          obtain ⟨T6, hT6, hk6, hg6, hs6⟩ := stored7 hkr2 (.slice B m c') (.slice A2 m2 d2) (.int .i64 (h.til - 1440)) (.int .i64 h.til) (.string h.mode) (.bool h.st) (.slice A3 m3 d3)
          have c0 := hk2.at 0 (v := .slice B m c') rfl
          have c1 := hk2.at 1 (v := .slice A2 m2 d2) rfl
          have c2 := hk2.at 2 (v := .int .i64 (h.til - 1440)) rfl
          have c3 := hk2.at 3 (v := .int .i64 h.til) rfl
          have c4 := hk2.at 4 (v := .string h.mode) rfl
          have c5 := hk2.at 5 (v := .bool h.st) rfl
          have c6 := hk2.at 6 (v := .slice A3 m3 d3) rfl
          have g0 := hkr2.frozen 0
          have g1 := hkr2.frozen 1
          have g2 := hkr2.frozen 2
          have g3 := hkr2.frozen 3
          have g4 := hkr2.frozen 4
          have g5 := hkr2.frozen 5
          have g6 := hkr2.frozen 6
          have e0 := hkr2.at 0 (v := .slice none 0 0) rfl
          have e1 := hkr2.at 1 (v := .slice none 0 0) rfl
          have e2 := hkr2.at 2 (v := .int .i64 0) rfl
          have e3 := hkr2.at 3 (v := .int .i64 0) rfl
          have e4 := hkr2.at 4 (v := .string ⟨#[]⟩) rfl
          have e5 := hkr2.at 5 (v := .bool false) rfl
          have e6 := hkr2.at 6 (v := .slice none 0 0) rfl
          have y4 := L4.out
          have y5 := L5.out
          have hBy := Below.grow hb2 hg6 (by have := hb2.size; omega) (by omega)
          have o1 := (x1).1.kept hg6 (.inr (fun e => HX1.out e))
          have o2 := (x2).1.kept hg6 (.inr (fun e => HX2.out e))
          have o3 := (x3).1.kept hg6 (.inr (fun e => HX3.out e))
          clear y4 y5 hx1 hx2 hx3 x1 x2 x3 hb2 hbr hkr hkr2 hkg hkp hk2 hg2 hg6 hs2 hs6 hw
          go_wp2
          refine bodyPost_ret (results_cell_row rfl _ _ W.heap.size 26 _ (0, 0) _ rfl hk6 Try.underlying26 rfl size26) rfl ?_
          exact ⟨⟨B, m, c', A2, m2, d2, A3, m3, d3⟩, by unfold norm; rw [HW.out], ⟨o1.rebase HZL.out, o2.rebase HZL.out, o3.rebase HZL.out⟩, hBy⟩
        · have HW := Lib.hid (show win h.fr h.til = (h.fr, h.til) by unfold win; rw [if_neg hw, Int.max_eq_left (by omega)])
          obtain ⟨T6, hT6, hk6, hg6, hs6⟩ := stored7 hkr (.slice B m c') (.slice A2 m2 d2) (.int .i64 h.fr) (.int .i64 h.til) (.string h.mode) (.bool h.st) (.slice A3 m3 d3)
          have c0 := hkg.at 0 (v := .slice B m c') rfl
          have c1 := hkg.at 1 (v := .slice A2 m2 d2) rfl
          have c2 := hkg.at 2 (v := .int .i64 h.fr) rfl
          have c3 := hkg.at 3 (v := .int .i64 h.til) rfl
          have c4 := hkg.at 4 (v := .string h.mode) rfl
          have c5 := hkg.at 5 (v := .bool h.st) rfl
          have c6 := hkg.at 6 (v := .slice A3 m3 d3) rfl
          have g0 := hkr.frozen 0
          have g1 := hkr.frozen 1
          have g2 := hkr.frozen 2
          have g3 := hkr.frozen 3
          have g4 := hkr.frozen 4
          have g5 := hkr.frozen 5
          have g6 := hkr.frozen 6
          have e0 := hkr.at 0 (v := .slice none 0 0) rfl
          have e1 := hkr.at 1 (v := .slice none 0 0) rfl
          have e2 := hkr.at 2 (v := .int .i64 0) rfl
          have e3 := hkr.at 3 (v := .int .i64 0) rfl
          have e4 := hkr.at 4 (v := .string ⟨#[]⟩) rfl
          have e5 := hkr.at 5 (v := .bool false) rfl
          have e6 := hkr.at 6 (v := .slice none 0 0) rfl
          have y4 := L4.out
          have y5 := L5.out
          have hBy := Below.grow hbr hg6 (by have := hbr.size; omega) (by omega)
          have o1 := (hx1).1.kept hg6 (.inr (fun e => HX1.out e))
          have o2 := (hx2).1.kept hg6 (.inr (fun e => HX2.out e))
          have o3 := (hx3).1.kept hg6 (.inr (fun e => HX3.out e))
          clear y4 y5 hx1 hx2 hx3 hbr hkr hkg hkp hg6 hs6 hw
          go_wp2
          refine bodyPost_ret (results_cell_row rfl _ _ W.heap.size 26 _ (0, 0) _ rfl hk6 Try.underlying26 rfl size26) rfl ?_
          exact ⟨⟨B, m, c', A2, m2, d2, A3, m3, d3⟩, by unfold norm; rw [HW.out], ⟨o1.rebase HZL.out, o2.rebase HZL.out, o3.rebase HZL.out⟩, hBy⟩
end Go.Proofs.Ytkdnkieecchobaa
