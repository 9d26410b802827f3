/- Happenings: how they lie in memory; great; Norm. -/
import Derived.Test.YtkdnkieecchobaaWi
import Derived.Test.YtkdnkieecchobaaWh
import Derived.Test.YtkdnkieecchobaaWf
import Derived.Test.YtkdnkieecchobaaWd
import Derived.Test.YtkdnkieecchobaaWc
namespace Go.Proofs.Ytkdnkieecchobaa
open Go.RowKit Go.BigFrame
set_option linter.unusedVariables false

structure Hap where
  ch : List Ky
  ev : List Ky
  fr : Int
  til : Int
  mode : ByteArray
  st : Bool
  held : List ByteArray
/-- the three slices of a happening -/
structure Hc where
  A1 : Option Addr
  n1 : Nat
  c1 : Nat
  A2 : Option Addr
  n2 : Nat
  c2 : Nat
  A3 : Option Addr
  n3 : Nat
  c3 : Nat
abbrev hpC (c : Hc) (h : Hap) : Array Value := #[.slice c.A1 c.n1 c.c1, .slice c.A2 c.n2 c.c2, .int .i64 h.fr, .int .i64 h.til, .string h.mode, .bool h.st, .slice c.A3 c.n3 c.c3]
abbrev hpV (c : Hc) (h : Hap) : Value := .agg (hpC c h)
structure HRd (w : World) (c : Hc) (h : Hap) : Prop where
  r1 : Rd w EK c.A1 c.n1 h.ch
  r2 : Rd w EK c.A2 c.n2 h.ev
  r3 : Rd w ET c.A3 c.n3 h.held
theorem HRd.later {w w' : World} {c : Hc} {h : Hap} (r : HRd w c h) (hb : Below w.heap.size w w') : HRd w' c h := ⟨r.r1.later hb, r.r2.later hb, r.r3.later hb⟩
/-- the lists are the call's own, from block base on -/
structure HOw (w : World) (base : Nat) (c : Hc) (h : Hap) : Prop where
  o1 : Ow w base 32 EK (.slice c.A1 c.n1 c.c1) c.n1 h.ch
  o2 : Ow w base 34 EK (.slice c.A2 c.n2 c.c2) c.n2 h.ev
  o3 : Ow w base 9 ET (.slice c.A3 c.n3 c.c3) c.n3 h.held
theorem HOw.rd {w : World} {base : Nat} {c : Hc} {h : Hap} (o : HOw w base c h) : HRd w c h := ⟨o.o1.rd, o.o2.rd, o.o3.rd⟩
def HEnd (w : World) (h : Hap) (en : Ending) (w' : World) : Prop :=
  ∃ c : Hc, en = .returned (hpV c h) ∧ HOw w' w.heap.size c h ∧ Below w.heap.size w w'
def norm (h : Hap) : Hap := ⟨setO kLt h.ch, setO kLt h.ev, (win h.fr h.til).1, (win h.fr h.til).2, h.mode, h.st, setO sLt h.held⟩
theorem info26 : (Try.prog.info? 26).map (fun i => (i.zero, i.size, i.bytes)) = some (some (.agg #[.slice none 0 0, .slice none 0 0, .int .i64 0, .int .i64 0, .string .empty, .bool false, .slice none 0 0]), 7, 112) := by kernel_rfl


theorem grown_setCell (w : World) (p : Addr) (u : Value) : w.grownBy (w.setCell p u) (some p.block) :=
  ⟨rfl, rfl, rfl, by simp [World.setCell], fun k _ hne => Below.heap_setCell _ _ _ _ (fun e => hne (by rw [e]))⟩
theorem Ow.far {α : Type} {w : World} {base : Nat} {e : TypeId} {E : Enc α} {v : Value} {n : Nat} {l : List α} (h : Ow w base e E v n l) {p : Addr} (hp : p.block < base) (u : Value) : Ow (w.setCell p u) base e E v n l := by
  refine h.kept (grown_setCell w p u) ?_
  cases hv : v.ownBlock with
  | none => exact .inl rfl
  | some k => exact .inr (fun e => by have := (h.lt k hv).1; cases e; omega)
/-- a cell of a known block is written: the world under one name -/
theorem stored {w : World} {g : Nat} {t : TypeId} {cs : Array Value} (h : Blk w g t cs) (i : Nat) (u : Value) {cs' : Array Value} (hc : cs.setIfInBounds i u = cs') :
    ∃ W, w.setCell ⟨g, i, none⟩ u = W ∧ Blk W g t cs' ∧ w.grownBy W (some g) ∧ W.heap.size = w.heap.size :=
  ⟨_, rfl, hc ▸ h.set_ i u, grown_setCell _ _ _, by simp [World.setCell]⟩
theorem _root_.Go.World.grownBy.tr {w w' w'' : World} {r : Option Nat} (h : w.grownBy w' r) (h' : w'.grownBy w'' r) : w.grownBy w'' r :=
  ⟨h'.os.trans h.os, h'.tape.trans h.tape, h'.output.trans h.output, Nat.le_trans h.size h'.size, fun k hk hne => (h'.block k (Nat.lt_of_lt_of_le hk h.size) hne).trans (h.block k hk hne)⟩
/-- a struct of seven cells is written whole -/
theorem stored7 {w : World} {g : Nat} {t : TypeId} {a0 a1 a2 a3 a4 a5 a6 : Value} (h : Blk w g t #[a0, a1, a2, a3, a4, a5, a6]) (b0 b1 b2 b3 b4 b5 b6 : Value) :
    ∃ W, (((((((w.setCell ⟨g, 0, none⟩ b0).setCell ⟨g, 1, none⟩ b1).setCell ⟨g, 2, none⟩ b2).setCell ⟨g, 3, none⟩ b3).setCell ⟨g, 4, none⟩ b4).setCell ⟨g, 5, none⟩ b5).setCell ⟨g, 6, none⟩ b6) = W ∧ Blk W g t #[b0, b1, b2, b3, b4, b5, b6] ∧ w.grownBy W (some g) ∧ W.heap.size = w.heap.size := by
  obtain ⟨W0, rfl, k0, g0, z0⟩ := stored h 0 b0 (cs' := #[b0, a1, a2, a3, a4, a5, a6]) (by simp)
  obtain ⟨W1, rfl, k1, g1, z1⟩ := stored k0 1 b1 (cs' := #[b0, b1, a2, a3, a4, a5, a6]) (by simp)
  obtain ⟨W2, rfl, k2, g2, z2⟩ := stored k1 2 b2 (cs' := #[b0, b1, b2, a3, a4, a5, a6]) (by simp)
  obtain ⟨W3, rfl, k3, g3, z3⟩ := stored k2 3 b3 (cs' := #[b0, b1, b2, b3, a4, a5, a6]) (by simp)
  obtain ⟨W4, rfl, k4, g4, z4⟩ := stored k3 4 b4 (cs' := #[b0, b1, b2, b3, b4, a5, a6]) (by simp)
  obtain ⟨W5, rfl, k5, g5, z5⟩ := stored k4 5 b5 (cs' := #[b0, b1, b2, b3, b4, b5, a6]) (by simp)
  obtain ⟨W6, rfl, k6, g6, z6⟩ := stored k5 6 b6 (cs' := #[b0, b1, b2, b3, b4, b5, b6]) (by simp)
  exact ⟨_, rfl, k6, (((((g0.tr g1).tr g2).tr g3).tr g4).tr g5).tr g6, by rw [z6, z5, z4, z3, z2, z1, z0]⟩
theorem Blk.grown {w w' : World} {g g' : Nat} {t : TypeId} {cs : Array Value} (h : Blk w g t cs) (hg : w.grownBy w' (some g')) (hne : g ≠ g') : Blk w' g t cs :=
  (hg.block g h.lt (fun e => hne (by cases e; rfl))).trans h
theorem Ow.grown {α : Type} {w w' : World} {base g' : Nat} {e : TypeId} {E : Enc α} {v : Value} {n : Nat} {l : List α} (h : Ow w base e E v n l) (hg : w.grownBy w' (some g')) (hp : g' < base) : Ow w' base e E v n l := by
  refine h.kept hg ?_
  cases hv : v.ownBlock with
  | none => exact .inl rfl
  | some k => exact .inr (fun e => by have := (h.lt k hv).1; cases e; omega)
theorem Below.grow {B g' : Nat} {w0 w w' : World} (hb : Below B w0 w) (hg : w.grownBy w' (some g')) (hB : B ≤ w.heap.size) (hp : B ≤ g') : Below B w0 w' :=
  hb.grown hg hB (fun k hk => by cases hk; exact hp)
/-- boxed, with the size -/
theorem boxeds (w : World) (cs : Array Value) (t : TypeId) :
    ∃ W, w.alloc (.cells cs t) = W ∧ Below w.heap.size w W ∧ W.heap.size = w.heap.size + 1 ∧ Blk W w.heap.size t cs :=
  ⟨_, rfl, (Below.refl _ _).alloc (Nat.le_refl _) _, by simp, Blk.new _ _ _⟩

def greatB (c : Hc) : Bool := decide (100 < c.n1 ∨ 100 < c.n2 ∨ 100 < c.n3)
set_option maxHeartbeats 1000000 in
theorem great10 (c : Hc) (h : Hap) (w : World) :
    Calls Try.prog 10 #[hpV c h] w fun e w' => e = .returned (.bool (greatB c)) ∧ Below w.heap.size w w' := by
  obtain ⟨W, hW, hB, hz, hk⟩ := boxed w (hpC c h) 26
  have h0 := hk.at 0 (v := .slice c.A1 c.n1 c.c1) rfl
  have h1 := hk.at 1 (v := .slice c.A2 c.n2 c.c2) rfl
  have h6 := hk.at 6 (v := .slice c.A3 c.n3 c.c3) rfl
  by_cases g1 : 100 < c.n1
  · have HR := Lib.hid (show greatB c = true from decide_eq_true (.inl g1))
    go_enter Try.func10, Try.ntmps10
    go_wp2
    go_ret
    exact ⟨by rw [HR.out]; rfl, hB⟩
  · by_cases g2 : 100 < c.n2
    · have HR := Lib.hid (show greatB c = true from decide_eq_true (.inr (.inl g2)))
      go_enter Try.func10, Try.ntmps10
      go_wp2
      go_ret
      exact ⟨by rw [HR.out]; rfl, hB⟩
    · by_cases g3 : 100 < c.n3
      · have HR := Lib.hid (show (decide (100 < (c.n1 : Int)) || decide (100 < (c.n2 : Int)) || decide (100 < (c.n3 : Int))) = greatB c by
          rw [show greatB c = true from decide_eq_true (.inr (.inr g3)), decide_eq_true (show 100 < (c.n3 : Int) by omega), Bool.or_true])
        clear g3
        go_enter Try.func10, Try.ntmps10
        go_wp2
        go_ret
        exact ⟨congrArg (fun b => Ending.returned (.bool b)) HR.out, hB⟩
      · have HR := Lib.hid (show (decide (100 < (c.n1 : Int)) || decide (100 < (c.n2 : Int)) || decide (100 < (c.n3 : Int))) = greatB c by
          rw [show greatB c = false from decide_eq_false (by omega), decide_eq_false (by omega), decide_eq_false (by omega), decide_eq_false (by omega)]; rfl)
        go_enter Try.func10, Try.ntmps10
        go_wp2
        go_ret
        exact ⟨congrArg (fun b => Ending.returned (.bool b)) HR.out, hB⟩
theorem size26 : (Try.prog.info? 26).map (fun i => i.size) = some 7 := by kernel_rfl
set_option maxRecDepth 20000 in
set_option maxHeartbeats 8000000 in
theorem norm12 (c : Hc) (h : Hap) (w : World) (hr : HRd w c h) (b1 : c.n1 ≤ 200) (b2 : c.n2 ≤ 200) (b3 : c.n3 ≤ 200) :
    Calls Try.prog 12 #[hpV c h] w (HEnd w (norm h)) := by
  obtain ⟨W, hW, hB, hz, hk⟩ := boxeds w (hpC c h) 26
  obtain ⟨W2, hW2, hB2, hz2, hk2⟩ := boxeds W #[.slice none 0 0, .slice none 0 0, .int .i64 0, .int .i64 0, .string ⟨#[]⟩, .bool false, .slice none 0 0] 26
  have HZ0 := Lib.hid hz
  have HZ2 := Lib.hid hz2
  have hkp2 := hk.later hB2
  have h0 := hkp2.at 0 (v := .slice c.A1 c.n1 c.c1) rfl
  have h4 := hkp2.at 4 (v := .string h.mode) rfl
  have h5 := hkp2.at 5 (v := .bool h.st) rfl
  have l1 : w.heap.size < W.heap.size := by omega
  have l2 : w.heap.size < W2.heap.size := by omega
  have l3 : W.heap.size < W2.heap.size := by omega
  clear hz hz2
  go_enter Try.func12, Try.ntmps12
  go_wp2_with fail
  clear h0 h4 h5
  obtain ⟨W3, hW3, hB3, hz3, hk3⟩ := boxeds W2 #[.slice none 0 0, .slice none 0 0, .int .i64 0, .int .i64 0, .string h.mode, .bool h.st, .slice none 0 0] 26
  rw [hW3]
  have hz := HZ0.out
  have hz2 := HZ2.out
  have hkp := hkp2.later hB3
  have hkr := hk2.later hB3
  have hBx := (hB.trans (hB2.mono (by omega))).trans (hB3.mono (by omega))
  clear hkp2 hk hk2
  -- first list
  refine (set25 c.A1 c.n1 c.c1 h.ch W3 b1 (hr.r1.later hBx)).mono ?_
  rintro e w1 ⟨A1, m1, d1, rfl, ho1, hb1⟩
  obtain ⟨T1, hT1, hk1, hg1, hs1⟩ := stored (hk3.later hb1) 0 (.slice A1 m1 d1) (cs' := #[.slice A1 m1 d1, .slice none 0 0, .int .i64 0, .int .i64 0, .string h.mode, .bool h.st, .slice none 0 0]) (by simp)
  have q1 : Blk T1 w.heap.size 26 (hpC c h) := (hkp.later hb1).grown hg1 (by omega)
  have q2 := (hkr.later hb1).grown hg1 (by omega)
  have hBy := Below.grow (hBx.trans (hb1.mono (by omega))) hg1 (by have := hb1.size; omega) (by omega)
  have hO1 := (ho1.grown hg1 (by omega)).rebase (base' := w.heap.size + 3) (by omega)
  have f1 := (hk3.later hb1).frozen 0
  have f1' := (hk3.later hb1).at 0 (v := .slice none 0 0) rfl
  have h1 := q1.at 1 (v := .slice c.A2 c.n2 c.c2) rfl
  have z1 : w.heap.size + 3 ≤ T1.heap.size := by have := hb1.size; omega
  have HZ1 := Lib.hid z1
  have Z2 := Lib.hid (show W2.heap.size = w.heap.size + 2 by omega)
  have Z1 := Lib.hid (show W.heap.size = w.heap.size + 1 by omega)
  clear hz hz2 hz3 hs1 z1 ho1 hb1 hg1 hk3 hkp hkr HZ0 HZ2
  go_wp2_with fail
  clear f1 f1' h1 hT1 hBx
  refine (set27 c.A2 c.n2 c.c2 h.ev T1 b2 (hr.r2.later hBy)).mono ?_
  rintro e w2 ⟨A2, m2, d2, rfl, ho2, hb2⟩
  obtain ⟨T2, hT2, hk2, hg2, hs2⟩ := stored (hk1.later hb2) 1 (.slice A2 m2 d2) (cs' := #[.slice A1 m1 d1, .slice A2 m2 d2, .int .i64 0, .int .i64 0, .string h.mode, .bool h.st, .slice none 0 0]) (by simp)
  have y0 := HZ1.out
  have y1 := Z1.out
  have y2 := Z2.out
  have q1 : Blk T2 w.heap.size 26 (hpC c h) := (q1.later hb2).grown hg2 (by omega)
  have q2 := (q2.later hb2).grown hg2 (by omega)
  have hBy := Below.grow (hBy.trans (hb2.mono (by omega))) hg2 (by have := hb2.size; omega) (by omega)
  have hO1 := (hO1.later hb2).grown hg2 (by omega)
  have hO2 := (ho2.grown hg2 (by omega)).rebase (base' := w.heap.size + 3) (by omega)
  have f1 := (hk1.later hb2).frozen 1
  have f1' := (hk1.later hb2).at 1 (v := .slice none 0 0) rfl
  have h1 := q1.at 6 (v := .slice c.A3 c.n3 c.c3) rfl
  have z1 : w.heap.size + 3 ≤ T2.heap.size := by have := hb2.size; omega
  have HZ1 := Lib.hid z1
  clear y0 y1 y2 z1 hs2 ho2 hb2 hg2 hk1
  go_wp2_with fail
  clear f1 f1' h1 hT2
  refine (set29 c.A3 c.n3 c.c3 h.held T2 b3 (hr.r3.later hBy)).mono ?_
  rintro e w3 ⟨A3, m3, d3, rfl, ho3, hb3⟩
  obtain ⟨T3, hT3, hk3, hg3, hs3⟩ := stored (hk2.later hb3) 6 (.slice A3 m3 d3) (cs' := #[.slice A1 m1 d1, .slice A2 m2 d2, .int .i64 0, .int .i64 0, .string h.mode, .bool h.st, .slice A3 m3 d3]) (by simp)
  have y0 := HZ1.out
  have y1 := Z1.out
  have y2 := Z2.out
  have q1 : Blk T3 w.heap.size 26 (hpC c h) := (q1.later hb3).grown hg3 (by omega)
  have q2 := (q2.later hb3).grown hg3 (by omega)
  have hBy := Below.grow (hBy.trans (hb3.mono (by omega))) hg3 (by have := hb3.size; omega) (by omega)
  have hO1 := (hO1.later hb3).grown hg3 (by omega)
  have hO2 := (hO2.later hb3).grown hg3 (by omega)
  have hO3 := (ho3.grown hg3 (by omega)).rebase (base' := w.heap.size + 3) (by omega)
  have f1 := (hk2.later hb3).frozen 6
  have f1' := (hk2.later hb3).at 6 (v := .slice none 0 0) rfl
  have h1 := q1.at 2 (v := .int .i64 h.fr) rfl
  have h2 := q1.at 3 (v := .int .i64 h.til) rfl
  have z1 : w.heap.size + 3 ≤ T3.heap.size := by have := hb3.size; omega
  have HZ1 := Lib.hid z1
  clear y0 y1 y2 z1 hs3 ho3 hb3 hg3 hk2
  go_wp2_with fail
  clear f1 f1' h1 h2 hT3
  refine (window31 h.fr h.til T3).mono ?_
  rintro e w4 ⟨rfl, rfl⟩
  obtain ⟨T4, hT4, hk4, hg4, hs4⟩ := stored hk3 2 (.int .i64 (win h.fr h.til).1) (cs' := #[.slice A1 m1 d1, .slice A2 m2 d2, .int .i64 (win h.fr h.til).1, .int .i64 0, .string h.mode, .bool h.st, .slice A3 m3 d3]) (by simp)
  obtain ⟨T5, hT5, hk5, hg5, hs5⟩ := stored hk4 3 (.int .i64 (win h.fr h.til).2) (cs' := #[.slice A1 m1 d1, .slice A2 m2 d2, .int .i64 (win h.fr h.til).1, .int .i64 (win h.fr h.til).2, .string h.mode, .bool h.st, .slice A3 m3 d3]) (by simp)
  have y0 := HZ1.out
  have y1 := Z1.out
  have y2 := Z2.out
  have r2 := (q2.grown hg4 (by omega)).grown hg5 (by omega)
  obtain ⟨T6, hT6, hk6, hg6, hs6⟩ := stored7 r2 (.slice A1 m1 d1) (.slice A2 m2 d2) (.int .i64 (win h.fr h.til).1) (.int .i64 (win h.fr h.til).2) (.string h.mode) (.bool h.st) (.slice A3 m3 d3)
  have hBy := Below.grow (Below.grow (Below.grow hBy hg4 (by omega) (by omega)) hg5 (by omega) (by omega)) hg6 (by omega) (by omega)
  have hO1 := ((hO1.grown hg4 (by omega)).grown hg5 (by omega)).grown hg6 (by omega)
  have hO2 := ((hO2.grown hg4 (by omega)).grown hg5 (by omega)).grown hg6 (by omega)
  have hO3 := ((hO3.grown hg4 (by omega)).grown hg5 (by omega)).grown hg6 (by omega)
  have f4 := hk3.frozen 2
  have f5 := hk4.frozen 3
  have f4' := hk3.at 2 (v := .int .i64 0) rfl
  have f5' := hk4.at 3 (v := .int .i64 0) rfl
  have c0 := hk5.at 0 (v := .slice A1 m1 d1) rfl
  have c1 := hk5.at 1 (v := .slice A2 m2 d2) rfl
  have c2 := hk5.at 2 (v := .int .i64 (win h.fr h.til).1) rfl
  have c3 := hk5.at 3 (v := .int .i64 (win h.fr h.til).2) rfl
  have c4 := hk5.at 4 (v := .string h.mode) rfl
  have c5 := hk5.at 5 (v := .bool h.st) rfl
  have c6 := hk5.at 6 (v := .slice A3 m3 d3) rfl
  have g0 := r2.frozen 0
  have g1 := r2.frozen 1
  have g2 := r2.frozen 2
  have g3 := r2.frozen 3
  have g4 := r2.frozen 4
  have g5 := r2.frozen 5
  have g6 := r2.frozen 6
  have e0 := r2.at 0 (v := .slice none 0 0) rfl
  have e1 := r2.at 1 (v := .slice none 0 0) rfl
  have e2 := r2.at 2 (v := .int .i64 0) rfl
  have e3 := r2.at 3 (v := .int .i64 0) rfl
  have e4 := r2.at 4 (v := .string ⟨#[]⟩) rfl
  have e5 := r2.at 5 (v := .bool false) rfl
  have e6 := r2.at 6 (v := .slice none 0 0) rfl
  clear y0 y1 y2 hs4 hs5 hs6 hg4 hg5 hg6 hk3 hk4 hk5 q1 q2 r2
  go_wp2
  refine bodyPost_ret (results_cell_row rfl _ _ W.heap.size 26 _ (0, 0) _ rfl hk6 Try.underlying26 rfl size26) rfl ?_
  exact ⟨⟨A1, m1, d1, A2, m2, d2, A3, m3, d3⟩, rfl, ⟨hO1.rebase (by omega), hO2.rebase (by omega), hO3.rebase (by omega)⟩, hBy⟩
end Go.Proofs.Ytkdnkieecchobaa
