/- The region of Merge that makes the normal forms of both happenings, in any order. -/
import Derived.Test.YtkdnkieecchobaaHb
import Derived.Laws.Tables
namespace Go.Proofs.Ytkdnkieecchobaa
open Go.RowKit Go.BigFrame
set_option linter.unusedVariables false

theorem wpAny_head {P : Program} {md : Region.Mode} {ops : Array Oper} {Q : Exit → Act → World → Prop} {g : Nat} {J : Nat → Array Bool → Act → World → Prop}
    (hstep : ∀ f listed a w, J (f + 1) listed a w → Region.ready md ops listed ≠ [] ∧ ∀ i ∈ Region.ready md ops listed, wpOp P ops Q i (fun a' w' => J f (listed.setIfInBounds i true) a' w') a w)
    (hend : ∀ listed a w, J 0 listed a w → wpAny P md ops Q g listed a w) : ∀ (f : Nat) (listed : Array Bool) (a : Act) (w : World), J f listed a w → wpAny P md ops Q (f + g) listed a w
  | 0, listed, a, w, h => by rw [Nat.zero_add]; exact hend _ _ _ h
  | f + 1, listed, a, w, h => by
    rw [show f + 1 + g = (f + g) + 1 by omega]
    have hs := hstep f listed a w h
    exact ⟨fun h0 => absurd h0 hs.1, fun i hi => wpOp_mono (fun a' w' h' => wpAny_head hstep hend f _ a' w' h') (hs.2 i hi)⟩
theorem wpOp_at {P : Program} {ops : Array Oper} {Q : Exit → Act → World → Prop} {i : Nat} {K : Act → World → Prop} {a : Act} {w : World} {o : Oper} (ho : ops[i]? = some o) (hg : o.guard = none) (h : o.wp P a w K Q) : wpOp P ops Q i K a w := by
  unfold wpOp
  rw [ho]
  have hw : Region.wanted o (yielded ops a.tmps) = true := by simp [Region.wanted, hg]
  simp only [hw, if_true]
  exact .inl h

/-- no row of the happening lies at the pointer v -/
def offs (c : Hc) (v : Value) : Prop := ∀ g, v = .pointer (some ⟨g, 0, none⟩) → (Value.slice c.A1 c.n1 c.c1).ownBlock ≠ some g ∧ (Value.slice c.A2 c.n2 c.c2).ownBlock ≠ some g ∧ (Value.slice c.A3 c.n3 c.c3).ownBlock ≠ some g
theorem HOw.later {w w' : World} {base : Nat} {c : Hc} {h : Hap} (o : HOw w base c h) (hb : Below w.heap.size w w') : HOw w' base c h := ⟨o.o1.later hb, o.o2.later hb, o.o3.later hb⟩
theorem HOw.rebase {w : World} {base base' : Nat} {c : Hc} {h : Hap} (o : HOw w base c h) (hb : base' ≤ base) : HOw w base' c h := ⟨o.o1.rebase hb, o.o2.rebase hb, o.o3.rebase hb⟩
theorem HOw.grown {w w' : World} {base g : Nat} {c : Hc} {h : Hap} (o : HOw w base c h) (hg : w.grownBy w' (some g)) (hx : offs c (.pointer (some ⟨g, 0, none⟩))) : HOw w' base c h :=
  ⟨o.o1.kept hg (.inr (hx g rfl).1), o.o2.kept hg (.inr (hx g rfl).2.1), o.o3.kept hg (.inr (hx g rfl).2.2)⟩
/-- rows that are younger than v -/
theorem HOw.off {w : World} {base : Nat} {c : Hc} {h : Hap} (o : HOw w base c h) {v : Value} (hv : ∀ g, v = .pointer (some ⟨g, 0, none⟩) → g < base ∨ w.heap.size ≤ g) : offs c v := fun g e => by
  have hg := hv g e
  exact ⟨fun e => by have := o.o1.lt g e; omega, fun e => by have := o.o2.lt g e; omega, fun e => by have := o.o3.lt g e; omega⟩

abbrev zs26 : Array Value := #[.slice none 0 0, .slice none 0 0, .int .i64 0, .int .i64 0, .string ⟨#[]⟩, .bool false, .slice none 0 0]
/-- what holds while the region runs -/
structure MI (W3 : World) (c d : Hc) (h k : Hap) (b0 b1 b2 b3 b4 b5 : Bool) (v5 v6 v8 v9 v10 v11 : Value) (w : World) : Prop where
  hb : Below W3.heap.size W3 w
  e0 : b0 = true → v8 = hpV c h
  e2 : b2 = true → v10 = hpV d k
  d1 : b1 = true → b0 = true
  d3 : b3 = true → b2 = true ∧ b1 = true
  e1 : b1 = true → ∃ cA, v9 = hpV cA (norm h) ∧ HOw w W3.heap.size cA (norm h) ∧ offs cA v5 ∧ offs cA v6
  e3 : b3 = true → ∃ cB, v11 = hpV cB (norm k) ∧ HOw w W3.heap.size cB (norm k) ∧ offs cB v5 ∧ offs cB v6
  e4 : (b4 = false ∧ v5 = undef) ∨ (b4 = true ∧ ∃ g, v5 = .pointer (some ⟨g, 0, none⟩) ∧ W3.heap.size ≤ g ∧ Blk w g 26 zs26)
  e5 : (b5 = false ∧ v6 = undef) ∨ (b5 = true ∧ ∃ g, v6 = .pointer (some ⟨g, 0, none⟩) ∧ W3.heap.size ≤ g ∧ Blk w g 26 zs26)
  e45 : ∀ g, v5 = .pointer (some ⟨g, 0, none⟩) → v6 ≠ .pointer (some ⟨g, 0, none⟩)
section
variable {W3 : World} {c d : Hc} {h k : Hap} {b0 b1 b2 b3 b4 b5 : Bool} {v5 v6 v8 v9 v10 v11 : Value} {w w' : World}
theorem MI.lt5 (m : MI W3 c d h k b0 b1 b2 b3 b4 b5 v5 v6 v8 v9 v10 v11 w) : ∀ g, v5 = .pointer (some ⟨g, 0, none⟩) → g < w.heap.size := fun g e => by
  rcases m.e4 with ⟨_, e'⟩ | ⟨_, g', e', _, hk⟩
  · rw [e'] at e; cases e
  · rw [e'] at e; cases e; exact hk.lt
theorem MI.lt6 (m : MI W3 c d h k b0 b1 b2 b3 b4 b5 v5 v6 v8 v9 v10 v11 w) : ∀ g, v6 = .pointer (some ⟨g, 0, none⟩) → g < w.heap.size := fun g e => by
  rcases m.e5 with ⟨_, e'⟩ | ⟨_, g', e', _, hk⟩
  · rw [e'] at e; cases e
  · rw [e'] at e; cases e; exact hk.lt
theorem MI.later (m : MI W3 c d h k b0 b1 b2 b3 b4 b5 v5 v6 v8 v9 v10 v11 w) (hb : Below w.heap.size w w') : MI W3 c d h k b0 b1 b2 b3 b4 b5 v5 v6 v8 v9 v10 v11 w' where
  hb := m.hb.trans (hb.mono m.hb.size)
  e0 := m.e0
  e2 := m.e2
  d1 := m.d1
  d3 := m.d3
  e1 := fun e => by obtain ⟨cA, x1, x2, x3⟩ := m.e1 e; exact ⟨cA, x1, x2.later hb, x3⟩
  e3 := fun e => by obtain ⟨cA, x1, x2, x3⟩ := m.e3 e; exact ⟨cA, x1, x2.later hb, x3⟩
  e4 := by
    rcases m.e4 with x | ⟨x, g, x1, x2, x3⟩
    · exact .inl x
    · exact .inr ⟨x, g, x1, x2, x3.later hb⟩
  e5 := by
    rcases m.e5 with x | ⟨x, g, x1, x2, x3⟩
    · exact .inl x
    · exact .inr ⟨x, g, x1, x2, x3.later hb⟩
  e45 := m.e45
theorem MI.s0 (m : MI W3 c d h k b0 b1 b2 b3 b4 b5 v5 v6 v8 v9 v10 v11 w) : MI W3 c d h k true b1 b2 b3 b4 b5 v5 v6 (hpV c h) v9 v10 v11 w :=
  ⟨m.hb, fun _ => rfl, m.e2, fun _ => rfl, m.d3, m.e1, m.e3, m.e4, m.e5, m.e45⟩
theorem MI.s2 (m : MI W3 c d h k b0 b1 b2 b3 b4 b5 v5 v6 v8 v9 v10 v11 w) : MI W3 c d h k b0 b1 true b3 b4 b5 v5 v6 v8 v9 (hpV d k) v11 w :=
  ⟨m.hb, m.e0, fun _ => rfl, m.d1, fun e => ⟨rfl, (m.d3 e).2⟩, m.e1, m.e3, m.e4, m.e5, m.e45⟩
theorem MI.s1 (m : MI W3 c d h k b0 b1 b2 b3 b4 b5 v5 v6 v8 v9 v10 v11 w) {cA : Hc} (e0 : b0 = true) (ho : HOw w' w.heap.size cA (norm h)) (hb : Below w.heap.size w w') : MI W3 c d h k b0 true b2 b3 b4 b5 v5 v6 v8 (hpV cA (norm h)) v10 v11 w' :=
  let n := m.later hb
  ⟨n.hb, n.e0, n.e2, fun _ => e0, fun e => ⟨(m.d3 e).1, rfl⟩, fun _ => ⟨cA, rfl, ho.rebase m.hb.size, ho.off fun g e => .inl (m.lt5 g e), ho.off fun g e => .inl (m.lt6 g e)⟩, n.e3, n.e4, n.e5, n.e45⟩
theorem MI.s3 (m : MI W3 c d h k b0 b1 b2 b3 b4 b5 v5 v6 v8 v9 v10 v11 w) {cA : Hc} (e2 : b2 = true) (e1 : b1 = true) (ho : HOw w' w.heap.size cA (norm k)) (hb : Below w.heap.size w w') : MI W3 c d h k b0 b1 b2 true b4 b5 v5 v6 v8 v9 v10 (hpV cA (norm k)) w' :=
  let n := m.later hb
  ⟨n.hb, n.e0, n.e2, n.d1, fun _ => ⟨e2, e1⟩, n.e1, fun _ => ⟨cA, rfl, ho.rebase m.hb.size, ho.off fun g e => .inl (m.lt5 g e), ho.off fun g e => .inl (m.lt6 g e)⟩, n.e4, n.e5, n.e45⟩
theorem offs_new {w : World} {base : Nat} {c : Hc} {h : Hap} (o : HOw w base c h) : offs c (.pointer (some ⟨w.heap.size, 0, none⟩)) := o.off fun g e => by cases e; exact .inr (Nat.le_refl _)
theorem MI.s4 (m : MI W3 c d h k b0 b1 b2 b3 b4 b5 v5 v6 v8 v9 v10 v11 w) : MI W3 c d h k b0 b1 b2 b3 true b5 (.pointer (some ⟨w.heap.size, 0, none⟩)) v6 v8 v9 v10 v11 (w.alloc (.cells zs26 26)) :=
  let n := m.later ((Below.refl _ _).alloc (Nat.le_refl _) (.cells zs26 26))
  ⟨n.hb, n.e0, n.e2, n.d1, n.d3, fun e => by
      obtain ⟨cA, x1, x2, x3, x4⟩ := n.e1 e
      obtain ⟨cA', y1, y2, y3, y4⟩ := m.e1 e
      obtain rfl : cA = cA' := by rw [x1] at y1; obtain ⟨⟩ := cA; obtain ⟨⟩ := cA'; simp at y1; simp [y1]
      exact ⟨cA, x1, x2, offs_new y2, x4⟩, fun e => by
      obtain ⟨cA, x1, x2, x3, x4⟩ := n.e3 e
      obtain ⟨cA', y1, y2, y3, y4⟩ := m.e3 e
      obtain rfl : cA = cA' := by rw [x1] at y1; obtain ⟨⟩ := cA; obtain ⟨⟩ := cA'; simp at y1; simp [y1]
      exact ⟨cA, x1, x2, offs_new y2, x4⟩, .inr ⟨rfl, _, rfl, m.hb.size, Blk.new _ _ _⟩, n.e5, fun g e e' => by cases e; have := m.lt6 _ e'; omega⟩
theorem MI.s5 (m : MI W3 c d h k b0 b1 b2 b3 b4 b5 v5 v6 v8 v9 v10 v11 w) : MI W3 c d h k b0 b1 b2 b3 b4 true v5 (.pointer (some ⟨w.heap.size, 0, none⟩)) v8 v9 v10 v11 (w.alloc (.cells zs26 26)) :=
  let n := m.later ((Below.refl _ _).alloc (Nat.le_refl _) (.cells zs26 26))
  ⟨n.hb, n.e0, n.e2, n.d1, n.d3, fun e => by
      obtain ⟨cA, x1, x2, x3, x4⟩ := n.e1 e
      obtain ⟨cA', y1, y2, y3, y4⟩ := m.e1 e
      obtain rfl : cA = cA' := by rw [x1] at y1; obtain ⟨⟩ := cA; obtain ⟨⟩ := cA'; simp at y1; simp [y1]
      exact ⟨cA, x1, x2, x3, offs_new y2⟩, fun e => by
      obtain ⟨cA, x1, x2, x3, x4⟩ := n.e3 e
      obtain ⟨cA', y1, y2, y3, y4⟩ := m.e3 e
      obtain rfl : cA = cA' := by rw [x1] at y1; obtain ⟨⟩ := cA; obtain ⟨⟩ := cA'; simp at y1; simp [y1]
      exact ⟨cA, x1, x2, x3, offs_new y2⟩, n.e4, .inr ⟨rfl, _, rfl, m.hb.size, Blk.new _ _ _⟩, fun g e e' => by cases e'; have := m.lt5 _ e; omega⟩
end
/-- what the region leaves -/
def MR (W3 : World) (x y : Hap) (z1 z2 : Value) (wz : World) : Prop :=
  ∃ (g1 g2 : Nat) (cA cB : Hc), z1 = .pointer (some ⟨g1, 0, none⟩) ∧ z2 = .pointer (some ⟨g2, 0, none⟩) ∧ W3.heap.size ≤ g1 ∧ W3.heap.size ≤ g2 ∧ Blk wz g1 26 (hpC cA x) ∧ Blk wz g2 26 (hpC cB y) ∧ HRd wz cA x ∧ HRd wz cB y ∧ Below W3.heap.size W3 wz
theorem Blk.rowed {w : World} {g g' : Nat} {t : TypeId} {cs : Array Value} (h : Blk w g t cs) (cells : Array Value) (hne : g ≠ g') : Blk (w.setRow g' cells) g t cs := h.grown (grown_setRow w g' cells) hne
theorem drop_at (ops : Array Oper) (k j : Nat) : (ops.toList.drop k)[j]? = ops[k + j]? := by rw [List.getElem?_drop, Array.getElem?_toList]
theorem one26 (c : Hc) (h : Hap) : (hpC c h).all (·.oneCell') = true := by simp [hpC, Value.oneCell']
def cnt (b : Bool) : Nat := if b = true then 0 else 1
theorem cnt_z {b : Bool} (h : cnt b = 0) : b = true := by cases b <;> simp [cnt] at h ⊢


abbrev ops17 : Array Oper := #[{ dst := some 8, op := Op.load 26 (Operand.tmp 2), type := 26, pos := "trigger.go:121", after := #[], guard := none },
        { dst := some 9, op := Op.call { callee := Callee.value (Operand.func 12), args := #[Operand.tmp 8], argTypes := #[26] }, type := 26, pos := "trigger.go:121", after := #[{ on := 0, ground := Ground.data }], guard := none },
        { dst := some 10, op := Op.load 26 (Operand.tmp 3), type := 26, pos := "trigger.go:121", after := #[], guard := none },
        { dst := some 11, op := Op.call { callee := Callee.value (Operand.func 12), args := #[Operand.tmp 10], argTypes := #[26] }, type := 26, pos := "trigger.go:121", after := #[{ on := 2, ground := Ground.data }, { on := 1, ground := Ground.chain }], guard := none },
        { dst := some 5, op := Op.alloc 26, type := 0, pos := "trigger.go:121", after := #[], guard := none },
        { dst := some 6, op := Op.alloc 26, type := 0, pos := "trigger.go:121", after := #[], guard := none },
        { dst := none, op := Op.store 26 (Operand.tmp 5) (Operand.tmp 9), type := 0, pos := "trigger.go:121",
          after := #[{ on := 4, ground := Ground.data }, { on := 1, ground := Ground.data }, { on := 3, ground := Ground.chain }, { on := 0, ground := Ground.phase }, { on := 1, ground := Ground.phase }, { on := 2, ground := Ground.textOnly Departure.lateStores }, { on := 3, ground := Ground.textOnly Departure.lateStoresUnsure }, { on := 4, ground := Ground.phase }, { on := 5, ground := Ground.phase }], guard := none },
        { dst := none, op := Op.store 26 (Operand.tmp 6) (Operand.tmp 11), type := 0, pos := "trigger.go:121",
          after := #[{ on := 5, ground := Ground.data }, { on := 3, ground := Ground.data }, { on := 6, ground := Ground.chain }, { on := 0, ground := Ground.phase }, { on := 1, ground := Ground.phase }, { on := 2, ground := Ground.phase }, { on := 3, ground := Ground.phase }, { on := 4, ground := Ground.phase }, { on := 5, ground := Ground.phase }, { on := 6, ground := Ground.phase }], guard := none }]
abbrev fr17 (c d : Hc) (h k : Hap) (p1 p2 p3 : Nat) (v5 v6 v8 v9 v10 v11 : Value) : Act := ⟨#[hpV c h, hpV d k, .pointer (some ⟨p1, 0, none⟩), .pointer (some ⟨p2, 0, none⟩), .pointer (some ⟨p3, 0, none⟩), v5, v6, undef, v8, v9, v10, v11, undef, undef, undef, undef, undef, undef, undef, undef, undef, undef, undef, undef, undef, undef, undef, undef, undef, undef, undef, undef, undef, undef, undef, undef, undef, undef, undef, undef, undef, undef, undef, undef, undef, undef, undef, undef, undef, undef, undef, undef, undef, undef, undef, undef, undef, undef, undef, undef, undef, undef, undef, undef, undef, undef], []⟩
def J17 (W3 : World) (p1 p2 p3 : Nat) (c d : Hc) (h k : Hap) (f : Nat) (listed : Array Bool) (a : Act) (w : World) : Prop :=
  ∃ (b0 b1 b2 b3 b4 b5 : Bool) (v5 v6 v8 v9 v10 v11 : Value), listed = #[b0, b1, b2, b3, b4, b5, false, false] ∧ a = fr17 c d h k p1 p2 p3 v5 v6 v8 v9 v10 v11 ∧ f = cnt b0 + cnt b1 + cnt b2 + cnt b3 + cnt b4 + cnt b5 ∧ MI W3 c d h k b0 b1 b2 b3 b4 b5 v5 v6 v8 v9 v10 v11 w
theorem ready17 (b0 b1 b2 b3 b4 b5 : Bool) (f : Nat) (h : f + 1 = cnt b0 + cnt b1 + cnt b2 + cnt b3 + cnt b4 + cnt b5) : Region.ready .any ops17 #[b0, b1, b2, b3, b4, b5, false, false] ≠ [] := by
  have hn : (Region.ready .any ops17 #[b0, b1, b2, b3, b4, b5, false, false]).isEmpty = false := by
    cases b0 <;> cases b1 <;> cases b2 <;> cases b3 <;> cases b4 <;> cases b5 <;> first | (exfalso; simp [cnt] at h; done) | kernel_rfl
  intro e
  rw [e] at hn
  cases hn
set_option maxRecDepth 20000 in
set_option maxHeartbeats 8000000 in
theorem step17 {Q : Exit → Act → World → Prop} (W3 : World) (p1 p2 p3 : Nat) (c d : Hc) (h k : Hap) (hkp : Blk W3 p1 26 (hpC c h)) (hkq : Blk W3 p2 26 (hpC d k))
    (N1 : ∀ w', Below W3.heap.size W3 w' → Calls Try.prog 12 #[hpV c h] w' (HEnd w' (norm h))) (N2 : ∀ w', Below W3.heap.size W3 w' → Calls Try.prog 12 #[hpV d k] w' (HEnd w' (norm k)))
    (f : Nat) (listed : Array Bool) (a : Act) (w : World) (hJ : J17 W3 p1 p2 p3 c d h k (f + 1) listed a w) :
    Region.ready .any ops17 listed ≠ [] ∧ ∀ i ∈ Region.ready .any ops17 listed, wpOp Try.prog ops17 Q i (fun a' w' => J17 W3 p1 p2 p3 c d h k f (listed.setIfInBounds i true) a' w') a w := by
  obtain ⟨b0, b1, b2, b3, b4, b5, v5, v6, v8, v9, v10, v11, rfl, rfl, hf, m⟩ := hJ
  refine ⟨ready17 b0 b1 b2 b3 b4 b5 f hf, fun i hi => ?_⟩
  obtain ⟨hun, o, ho, hall⟩ := mem_ready.1 hi
  have hi8 : i < 8 := (Array.getElem?_eq_some_iff.1 ho).1
  have HJ := Lib.hid m
  have hkp' := hkp.below m.hb hkp.lt
  have hkq' := hkq.below m.hb hkq.lt
  have hb := m.hb
  rcases (show i = 0 ∨ i = 1 ∨ i = 2 ∨ i = 3 ∨ i = 4 ∨ i = 5 ∨ i = 6 ∨ i = 7 by omega) with rfl | rfl | rfl | rfl | rfl | rfl | rfl | rfl
  · obtain rfl : b0 = false := hun
    refine wpOp_at rfl rfl ?_
    refine wp_load_row 26 (.tmp 2) rfl p1 rfl 26 _ (0, 0) _ hkp' Try.underlying26 rfl size26 ?_
    exact ⟨true, b1, b2, b3, b4, b5, v5, v6, _, v9, v10, v11, rfl, rfl, by simp [cnt] at hf ⊢; omega, m.s0⟩
  · obtain rfl : b1 = false := hun
    obtain rfl : b0 = true := hall ⟨0, .data⟩ (by cases ho; simp) rfl
    refine wpOp_at rfl rfl ?_
    have e8 := m.e0 rfl
    subst e8
    have HF := Lib.hid hf
    clear m hkp hkq hkp' hkq' ho hall hi hf
    go_simp
    refine (N1 w hb).mono ?_
    rintro e w1 ⟨cA, rfl, hoA, hbA⟩
    exact ⟨true, true, b2, b3, b4, b5, v5, v6, _, _, v10, v11, rfl, rfl, by have := HF.out; simp [cnt] at this ⊢; omega, HJ.out.s1 rfl hoA hbA⟩
  · obtain rfl : b2 = false := hun
    refine wpOp_at rfl rfl ?_
    refine wp_load_row 26 (.tmp 3) rfl p2 rfl 26 _ (0, 0) _ hkq' Try.underlying26 rfl size26 ?_
    exact ⟨b0, b1, true, b3, b4, b5, v5, v6, v8, v9, _, v11, rfl, rfl, by simp [cnt] at hf ⊢; omega, m.s2⟩
  · obtain rfl : b3 = false := hun
    obtain rfl : b2 = true := hall ⟨2, .data⟩ (by cases ho; simp) rfl
    obtain rfl : b1 = true := hall ⟨1, .chain⟩ (by cases ho; simp) rfl
    refine wpOp_at rfl rfl ?_
    have e10 := m.e2 rfl
    subst e10
    have HF := Lib.hid hf
    clear m hkp hkq hkp' hkq' ho hall hi hf
    go_simp
    refine (N2 w hb).mono ?_
    rintro e w1 ⟨cA, rfl, hoA, hbA⟩
    exact ⟨b0, true, true, true, b4, b5, v5, v6, v8, v9, _, _, rfl, rfl, by have := HF.out; simp [cnt] at this ⊢; omega, HJ.out.s3 rfl rfl hoA hbA⟩
  · obtain rfl : b4 = false := hun
    refine wpOp_at rfl rfl ?_
    have HF := Lib.hid hf
    clear m hkp hkq hkp' hkq' ho hall hi hf
    go_simp
    exact ⟨b0, b1, b2, b3, true, b5, _, v6, v8, v9, v10, v11, rfl, rfl, by have := HF.out; simp [cnt] at this ⊢; omega, HJ.out.s4⟩
  · obtain rfl : b5 = false := hun
    refine wpOp_at rfl rfl ?_
    have HF := Lib.hid hf
    clear m hkp hkq hkp' hkq' ho hall hi hf
    go_simp
    exact ⟨b0, b1, b2, b3, b4, true, v5, _, v8, v9, v10, v11, rfl, rfl, by have := HF.out; simp [cnt] at this ⊢; omega, HJ.out.s5⟩
  · obtain rfl : b4 = true := hall ⟨4, .data⟩ (by cases ho; simp) rfl
    obtain rfl : b5 = true := hall ⟨5, .phase⟩ (by cases ho; simp) rfl
    obtain rfl : b3 = true := hall ⟨3, .chain⟩ (by cases ho; simp) rfl
    obtain ⟨rfl, rfl⟩ := m.d3 rfl
    obtain rfl := m.d1 rfl
    simp [cnt] at hf
  · have := hall ⟨6, .chain⟩ (by cases ho; simp) rfl
    cases this
set_option maxRecDepth 20000 in
set_option maxHeartbeats 8000000 in
theorem end17 {Q : Exit → Act → World → Prop} (W3 : World) (p1 p2 p3 : Nat) (c d : Hc) (h k : Hap)
    (hQ : ∀ (v5 v6 v8 v9 v10 v11 : Value) (wz : World), MR W3 (norm h) (norm k) v5 v6 wz → Q .normal (fr17 c d h k p1 p2 p3 v5 v6 v8 v9 v10 v11) wz)
    (listed : Array Bool) (a : Act) (w : World) (hJ : J17 W3 p1 p2 p3 c d h k 0 listed a w) : wpAny Try.prog .any ops17 Q 2 listed a w := by
  obtain ⟨b0, b1, b2, b3, b4, b5, v5, v6, v8, v9, v10, v11, rfl, rfl, hf, m⟩ := hJ
  obtain rfl : b0 = true := cnt_z (by omega)
  obtain rfl : b1 = true := cnt_z (by omega)
  obtain rfl : b2 = true := cnt_z (by omega)
  obtain rfl : b3 = true := cnt_z (by omega)
  obtain rfl : b4 = true := cnt_z (by omega)
  obtain rfl : b5 = true := cnt_z (by omega)
  obtain ⟨cA, e9, oA, oA5, oA6⟩ := m.e1 rfl
  obtain ⟨cB, e11, oB, oB5, oB6⟩ := m.e3 rfl
  rcases m.e4 with ⟨x, _⟩ | ⟨_, g1, e5, l5, k5⟩
  · cases x
  rcases m.e5 with ⟨x, _⟩ | ⟨_, g2, e6, l6, k6⟩
  · cases x
  have hne : g1 ≠ g2 := fun e => m.e45 g1 e5 (by rw [e6, e])
  have hb := m.hb
  have hsz := hb.size
  subst e9 e11 e5 e6
  have hQ' := hQ (.pointer (some ⟨g1, 0, none⟩)) (.pointer (some ⟨g2, 0, none⟩)) v8 (hpV cA (norm h)) v10 (hpV cB (norm k)) ((w.setRow g1 (hpC cA (norm h))).setRow g2 (hpC cB (norm k)))
    ⟨g1, g2, cA, cB, rfl, rfl, l5, l6, (k5.setRow (cells := hpC cA (norm h))).rowed _ hne, ((k6.rowed _ (Ne.symm hne)).setRow), ((oA.grown (grown_setRow w g1 _) oA5).grown (grown_setRow _ g2 _) oA6).rd, ((oB.grown (grown_setRow w g1 _) oB5).grown (grown_setRow _ g2 _) oB6).rd,
      below_setRow (below_setRow hb l5 hsz _) l6 (by simpa [World.setRow] using hsz) _⟩
  have k6' := k6.rowed (hpC cA (norm h)) (Ne.symm hne)
  clear hQ m oA oB
  refine wpAny_of_seq (ops17.toList.drop 6) 6 _ _ w (fun j => drop_at _ 6 j) (by kernel_rfl) ?_
  refine wpList_store_row rfl 26 (.tmp 5) (.tmp 9) rfl g1 (hpC cA (norm h)) rfl rfl 26 zs26 k5 size26 rfl (one26 _ _) ?_
  refine wpList_store_row rfl 26 (.tmp 6) (.tmp 11) rfl g2 (hpC cB (norm k)) rfl rfl 26 zs26 k6' size26 rfl (one26 _ _) ?_
  exact hQ'


abbrev ops18 : Array Oper := #[{ dst := some 8, op := Op.load 26 (Operand.tmp 2), type := 26, pos := "ref.go:113", after := #[], guard := none },
        { dst := some 9, op := Op.call { callee := Callee.value (Operand.func 14), args := #[Operand.tmp 8], argTypes := #[26] }, type := 26, pos := "ref.go:113", after := #[{ on := 0, ground := Ground.data }], guard := none },
        { dst := some 10, op := Op.load 26 (Operand.tmp 3), type := 26, pos := "ref.go:113", after := #[], guard := none },
        { dst := some 11, op := Op.call { callee := Callee.value (Operand.func 14), args := #[Operand.tmp 10], argTypes := #[26] }, type := 26, pos := "ref.go:113", after := #[{ on := 2, ground := Ground.data }, { on := 1, ground := Ground.chain }], guard := none },
        { dst := some 5, op := Op.alloc 26, type := 0, pos := "ref.go:113", after := #[], guard := none },
        { dst := some 6, op := Op.alloc 26, type := 0, pos := "ref.go:113", after := #[], guard := none },
        { dst := none, op := Op.store 26 (Operand.tmp 5) (Operand.tmp 9), type := 0, pos := "ref.go:113",
          after := #[{ on := 4, ground := Ground.data }, { on := 1, ground := Ground.data }, { on := 3, ground := Ground.chain }, { on := 0, ground := Ground.phase }, { on := 1, ground := Ground.phase }, { on := 2, ground := Ground.textOnly Departure.lateStores }, { on := 3, ground := Ground.textOnly Departure.lateStoresUnsure }, { on := 4, ground := Ground.phase }, { on := 5, ground := Ground.phase }], guard := none },
        { dst := none, op := Op.store 26 (Operand.tmp 6) (Operand.tmp 11), type := 0, pos := "ref.go:113",
          after := #[{ on := 5, ground := Ground.data }, { on := 3, ground := Ground.data }, { on := 6, ground := Ground.chain }, { on := 0, ground := Ground.phase }, { on := 1, ground := Ground.phase }, { on := 2, ground := Ground.phase }, { on := 3, ground := Ground.phase }, { on := 4, ground := Ground.phase }, { on := 5, ground := Ground.phase }, { on := 6, ground := Ground.phase }], guard := none }]
abbrev fr18 (c d : Hc) (h k : Hap) (p1 p2 p3 : Nat) (v5 v6 v8 v9 v10 v11 : Value) : Act := ⟨#[hpV c h, hpV d k, .pointer (some ⟨p1, 0, none⟩), .pointer (some ⟨p2, 0, none⟩), .pointer (some ⟨p3, 0, none⟩), v5, v6, undef, v8, v9, v10, v11, undef, undef, undef, undef, undef, undef, undef, undef, undef, undef, undef, undef, undef, undef, undef, undef, undef, undef, undef, undef, undef, undef, undef, undef, undef, undef, undef, undef, undef, undef, undef, undef, undef, undef, undef, undef, undef, undef, undef, undef, undef, undef, undef, undef, undef, undef, undef, undef, undef, undef, undef, undef, undef, undef, undef, undef, undef], []⟩
def J18 (W3 : World) (p1 p2 p3 : Nat) (c d : Hc) (h k : Hap) (f : Nat) (listed : Array Bool) (a : Act) (w : World) : Prop :=
  ∃ (b0 b1 b2 b3 b4 b5 : Bool) (v5 v6 v8 v9 v10 v11 : Value), listed = #[b0, b1, b2, b3, b4, b5, false, false] ∧ a = fr18 c d h k p1 p2 p3 v5 v6 v8 v9 v10 v11 ∧ f = cnt b0 + cnt b1 + cnt b2 + cnt b3 + cnt b4 + cnt b5 ∧ MI W3 c d h k b0 b1 b2 b3 b4 b5 v5 v6 v8 v9 v10 v11 w
theorem ready18 (b0 b1 b2 b3 b4 b5 : Bool) (f : Nat) (h : f + 1 = cnt b0 + cnt b1 + cnt b2 + cnt b3 + cnt b4 + cnt b5) : Region.ready .any ops18 #[b0, b1, b2, b3, b4, b5, false, false] ≠ [] := by
  have hn : (Region.ready .any ops18 #[b0, b1, b2, b3, b4, b5, false, false]).isEmpty = false := by
    cases b0 <;> cases b1 <;> cases b2 <;> cases b3 <;> cases b4 <;> cases b5 <;> first | (exfalso; simp [cnt] at h; done) | kernel_rfl
  intro e
  rw [e] at hn
  cases hn
set_option maxRecDepth 20000 in
set_option maxHeartbeats 8000000 in
theorem step18 {Q : Exit → Act → World → Prop} (W3 : World) (p1 p2 p3 : Nat) (c d : Hc) (h k : Hap) (hkp : Blk W3 p1 26 (hpC c h)) (hkq : Blk W3 p2 26 (hpC d k))
    (N1 : ∀ w', Below W3.heap.size W3 w' → Calls Try.prog 14 #[hpV c h] w' (HEnd w' (norm h))) (N2 : ∀ w', Below W3.heap.size W3 w' → Calls Try.prog 14 #[hpV d k] w' (HEnd w' (norm k)))
    (f : Nat) (listed : Array Bool) (a : Act) (w : World) (hJ : J18 W3 p1 p2 p3 c d h k (f + 1) listed a w) :
    Region.ready .any ops18 listed ≠ [] ∧ ∀ i ∈ Region.ready .any ops18 listed, wpOp Try.prog ops18 Q i (fun a' w' => J18 W3 p1 p2 p3 c d h k f (listed.setIfInBounds i true) a' w') a w := by
  obtain ⟨b0, b1, b2, b3, b4, b5, v5, v6, v8, v9, v10, v11, rfl, rfl, hf, m⟩ := hJ
  refine ⟨ready18 b0 b1 b2 b3 b4 b5 f hf, fun i hi => ?_⟩
  obtain ⟨hun, o, ho, hall⟩ := mem_ready.1 hi
  have hi8 : i < 8 := (Array.getElem?_eq_some_iff.1 ho).1
  have HJ := Lib.hid m
  have hkp' := hkp.below m.hb hkp.lt
  have hkq' := hkq.below m.hb hkq.lt
  have hb := m.hb
  rcases (show i = 0 ∨ i = 1 ∨ i = 2 ∨ i = 3 ∨ i = 4 ∨ i = 5 ∨ i = 6 ∨ i = 7 by omega) with rfl | rfl | rfl | rfl | rfl | rfl | rfl | rfl
  · obtain rfl : b0 = false := hun
    refine wpOp_at rfl rfl ?_
    refine wp_load_row 26 (.tmp 2) rfl p1 rfl 26 _ (0, 0) _ hkp' Try.underlying26 rfl size26 ?_
    exact ⟨true, b1, b2, b3, b4, b5, v5, v6, _, v9, v10, v11, rfl, rfl, by simp [cnt] at hf ⊢; omega, m.s0⟩
  · obtain rfl : b1 = false := hun
    obtain rfl : b0 = true := hall ⟨0, .data⟩ (by cases ho; simp) rfl
    refine wpOp_at rfl rfl ?_
    have e8 := m.e0 rfl
    subst e8
    have HF := Lib.hid hf
    clear m hkp hkq hkp' hkq' ho hall hi hf
    go_simp
    refine (N1 w hb).mono ?_
    rintro e w1 ⟨cA, rfl, hoA, hbA⟩
    exact ⟨true, true, b2, b3, b4, b5, v5, v6, _, _, v10, v11, rfl, rfl, by have := HF.out; simp [cnt] at this ⊢; omega, HJ.out.s1 rfl hoA hbA⟩
  · obtain rfl : b2 = false := hun
    refine wpOp_at rfl rfl ?_
    refine wp_load_row 26 (.tmp 3) rfl p2 rfl 26 _ (0, 0) _ hkq' Try.underlying26 rfl size26 ?_
    exact ⟨b0, b1, true, b3, b4, b5, v5, v6, v8, v9, _, v11, rfl, rfl, by simp [cnt] at hf ⊢; omega, m.s2⟩
  · obtain rfl : b3 = false := hun
    obtain rfl : b2 = true := hall ⟨2, .data⟩ (by cases ho; simp) rfl
    obtain rfl : b1 = true := hall ⟨1, .chain⟩ (by cases ho; simp) rfl
    refine wpOp_at rfl rfl ?_
    have e10 := m.e2 rfl
    subst e10
    have HF := Lib.hid hf
    clear m hkp hkq hkp' hkq' ho hall hi hf
    go_simp
    refine (N2 w hb).mono ?_
    rintro e w1 ⟨cA, rfl, hoA, hbA⟩
    exact ⟨b0, true, true, true, b4, b5, v5, v6, v8, v9, _, _, rfl, rfl, by have := HF.out; simp [cnt] at this ⊢; omega, HJ.out.s3 rfl rfl hoA hbA⟩
  · obtain rfl : b4 = false := hun
    refine wpOp_at rfl rfl ?_
    have HF := Lib.hid hf
    clear m hkp hkq hkp' hkq' ho hall hi hf
    go_simp
    exact ⟨b0, b1, b2, b3, true, b5, _, v6, v8, v9, v10, v11, rfl, rfl, by have := HF.out; simp [cnt] at this ⊢; omega, HJ.out.s4⟩
  · obtain rfl : b5 = false := hun
    refine wpOp_at rfl rfl ?_
    have HF := Lib.hid hf
    clear m hkp hkq hkp' hkq' ho hall hi hf
    go_simp
    exact ⟨b0, b1, b2, b3, b4, true, v5, _, v8, v9, v10, v11, rfl, rfl, by have := HF.out; simp [cnt] at this ⊢; omega, HJ.out.s5⟩
  · obtain rfl : b4 = true := hall ⟨4, .data⟩ (by cases ho; simp) rfl
    obtain rfl : b5 = true := hall ⟨5, .phase⟩ (by cases ho; simp) rfl
    obtain rfl : b3 = true := hall ⟨3, .chain⟩ (by cases ho; simp) rfl
    obtain ⟨rfl, rfl⟩ := m.d3 rfl
    obtain rfl := m.d1 rfl
    simp [cnt] at hf
  · have := hall ⟨6, .chain⟩ (by cases ho; simp) rfl
    cases this
set_option maxRecDepth 20000 in
set_option maxHeartbeats 8000000 in
theorem end18 {Q : Exit → Act → World → Prop} (W3 : World) (p1 p2 p3 : Nat) (c d : Hc) (h k : Hap)
    (hQ : ∀ (v5 v6 v8 v9 v10 v11 : Value) (wz : World), MR W3 (norm h) (norm k) v5 v6 wz → Q .normal (fr18 c d h k p1 p2 p3 v5 v6 v8 v9 v10 v11) wz)
    (listed : Array Bool) (a : Act) (w : World) (hJ : J18 W3 p1 p2 p3 c d h k 0 listed a w) : wpAny Try.prog .any ops18 Q 2 listed a w := by
  obtain ⟨b0, b1, b2, b3, b4, b5, v5, v6, v8, v9, v10, v11, rfl, rfl, hf, m⟩ := hJ
  obtain rfl : b0 = true := cnt_z (by omega)
  obtain rfl : b1 = true := cnt_z (by omega)
  obtain rfl : b2 = true := cnt_z (by omega)
  obtain rfl : b3 = true := cnt_z (by omega)
  obtain rfl : b4 = true := cnt_z (by omega)
  obtain rfl : b5 = true := cnt_z (by omega)
  obtain ⟨cA, e9, oA, oA5, oA6⟩ := m.e1 rfl
  obtain ⟨cB, e11, oB, oB5, oB6⟩ := m.e3 rfl
  rcases m.e4 with ⟨x, _⟩ | ⟨_, g1, e5, l5, k5⟩
  · cases x
  rcases m.e5 with ⟨x, _⟩ | ⟨_, g2, e6, l6, k6⟩
  · cases x
  have hne : g1 ≠ g2 := fun e => m.e45 g1 e5 (by rw [e6, e])
  have hb := m.hb
  have hsz := hb.size
  subst e9 e11 e5 e6
  have hQ' := hQ (.pointer (some ⟨g1, 0, none⟩)) (.pointer (some ⟨g2, 0, none⟩)) v8 (hpV cA (norm h)) v10 (hpV cB (norm k)) ((w.setRow g1 (hpC cA (norm h))).setRow g2 (hpC cB (norm k)))
    ⟨g1, g2, cA, cB, rfl, rfl, l5, l6, (k5.setRow (cells := hpC cA (norm h))).rowed _ hne, ((k6.rowed _ (Ne.symm hne)).setRow), ((oA.grown (grown_setRow w g1 _) oA5).grown (grown_setRow _ g2 _) oA6).rd, ((oB.grown (grown_setRow w g1 _) oB5).grown (grown_setRow _ g2 _) oB6).rd,
      below_setRow (below_setRow hb l5 hsz _) l6 (by simpa [World.setRow] using hsz) _⟩
  have k6' := k6.rowed (hpC cA (norm h)) (Ne.symm hne)
  clear hQ m oA oB
  refine wpAny_of_seq (ops18.toList.drop 6) 6 _ _ w (fun j => drop_at _ 6 j) (by kernel_rfl) ?_
  refine wpList_store_row rfl 26 (.tmp 5) (.tmp 9) rfl g1 (hpC cA (norm h)) rfl rfl 26 zs26 k5 size26 rfl (one26 _ _) ?_
  refine wpList_store_row rfl 26 (.tmp 6) (.tmp 11) rfl g2 (hpC cB (norm k)) rfl rfl 26 zs26 k6' size26 rfl (one26 _ _) ?_
  exact hQ'

end Go.Proofs.Ytkdnkieecchobaa
