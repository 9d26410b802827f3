/- The walks of Take. -/
import Derived.Test.YtfbdiafgfimgaaaWb
namespace Go.Proofs.Ytfbdiafgfimgaaa
open Go.RowKit Go.BigFrame
set_option linter.unusedVariables false

def f0 : Fr := ⟨0, 0, 0, 0, 0, 0, 0, false, ⟨#[]⟩⟩
/-- the first frame for a node, and the others -/
def takeL (to : Int) : List Mail → Option Fr × List Mail
  | [] => (none, [])
  | a :: r => if a.f.to = to then (some a.f, r) else ((takeL to r).1, a :: (takeL to r).2)
theorem takeL_snoc (to : Int) (l : List Mail) (a : Mail) : takeL to (l ++ [a]) =
    match (takeL to l).1 with
    | some f => (some f, (takeL to l).2 ++ [a])
    | none => if a.f.to = to then (some a.f, (takeL to l).2) else (none, (takeL to l).2 ++ [a]) := by
  induction l with
  | nil => by_cases h : a.f.to = to <;> simp [takeL, h]
  | cons b r ih =>
    by_cases h : b.f.to = to
    · simp [takeL, h]
    · simp only [List.cons_append, takeL, if_neg h, ih]
      cases (takeL to r).1 with
      | some f => rfl
      | none => by_cases h2 : a.f.to = to <;> simp [h2]
theorem takeL_none (to : Int) (l : List Mail) (h : ∀ a ∈ l, ¬ a.f.to = to) : takeL to l = (none, l) := by
  induction l with
  | nil => rfl
  | cons b r ih =>
    rw [takeL, if_neg (h b (by simp)), ih (fun a ha => h a (by simp [ha]))]
theorem takeL_at (to : Int) (l : List Mail) (j : Nat) (a : Mail) (h : ∀ i b, i < j → l[i]? = some b → ¬ b.f.to = to) (hj : l[j]? = some a) (ha : a.f.to = to) : takeL to l = (some a.f, l.eraseIdx j) := by
  induction l generalizing j with
  | nil => simp at hj
  | cons b r ih =>
    cases j with
    | zero =>
      simp at hj; subst hj
      rw [takeL, if_pos ha]; rfl
    | succ j =>
      rw [takeL, if_neg (h 0 b (by omega) rfl), ih j (fun i c hi hc => h (i + 1) c (by omega) hc) hj]
      rfl

/-- what Take ends in -/
def TkEnd (w : World) (r : Option Fr × List Mail) (en : Ending) (w' : World) : Prop :=
  ∃ (A : Option Addr) (n cap : Nat), en = .returned (.tuple #[frV (r.1.getD f0), .slice A n cap, .bool r.1.isSome]) ∧ Ow w' w.heap.size 33 EM (.slice A n cap) n r.2 ∧ Below w.heap.size w w'
theorem Blk.row {w w' : World} {g base : Nat} {t : TypeId} {cs : Array Value} {v : Value} (h : Blk w g t cs) (hg : w.grownBy w' v.ownBlock) (hv : ∀ k, v.ownBlock = some k → base ≤ k ∧ k < w.heap.size) (hb : g < base) : Blk w' g t cs :=
  (hg.block g h.lt (fun e => by have := (hv g e.symm).1; omega)).trans h

theorem Ow.setBelow {w : World} {base : Nat} {e : TypeId} {E : Enc Mail} {v : Value} {n : Nat} {l : List Mail} (h : Ow w base e E v n l) {p : Addr} (hp : p.block < base) (u : Value) : Ow (w.setCell p u) base e E v n l :=
  ⟨h.1, ownsRow_setCell_below h.2 hp u⟩
set_option maxHeartbeats 4000000 in
theorem take14 (A : Option Addr) (n cap : Nat) (l : List Mail) (to now life : Int) (w : World) (hn : n ≤ cap) (hcap : cap ≤ 9223372036854775807) (hr : Rd w EM A n l) :
    Calls Try.prog 14 #[.slice A n cap, .int .i64 to, .int .i64 now, .int .i64 life] w (TkEnd w (takeL to ((l.take 16).filter (live now life)))) := by
  obtain ⟨i0, hi0, hz0, hz1, hz2⟩ := info_parts info33
  have hb := hr.box
  generalize hm : min n 16 = m at hb
  have hm16 : m ≤ 16 := by omega
  have HX : Hid (∀ w, Calls Try.prog 23 #[.slice A n cap] w fun e w' => e = .returned (.slice A m m) ∧ w = w') := Lib.hid (fun w => by have := box23 A n cap w hn hcap; rwa [hm] at this)
  clear hm hr
  generalize l.take 16 = k at *
  obtain ⟨W, hW, hB, hz, hk⟩ := boxed w #[.int .i64 0, .int .i64 0, .int .i64 0, .int .i64 0, .int .i64 0, .int .i64 0, .int .i64 0, .bool false, .string ⟨#[]⟩] 24
  obtain ⟨X, hX, hBX, hzX, hkX⟩ := boxed W #[.int .i64 0, .int .i64 0, .int .i64 0, .int .i64 0, .int .i64 0, .int .i64 0, .int .i64 0, .bool false, .string ⟨#[]⟩] 24
  have hkW := hk.later hBX
  have hB0 : Below w.heap.size w X := hB.trans (hBX.mono (by omega))
  go_enter Try.func14, Try.ntmps14
  go_wp2_with (go_at_call 23; refine (HX.out _).mono ?_; rintro e w' ⟨rfl, rfl⟩)
  generalize hg2 : W.heap.size = g2 at *
  have hg2X : g2 < X.heap.size := hzX
  have hwg : w.heap.size ≤ g2 := Nat.le_of_lt hz
  have hne : w.heap.size ≠ g2 := Nat.ne_of_lt hz
  clear hW hX hBX hB hk HX hg2 hzX
  go_loopw [11, 13, 19] (fun v fd i wr => ∃ (j m' cap' : Nat) (A' : Option Addr) (x : Option Fr) (y : List Mail), j ≤ m ∧ m' ≤ j ∧ i = .int .i64 j ∧ v = .slice A' m' cap' ∧ fd = .bool x.isSome ∧ takeL to ((k.take j).filter (live now life)) = (x, y) ∧
    Ow wr X.heap.size 33 EM (.slice A' m' cap') m' y ∧ Blk wr w.heap.size 24 (encF f0).toArray ∧ Blk wr g2 24 (encF (x.getD f0)).toArray ∧ Below w.heap.size w wr ∧ X.heap.size ≤ wr.heap.size) (fun _ _ i _ => m - (intOf i).toNat)
  case atStart => exact ⟨0, 0, 0, none, none, [], by omega, by omega, rfl, rfl, rfl, by simp [takeL], Ow.nil _ _ _ _, hkW, hkX, hB0, Nat.le_refl _⟩
  case round =>
    obtain ⟨j, m', cap', A', x, y, hj, hmj, rfl, rfl, rfl, htk, hown, hk1, hk2, hbr, hxs⟩ := hrel
    have HT := Lib.hid htk
    clear htk
    by_cases hlt : j < m
    · obtain ⟨b, off, a, rfl, hla, q0, q1, q2, q3, q4, q5, q6, q7, q8, q9⟩ := mail_at (hb.later hbr) hlt
      obtain ⟨V, hV, hBV, hzV, hkV⟩ := boxed wr #[.int .i64 a.f.kind, .int .i64 a.f.src, .int .i64 a.f.to, .int .i64 a.f.source, .int .i64 a.f.target, .int .i64 a.f.seq, .int .i64 a.f.hops, .bool a.f.urgent, .string a.f.data, .int .i64 a.since] 33
      have p0 := hkV.at 0 (v := .int .i64 a.f.kind) rfl
      have p1 := hkV.at 1 (v := .int .i64 a.f.src) rfl
      have p2 := hkV.at 2 (v := .int .i64 a.f.to) rfl
      have p3 := hkV.at 3 (v := .int .i64 a.f.source) rfl
      have p4 := hkV.at 4 (v := .int .i64 a.f.target) rfl
      have p5 := hkV.at 5 (v := .int .i64 a.f.seq) rfl
      have p6 := hkV.at 6 (v := .int .i64 a.f.hops) rfl
      have p7 := hkV.at 7 (v := .bool a.f.urgent) rfl
      have p8 := hkV.at 8 (v := .string a.f.data) rfl
      have p9 := hkV.at 9 (v := .int .i64 a.since) rfl
      have hB1 := hbr.trans (hBV.mono hbr.size)
      have hownV := hown.later hBV
      have hk1V := hk1.later hBV
      have hk2V := hk2.later hBV
      have hwX : w.heap.size ≤ X.heap.size := hB0.size
      clear hkV hb hown hbr hk1 hk2
      cases hlv : live now life a with
      | true =>
        have HC := Lib.hid (filter_yes hla hlv)
        have HE := Lib.hid (fun w => exp_yes (now := now) (life := life) w hlv)
        clear hlv hla
        go_wp2_with fail
        refine (HE.out _).mono ?_
        rintro e w1 ⟨rfl, hb1⟩
        have r0 := keep hb1 p0
        have r1 := keep hb1 p1
        have r2 := keep hb1 p2
        have r3 := keep hb1 p3
        have r4 := keep hb1 p4
        have r5 := keep hb1 p5
        have r6 := keep hb1 p6
        have r7 := keep hb1 p7
        have r8 := keep hb1 p8
        have r9 := keep hb1 p9
        have hB2 := hB1.trans (hb1.mono hB1.size)
        have hown1 := hownV.later hb1
        have hk11 := hk1V.later hb1
        have hk21 := hk2V.later hb1
        have hx1 : X.heap.size ≤ w1.heap.size := by have := hBV.size; have := hb1.size; omega
        clear p0 p1 p2 p3 p4 p5 p6 p7 p8 p9 hb1 hB1 hownV q0 q1 q2 q3 q4 q5 q6 q7 q8 q9 hV hBV hk1V hk2V
        cases x with
        | none =>
          by_cases hto : a.f.to = to
          · have HN := Lib.hid (show takeL to ((k.take (j + 1)).filter (live now life)) = (some a.f, y) by rw [HC.out, takeL_snoc, HT.out]; simp [hto])
            have hbq : (a.f.to == to) = true := by simpa using hto
            have f1 := hk21.frozen 0
            have f2 := hk21.frozen 1
            have f3 := hk21.frozen 2
            have f4 := hk21.frozen 3
            have f5 := hk21.frozen 4
            have f6 := hk21.frozen 5
            have f7 := hk21.frozen 6
            have f8 := hk21.frozen 7
            have f9 := hk21.frozen 8
            have c0 := hk21.at 0 (v := .int .i64 0) rfl
            have c1 := hk21.at 1 (v := .int .i64 0) rfl
            have c2 := hk21.at 2 (v := .int .i64 0) rfl
            have c3 := hk21.at 3 (v := .int .i64 0) rfl
            have c4 := hk21.at 4 (v := .int .i64 0) rfl
            have c5 := hk21.at 5 (v := .int .i64 0) rfl
            have c6 := hk21.at 6 (v := .int .i64 0) rfl
            have c7 := hk21.at 7 (v := .bool false) rfl
            have c8 := hk21.at 8 (v := .string ⟨#[]⟩) rfl
            clear hto
            go_wp2
            go_roundw
            case rel =>
              refine ⟨j + 1, m', cap', A', some a.f, y, by omega, by omega, by go_num, rfl, rfl, HN.out, ?_, ?_, ?_, ?_, ?_⟩
              · exact ((((((((hown1.setBelow (p := ⟨g2, 0, none⟩) hg2X _).setBelow (p := ⟨g2, 1, none⟩) hg2X _).setBelow (p := ⟨g2, 2, none⟩) hg2X _).setBelow (p := ⟨g2, 3, none⟩) hg2X _).setBelow (p := ⟨g2, 4, none⟩) hg2X _).setBelow (p := ⟨g2, 5, none⟩) hg2X _).setBelow (p := ⟨g2, 6, none⟩) hg2X _).setBelow (p := ⟨g2, 7, none⟩) hg2X _).setBelow (p := ⟨g2, 8, none⟩) hg2X _
              · exact ((((((((hk11.far (p := ⟨g2, 0, none⟩) hne _).far (p := ⟨g2, 1, none⟩) hne _).far (p := ⟨g2, 2, none⟩) hne _).far (p := ⟨g2, 3, none⟩) hne _).far (p := ⟨g2, 4, none⟩) hne _).far (p := ⟨g2, 5, none⟩) hne _).far (p := ⟨g2, 6, none⟩) hne _).far (p := ⟨g2, 7, none⟩) hne _).far (p := ⟨g2, 8, none⟩) hne _
              · exact ((((((((hk21.set_ 0 _).set_ 1 _).set_ 2 _).set_ 3 _).set_ 4 _).set_ 5 _).set_ 6 _).set_ 7 _).set_ 8 _
              · exact ((((((((hB2.setCell (p := ⟨g2, 0, none⟩) hwg _).setCell (p := ⟨g2, 1, none⟩) hwg _).setCell (p := ⟨g2, 2, none⟩) hwg _).setCell (p := ⟨g2, 3, none⟩) hwg _).setCell (p := ⟨g2, 4, none⟩) hwg _).setCell (p := ⟨g2, 5, none⟩) hwg _).setCell (p := ⟨g2, 6, none⟩) hwg _).setCell (p := ⟨g2, 7, none⟩) hwg _).setCell (p := ⟨g2, 8, none⟩) hwg _
              · simpa [World.setCell] using hx1
            case measure => simp [intOf]; omega
          · have HN := Lib.hid (show takeL to ((k.take (j + 1)).filter (live now life)) = (none, y ++ [a]) by rw [HC.out, takeL_snoc, HT.out]; simp [hto])
            have hbq : (a.f.to == to) = false := by simpa using hto
            clear hto
            go_wp2_with (at_builtin; refine wpList_append_rd _ rfl (.tmp 23) (.tmp 25) 22 rfl X.heap.size 33 i0 _ EM Try.underlying22 hi0 hz0 hz1 rfl (.slice A' m' cap') m' y rfl (hown1.later ((Below.refl _ _).alloc (Nat.le_refl _) _)) (some ⟨w1.heap.size, 0, none⟩) 1 1 [a] rfl (mail_one a w1 33) (by unfold maxLen; omega) (by rw [hz2]; omega) (by simp; omega) ?_; intro A1 cap1 w2 hown2 hg)
            have hlt2 := (hown1.later ((Below.refl w1.heap.size w1).alloc (Nat.le_refl _) (.cells #[.int .i64 a.f.kind, .int .i64 a.f.src, .int .i64 a.f.to, .int .i64 a.f.source, .int .i64 a.f.target, .int .i64 a.f.seq, .int .i64 a.f.hops, .bool a.f.urgent, .string a.f.data, .int .i64 a.since] 33))).lt
            have hB3 : Below w.heap.size w w2 := Below.row (hB2.alloc hB2.size _) hg (by have := hB2.size; simp; omega) hwX hlt2
            have hk12 := (hk11.alloc _).row hg hlt2 (by omega)
            have hk22 := (hk21.alloc _).row hg hlt2 hg2X
            have hx2 : X.heap.size ≤ w2.heap.size := by have := hg.size; simp at this; omega
            clear hg hown1 hB2 hk11 hk21 hlt2
            go_wp2
            go_roundw
            case rel => exact ⟨j + 1, m' + 1, cap1, A1, none, y ++ [a], by omega, by omega, by go_num, rfl, rfl, HN.out, hown2, hk12, hk22, hB3, hx2⟩
            case measure => simp [intOf]; omega
        | some f =>
          have HN := Lib.hid (show takeL to ((k.take (j + 1)).filter (live now life)) = (some f, y ++ [a]) by rw [HC.out, takeL_snoc, HT.out])
          go_wp2_with (at_builtin; refine wpList_append_rd _ rfl (.tmp 23) (.tmp 25) 22 rfl X.heap.size 33 i0 _ EM Try.underlying22 hi0 hz0 hz1 rfl (.slice A' m' cap') m' y rfl (hown1.later ((Below.refl _ _).alloc (Nat.le_refl _) _)) (some ⟨w1.heap.size, 0, none⟩) 1 1 [a] rfl (mail_one a w1 33) (by unfold maxLen; omega) (by rw [hz2]; omega) (by simp; omega) ?_; intro A1 cap1 w2 hown2 hg)
          have hlt2 := (hown1.later ((Below.refl w1.heap.size w1).alloc (Nat.le_refl _) (.cells #[.int .i64 a.f.kind, .int .i64 a.f.src, .int .i64 a.f.to, .int .i64 a.f.source, .int .i64 a.f.target, .int .i64 a.f.seq, .int .i64 a.f.hops, .bool a.f.urgent, .string a.f.data, .int .i64 a.since] 33))).lt
          have hB3 : Below w.heap.size w w2 := Below.row (hB2.alloc hB2.size _) hg (by have := hB2.size; simp; omega) hwX hlt2
          have hk12 := (hk11.alloc _).row hg hlt2 (by omega)
          have hk22 := (hk21.alloc _).row hg hlt2 hg2X
          have hx2 : X.heap.size ≤ w2.heap.size := by have := hg.size; simp at this; omega
          clear hg hown1 hB2 hk11 hk21 hlt2
          go_wp2
          go_roundw
          case rel => exact ⟨j + 1, m' + 1, cap1, A1, some f, y ++ [a], by omega, by omega, by go_num, rfl, rfl, HN.out, hown2, hk12, hk22, hB3, hx2⟩
          case measure => simp [intOf]; omega
      | false =>
        have HC := Lib.hid (show takeL to ((k.take (j + 1)).filter (live now life)) = (x, y) by rw [filter_no hla hlv]; exact HT.out)
        have HE := Lib.hid (fun w => exp_no (now := now) (life := life) w hlv)
        clear hlv hla
        go_wp2_with fail
        refine (HE.out _).mono ?_
        rintro e w1 ⟨rfl, hb1⟩
        have hB2 := hB1.trans (hb1.mono hB1.size)
        have hown1 := hownV.later hb1
        have hk11 := hk1V.later hb1
        have hk21 := hk2V.later hb1
        have hx1 : X.heap.size ≤ w1.heap.size := by have := hBV.size; have := hb1.size; omega
        clear p0 p1 p2 p3 p4 p5 p6 p7 p8 p9 hb1 hB1 hownV q0 q1 q2 q3 q4 q5 q6 q7 q8 q9 hV hBV hk1V hk2V
        go_wp2
        go_roundw
        case rel => exact ⟨j + 1, m', cap', A', x, y, by omega, by omega, by go_num, rfl, rfl, HC.out, hown1, hk11, hk21, hB2, hx1⟩
        case measure => simp [intOf]; omega
    · have HE := Lib.hid (show k.take j = k by rw [List.take_of_length_le (by rw [hb.1]; omega)])
      have HR := Lib.hid (show takeL to (k.filter (live now life)) = (x, y) by rw [← HT.out, HE.out])
      have hwX : w.heap.size ≤ X.heap.size := hB0.size
      clear hb HT HE
      obtain ⟨f, hf⟩ : ∃ f, x.getD f0 = f := ⟨_, rfl⟩
      rw [hf] at hk2
      have c0 := hk2.at 0 (v := .int .i64 f.kind) rfl
      have c1 := hk2.at 1 (v := .int .i64 f.src) rfl
      have c2 := hk2.at 2 (v := .int .i64 f.to) rfl
      have c3 := hk2.at 3 (v := .int .i64 f.source) rfl
      have c4 := hk2.at 4 (v := .int .i64 f.target) rfl
      have c5 := hk2.at 5 (v := .int .i64 f.seq) rfl
      have c6 := hk2.at 6 (v := .int .i64 f.hops) rfl
      have c7 := hk2.at 7 (v := .bool f.urgent) rfl
      have c8 := hk2.at 8 (v := .string f.data) rfl
      have a0 := hk1.at 0 (v := .int .i64 0) rfl
      have a1 := hk1.at 1 (v := .int .i64 0) rfl
      have a2 := hk1.at 2 (v := .int .i64 0) rfl
      have a3 := hk1.at 3 (v := .int .i64 0) rfl
      have a4 := hk1.at 4 (v := .int .i64 0) rfl
      have a5 := hk1.at 5 (v := .int .i64 0) rfl
      have a6 := hk1.at 6 (v := .int .i64 0) rfl
      have a7 := hk1.at 7 (v := .bool false) rfl
      have a8 := hk1.at 8 (v := .string ⟨#[]⟩) rfl
      have e0 := hk1.frozen 0
      have e1 := hk1.frozen 1
      have e2 := hk1.frozen 2
      have e3 := hk1.frozen 3
      have e4 := hk1.frozen 4
      have e5 := hk1.frozen 5
      have e6 := hk1.frozen 6
      have e7 := hk1.frozen 7
      have e8 := hk1.frozen 8
      have HF := Lib.hid hf
      have hlw := hk1.lt
      have hwX1 : w.heap.size < X.heap.size := by omega
      clear hf
      go_wp2
      refine bodyPost_ret (v := .tuple #[frV f, .slice A' m' cap', .bool x.isSome]) (by simp [results, Try.results14, go_sem, a0, a1, a2, a3, a4, a5, a6, a7, a8]) rfl ?_
      refine ⟨A', m', cap', by rw [HR.out, HF.out], ?_, ?_⟩
      · rw [HR.out]
        exact (((((((((hown.setBelow (p := ⟨w.heap.size, 0, none⟩) hwX1 _).setBelow (p := ⟨w.heap.size, 1, none⟩) hwX1 _).setBelow (p := ⟨w.heap.size, 2, none⟩) hwX1 _).setBelow (p := ⟨w.heap.size, 3, none⟩) hwX1 _).setBelow (p := ⟨w.heap.size, 4, none⟩) hwX1 _).setBelow (p := ⟨w.heap.size, 5, none⟩) hwX1 _).setBelow (p := ⟨w.heap.size, 6, none⟩) hwX1 _).setBelow (p := ⟨w.heap.size, 7, none⟩) hwX1 _).setBelow (p := ⟨w.heap.size, 8, none⟩) hwX1 _).rebase hwX
      · exact ((((((((hbr.setCell (p := ⟨w.heap.size, 0, none⟩) (Nat.le_refl _) _).setCell (p := ⟨w.heap.size, 1, none⟩) (Nat.le_refl _) _).setCell (p := ⟨w.heap.size, 2, none⟩) (Nat.le_refl _) _).setCell (p := ⟨w.heap.size, 3, none⟩) (Nat.le_refl _) _).setCell (p := ⟨w.heap.size, 4, none⟩) (Nat.le_refl _) _).setCell (p := ⟨w.heap.size, 5, none⟩) (Nat.le_refl _) _).setCell (p := ⟨w.heap.size, 6, none⟩) (Nat.le_refl _) _).setCell (p := ⟨w.heap.size, 7, none⟩) (Nat.le_refl _) _).setCell (p := ⟨w.heap.size, 8, none⟩) (Nat.le_refl _) _
end Go.Proofs.Ytfbdiafgfimgaaa
