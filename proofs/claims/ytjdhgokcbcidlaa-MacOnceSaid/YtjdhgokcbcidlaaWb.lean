/- Put of the program. -/
import Derived.Test.YtjdhgokcbcidlaaWa
import Derived.Test.YtjdhgokcbcidlaaDel
import Derived.Test.YtjdhgokcbcidlaaInz
import Derived.Test.YtjdhgokcbcidlaaSet
import Derived.Deep.DeepCutAuto
import Derived.Outline
namespace Go.Proofs.Ytjdhgokcbcidlaa
open Go.RowKit Go.BigFrame
set_option linter.unusedVariables false

/-- may an entry be thrown out? -/
def free (a : Sn) : Bool := !a.f.urgent && decide (a.tries ≤ 0)
def lastF : List Sn → Option Nat
  | [] => none
  | a :: r => match lastF r with
    | some i => some (i + 1)
    | none => if free a = false then none else some 0
/-- the place of the first that is not urgent; the length if there is none -/
def frst (l : List Sn) : Nat := l.findIdx (fun a => !a.f.urgent)
theorem frst_le (l : List Sn) : frst l ≤ l.length := List.findIdx_le_length
theorem frst_at {l : List Sn} {j : Nat} {a : Sn} (h : ∀ (i : Nat) (b : Sn), i < j → l[i]? = some b → b.f.urgent = true) (hj : l[j]? = some a) (ha : a.f.urgent = false) : frst l = j := by
  have hlt : j < l.length := (List.getElem?_eq_some_iff.1 hj).1
  have he : l[j] = a := (List.getElem?_eq_some_iff.1 hj).2
  refine (List.findIdx_eq hlt).2 ⟨by rw [he, ha]; rfl, fun i hi => ?_⟩
  rw [h i l[i] hi (List.getElem?_eq_getElem _)]; rfl
theorem frst_none {l : List Sn} (h : ∀ (i : Nat) (b : Sn), l[i]? = some b → b.f.urgent = true) : frst l = l.length := by
  refine List.findIdx_eq_length.2 fun a ha => ?_
  obtain ⟨i, hi, rfl⟩ := List.getElem_of_mem ha
  rw [h i _ (List.getElem?_eq_getElem hi)]; rfl
def ins (k : List Sn) (m : Sn) : List Sn := k.take (frst k) ++ m :: k.drop (frst k)
def nw (f : Fr) : Sn := ⟨f, 0, 0⟩
/-- Put, on what is in the queue -/
def putS (k : List Sn) (f : Fr) : List Sn × Bool :=
  if f.urgent = false then (if k.length = 16 then (k, false) else (k ++ [nw f], true))
  else if k.length = 16 then (match lastF k with
    | none => (k, false)
    | some i => (ins (k.eraseIdx i) (nw f), true))
  else (ins k (nw f), true)
def PtEnd (w : World) (r : List Sn × Bool) (en : Ending) (w' : World) : Prop :=
  ∃ (A : Option Addr) (n cap : Nat), en = .returned (.tuple #[.slice A n cap, .bool r.2]) ∧ Ow w' w.heap.size 35 ES (.slice A n cap) n r.1 ∧ Below w.heap.size w w'
theorem lastF_none {l : List Sn} (h : ∀ (i : Nat) (b : Sn), l[i]? = some b → free b = false) : lastF l = none := by
  induction l with
  | nil => rfl
  | cons a r ih =>
    rw [lastF, ih (fun i b hb => h (i + 1) b hb)]
    have := h 0 a rfl
    simp [this]
theorem lastF_at {l : List Sn} {j : Nat} {a : Sn} (hj : l[j]? = some a) (ha : free a = true) (h : ∀ (i : Nat) (b : Sn), j < i → l[i]? = some b → free b = false) : lastF l = some j := by
  induction l generalizing j with
  | nil => simp at hj
  | cons b r ih =>
    cases j with
    | zero =>
      simp at hj; subst hj
      rw [lastF, lastF_none (fun i c hc => h (i + 1) c (by omega) hc)]
      simp [ha]
    | succ j =>
      rw [lastF, ih hj (fun i c hi hc => h (i + 1) c (by omega) hc)]
theorem free_no {a : Sn} (h : a.f.urgent = true ∨ 0 < a.tries) : free a = false := by
  unfold free
  rcases h with h | h
  · rw [h]; rfl
  · rw [show decide (a.tries ≤ 0) = false from decide_eq_false (by omega)]; simp
theorem free_yes {a : Sn} (h : a.f.urgent = false) (h' : ¬ 0 < a.tries) : free a = true := by
  unfold free
  rw [h, show decide (a.tries ≤ 0) = true from decide_eq_true (by omega)]; rfl

theorem Blk.row_ {w w' : World} {g base : Nat} {t : TypeId} {cs : Array Value} {v : Value} (h : Blk w g t cs) (hg : w.grownBy w' v.ownBlock) (hv : ∀ k, v.ownBlock = some k → base ≤ k ∧ k < w.heap.size) (hb : g < base) : Blk w' g t cs :=
  (hg.block g h.lt (fun e => by have := (hv g e.symm).1; omega)).trans h
set_option maxRecDepth 20000 in
set_option maxHeartbeats 4000000 in
theorem put10 (A : Option Addr) (n cap : Nat) (l : List Sn) (f : Fr) (w : World) (hn : n ≤ cap) (hcap : cap ≤ 9223372036854775807) (hr : Rd w ES A n l) :
    Calls Try.prog 10 #[.slice A n cap, frV f] w (PtEnd w (putS (l.take 16) f)) := by
  have hk16 : (l.take 16).length ≤ 16 := by rw [List.length_take]; omega
  obtain ⟨W, hW, hB, hz, hk⟩ := boxed w #[.int .i64 f.kind, .int .i64 f.src, .int .i64 f.to, .int .i64 f.source, .int .i64 f.target, .int .i64 f.seq, .int .i64 f.hops, .bool f.urgent, .string f.data] 24
  have QX := Lib.hid (queue22 A n cap l W hn hcap (hr.later hB))
  clear hr
  generalize l.take 16 = k at *
  go_enter Try.func10, Try.ntmps10
  go_wp2_with fail
  refine QX.out.mono ?_
  rintro e w3 ⟨B, mk, ck, rfl, hown0, hb3⟩
  have hown := hown0
  have hwW := Nat.le_of_lt hz
  have hgx : w.heap.size < W.heap.size := hz
  have hB3 := hB.trans (hb3.mono (Nat.le_of_lt hz))
  have hg3 := hk.later hb3
  have hkl := hown.1
  have hmk : mk ≤ 16 := by omega
  have hx3 := hb3.size
  have hgl : w.heap.size < w3.heap.size := by omega
  have c0 := hg3.at 0 (v := .int .i64 f.kind) rfl
  have c1 := hg3.at 1 (v := .int .i64 f.src) rfl
  have c2 := hg3.at 2 (v := .int .i64 f.to) rfl
  have c3 := hg3.at 3 (v := .int .i64 f.source) rfl
  have c4 := hg3.at 4 (v := .int .i64 f.target) rfl
  have c5 := hg3.at 5 (v := .int .i64 f.seq) rfl
  have c6 := hg3.at 6 (v := .int .i64 f.hops) rfl
  have c7 := hg3.at 7 (v := .bool f.urgent) rfl
  have c8 := hg3.at 8 (v := .string f.data) rfl
  have hWw3 : W.heap.size ≤ w3.heap.size := hx3
  clear QX hk hW hown0 hb3 hB hz hx3 hk16
  cases hu : f.urgent with
  | false =>
    rw [hu] at c7
    by_cases h16 : mk = 16
    · have hP := Lib.hid (show putS k f = (k, false) by simp [putS, hu, hkl, h16])
      subst h16
      go_wp2
      refine bodyPost_ret (v := .tuple #[.slice B 16 ck, .bool false]) (by simp [results, Try.results10, go_sem]) rfl ?_
      rw [hP.out]
      exact ⟨B, 16, ck, rfl, hown.rebase hwW, hB3⟩
    · have hP := Lib.hid (show putS k f = (k ++ [nw f], true) by simp [putS, hu, hkl, h16])
      obtain ⟨i0, hi0, hz0, hz1, hz2⟩ := info_parts info35
      have h16' : ¬ ((mk : Int) = 16) := by omega
      go_wp2_with (at_builtin; refine wpList_append_rd _ rfl (.tmp 18) (.tmp 21) 22 rfl W.heap.size 35 i0 _ ES Try.underlying22 hi0 hz0 hz1 rfl (.slice B mk ck) mk k rfl (hown.later ((Below.refl _ _).alloc (Nat.le_refl _) _)) (some ⟨w3.heap.size, 0, none⟩) 1 1 [nw f] rfl (by have := snd_one (nw f) w3 35; simp only [nw] at this; rw [hu] at this; exact this) (by unfold maxLen; omega) (by rw [hz2]; omega) (by simp; omega) ?_; intro A1 cap1 w4 hown1 hgr)
      have hb4 : Below w.heap.size w w4 := Below.row (hB3.alloc hB3.size _) hgr (by have := hB3.size; simp; omega) hwW (hown.later ((Below.refl _ _).alloc (Nat.le_refl _) _)).lt
      go_wp2
      refine bodyPost_ret (v := .tuple #[.slice A1 (mk + 1) cap1, .bool true]) (by simp [results, Try.results10, go_sem]) rfl ?_
      rw [hP.out]
      exact ⟨A1, mk + 1, cap1, rfl, hown1.rebase hwW, hb4⟩
  | true =>
    rw [hu] at c7
    go_upto_if 25 with fail
    go_cut [6] (fun s6 wz => ∃ (B' : Option Addr) (n' cap' : Nat) (k' : List Sn), s6 = .slice B' n' cap' ∧ n' ≤ 16 ∧ putS k f = (ins k' (nw f), true) ∧ Ow wz W.heap.size 35 ES (.slice B' n' cap') n' k' ∧ Blk wz w.heap.size 24 (encF f).toArray ∧ Below w.heap.size w wz ∧ W.heap.size ≤ wz.heap.size)
    case first =>
      by_cases h16 : mk = 16
      · subst h16
        have hrd := hown.rd
        clear c0 c1 c2 c3 c4 c5 c6 c7 c8
        go_wp2
        go_step3
        go_wp2
        go_step3
        go_wp2
        go_loop [7] (fun v => (v = .int .i64 (-1) ∧ ∀ (i : Nat) (b : Sn), k[i]? = some b → free b = false) ∨ (∃ i : Nat, i < 16 ∧ v = .int .i64 i ∧ ∀ (p : Nat) (b : Sn), i < p → k[p]? = some b → free b = false)) (fun v => (intOf v + 1).toNat)
        case atStart => exact .inr ⟨15, by omega, rfl, fun p b h1 h2 => by have := (List.getElem?_eq_some_iff.1 h2).1; omega⟩
        case round =>
          rcases hrel with ⟨rfl, hall⟩ | ⟨i, hi, rfl, hall⟩
          · have hP := Lib.hid (show putS k f = (k, false) by simp [putS, hu, hkl, lastF_none hall])
            clear hall
            go_wp2
            refine bodyPost_ret (v := .tuple #[.slice B 16 ck, .bool false]) (by simp [results, Try.results10, go_sem]) rfl ?_
            rw [hP.out]
            exact ⟨B, 16, ck, rfl, hown.rebase hwW, hB3⟩
          · obtain ⟨b, off, a, rfl, hla, q0, q1, q2, q3, q4, q5, q6, q7, q8, q9, q10⟩ := snd_at hrd hi
            have HA := Lib.hid hall
            clear hall q0 q1 q2 q3 q4 q5 q6 q8 q10
            by_cases hfr : a.f.urgent = true ∨ 0 < a.tries
            · have HN : Hid (∀ (p : Nat) (b : Sn), i - 1 < p → k[p]? = some b → free b = false) := Lib.hid (fun p b h1 h2 => by
                rcases Nat.lt_or_ge i p with d | d
                · exact HA.out p b d h2
                · obtain rfl | rfl : p = i ∨ p = i - 1 := by omega
                  · rw [hla] at h2; cases h2; exact free_no hfr
                  · omega)
              have H0 : Hid (i = 0 → ∀ (p : Nat) (b : Sn), k[p]? = some b → free b = false) := Lib.hid (fun h0 p b h2 => by
                rcases Nat.lt_or_ge i p with d | d
                · exact HA.out p b d h2
                · obtain rfl : p = i := by omega
                  rw [hla] at h2; cases h2; exact free_no hfr)
              clear HA hla
              have HREL : Hid ((Value.int IntKind.i64 ((i : Int) - 1) = .int .i64 (-1) ∧ ∀ (i : Nat) (b : Sn), k[i]? = some b → free b = false) ∨ (∃ j : Nat, j < 16 ∧ Value.int IntKind.i64 ((i : Int) - 1) = .int .i64 j ∧ ∀ (p : Nat) (b : Sn), j < p → k[p]? = some b → free b = false)) := Lib.hid (by
                rcases Nat.eq_zero_or_pos i with d | d
                · exact .inl ⟨by subst d; rfl, H0.out d⟩
                · exact .inr ⟨i - 1, by omega, by congr 1; omega, HN.out⟩)
              clear HN H0
              cases hau : a.f.urgent with
              | true =>
                rw [hau] at q7
                clear hfr
                go_wp2
                go_round
                case rel => exact HREL.out
                case measure => simp [intOf]
              | false =>
                rw [hau] at q7
                have ht : 0 < a.tries := by
                  rcases hfr with c | c
                  · rw [hau] at c; cases c
                  · exact c
                clear hfr
                go_wp2
                go_round
                case rel => exact HREL.out
                case measure => simp [intOf]
            · have hau : a.f.urgent = false := by cases h : a.f.urgent with | false => rfl | true => exact absurd (.inl h) hfr
              have ht : ¬ 0 < a.tries := fun c => hfr (.inr c)
              have hP := Lib.hid (show putS k f = (ins (k.eraseIdx i) (nw f), true) by simp [putS, hu, hkl, lastF_at hla (free_yes hau ht) HA.out])
              obtain ⟨m', hm'⟩ : ∃ m', 16 = i + 1 + m' := ⟨16 - (i + 1), by omega⟩
              have HD := Lib.hid (show Calls Try.prog 23 #[.slice (some ⟨b, off, none⟩) 16 ck, .int .i64 i, .int .i64 (i + 1)] w3 fun e w' =>
                ∃ A' : Option Addr, e = .returned (.slice A' (i + m') ck) ∧ Ow w' W.heap.size 35 ES (.slice A' (i + m') ck) (i + m') (k.eraseIdx i) ∧ w3.grownBy w' (Value.ownBlock (.slice (some ⟨b, off, none⟩) 16 ck)) from by
                  have hw := hown
                  rw [hm'] at hw ⊢
                  exact delete23 W.heap.size _ i m' ck k w3 hw)
              have hm4 : i + m' ≤ 16 := by omega
              rw [hau] at q7
              clear HA hla hm' hfr hau
              go_wp2_with fail
              refine HD.out.mono ?_
              rintro e w4 ⟨B4, rfl, hown4, hgr4⟩
              have hb4 : Below w.heap.size w w4 := Below.row hB3 hgr4 (by omega) hwW hown.lt
              have hg4 : Blk w4 w.heap.size 24 (encF f).toArray := hg3.row_ hgr4 hown.lt hgx
              have hx4 := hgr4.size
              clear hgr4 hown HD
              go_wp2
              refine Met.intro ?_
              go_step
              refine Met.intro ?_
              go_step
              (repeat apply Exists.intro)
              refine ⟨?rel, rfl⟩
              exact ⟨B4, i + m', ck, k.eraseIdx i, rfl, hm4, hP.out, hown4, hg4, hb4, by omega⟩
      · have hP := Lib.hid (show putS k f = (ins k (nw f), true) by simp [putS, hu, hkl, h16])
        have h16' : ¬ ((mk : Int) = 16) := by omega
        go_wp2
        go_meet
        exact ⟨B, mk, ck, k, rfl, hmk, hP.out, hown, hg3, hB3, by omega⟩
    case rest =>
      obtain ⟨B', n', cap', k', rfl, hn', hP, hown', hg', hB', hwc⟩ := hcut
      obtain ⟨wy, rfl⟩ : ∃ wy, wy = wc := ⟨_, rfl⟩
      have HP := Lib.hid hP
      have hrd := hown'.rd
      have hl' := hown'.1
      clear hP hown hg3 hB3 hkl hmk c0 c1 c2 c3 c4 c5 c6 c7 c8
      go_wp2
      go_loop [8] (fun v => ∃ j : Nat, j ≤ n' ∧ v = .int .i64 j ∧ Hid (∀ (i : Nat) (b : Sn), i < j → k'[i]? = some b → b.f.urgent = true)) (fun v => n' - (intOf v).toNat)
      case atStart => exact ⟨0, by omega, rfl, Lib.hid (fun i b h => by omega)⟩
      case round =>
        obtain ⟨j, hj, rfl, hall⟩ := hrel
        by_cases hgo : ∃ a, k'[j]? = some a ∧ a.f.urgent = true
        · obtain ⟨a, hla', hau⟩ := hgo
          have hlt : j < n' := by rw [← hl']; exact (List.getElem?_eq_some_iff.1 hla').1
          obtain ⟨b, off, a2, rfl, hla, q0, q1, q2, q3, q4, q5, q6, q7, q8, q9, q10⟩ := snd_at hrd hlt
          obtain rfl : a = a2 := by rw [hla'] at hla; exact Option.some.inj hla
          have HN : Hid (∀ (i : Nat) (b : Sn), i < j + 1 → k'[i]? = some b → b.f.urgent = true) := Lib.hid (fun i c h1 h2 => by
            rcases Nat.lt_or_ge i j with d | d
            · exact hall.out i c d h2
            · obtain rfl : i = j := by omega
              rw [hla] at h2; cases h2; exact hau)
          rw [hau] at q7
          clear hla hla' hall hau q0 q1 q2 q3 q4 q5 q6 q8 q9 q10
          go_wp2
          go_round
          case rel => exact ⟨j + 1, by omega, by go_num, HN⟩
          case measure => simp [intOf]; omega
        · have hfr : frst k' = j := by
            by_cases hlt : j < n'
            · have hlk : j < k'.length := by omega
              exact frst_at hall.out (List.getElem?_eq_getElem hlk) (by cases h : (k'[j]).f.urgent with | false => rfl | true => exact absurd ⟨_, List.getElem?_eq_getElem hlk, h⟩ hgo)
            · rw [show j = k'.length by omega]
              exact frst_none fun i b h2 => hall.out i b (by have := (List.getElem?_eq_some_iff.1 h2).1; omega) h2
          have HF := Lib.hid hfr
          have d0 := hg'.at 0 (v := .int .i64 f.kind) rfl
          have d1 := hg'.at 1 (v := .int .i64 f.src) rfl
          have d2 := hg'.at 2 (v := .int .i64 f.to) rfl
          have d3 := hg'.at 3 (v := .int .i64 f.source) rfl
          have d4 := hg'.at 4 (v := .int .i64 f.target) rfl
          have d5 := hg'.at 5 (v := .int .i64 f.seq) rfl
          have d6 := hg'.at 6 (v := .int .i64 f.hops) rfl
          have d7 := hg'.at 7 (v := .bool f.urgent) rfl
          have d8 := hg'.at 8 (v := .string f.data) rfl
          have hIN := Lib.hid (show Calls Try.prog 24 #[.slice B' n' cap', .int .i64 j, .slice (some ⟨wy.heap.size, 0, none⟩) 1 1] (wy.alloc (.cells #[.int .i64 f.kind, .int .i64 f.src, .int .i64 f.to, .int .i64 f.source, .int .i64 f.target, .int .i64 f.seq, .int .i64 f.hops, .bool f.urgent, .string f.data, .int .i64 0, .int .i64 0] 35)) (InsEnd W.heap.size (n' + 1) (ins k' (nw f)) (wy.alloc (.cells #[.int .i64 f.kind, .int .i64 f.src, .int .i64 f.to, .int .i64 f.source, .int .i64 f.target, .int .i64 f.seq, .int .i64 f.hops, .bool f.urgent, .string f.data, .int .i64 0, .int .i64 0] 35)) (Value.ownBlock (.slice B' n' cap'))) from by
            have := insert24 W.heap.size B' j n' cap' k' (nw f) wy.heap.size (wy.alloc (.cells (encS (nw f)).toArray 35)) (by omega) hj (hown'.later ((Below.refl _ _).alloc (Nat.le_refl _) _)) (by simp; omega) (Blk.new wy 35 _) (fun e => by have := (hown'.lt _ e).2; omega)
            unfold ins
            rw [HF.out]
            exact this)
          have hlt2 := (hown'.later ((Below.refl wy.heap.size wy).alloc (Nat.le_refl _) (.cells #[.int .i64 f.kind, .int .i64 f.src, .int .i64 f.to, .int .i64 f.source, .int .i64 f.target, .int .i64 f.seq, .int .i64 f.hops, .bool f.urgent, .string f.data, .int .i64 0, .int .i64 0] 35))).lt
          have hgq : Hid (∀ (b off : Nat) (a : Sn), B' = some ⟨b, off, none⟩ → k'[j]? = some a → a.f.urgent = false) := Lib.hid (fun b off a _ h => by cases h' : a.f.urgent with | false => rfl | true => exact absurd ⟨a, h, h'⟩ hgo)
          clear hfr hall hg' hgo HF
          by_cases hlt : j < n'
          · obtain ⟨b, off, a, hBb, hla, q0, q1, q2, q3, q4, q5, q6, q7, q8, q9, q10⟩ := snd_at hrd hlt
            have hau := hgq.out b off a hBb hla
            subst hBb
            rw [hau] at q7
            clear hla hau q0 q1 q2 q3 q4 q5 q6 q8 q9 q10 hown' hrd
            rw [hu] at d7 hIN hlt2
            go_wp2_with fail
            refine hIN.out.mono ?_
            rintro e w6 ⟨A1, cap1, rfl, ho6, hgr6⟩
            have hb6 : Below w.heap.size w w6 := Below.row (hB'.alloc hB'.size _) hgr6 (by have := hB'.size; simp; omega) hwW hlt2
            clear hgr6 hIN d0 d1 d2 d3 d4 d5 d6 d7 d8
            go_wp2
            refine bodyPost_ret (v := .tuple #[.slice A1 (n' + 1) cap1, .bool true]) (by simp [results, Try.results10, go_sem]) rfl ?_
            rw [HP.out]
            exact ⟨A1, n' + 1, cap1, rfl, ho6.rebase hwW, hb6⟩
          · obtain rfl : n' = j := by omega
            clear hown' hrd
            rw [hu] at d7 hIN hlt2
            go_wp2_with fail
            refine hIN.out.mono ?_
            rintro e w6 ⟨A1, cap1, rfl, ho6, hgr6⟩
            have hb6 : Below w.heap.size w w6 := Below.row (hB'.alloc hB'.size _) hgr6 (by have := hB'.size; simp; omega) hwW hlt2
            clear hgr6 hIN d0 d1 d2 d3 d4 d5 d6 d7 d8
            go_wp2
            refine bodyPost_ret (v := .tuple #[.slice A1 (n' + 1) cap1, .bool true]) (by simp [results, Try.results10, go_sem]) rfl ?_
            rw [HP.out]
            exact ⟨A1, n' + 1, cap1, rfl, ho6.rebase hwW, hb6⟩
end Go.Proofs.Ytjdhgokcbcidlaa
