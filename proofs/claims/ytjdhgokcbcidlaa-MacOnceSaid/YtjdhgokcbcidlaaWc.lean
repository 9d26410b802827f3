/- Put of the reference. -/
import Derived.Test.YtjdhgokcbcidlaaWb
import Derived.Deep.CutBlock
namespace Go.Proofs.Ytjdhgokcbcidlaa
open Go.RowKit Go.BigFrame
set_option linter.unusedVariables false

theorem lastF_lt {k : List Sn} {i : Nat} (h : lastF k = some i) : i < k.length := by
  induction k generalizing i with
  | nil => simp [lastF] at h
  | cons a r ih =>
    rw [lastF] at h
    cases hr : lastF r with
    | some j =>
      rw [hr] at h
      have := ih hr
      cases h
      simp; omega
    | none =>
      rw [hr] at h
      simp only at h
      split at h
      · cases h
      · cases h; simp
theorem lastF_take_yes {k : List Sn} {j : Nat} {a : Sn} (h : k[j]? = some a) (ha : free a = false) : lastF (k.take (j + 1)) = lastF (k.take j) := by
  rw [take_snoc h]
  generalize k.take j = l
  induction l with
  | nil => simp [lastF, ha]
  | cons b r ih => rw [List.cons_append, lastF, ih, lastF]
theorem lastF_take_no {k : List Sn} {j : Nat} {a : Sn} (h : k[j]? = some a) (ha : free a = true) : lastF (k.take (j + 1)) = some j := by
  refine lastF_at (by rw [List.getElem?_take, if_pos (by omega)]; exact h) ha (fun i b hi hb => ?_)
  rw [List.getElem?_take] at hb
  split at hb
  · omega
  · cases hb

/-- where Put lays a mail -/
def posP (f : Fr) (k : List Sn) : Nat := if f.urgent then frst k else k.length
def PosFrom (k : List Sn) (j q : Nat) : Prop := j ≤ q ∧ q ≤ k.length ∧ (∀ (p : Nat) (b : Sn), j ≤ p → p < q → k[p]? = some b → b.f.urgent = true) ∧ (∀ b : Sn, k[q]? = some b → b.f.urgent = false)
theorem PosFrom.end_ {k : List Sn} {q : Nat} (h : PosFrom k 0 q) : frst k = q := by
  obtain ⟨_, h1, h2, h3⟩ := h
  rcases Nat.eq_or_lt_of_le h1 with e | e
  · rw [e]; exact frst_none fun i b hb => h2 i b (Nat.zero_le _) (by rw [e]; exact (List.getElem?_eq_some_iff.1 hb).1) hb
  · exact frst_at (a := k[q]) (fun i b hi hb => h2 i b (Nat.zero_le _) hi hb) (List.getElem?_eq_getElem e) (h3 _ (List.getElem?_eq_getElem e))
theorem PosFrom.end_' {k : List Sn} {j q : Nat} (h : PosFrom k j q) (hj : j = 0) : frst k = q := by subst hj; exact h.end_
theorem PosFrom.yes {k : List Sn} {i q : Nat} {a : Sn} (h : PosFrom k (i + 1) q) (hi : k[i]? = some a) (ha : a.f.urgent = true) : PosFrom k i q :=
  ⟨by have := h.1; omega, h.2.1, fun p b h1 h2 hb => by
    rcases Nat.eq_or_lt_of_le h1 with rfl | e
    · rw [hi] at hb; cases hb; exact ha
    · exact h.2.2.1 p b e h2 hb, h.2.2.2⟩
theorem PosFrom.no {k : List Sn} {i q : Nat} {a : Sn} (h : PosFrom k (i + 1) q) (hi : k[i]? = some a) (ha : a.f.urgent = false) : PosFrom k i i :=
  ⟨Nat.le_refl _, by have := (List.getElem?_eq_some_iff.1 hi).1; omega, fun p b h1 h2 hb => by omega, fun b hb => by rw [hi] at hb; cases hb; exact ha⟩
theorem PosFrom.start (k : List Sn) : PosFrom k k.length k.length := ⟨Nat.le_refl _, Nat.le_refl _, fun p b h1 h2 hb => by omega, fun b hb => by have := (List.getElem?_eq_some_iff.1 hb).1; omega⟩

def lastI (l : List Sn) : Int := match lastF l with | none => -1 | some i => i


set_option maxRecDepth 20000 in
set_option maxHeartbeats 4000000 in
theorem put11 (A : Option Addr) (n cap : Nat) (l : List Sn) (f : Fr) (w : World) (hcap : n ≤ 9223372036854775807) (hr : Rd w ES A n l) :
    Calls Try.prog 11 #[.slice A n cap, frV f] w (PtEnd w (putS (l.take 16) f)) := by
  have HX : Hid (∀ w, Rd w ES A n l → Calls Try.prog 25 #[.slice A n cap] w (SlEnd w (l.take 16))) := Lib.hid (fun w hr => first25 A n cap l w hcap hr)
  have hk16 : (l.take 16).length ≤ 16 := by rw [List.length_take]; omega
  generalize l.take 16 = k at *
  obtain ⟨W, hW, hB, hz, hk⟩ := boxed w #[.int .i64 f.kind, .int .i64 f.src, .int .i64 f.to, .int .i64 f.source, .int .i64 f.target, .int .i64 f.seq, .int .i64 f.hops, .bool f.urgent, .string f.data] 24
  have hrW := hr.later hB
  clear hr
  go_enter Try.func11, Try.ntmps11
  go_wp2_with fail
  refine (HX.out _ hrW).mono ?_
  rintro e w1 ⟨B, m, cm, rfl, hown, hb1⟩
  have hB1 := hB.trans (hb1.mono (Nat.le_of_lt hz))
  have hk1 := hk.later hb1
  have hm16 : m ≤ 16 := by rw [← hown.1]; exact hk16
  have hw1 := hb1.size
  clear hrW hk HX hW hk16 hb1
  go_upto_block 0 with fail
  go_cut [7] (fun s9 wz => wz = w1 ∧ s9 = .int .i64 (lastI k))
  case first =>
    have hrd := hown.rd
    have hkl := hown.1
    clear hown hk1
    go_wp2_with fail
    go_loop [7, 8] (fun v i => ∃ j : Nat, j ≤ m ∧ i = .int .i64 j ∧ v = .int .i64 (lastI (k.take j))) (fun _ i => m - (intOf i).toNat)
    case atStart => exact ⟨0, by omega, rfl, rfl⟩
    case round =>
      obtain ⟨j, hj, rfl, rfl⟩ := hrel
      by_cases hlt : j < m
      · obtain ⟨b, off, a, rfl, hla, q0, q1, q2, q3, q4, q5, q6, q7, q8, q9, q10⟩ := snd_at hrd hlt
        cases hau : a.f.urgent with
        | true =>
          have HN := Lib.hid (show lastI (k.take (j + 1)) = lastI (k.take j) by unfold lastI; rw [lastF_take_yes hla (free_no (.inl hau))])
          rw [hau] at q7
          clear hla hkl
          generalize lastI (k.take j) = z at *
          go_wp2
          go_round
          case rel => exact ⟨j + 1, by omega, by go_num, by rw [HN.out]⟩
          case measure => simp [intOf]; omega
        | false =>
          by_cases ht : 0 < a.tries
          · have HN := Lib.hid (show lastI (k.take (j + 1)) = lastI (k.take j) by unfold lastI; rw [lastF_take_yes hla (free_no (.inr ht))])
            have ht' : ¬ a.tries ≤ 0 := by omega
            rw [hau] at q7
            clear hla hkl
            generalize lastI (k.take j) = z at *
            go_wp2
            go_round
            case rel => exact ⟨j + 1, by omega, by go_num, by rw [HN.out]⟩
            case measure => simp [intOf]; omega
          · have HN := Lib.hid (show lastI (k.take (j + 1)) = (j : Int) by unfold lastI; rw [lastF_take_no hla (free_yes hau ht)])
            have ht' : a.tries ≤ 0 := by omega
            rw [hau] at q7
            clear hla hkl ht
            generalize lastI (k.take j) = z at *
            go_wp2
            go_round
            case rel => exact ⟨j + 1, by omega, by go_num, by rw [HN.out]⟩
            case measure => simp [intOf]; omega
      · have HN := Lib.hid (show lastI (k.take j) = lastI k by rw [List.take_of_length_le (by omega)])
        clear hkl
        generalize lastI (k.take j) = z at *
        go_wp2
        go_meet
        exact ⟨rfl, by rw [HN.out]⟩
  case rest =>
    obtain ⟨rfl, rfl⟩ := hcut
    have hkl := hown.1
    have b0 := hk1.at 0 (v := .int .i64 f.kind) rfl
    have b1 := hk1.at 1 (v := .int .i64 f.src) rfl
    have b2 := hk1.at 2 (v := .int .i64 f.to) rfl
    have b3 := hk1.at 3 (v := .int .i64 f.source) rfl
    have b4 := hk1.at 4 (v := .int .i64 f.target) rfl
    have b5 := hk1.at 5 (v := .int .i64 f.seq) rfl
    have b6 := hk1.at 6 (v := .int .i64 f.hops) rfl
    have b7 := hk1.at 7 (v := .bool f.urgent) rfl
    have b8 := hk1.at 8 (v := .string f.data) rfl
    have hbw := hk1.lt
    clear hk1
    by_cases hno : m = 16 ∧ (f.urgent = false ∨ lastF k = none)
    · obtain ⟨rfl, h⟩ := hno
      have hP := Lib.hid (show putS k f = (k, false) by
        unfold putS
        rcases h with h | h
        · rw [if_pos h, if_pos hkl]
        · by_cases hf : f.urgent = false
          · rw [if_pos hf, if_pos hkl]
          · rw [if_neg hf, if_pos hkl, h])
      have hl : Hid (f.urgent = true → lastI k = -1) := Lib.hid (fun hf => by
        rcases h with h | h
        · rw [hf] at h; cases h
        · unfold lastI; rw [h])
      clear h hkl
      cases hu : f.urgent with
      | false =>
        rw [hu] at b7
        go_wp2
        refine bodyPost_ret (v := .tuple #[.slice B 16 cm, .bool false]) (by simp [results, Try.results11, go_sem]) rfl ?_
        rw [hP.out]
        exact ⟨B, 16, cm, rfl, hown.rebase (Nat.le_of_lt hz), hB1⟩
      | true =>
        rw [hu] at b7
        have hl1 := hl.out hu
        go_wp2
        refine bodyPost_ret (v := .tuple #[.slice B 16 cm, .bool false]) (by simp [results, Try.results11, go_sem]) rfl ?_
        rw [hP.out]
        exact ⟨B, 16, cm, rfl, hown.rebase (Nat.le_of_lt hz), hB1⟩
    · by_cases h16 : m = 16
      case' pos =>
        subst h16
        obtain ⟨hu, i, hi⟩ : f.urgent = true ∧ ∃ i, lastF k = some i := by
          refine ⟨by cases h : f.urgent with | true => rfl | false => exact absurd ⟨rfl, .inl h⟩ hno, ?_⟩
          cases h : lastF k with
          | none => exact absurd ⟨rfl, .inr h⟩ hno
          | some i => exact ⟨i, rfl⟩
        have hli : lastI k = (i : Int) := by unfold lastI; rw [hi]
        have hi16 : i < 16 := by have := lastF_lt hi; omega
        have HP := Lib.hid (show putS k f = ((k.eraseIdx i).take (posP f (k.eraseIdx i)) ++ nw f :: (k.eraseIdx i).drop (posP f (k.eraseIdx i)), true) by
          unfold putS posP
          rw [if_neg (by rw [hu]; decide), if_pos hkl, hi, if_pos hu]; rfl)
        have HW := Lib.hid (fun w hr => without26 B 16 cm k i w (by omega) hr hi16)
        have hrd := hown.rd
        rw [hu] at b7
        have hii : ¬ ((i : Int) < 0) := by omega
        have hel : (k.eraseIdx i).length ≤ 16 := by have := List.length_eraseIdx_le k i; omega
        clear hno hi hkl hown
        go_wp2_with fail
        refine (HW.out _ hrd).mono ?_
        rintro e w2 ⟨B', n', cap', rfl, hown', hb2⟩
        have hown2 := hown'.rebase hw1
        have hB2 := hB1.trans (hb2.mono hB1.size)
        have f0 := keep hb2 b0
        have f1 := keep hb2 b1
        have f2 := keep hb2 b2
        have f3 := keep hb2 b3
        have f4 := keep hb2 b4
        have f5 := keep hb2 b5
        have f6 := keep hb2 b6
        have f7 := keep hb2 b7
        have f8 := keep hb2 b8
        rw [← hu] at f7
        have hkl' := hown2.1
        have hn16 : n' ≤ 16 := by rw [← hkl']; exact hel
        have hbw' : w.heap.size < w2.heap.size := by have := hb2.size; omega
        clear hown' b0 b1 b2 b3 b4 b5 b6 b7 b8 hb2 hbw hB1 HW hrd hu hli hii hel hi16
        generalize k.eraseIdx i = k' at *
        go_upto_block 2 with fail
      case' neg =>
        have HP := Lib.hid (show putS k f = (k.take (posP f k) ++ nw f :: k.drop (posP f k), true) by
          unfold putS posP
          cases hu : f.urgent with
          | false => rw [if_pos rfl, if_neg (by omega), if_neg (by decide), List.take_length, List.drop_length]
          | true => rw [if_neg (by decide), if_neg (by omega), if_pos rfl]; rfl)
        have h16' : ((m : Int) == 16) = false := by simp; omega
        clear hno
        obtain ⟨k', rfl⟩ : ∃ k', k' = k := ⟨_, rfl⟩
        obtain ⟨n', rfl⟩ : ∃ n', n' = m := ⟨_, rfl⟩
        obtain ⟨B', rfl⟩ : ∃ B', B' = B := ⟨_, rfl⟩
        obtain ⟨cap', rfl⟩ : ∃ cap', cap' = cm := ⟨_, rfl⟩
        obtain ⟨w2, rfl⟩ : ∃ w2, w2 = wc := ⟨_, rfl⟩
        have hown2 := hown
        have hB2 := hB1
        have hkl' := hkl
        have hn16 := hm16
        have hbw' := hbw
        have f0 := b0
        have f1 := b1
        have f2 := b2
        have f3 := b3
        have f4 := b4
        have f5 := b5
        have f6 := b6
        have f7 := b7
        have f8 := b8
        clear hown hB1 hkl hm16 hbw b0 b1 b2 b3 b4 b5 b6 b7 b8
        go_upto_block 2 with fail
        clear h16
      all_goals
        have hrd := hown2.rd
        go_cut [9] (fun s11 wz => wz = w2 ∧ s11 = .int .i64 (posP f k' : Nat))
        case first =>
          clear hown2 HP
          go_wp2_with fail
          cases hu : f.urgent with
          | false =>
            have hp : posP f k' = n' := by unfold posP; rw [hu, ← hkl']; rfl
            rw [hu] at f7
            go_loop [9, 10] (fun a i => a = .int .i64 n' ∧ i = .int .i64 ((n' : Int) - 1)) (fun _ _ => 0)
            case atStart => exact ⟨rfl, rfl⟩
            case round =>
              obtain ⟨rfl, rfl⟩ := hrel
              go_wp2
              all_goals (go_meet; exact ⟨rfl, by rw [hp]⟩)
          | true =>
            have hp : posP f k' = frst k' := by unfold posP; rw [hu]; rfl
            have HQ := Lib.hid hp
            rw [hu] at f7
            clear hp
            go_loop [9, 10] (fun a v => (v = .int .i64 (-1) ∧ a = .int .i64 (frst k')) ∨ (∃ i : Nat, i < n' ∧ v = .int .i64 i ∧ ∃ q : Nat, a = .int .i64 q ∧ PosFrom k' (i + 1) q)) (fun _ v => (intOf v + 1).toNat)
            case atStart =>
              rcases Nat.eq_zero_or_pos n' with d | d
              · exact .inl ⟨by rw [d]; rfl, by rw [(PosFrom.start k').end_' (by omega), hkl']⟩
              · exact .inr ⟨n' - 1, by omega, by congr 1; omega, n', rfl, by have := PosFrom.start k'; rw [hkl'] at this; rwa [show n' - 1 + 1 = n' by omega]⟩
            case round =>
              rcases hrel with ⟨rfl, rfl⟩ | ⟨i, hi, rfl, q, rfl, hq⟩
              · go_wp2
                go_meet
                exact ⟨rfl, by rw [HQ.out]⟩
              · obtain ⟨b, off, a, rfl, hla, q0, q1, q2, q3, q4, q5, q6, q7, q8, q9, q10⟩ := snd_at hrd hi
                cases hau : a.f.urgent with
                | true =>
                  have HN := Lib.hid (hq.yes hla hau)
                  rw [hau] at q7
                  clear hq hla q0 q1 q2 q3 q4 q5 q6 q8 q9 q10
                  go_wp2
                  go_round
                  case rel =>
                    rcases Nat.eq_zero_or_pos i with d | d
                    · subst d; exact .inl ⟨rfl, by rw [HN.out.end_]⟩
                    · exact .inr ⟨i - 1, by omega, by congr 1; omega, q, rfl, by rw [show i - 1 + 1 = i by omega]; exact HN.out⟩
                  case measure => simp [intOf]
                | false =>
                  have HN := Lib.hid (hq.no hla hau)
                  rw [hau] at q7
                  clear hq hla q0 q1 q2 q3 q4 q5 q6 q8 q9 q10
                  go_wp2
                  go_round
                  case rel =>
                    rcases Nat.eq_zero_or_pos i with d | d
                    · subst d; exact .inl ⟨rfl, by rw [HN.out.end_]⟩
                    · exact .inr ⟨i - 1, by omega, by congr 1; omega, i, rfl, by rw [show i - 1 + 1 = i by omega]; exact HN.out⟩
                  case measure => simp [intOf]
        case rest =>
          obtain ⟨rfl, rfl⟩ := hcut
          obtain ⟨w2, rfl⟩ : ∃ w2, w2 = wc := ⟨_, rfl⟩
          obtain ⟨i0, hi0, hz0, hz1, hz2⟩ := info_parts info35
          have hqn : posP f k' ≤ n' := by
            unfold posP
            split
            · have := frst_le k'; omega
            · omega
          generalize posP f k' = q at *
          have hform := hown2.2.2
          obtain ⟨kt, hkt⟩ : ∃ kt, k'.take q = kt := ⟨_, rfl⟩
          obtain ⟨kd, hkd⟩ : ∃ kd, k'.drop q = kd := ⟨_, rfl⟩
          rw [hkt, hkd] at HP
          have hsz := hB2.size
          rcases hform with ⟨h1, h2⟩ | ⟨g, cap2, cur, h1, _, _, hnc, _⟩
          · cases h1
            obtain rfl : q = 0 := by omega
            have hnil : k' = [] := List.eq_nil_of_length_eq_zero hkl'
            have hs1 : Rd w2 ES none 0 kt := by rw [← hkt, hnil]; exact Rd.none_ _ _ _
            have hs2 : Rd w2 ES none 0 kd := by rw [← hkd, hnil]; exact Rd.none_ _ _ _
            clear hown2 hrd hkt hkd hnil hkl'
            go_wp2_with (first
              | (at_builtin; refine wpList_append_rd _ rfl (.tmp 76) (.tmp 79) 22 rfl w2.heap.size 35 i0 _ ES Try.underlying22 hi0 hz0 hz1 rfl (.slice (some ⟨w2.heap.size, 0, none⟩) 0 0) 0 [] rfl ⟨rfl, World.ownsRow_made w2 #[] 0 (Nat.le_refl _) (Nat.zero_le _) rfl⟩ (none) (0) (0) kt rfl (hs1.later ((Below.refl _ _).alloc (Nat.le_refl _) _)) (by unfold maxLen; omega) (by rw [hz2]; omega) (by simp) ?_; intro A1 cap1 w3 hown3 hg3; have hC3 : Below w2.heap.size w2 w3 := ((Below.refl _ _).alloc (Nat.le_refl _) _).grown hg3 (by simp) (fun k hk => by simp [Value.ownBlock] at hk; omega); simp only [Nat.zero_add, List.nil_append] at hown3; have C0 := keep hC3 f0; have C1 := keep hC3 f1; have C2 := keep hC3 f2; have C3 := keep hC3 f3; have C4 := keep hC3 f4; have C5 := keep hC3 f5; have C6 := keep hC3 f6; have C7 := keep hC3 f7; have C8 := keep hC3 f8; have hs3 := hs2.later hC3; clear f0 f1 f2 f3 f4 f5 f6 f7 f8 hg3)
              | (at_builtin; refine wpList_append_rd _ rfl (.tmp 81) (.tmp 84) 22 rfl w2.heap.size 35 i0 _ ES Try.underlying22 hi0 hz0 hz1 rfl (.slice A1 (0) cap1) (0) kt rfl (hown3.later ((Below.refl _ _).alloc (Nat.le_refl _) _)) (some ⟨w3.heap.size, 0, none⟩) 1 1 [nw f] rfl (snd_one (nw f) w3 35) (by unfold maxLen; omega) (by rw [hz2]; omega) (by have := hC3.size; simp; omega) ?_; intro A2 cap2' w5 hown5 hg5; have hC5 : Below w2.heap.size w2 w5 := Below.row (hC3.alloc hC3.size _) hg5 (by have := hC3.size; simp; omega) (Nat.le_refl _) (hown3.later ((Below.refl _ _).alloc (Nat.le_refl _) _)).lt; have hs5 := hs2.later hC5; clear hg5 hown3 hs3)
              | (at_builtin; refine wpList_append_rd _ rfl (.tmp 86) (.tmp 89) 22 rfl w2.heap.size 35 i0 _ ES Try.underlying22 hi0 hz0 hz1 rfl (.slice A2 (0 + 1) cap2') (0 + 1) (kt ++ [nw f]) rfl hown5 (none) (0) (0) kd rfl hs5 (by unfold maxLen; omega) (by rw [hz2]; omega) hC5.size ?_; intro A3 cap3 w6 hown6 hg6))
            have hC6 : Below w2.heap.size w2 w6 := Below.row hC5 hg6 hC5.size (Nat.le_refl _) hown5.lt
            clear hg6 hown5
            go_wp2
            refine bodyPost_ret (v := .tuple #[.slice A3 (0 + 1 + (0)) cap3, .bool true]) (by simp [results, Try.results11, go_sem]) rfl ?_
            rw [HP.out]
            rw [List.append_assoc] at hown6
            exact ⟨A3, 0 + 1 + (0), cap3, rfl, hown6.rebase hsz, hB2.trans (hC6.mono hsz)⟩
          · cases h1
            have hs1 : Rd w2 ES (some ⟨g, 0, none⟩) q kt := by rw [← hkt]; exact hrd.take hqn
            by_cases hcq : cap' = q
            · obtain rfl : n' = q := by omega
              subst hcq
              have hs2 : Rd w2 ES (some ⟨g, 0, none⟩) 0 kd := by rw [← hkd, List.drop_eq_nil_of_le (by omega)]; exact Rd.none_ _ _ _
              clear hown2 hrd hkt hkd hkl'
              go_wp2_with (first
                | (at_builtin; refine wpList_append_rd _ rfl (.tmp 76) (.tmp 79) 22 rfl w2.heap.size 35 i0 _ ES Try.underlying22 hi0 hz0 hz1 rfl (.slice (some ⟨w2.heap.size, 0, none⟩) 0 0) 0 [] rfl ⟨rfl, World.ownsRow_made w2 #[] 0 (Nat.le_refl _) (Nat.zero_le _) rfl⟩ (some ⟨g, 0, none⟩) (cap') (cap') kt rfl (hs1.later ((Below.refl _ _).alloc (Nat.le_refl _) _)) (by unfold maxLen; omega) (by rw [hz2]; omega) (by simp) ?_; intro A1 cap1 w3 hown3 hg3; have hC3 : Below w2.heap.size w2 w3 := ((Below.refl _ _).alloc (Nat.le_refl _) _).grown hg3 (by simp) (fun k hk => by simp [Value.ownBlock] at hk; omega); simp only [Nat.zero_add, List.nil_append] at hown3; have C0 := keep hC3 f0; have C1 := keep hC3 f1; have C2 := keep hC3 f2; have C3 := keep hC3 f3; have C4 := keep hC3 f4; have C5 := keep hC3 f5; have C6 := keep hC3 f6; have C7 := keep hC3 f7; have C8 := keep hC3 f8; have hs3 := hs2.later hC3; clear f0 f1 f2 f3 f4 f5 f6 f7 f8 hg3)
                | (at_builtin; refine wpList_append_rd _ rfl (.tmp 81) (.tmp 84) 22 rfl w2.heap.size 35 i0 _ ES Try.underlying22 hi0 hz0 hz1 rfl (.slice A1 (cap') cap1) (cap') kt rfl (hown3.later ((Below.refl _ _).alloc (Nat.le_refl _) _)) (some ⟨w3.heap.size, 0, none⟩) 1 1 [nw f] rfl (snd_one (nw f) w3 35) (by unfold maxLen; omega) (by rw [hz2]; omega) (by have := hC3.size; simp; omega) ?_; intro A2 cap2' w5 hown5 hg5; have hC5 : Below w2.heap.size w2 w5 := Below.row (hC3.alloc hC3.size _) hg5 (by have := hC3.size; simp; omega) (Nat.le_refl _) (hown3.later ((Below.refl _ _).alloc (Nat.le_refl _) _)).lt; have hs5 := hs2.later hC5; clear hg5 hown3 hs3)
                | (at_builtin; refine wpList_append_rd _ rfl (.tmp 86) (.tmp 89) 22 rfl w2.heap.size 35 i0 _ ES Try.underlying22 hi0 hz0 hz1 rfl (.slice A2 (cap' + 1) cap2') (cap' + 1) (kt ++ [nw f]) rfl hown5 (some ⟨g, 0, none⟩) (0) (0) kd rfl hs5 (by unfold maxLen; omega) (by rw [hz2]; omega) hC5.size ?_; intro A3 cap3 w6 hown6 hg6))
              have hC6 : Below w2.heap.size w2 w6 := Below.row hC5 hg6 hC5.size (Nat.le_refl _) hown5.lt
              clear hg6 hown5
              go_wp2
              refine bodyPost_ret (v := .tuple #[.slice A3 (cap' + 1 + (0)) cap3, .bool true]) (by simp [results, Try.results11, go_sem]) rfl ?_
              rw [HP.out]
              rw [List.append_assoc] at hown6
              exact ⟨A3, cap' + 1 + (0), cap3, rfl, hown6.rebase hsz, hB2.trans (hC6.mono hsz)⟩
            · have hs2 : Rd w2 ES (some ⟨g, q * 11, none⟩) (n' - q) kd := by
                have := hrd.drop hqn
                rw [Nat.zero_add] at this
                rw [← hkd]; exact this
              have hqn1 : (q : Int) ≤ (n' : Int) := by omega
              have hqn2 : (q : Int) ≤ (cap' : Int) := by omega
              clear hown2 hrd hkt hkd hkl'
              go_wp2_with (first
                | (at_builtin; refine wpList_append_rd _ rfl (.tmp 76) (.tmp 79) 22 rfl w2.heap.size 35 i0 _ ES Try.underlying22 hi0 hz0 hz1 rfl (.slice (some ⟨w2.heap.size, 0, none⟩) 0 0) 0 [] rfl ⟨rfl, World.ownsRow_made w2 #[] 0 (Nat.le_refl _) (Nat.zero_le _) rfl⟩ (some ⟨g, 0, none⟩) (q) (cap') kt rfl (hs1.later ((Below.refl _ _).alloc (Nat.le_refl _) _)) (by unfold maxLen; omega) (by rw [hz2]; omega) (by simp) ?_; intro A1 cap1 w3 hown3 hg3; have hC3 : Below w2.heap.size w2 w3 := ((Below.refl _ _).alloc (Nat.le_refl _) _).grown hg3 (by simp) (fun k hk => by simp [Value.ownBlock] at hk; omega); simp only [Nat.zero_add, List.nil_append] at hown3; have C0 := keep hC3 f0; have C1 := keep hC3 f1; have C2 := keep hC3 f2; have C3 := keep hC3 f3; have C4 := keep hC3 f4; have C5 := keep hC3 f5; have C6 := keep hC3 f6; have C7 := keep hC3 f7; have C8 := keep hC3 f8; have hs3 := hs2.later hC3; clear f0 f1 f2 f3 f4 f5 f6 f7 f8 hg3)
                | (at_builtin; refine wpList_append_rd _ rfl (.tmp 81) (.tmp 84) 22 rfl w2.heap.size 35 i0 _ ES Try.underlying22 hi0 hz0 hz1 rfl (.slice A1 (q) cap1) (q) kt rfl (hown3.later ((Below.refl _ _).alloc (Nat.le_refl _) _)) (some ⟨w3.heap.size, 0, none⟩) 1 1 [nw f] rfl (snd_one (nw f) w3 35) (by unfold maxLen; omega) (by rw [hz2]; omega) (by have := hC3.size; simp; omega) ?_; intro A2 cap2' w5 hown5 hg5; have hC5 : Below w2.heap.size w2 w5 := Below.row (hC3.alloc hC3.size _) hg5 (by have := hC3.size; simp; omega) (Nat.le_refl _) (hown3.later ((Below.refl _ _).alloc (Nat.le_refl _) _)).lt; have hs5 := hs2.later hC5; clear hg5 hown3 hs3)
                | (at_builtin; refine wpList_append_rd _ rfl (.tmp 86) (.tmp 89) 22 rfl w2.heap.size 35 i0 _ ES Try.underlying22 hi0 hz0 hz1 rfl (.slice A2 (q + 1) cap2') (q + 1) (kt ++ [nw f]) rfl hown5 (some ⟨g, q * 11, none⟩) (n' - q) (cap' - q) kd rfl hs5 (by unfold maxLen; omega) (by rw [hz2]; omega) hC5.size ?_; intro A3 cap3 w6 hown6 hg6))
              have hC6 : Below w2.heap.size w2 w6 := Below.row hC5 hg6 hC5.size (Nat.le_refl _) hown5.lt
              clear hg6 hown5
              go_wp2
              refine bodyPost_ret (v := .tuple #[.slice A3 (q + 1 + (n' - q)) cap3, .bool true]) (by simp [results, Try.results11, go_sem]) rfl ?_
              rw [HP.out]
              rw [List.append_assoc] at hown6
              exact ⟨A3, q + 1 + (n' - q), cap3, rfl, hown6.rebase hsz, hB2.trans (hC6.mono hsz)⟩
end Go.Proofs.Ytjdhgokcbcidlaa
