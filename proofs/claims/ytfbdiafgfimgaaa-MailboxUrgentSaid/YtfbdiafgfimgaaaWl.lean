/- The walk of MailboxUrgent. -/
import Derived.Test.YtfbdiafgfimgaaaWi
namespace Go.Proofs.Ytfbdiafgfimgaaa
open Go.RowKit Go.BigFrame
set_option linter.unusedVariables false

/-- how many are urgent -/
def ug (l : List Mail) : Nat := (l.filter (fun a => a.f.urgent)).length
theorem ug_append (l k : List Mail) : ug (l ++ k) = ug l + ug k := by simp [ug]
theorem ug_cons (a : Mail) (l : List Mail) : ug (a :: l) = (if a.f.urgent then 1 else 0) + ug l := by
  cases h : a.f.urgent <;> simp [ug, h]; omega
theorem ug_le (l : List Mail) : ug l ≤ l.length := List.length_filter_le _ _
theorem ug_ins (k : List Mail) (x : Mail) (hx : x.f.urgent = true) : ug (ins k x) = ug k + 1 := by
  have h := ug_append (k.take (frst k)) (k.drop (frst k))
  rw [List.take_append_drop] at h
  unfold ins
  rw [ug_append, ug_cons, hx, if_pos rfl, h]; omega
theorem ug_lastN_none {l : List Mail} (h : lastN l = none) : ug l = l.length := by
  induction l with
  | nil => rfl
  | cons a r ih =>
    rw [lastN] at h
    cases hr : lastN r with
    | some j => rw [hr] at h; cases h
    | none =>
      rw [hr] at h
      simp only at h
      split at h
      · rename_i ha
        rw [ug_cons, if_pos ha, ih hr]; simp; omega
      · cases h
theorem ug_lastN_some {l : List Mail} {i : Nat} (h : lastN l = some i) : ug l < l.length ∧ ug (l.eraseIdx i) = ug l := by
  induction l generalizing i with
  | nil => simp [lastN] at h
  | cons a r ih =>
    rw [lastN] at h
    cases hr : lastN r with
    | some j =>
      rw [hr] at h
      cases h
      obtain ⟨h1, h2⟩ := ih hr
      refine ⟨by rw [ug_cons, List.length_cons]; split <;> omega, ?_⟩
      rw [List.eraseIdx_cons_succ, ug_cons, ug_cons, h2]
    | none =>
      rw [hr] at h
      simp only at h
      split at h
      · cases h
      · rename_i ha
        cases h
        have := ug_le r
        refine ⟨by rw [ug_cons, if_neg ha, List.length_cons]; omega, ?_⟩
        rw [List.eraseIdx_cons_zero, ug_cons, if_neg ha]; omega
theorem put_ug (l : List Mail) (x : Mail) (hx : x.f.urgent = true) (hl : l.length ≤ 16) : (ug l = 16 → putM l x = (l, false)) ∧ (ug l ≠ 16 → ∃ r, putM l x = (r, true) ∧ ug r = ug l + 1) := by
  unfold putM
  rw [if_neg (by rw [hx]; decide)]
  by_cases h16 : l.length = 16
  · rw [if_pos h16]
    cases hn : lastN l with
    | none =>
      have := ug_lastN_none hn
      exact ⟨fun _ => rfl, fun h => absurd (by omega) h⟩
    | some i =>
      obtain ⟨h1, h2⟩ := ug_lastN_some hn
      exact ⟨fun h => by omega, fun _ => ⟨_, rfl, by rw [ug_ins _ _ hx, h2]⟩⟩
  · rw [if_neg h16]
    have := ug_le l
    exact ⟨fun h => by omega, fun _ => ⟨_, rfl, ug_ins _ _ hx⟩⟩
theorem ug_take {l : List Mail} {j : Nat} {a : Mail} (h : l[j]? = some a) : ug (l.take (j + 1)) = ug (l.take j) + (if a.f.urgent then 1 else 0) := by
  rw [take_snoc h, ug_append, ug_cons]; simp [ug]

set_option maxHeartbeats 4000000 in
theorem lawUrgent5 (A : Option Addr) (n cap : Nat) (l : List Mail) (f : Fr) (now : Int) (w : World) (hn : n ≤ cap) (hcap : cap ≤ 9223372036854775807) (hr : Rd w EM A n l) :
    Calls Try.prog 5 #[.slice A n cap, frV f, .int .i64 now] w fun e w' => e = .returned (.bool true) ∧ Below w.heap.size w w' := by
  obtain ⟨W, hW, hB, hz, hk⟩ := boxed w #[.int .i64 f.kind, .int .i64 f.src, .int .i64 f.to, .int .i64 f.source, .int .i64 f.target, .int .i64 f.seq, .int .i64 f.hops, .bool f.urgent, .string f.data] 24
  have hrW := hr.later hB
  have LV : Hid (∀ w, Calls Try.prog 9 #[] w fun e w' => e = .returned (.bool true) ∧ Below w.heap.size w w') := Lib.hid lives9
  by_cases h : 16 < n
  · go_enter Try.func5, Try.ntmps5
    go_wp2_with fail
    refine (LV.out _).mono ?_
    rintro e w1 ⟨rfl, hb⟩
    have hB1 := hB.trans (hb.mono (Nat.le_of_lt hz))
    go_wp2
    go_ret
    exact ⟨rfl, hB1⟩
  · have hl := hr.1
    have P1 : Hid (∀ w, Rd w EM A n l → Calls Try.prog 10 #[.slice A n cap, .agg #[.int .i64 f.kind, .int .i64 f.src, .int .i64 f.to, .int .i64 f.source, .int .i64 f.target, .int .i64 f.seq, .int .i64 f.hops, .bool true, .string f.data], .int .i64 now] w (PtEnd w (putM l ⟨{ f with urgent := true }, lim now⟩))) := Lib.hid (fun w hr => by
      have := put10 A n cap l { f with urgent := true } now w hn hcap hr
      rw [List.take_of_length_le (by omega)] at this
      exact this)
    have HP := Lib.hid (put_ug l ⟨{ f with urgent := true }, lim now⟩ rfl (by omega))
    generalize putM l ⟨{ f with urgent := true }, lim now⟩ = r at *
    have b0 := hk.at 0 (v := .int .i64 f.kind) rfl
    have b1 := hk.at 1 (v := .int .i64 f.src) rfl
    have b2 := hk.at 2 (v := .int .i64 f.to) rfl
    have b3 := hk.at 3 (v := .int .i64 f.source) rfl
    have b4 := hk.at 4 (v := .int .i64 f.target) rfl
    have b5 := hk.at 5 (v := .int .i64 f.seq) rfl
    have b6 := hk.at 6 (v := .int .i64 f.hops) rfl
    have b7 := hk.at 7 (v := .bool f.urgent) rfl
    have b8 := hk.at 8 (v := .string f.data) rfl
    have z7 := hk.frozen 7
    have hwW := hk.lt
    have hrS : ∀ v, Rd (W.setCell ⟨w.heap.size, 7, none⟩ v) EM A n l := fun v => hr.later (hB.setCell (p := ⟨w.heap.size, 7, none⟩) (Nat.le_refl _) v)
    have hBS : ∀ v, Below w.heap.size w (W.setCell ⟨w.heap.size, 7, none⟩ v) := fun v => hB.setCell (p := ⟨w.heap.size, 7, none⟩) (Nat.le_refl _) v
    clear hk hr hrW hB
    go_enter Try.func5, Try.ntmps5
    go_wp2_with fail
    refine (P1.out _ (hrS _)).mono ?_
    rintro e w1 ⟨A1, n1, c1, he, ho1, hb1⟩
    have hB1 := (hBS (.bool true)).trans (hb1.mono (hBS (.bool true)).size)
    have hrl := (hrS (.bool true)).later hb1
    have hr1 := ho1.rd
    have hl1 := ho1.1
    have hc1 := ho1.cap
    clear b0 b1 b2 b3 b4 b5 b6 b7 b8 z7 P1 hrS hBS ho1 hb1 hwW hz hW
    obtain ⟨r1, r2⟩ := r
    obtain rfl : e = .returned (.tuple #[.slice A1 n1 c1, .bool r2]) := he
    go_wp2
    go_loop [9, 10] (fun v i => ∃ j : Nat, j ≤ n ∧ i = .int .i64 j ∧ v = .int .i64 (ug (l.take j))) (fun _ i => n - (intOf i).toNat)
    case atStart => exact ⟨0, by omega, rfl, rfl⟩
    case round =>
      obtain ⟨j, hj, rfl, rfl⟩ := hrel
      by_cases hlt : j < n
      · obtain ⟨b, off, a, rfl, hla, q0, q1, q2, q3, q4, q5, q6, q7, q8, q9⟩ := mail_at hrl hlt
        have HN := Lib.hid (ug_take hla)
        have hz16 : ug (l.take j) ≤ 16 := by have := ug_le (l.take j); rw [List.length_take] at this; omega
        clear hla hl q0 q1 q2 q3 q4 q5 q6 q8 q9
        generalize ug (l.take j) = z at *
        cases hau : a.f.urgent with
        | true =>
          rw [hau] at q7 HN
          go_wp2
          go_round
          case rel => exact ⟨j + 1, by omega, by go_num, by rw [HN.out]; go_num⟩
          case measure => simp [intOf]; omega
        | false =>
          rw [hau] at q7 HN
          go_wp2
          go_round
          case rel => exact ⟨j + 1, by omega, by go_num, by rw [HN.out]; rfl⟩
          case measure => simp [intOf]; omega
      · have HT := Lib.hid (show ug (l.take j) = ug l by rw [List.take_of_length_le (by omega)])
        rw [HT.out]
        by_cases hu : ug l = 16
        · have hh := HP.out.1 hu
          cases hh
          have hui : (ug l : Int) = 16 := by omega
          obtain rfl : n1 = n := by rw [← hl1, ← hl]
          clear HT hl1 hl
          go_wp2_with fail
          refine (same_eq A1 A n1 c1 cap l _ (by omega) hr1 hrl).mono ?_
          rintro e w2 ⟨rfl, hb2⟩
          have hB2 := hB1.trans (hb2.mono hB1.size)
          go_wp2_with fail
          refine (LV.out _).mono ?_
          rintro e w3 ⟨rfl, hb3⟩
          have hB3 := hB2.trans (hb3.mono hB2.size)
          go_wp2
          go_ret
          exact ⟨rfl, hB3⟩
        · obtain ⟨r', hh, hru⟩ := HP.out.2 hu
          cases hh
          have hui : ¬ ((ug l : Int) = 16) := by omega
          have hul : ug l ≤ 16 := by have := ug_le l; omega
          have HU := Lib.hid hru
          have hn1 : n1 ≤ 9223372036854775807 := by have h2 := hc1.2; have h3 := hc1.1; unfold maxLen at h2; omega
          have hrle : ug r1 ≤ 17 := by omega
          clear HT hl hu hru hrl
          generalize ug l = z at *
          go_wp2
          go_loop [11, 12] (fun v i => ∃ j : Nat, j ≤ n1 ∧ i = .int .i64 j ∧ v = .int .i64 (ug (r1.take j))) (fun _ i => n1 - (intOf i).toNat)
          case atStart => exact ⟨0, by omega, rfl, rfl⟩
          case round =>
            obtain ⟨j', hj', rfl, rfl⟩ := hrel
            by_cases hlt' : j' < n1
            · obtain ⟨b, off, a, rfl, hla, q0, q1, q2, q3, q4, q5, q6, q7, q8, q9⟩ := mail_at hr1 hlt'
              have HN := Lib.hid (ug_take hla)
              have hz16 : ug (r1.take j') ≤ 9223372036854775806 := by
                have h1 := ug_append (r1.take j') (r1.drop j')
                rw [List.take_append_drop] at h1
                omega
              clear hla q0 q1 q2 q3 q4 q5 q6 q8 q9
              generalize ug (r1.take j') = y at *
              cases hau : a.f.urgent with
              | true =>
                rw [hau] at q7 HN
                go_wp2
                go_round
                case rel => exact ⟨j' + 1, by omega, by go_num, by rw [HN.out]; go_num⟩
                case measure => simp [intOf]; omega
              | false =>
                rw [hau] at q7 HN
                go_wp2
                go_round
                case rel => exact ⟨j' + 1, by omega, by go_num, by rw [HN.out]; rfl⟩
                case measure => simp [intOf]; omega
            · have HT := Lib.hid (show ug (r1.take j') = z + 1 by rw [List.take_of_length_le (by omega)]; exact HU.out)
              rw [HT.out]
              have hwz : IntKind.i64.wrap ((z : Int) + 1) = (z : Int) + 1 := by rw [IntKind.wrap_i64]; omega
              go_wp2_with fail
              refine (LV.out _).mono ?_
              rintro e w3 ⟨rfl, hb3⟩
              have hB3 := hB1.trans (hb3.mono hB1.size)
              go_wp2
              go_ret
              exact ⟨rfl, hB3⟩
end Go.Proofs.Ytfbdiafgfimgaaa
