/- The walk of Put. -/
import Derived.Test.YtfbdiafgfimgaaaWe
import Derived.Deep.DeepCutAuto
import Derived.Deep.RegionHeld3
namespace Go.Proofs.Ytfbdiafgfimgaaa
open Go.RowKit Go.BigFrame
set_option linter.unusedVariables false

def lastN : List Mail → Option Nat
  | [] => none
  | a :: r => match lastN r with
    | some i => some (i + 1)
    | none => if a.f.urgent then none else some 0
def ins (k : List Mail) (m : Mail) : List Mail := k.take (frst k) ++ m :: k.drop (frst k)
/-- Put, on what is in the box -/
def putM (k : List Mail) (m : Mail) : List Mail × Bool :=
  if m.f.urgent = false then (if k.length = 16 then (k, false) else (k ++ [m], true))
  else if k.length = 16 then (match lastN k with
    | none => (k, false)
    | some i => (ins (k.eraseIdx i) m, true))
  else (ins k m, true)
def PtEnd (w : World) (r : List Mail × Bool) (en : Ending) (w' : World) : Prop :=
  ∃ (A : Option Addr) (n cap : Nat), en = .returned (.tuple #[.slice A n cap, .bool r.2]) ∧ Ow w' w.heap.size 33 EM (.slice A n cap) n r.1 ∧ Below w.heap.size w w'

theorem lastN_none {l : List Mail} (h : ∀ (i : Nat) (b : Mail), l[i]? = some b → b.f.urgent = true) : lastN l = none := by
  induction l with
  | nil => rfl
  | cons a r ih =>
    rw [lastN, ih (fun i b hb => h (i + 1) b hb)]
    have := h 0 a rfl
    simp [this]
theorem lastN_at {l : List Mail} {j : Nat} {a : Mail} (hj : l[j]? = some a) (ha : a.f.urgent = false) (h : ∀ (i : Nat) (b : Mail), j < i → l[i]? = some b → b.f.urgent = true) : lastN l = some j := by
  induction l generalizing j with
  | nil => simp at hj
  | cons b r ih =>
    cases j with
    | zero =>
      simp at hj; subst hj
      rw [lastN, lastN_none (fun i c hc => h (i + 1) c (by omega) hc)]
      simp [ha]
    | succ j =>
      rw [lastN, ih hj (fun i c hi hc => h (i + 1) c (by omega) hc)]

set_option maxHeartbeats 4000000 in
theorem put10 (A : Option Addr) (n cap : Nat) (l : List Mail) (f : Fr) (now : Int) (w : World) (hn : n ≤ cap) (hcap : cap ≤ 9223372036854775807) (hr : Rd w EM A n l) :
    Calls Try.prog 10 #[.slice A n cap, frV f, .int .i64 now] w (PtEnd w (putM (l.take 16) ⟨f, lim now⟩)) := by
  have hb := hr.box
  generalize hm : min n 16 = m at hb
  have hm16 : m ≤ 16 := by omega
  have HX : Hid (∀ w, Calls Try.prog 23 #[.slice A n cap] w fun e w' => e = .returned (.slice A m m) ∧ w = w') := Lib.hid (fun w => by have := box23 A n cap w hn hcap; rwa [hm] at this)
  have TX : Hid (∀ w, Calls Try.prog 21 #[.int .i64 now] w fun e w' => e = .returned (.int .i64 (lim now)) ∧ w = w') := Lib.hid (tick21 now)
  clear hm hr
  generalize l.take 16 = k at *
  generalize lim now = s at *
  obtain ⟨W, hW, hB, hz, hk⟩ := boxed w #[.int .i64 f.kind, .int .i64 f.src, .int .i64 f.to, .int .i64 f.source, .int .i64 f.target, .int .i64 f.seq, .int .i64 f.hops, .bool f.urgent, .string f.data] 24
  have b0 := hk.at 0 (v := .int .i64 f.kind) rfl
  have b1 := hk.at 1 (v := .int .i64 f.src) rfl
  have b2 := hk.at 2 (v := .int .i64 f.to) rfl
  have b3 := hk.at 3 (v := .int .i64 f.source) rfl
  have b4 := hk.at 4 (v := .int .i64 f.target) rfl
  have b5 := hk.at 5 (v := .int .i64 f.seq) rfl
  have b6 := hk.at 6 (v := .int .i64 f.hops) rfl
  have b7 := hk.at 7 (v := .bool f.urgent) rfl
  have b8 := hk.at 8 (v := .string f.data) rfl
  go_enter Try.func10, Try.ntmps10
  go_upto_region 1 with fail
  go_cut [8] (fun s8 wx => ∃ g : Nat, s8 = .pointer (some ⟨g, 0, none⟩) ∧ Blk wx g 33 (encM ⟨f, s⟩).toArray ∧ Below W.heap.size W wx ∧ W.heap.size ≤ g)
  case first =>
    go_region_held3 (fun w' => w'.cell? ⟨w.heap.size, 0, none⟩ = some (.int .i64 f.kind) ∧ w'.cell? ⟨w.heap.size, 1, none⟩ = some (.int .i64 f.src) ∧ w'.cell? ⟨w.heap.size, 2, none⟩ = some (.int .i64 f.to) ∧ w'.cell? ⟨w.heap.size, 3, none⟩ = some (.int .i64 f.source) ∧ w'.cell? ⟨w.heap.size, 4, none⟩ = some (.int .i64 f.target) ∧ w'.cell? ⟨w.heap.size, 5, none⟩ = some (.int .i64 f.seq) ∧ w'.cell? ⟨w.heap.size, 6, none⟩ = some (.int .i64 f.hops) ∧ w'.cell? ⟨w.heap.size, 7, none⟩ = some (.bool f.urgent) ∧ w'.cell? ⟨w.heap.size, 8, none⟩ = some (.string f.data)) (go_keep)
      (first
        | (go_at_call 21; refine (TX.out _).mono ?_; rintro e w' ⟨rfl, rfl⟩))
    all_goals (go_wp2_with fail; go_meet; exact ⟨W.heap.size, rfl, (Blk.new W 33 _), ((Below.refl _ _).alloc (Nat.le_refl _) _).drew, Nat.le_refl _⟩)
  case rest =>
    obtain ⟨g, rfl, hkg, hB1, hWg⟩ := hcut
    obtain ⟨wy, rfl⟩ : ∃ wy, wy = wc := ⟨_, rfl⟩
    have hB2 : Below w.heap.size w wy := hB.trans (hB1.mono (Nat.le_of_lt hz))
    have hbx := hb.later hB2
    have hgx := hkg.lt
    have e7 := keep hB1 b7
    have CL : Hid (∀ w, Rd w EM A m k → Calls Try.prog 22 #[.slice A m m] w (SlEnd w k)) := Lib.hid (fun w hr => clone22 A m m k w (by omega) hr)
    clear b0 b1 b2 b3 b4 b5 b6 b7 b8 hb hB1 hW hk TX
    go_wp2_with (go_at_call 23; refine (HX.out _).mono ?_; rintro e w' ⟨rfl, rfl⟩)
    refine (CL.out _ hbx).mono ?_
    rintro e w3 ⟨B, mk, ck, rfl, hown, hb3⟩
    have hB3 := hB2.trans (hb3.mono hB2.size)
    have y7 := keep hb3 e7
    have hg3 := hkg.later hb3
    have hwx := hB2.size
    have hx3 := hb3.size
    obtain ⟨x, hx⟩ : ∃ x : Mail, x = ⟨f, s⟩ := ⟨_, rfl⟩
    have hkl := hown.1
    have hmk : mk ≤ 16 := by have := hbx.1; omega
    have hcap3 := hown.cap
    clear hbx HX CL e7 hkg hb3 hB2 hB
    have c0 := hg3.at 0 (v := .int .i64 f.kind) rfl
    have c1 := hg3.at 1 (v := .int .i64 f.src) rfl
    have c2 := hg3.at 2 (v := .int .i64 f.to) rfl
    have c3 := hg3.at 3 (v := .int .i64 f.source) rfl
    have c4 := hg3.at 4 (v := .int .i64 f.target) rfl
    have c5 := hg3.at 5 (v := .int .i64 f.seq) rfl
    have c6 := hg3.at 6 (v := .int .i64 f.hops) rfl
    have c7 := hg3.at 7 (v := .bool f.urgent) rfl
    have c8 := hg3.at 8 (v := .string f.data) rfl
    have c9 := hg3.at 9 (v := .int .i64 s) rfl
    rw [← hx] at hg3
    cases hu : f.urgent with
    | false =>
      rw [hu] at y7 c7
      by_cases h16 : mk = 16
      · have hP := Lib.hid (show putM k x = (k, false) by subst hx; simp [putM, hu, hkl, h16])
        subst h16
        go_wp2
        refine bodyPost_ret (v := .tuple #[.slice B 16 ck, .bool false]) (by simp [results, Try.results10, go_sem]) rfl ?_
        rw [← hx, hP.out]
        exact ⟨B, 16, ck, rfl, hown.rebase hwx, hB3⟩
      · have hP := Lib.hid (show putM k x = (k ++ [x], true) by subst hx; simp [putM, hu, hkl, h16])
        obtain ⟨i0, hi0, hz0, hz1, hz2⟩ := info_parts info33
        have h16' : ¬ ((mk : Int) = 16) := by omega
        go_wp2_with (at_builtin; refine wpList_append_rd _ rfl (.tmp 26) (.tmp 28) 22 rfl wy.heap.size 33 i0 _ EM Try.underlying22 hi0 hz0 hz1 rfl (.slice B mk ck) mk k rfl (hown.later ((Below.refl _ _).alloc (Nat.le_refl _) _)) (some ⟨w3.heap.size, 0, none⟩) 1 1 [x] rfl (by subst hx; have := mail_one ⟨f, s⟩ w3 33; rw [hu] at this; exact this) (by unfold maxLen; omega) (by rw [hz2]; omega) (by simp; omega) ?_; intro A1 cap1 w4 hown1 hgr)
        have hb4 : Below w.heap.size w w4 := Below.row (hB3.alloc hB3.size _) hgr (by have := hB3.size; simp; omega) hwx (hown.later ((Below.refl _ _).alloc (Nat.le_refl _) _)).lt
        go_wp2
        refine bodyPost_ret (v := .tuple #[.slice A1 (mk + 1) cap1, .bool true]) (by simp [results, Try.results10, go_sem]) rfl ?_
        rw [← hx, hP.out]
        exact ⟨A1, mk + 1, cap1, rfl, hown1.rebase hwx, hb4⟩
    | true =>
      rw [hu] at y7 c7
      have hxu : x.f.urgent = true := by subst hx; exact hu
      go_upto_if 32 with fail
      go_cut [9] (fun s9 wz => ∃ (B' : Option Addr) (n' cap' : Nat) (k' : List Mail), s9 = .slice B' n' cap' ∧ n' ≤ 16 ∧ putM k x = (ins k' x, true) ∧ Ow wz wy.heap.size 33 EM (.slice B' n' cap') n' k' ∧ Blk wz g 33 (encM x).toArray ∧ Below w.heap.size w wz ∧ wy.heap.size ≤ wz.heap.size)
      case first =>
        by_cases h16 : mk = 16
        · subst h16
          have hrd := hown.rd
          go_wp2
          go_loop [10] (fun v => (v = .int .i64 (-1) ∧ ∀ (i : Nat) (b : Mail), k[i]? = some b → b.f.urgent = true) ∨ (∃ i : Nat, i < 16 ∧ v = .int .i64 i ∧ ∀ (p : Nat) (b : Mail), i < p → k[p]? = some b → b.f.urgent = true)) (fun v => (intOf v + 1).toNat)
          case atStart => exact .inr ⟨15, by omega, rfl, fun p b h1 h2 => by have := (List.getElem?_eq_some_iff.1 h2).1; omega⟩
          case round =>
            rcases hrel with ⟨rfl, hall⟩ | ⟨i, hi, rfl, hall⟩
            · have hP := Lib.hid (show putM k x = (k, false) by simp [putM, hxu, hkl, lastN_none hall])
              clear hall
              go_wp2
              refine bodyPost_ret (v := .tuple #[.slice B 16 ck, .bool false]) (by simp [results, Try.results10, go_sem]) rfl ?_
              rw [← hx, hP.out]
              exact ⟨B, 16, ck, rfl, hown.rebase hwx, hB3⟩
            · obtain ⟨b, off, a, rfl, hla, q0, q1, q2, q3, q4, q5, q6, q7, q8, q9⟩ := mail_at hrd hi
              have HA := Lib.hid hall
              clear hall q0 q1 q2 q3 q4 q5 q6 q8 q9
              cases hau : a.f.urgent with
              | true =>
                rw [hau] at q7
                have HN : Hid (∀ (p : Nat) (b : Mail), i - 1 < p → k[p]? = some b → b.f.urgent = true) := Lib.hid (fun p b h1 h2 => by
                  rcases Nat.lt_or_ge i p with d | d
                  · exact HA.out p b d h2
                  · obtain rfl | rfl : p = i ∨ p = i - 1 := by omega
                    · rw [hla] at h2; cases h2; exact hau
                    · omega)
                have H0 : Hid (i = 0 → ∀ (p : Nat) (b : Mail), k[p]? = some b → b.f.urgent = true) := Lib.hid (fun h0 p b h2 => by
                  rcases Nat.lt_or_ge i p with d | d
                  · exact HA.out p b d h2
                  · obtain rfl : p = i := by omega
                    rw [hla] at h2; cases h2; exact hau)
                clear HA hla
                go_wp2
                go_round
                case rel =>
                  rcases Nat.eq_zero_or_pos i with d | d
                  · exact .inl ⟨by subst d; rfl, H0.out d⟩
                  · exact .inr ⟨i - 1, by omega, by congr 1; omega, HN.out⟩
                case measure => simp [intOf]
              | false =>
                rw [hau] at q7
                have hP := Lib.hid (show putM k x = (ins (k.eraseIdx i) x, true) by simp [putM, hxu, hkl, lastN_at hla hau HA.out])
                obtain ⟨m', hm'⟩ : ∃ m', 16 = i + 1 + m' := ⟨16 - (i + 1), by omega⟩
                have HD := Lib.hid (fun w (hw : Ow w wy.heap.size 33 EM (.slice (some ⟨b, off, none⟩) 16 ck) 16 k) => show Calls Try.prog 24 #[.slice (some ⟨b, off, none⟩) 16 ck, .int .i64 i, .int .i64 (i + 1)] w fun e w' =>
                  ∃ A' : Option Addr, e = .returned (.slice A' (i + m') ck) ∧ Ow w' wy.heap.size 33 EM (.slice A' (i + m') ck) (i + m') (k.eraseIdx i) ∧ w.grownBy w' (Value.ownBlock (.slice (some ⟨b, off, none⟩) 16 ck)) from by
                    rw [hm'] at hw ⊢
                    exact delete24 wy.heap.size _ i m' ck k w hw)
                have hm4 : i + m' ≤ 16 := by omega
                clear HA hla hm'
                go_wp2_with fail
                refine (HD.out _ hown).mono ?_
                rintro e w4 ⟨B4, rfl, hown4, hgr4⟩
                have hb4 : Below w.heap.size w w4 := Below.row hB3 hgr4 (Nat.le_trans hwx hx3) hwx hown.lt
                have hg4 : Blk w4 g 33 (encM x).toArray := hg3.row hgr4 hown.lt hgx
                have hx4 := hgr4.size
                clear hgr4 hown
                go_wp2
                go_meet
                exact ⟨B4, i + m', ck, k.eraseIdx i, rfl, hm4, hP.out, hown4, hg4, hb4, by omega⟩
        · have hP := Lib.hid (show putM k x = (ins k x, true) by simp [putM, hxu, hkl, h16])
          have h16' : ¬ ((mk : Int) = 16) := by omega
          go_wp2
          go_meet
          exact ⟨B, mk, ck, k, rfl, hmk, hP.out, hown, hg3, hB3, hx3⟩
      case rest =>
        obtain ⟨B', n', cap', k', rfl, hn', hP, hown', hg', hB', hwc⟩ := hcut
        have HP := Lib.hid hP
        have HE := Lib.hid hx
        clear hx hxu
        have IX : Hid (∀ w, Rd w EM B' n' k' → Calls Try.prog 25 #[.slice B' n' cap', .func (.func 26) #[] #[]] w fun e w' => e = .returned (.int .i64 (idxI k' n')) ∧ Below w.heap.size w w') := Lib.hid (fun w hr => index25 B' n' cap' k' w (by omega) hr)
        have hrd := hown'.rd
        have hfl : frst k' ≤ n' := by have := frst_le k'; rw [hown'.1] at this; exact this
        clear hP hown hg3 hB3 hkl hmk hcap3 c0 c1 c2 c3 c4 c5 c6 c7 c8 c9 y7
        go_wp2_with fail
        refine (IX.out _ hrd).mono ?_
        rintro e w5 ⟨rfl, hb5⟩
        have hown5 := hown'.later hb5
        have hg5 := hg'.later hb5
        have hB5 := hB'.trans (hb5.mono hB'.size)
        have hw5 := hb5.size
        have d0 := hg5.at 0 (v := .int .i64 x.f.kind) rfl
        have d1 := hg5.at 1 (v := .int .i64 x.f.src) rfl
        have d2 := hg5.at 2 (v := .int .i64 x.f.to) rfl
        have d3 := hg5.at 3 (v := .int .i64 x.f.source) rfl
        have d4 := hg5.at 4 (v := .int .i64 x.f.target) rfl
        have d5 := hg5.at 5 (v := .int .i64 x.f.seq) rfl
        have d6 := hg5.at 6 (v := .int .i64 x.f.hops) rfl
        have d7 := hg5.at 7 (v := .bool x.f.urgent) rfl
        have d8 := hg5.at 8 (v := .string x.f.data) rfl
        have d9 := hg5.at 9 (v := .int .i64 x.since) rfl
        have hIN : ∀ i, i = frst k' → Calls Try.prog 27 #[.slice B' n' cap', .int .i64 (i : Nat), .slice (some ⟨w5.heap.size, 0, none⟩) 1 1] (w5.alloc (.cells #[.int .i64 x.f.kind, .int .i64 x.f.src, .int .i64 x.f.to, .int .i64 x.f.source, .int .i64 x.f.target, .int .i64 x.f.seq, .int .i64 x.f.hops, .bool x.f.urgent, .string x.f.data, .int .i64 x.since] 33)) (InsEnd wy.heap.size (n' + 1) (ins k' x) (w5.alloc (.cells #[.int .i64 x.f.kind, .int .i64 x.f.src, .int .i64 x.f.to, .int .i64 x.f.source, .int .i64 x.f.target, .int .i64 x.f.seq, .int .i64 x.f.hops, .bool x.f.urgent, .string x.f.data, .int .i64 x.since] 33)) (Value.ownBlock (.slice B' n' cap'))) := by
          rintro i rfl
          exact insert27 wy.heap.size B' (frst k') n' cap' k' x w5.heap.size _ (by omega) hfl (hown5.later ((Below.refl _ _).alloc (Nat.le_refl _) _)) (by simp; omega) (Blk.new w5 33 _) (fun e => by have := (hown5.lt _ e).2; omega)
        have hfin : ∀ A1 cap1 w6, Ow w6 wy.heap.size 33 EM (.slice A1 (n' + 1) cap1) (n' + 1) (ins k' x) → World.grownBy (w5.alloc (.cells #[.int .i64 x.f.kind, .int .i64 x.f.src, .int .i64 x.f.to, .int .i64 x.f.source, .int .i64 x.f.target, .int .i64 x.f.seq, .int .i64 x.f.hops, .bool x.f.urgent, .string x.f.data, .int .i64 x.since] 33)) w6 (Value.ownBlock (.slice B' n' cap')) → Below w.heap.size w w6 := fun A1 cap1 w6 ho hgr =>
          Below.row (hB5.alloc hB5.size _) hgr (by have := hB5.size; simp; omega) hwx (hown5.later ((Below.refl _ _).alloc (Nat.le_refl _) _)).lt
        clear hown' hg' hB' hb5 hrd hown5 hg5 hB5
        by_cases hfr : frst k' = n'
        · have hIN' := Lib.hid (hIN n' hfr.symm)
          have hix : idxI k' n' = -1 := by unfold idxI; rw [if_pos hfr]
          clear hIN hfl
          go_wp2_with fail
          refine hIN'.out.mono ?_
          rintro e w6 ⟨A1, cap1, rfl, ho6, hgr6⟩
          have hb6 := hfin _ _ _ ho6 hgr6
          clear hgr6 hIN'
          go_wp2
          refine bodyPost_ret (v := .tuple #[.slice A1 (n' + 1) cap1, .bool true]) (by simp [results, Try.results10, go_sem]) rfl ?_
          rw [← HE.out, HP.out]
          exact ⟨A1, n' + 1, cap1, rfl, ho6.rebase hwx, hb6⟩
        · have hIN' := Lib.hid (hIN _ rfl)
          have hix : idxI k' n' = (frst k' : Int) := by unfold idxI; rw [if_neg hfr]
          have hnn : ¬ ((frst k' : Int) < 0) := by omega
          clear hIN hfl
          go_wp2_with fail
          refine hIN'.out.mono ?_
          rintro e w6 ⟨A1, cap1, rfl, ho6, hgr6⟩
          have hb6 := hfin _ _ _ ho6 hgr6
          clear hgr6 hIN'
          go_wp2
          refine bodyPost_ret (v := .tuple #[.slice A1 (n' + 1) cap1, .bool true]) (by simp [results, Try.results10, go_sem]) rfl ?_
          rw [← HE.out, HP.out]
          exact ⟨A1, n' + 1, cap1, rfl, ho6.rebase hwx, hb6⟩
end Go.Proofs.Ytfbdiafgfimgaaa
