/- The walks of without, box, Same, Count. -/
import Derived.Test.YtfbdiafgfimgaaaMail
namespace Go.Proofs.Ytfbdiafgfimgaaa
open Go.RowKit Go.BigFrame
set_option linter.unusedVariables false

theorem erase_same {l : List Mail} {k i : Nat} {a : Mail} (h : l[i]? = some a) (hi : i = k) : (l.take (i + 1)).eraseIdx k = (l.take i).eraseIdx k := by
  subst hi
  have hlt : i < l.length := (List.getElem?_eq_some_iff.1 h).1
  have hl : (l.take i).length = i := by rw [List.length_take]; omega
  rw [take_snoc h, List.eraseIdx_append_of_length_le (by omega), hl, Nat.sub_self]
  have e1 : (l.take i).eraseIdx i = l.take i := List.eraseIdx_of_length_le (by omega)
  rw [e1]
  simp
theorem erase_other {l : List Mail} {k i : Nat} {a : Mail} (h : l[i]? = some a) (hi : i ≠ k) : (l.take (i + 1)).eraseIdx k = (l.take i).eraseIdx k ++ [a] := by
  have hlt : i < l.length := (List.getElem?_eq_some_iff.1 h).1
  rw [take_snoc h]
  rcases Nat.lt_or_ge i k with c | c
  · rw [List.eraseIdx_of_length_le (by simp; omega), List.eraseIdx_of_length_le (by simp; omega)]
  · rw [List.eraseIdx_append_of_lt_length (by simp; omega)]

set_option maxHeartbeats 1000000 in
theorem without29 (A : Option Addr) (n cap : Nat) (l : List Mail) (k : Nat) (w : World) (hn : n ≤ 100) (hr : Rd w EM A n l) (hk : k < n) : Calls Try.prog 29 #[.slice A n cap, .int .i64 k] w (SlEnd w (l.eraseIdx k)) := by
  obtain ⟨i0, hi0, hz0, hz1, hz2⟩ := info_parts info33
  go_enter Try.func29, Try.ntmps29
  go_wp2
  go_loopw [5, 6] (fun v i wr => ∃ (j m cap' : Nat) (A' : Option Addr), j ≤ n ∧ m ≤ j ∧ i = .int .i64 j ∧ v = .slice A' m cap' ∧ Ow wr w.heap.size 33 EM (.slice A' m cap') m ((l.take j).eraseIdx k) ∧ Below w.heap.size w wr) (fun _ i _ => n - (intOf i).toNat)
  case atStart => exact ⟨0, 0, 0, none, by omega, by omega, rfl, rfl, by simpa using Ow.nil w w.heap.size 33 EM, Below.refl _ _⟩
  case round =>
    obtain ⟨j, m, cap', A', hj, hmj, rfl, rfl, hown, hbr⟩ := hrel
    have hrr := hr.later hbr
    by_cases hlt : j < n
    · obtain ⟨b, off, a, rfl, hla, q0, q1, q2, q3, q4, q5, q6, q7, q8, q9⟩ := mail_at hrr hlt
      by_cases hjk : j = k
      · have HT := Lib.hid (erase_same hla hjk)
        have hjb : ((j : Int) != (k : Int)) = false := by subst hjk; simp
        have hj1 : m ≤ j + 1 := by omega
        clear hjk q0 q1 q2 q3 q4 q5 q6 q7 q8 q9
        go_wp2
        go_roundw
        case rel => exact ⟨j + 1, m, cap', A', by omega, hj1, by go_num, rfl, by rw [HT.out]; exact hown, hbr⟩
        case measure => simp [intOf]; omega
      · have HT := Lib.hid (erase_other hla hjk)
        have hjb : ((j : Int) != (k : Int)) = true := by rw [bne_iff_ne]; omega
        clear hjk
        go_wp2_with (at_builtin; refine wpList_append_rd _ rfl (.tmp 16) (.tmp 21) 22 rfl w.heap.size 33 i0 _ EM Try.underlying22 hi0 hz0 hz1 rfl (.slice A' m cap') m ((l.take j).eraseIdx k) rfl (hown.later ((Below.refl _ _).alloc (Nat.le_refl _) _)) (some ⟨wr.heap.size, 0, none⟩) 1 1 [a] rfl (mail_one a wr 33) (by unfold maxLen; omega) (by rw [hz2]; omega) (by have := hbr.size; simp; omega) ?_; intro A1 cap1 w1 hown1 hg)
        have hb1 : Below w.heap.size w w1 := Below.row (hbr.alloc hbr.size _) hg (by have := hbr.size; simp; omega) (Nat.le_refl _) (hown.later ((Below.refl _ _).alloc (Nat.le_refl _) _)).lt
        rw [← HT.out] at hown1
        clear hg hown hbr hrr
        go_wp2
        go_roundw
        case rel => exact ⟨j + 1, m + 1, cap1, A1, by omega, by omega, by go_num, rfl, hown1, hb1⟩
        case measure => simp [intOf]; omega
    · have HE := Lib.hid (show l.take j = l by rw [List.take_of_length_le (by rw [hr.1]; omega)])
      go_wp2
      go_ret
      exact ⟨A', m, cap', rfl, by rw [HE.out] at hown; exact hown, hbr⟩

theorem box23 (A : Option Addr) (n cap : Nat) (w : World) (hn : n ≤ cap) (hc : cap ≤ 9223372036854775807) : Calls Try.prog 23 #[.slice A n cap] w fun e w' => e = .returned (.slice A (min n 16) (min n 16)) ∧ w = w' := by
  by_cases h : 16 < n
  · rw [show min n 16 = 16 by omega]
    go_enter Try.func23, Try.ntmps23
    go_wp2
    go_ret
    exact ⟨rfl, rfl⟩
  · rw [show min n 16 = n by omega]
    go_enter Try.func23, Try.ntmps23
    go_wp2
    go_ret
    exact ⟨rfl, rfl⟩

/-- two lists of one length, first unlike at place K -/
def UnlikeAt (l k : List Mail) (K : Nat) : Prop := K < l.length ∧ l[K]? ≠ k[K]? ∧ ∀ j, j < K → l[j]? = k[j]?
set_option maxHeartbeats 2000000 in
theorem same_loop (A B : Option Addr) (n c d K : Nat) (l k : List Mail) (w : World) (hn : n ≤ 9223372036854775807) (hr : Rd w EM A n l) (hs : Rd w EM B n k) (hK : K ≤ n) (hl : ∀ j, j < K → l[j]? = k[j]?) (hU : K < n → l[K]? ≠ k[K]?) :
    Calls Try.prog 12 #[.slice A n c, .slice B n d] w fun e w' => e = .returned (.bool (decide (K = n))) ∧ Below w.heap.size w w' := by
  have HL := Lib.hid hl
  have HU := Lib.hid hU
  clear hl hU
  go_enter Try.func12, Try.ntmps12
  go_wp2
  go_loopw [5] (fun i wr => ∃ j : Nat, j ≤ K ∧ i = .int .i64 j ∧ Below w.heap.size w wr) (fun i _ => n - (intOf i).toNat)
  case atStart => exact ⟨0, by omega, rfl, Below.refl _ _⟩
  case round =>
    obtain ⟨j, hj, rfl, hbr⟩ := hrel
    by_cases hlt : j < n
    · obtain ⟨b, off, a, rfl, hla, q0, q1, q2, q3, q4, q5, q6, q7, q8, q9⟩ := mail_at (hr.later hbr) hlt
      obtain ⟨b', off', a', rfl, hla', p0, p1, p2, p3, p4, p5, p6, p7, p8, p9⟩ := mail_at (hs.later hbr) hlt
      have Q0 := After.cell q0
      have Q1 := After.cell q1
      have Q2 := After.cell q2
      have Q3 := After.cell q3
      have Q4 := After.cell q4
      have Q5 := After.cell q5
      have Q6 := After.cell q6
      have Q7 := After.cell q7
      have Q8 := After.cell q8
      have Q9 := After.cell q9
      have P0 := After.cell p0
      have P1 := After.cell p1
      have P2 := After.cell p2
      have P3 := After.cell p3
      have P4 := After.cell p4
      have P5 := After.cell p5
      have P6 := After.cell p6
      have P7 := After.cell p7
      have P8 := After.cell p8
      have P9 := After.cell p9
      clear q0 q1 q2 q3 q4 q5 q6 q7 q8 q9 p0 p1 p2 p3 p4 p5 p6 p7 p8 p9 hr hs
      by_cases hjK : j < K
      · have hab : a = a' := by
          have := HL.out j hjK
          rw [hla, hla'] at this
          exact Option.some.inj this
        have he := neq33_same hab
        clear hab hla hla'
        go_wp2
        refine wp_region_after (by kernel_rfl) (by kernel_rfl) ?_
        repeat (go_big_quiet_step (fail))
        refine wpQuiet_nil ?_
        intro w1 hb1
        have hB1 := hbr.trans (hb1.mono hbr.size)
        clear Q0 Q1 Q2 Q3 Q4 Q5 Q6 Q7 Q8 Q9 P0 P1 P2 P3 P4 P5 P6 P7 P8 P9 hb1
        go_wp2
        go_roundw
        case rel => exact ⟨j + 1, by omega, by go_num, hB1⟩
        case measure => simp [intOf]; omega
      · obtain rfl : j = K := by omega
        have hab : a ≠ a' := by
          have := HU.out hlt
          rw [hla, hla'] at this
          exact fun c => this (by rw [c])
        have he := neq33_diff hab
        have HD := Lib.hid (decide_eq_false (show ¬ j = n by omega))
        clear hab hla hla'
        go_wp2
        refine wp_region_after (by kernel_rfl) (by kernel_rfl) ?_
        repeat (go_big_quiet_step (fail))
        refine wpQuiet_nil ?_
        intro w1 hb1
        have hB1 := hbr.trans (hb1.mono hbr.size)
        clear Q0 Q1 Q2 Q3 Q4 Q5 Q6 Q7 Q8 Q9 P0 P1 P2 P3 P4 P5 P6 P7 P8 P9 hb1
        go_wp2
        go_ret
        exact ⟨ret_bool HD.out.symm, hB1⟩
    · have HD := Lib.hid (decide_eq_true (show K = n by omega))
      go_wp2
      go_ret
      exact ⟨ret_bool HD.out.symm, hbr⟩
theorem same_eq (A B : Option Addr) (n c d : Nat) (l : List Mail) (w : World) (hn : n ≤ 9223372036854775807) (hr : Rd w EM A n l) (hs : Rd w EM B n l) :
    Calls Try.prog 12 #[.slice A n c, .slice B n d] w fun e w' => e = .returned (.bool true) ∧ Below w.heap.size w w' := by
  have := same_loop A B n c d n l l w hn hr hs (Nat.le_refl _) (fun _ _ => rfl) (fun h => absurd h (Nat.lt_irrefl _))
  rwa [decide_eq_true rfl] at this

theorem Rd.box {w : World} {A : Option Addr} {n : Nat} {l : List Mail} (h : Rd w EM A n l) : Rd w EM A (min n 16) (l.take 16) := by
  refine ⟨by rw [List.length_take, h.1]; omega, fun hn => ?_⟩
  obtain ⟨b, off, e1, hc⟩ := h.2 (by omega)
  refine ⟨b, off, e1, fun j v hv => hc j v ?_⟩
  rw [show (16 : Nat) = 16 from rfl, ← EM.flat_take l 16, List.getElem?_take] at hv
  split at hv
  · exact hv
  · cases hv

/-- how many are for a node -/
def cnt (to : Int) (l : List Mail) : Nat := (l.filter (fun m => m.f.to == to)).length
theorem cnt_snoc_yes {to : Int} {l : List Mail} {a : Mail} (h : a.f.to = to) : cnt to (l ++ [a]) = cnt to l + 1 := by simp [cnt, h]
theorem cnt_snoc_no {to : Int} {l : List Mail} {a : Mail} (h : ¬ a.f.to = to) : cnt to (l ++ [a]) = cnt to l := by simp [cnt, h]

set_option maxHeartbeats 1000000 in
theorem count18 (A : Option Addr) (n cap : Nat) (l : List Mail) (to : Int) (w : World) (hn : n ≤ cap) (hcap : cap ≤ 9223372036854775807) (hr : Rd w EM A n l) :
    Calls Try.prog 18 #[.slice A n cap, .int .i64 to] w fun e w' => e = .returned (.int .i64 (cnt to (l.take 16))) ∧ Below w.heap.size w w' := by
  have hb := hr.box
  generalize hm : min n 16 = m at hb
  have hm16 : m ≤ 16 := by omega
  have HX : Hid (∀ w, Calls Try.prog 23 #[.slice A n cap] w fun e w' => e = .returned (.slice A m m) ∧ w = w') := Lib.hid (fun w => by have := box23 A n cap w hn hcap; rwa [hm] at this)
  clear hm hr
  generalize l.take 16 = k at *
  go_enter Try.func18, Try.ntmps18
  go_wp2_with (go_at_call 23; refine (HX.out _).mono ?_; rintro e w' ⟨rfl, rfl⟩)
  go_loopw [5, 11] (fun c i wr => ∃ j : Nat, j ≤ m ∧ i = .int .i64 j ∧ c = .int .i64 (cnt to (k.take j)) ∧ Below w.heap.size w wr) (fun _ i _ => m - (intOf i).toNat)
  case atStart => exact ⟨0, by omega, rfl, by simp [cnt], Below.refl _ _⟩
  case round =>
    obtain ⟨j, hj, rfl, rfl, hbr⟩ := hrel
    have hcb : cnt to (k.take j) ≤ j := by
      unfold cnt
      exact Nat.le_trans (List.length_filter_le _ _) (by rw [List.length_take]; omega)
    by_cases hlt : j < m
    · obtain ⟨b, off, a, rfl, hla, q0, q1, q2, q3, q4, q5, q6, q7, q8, q9⟩ := mail_at (hb.later hbr) hlt
      obtain ⟨V, hV, hBV, hzV, hkV⟩ := boxed wr #[.int .i64 a.f.kind, .int .i64 a.f.src, .int .i64 a.f.to, .int .i64 a.f.source, .int .i64 a.f.target, .int .i64 a.f.seq, .int .i64 a.f.hops, .bool a.f.urgent, .string a.f.data, .int .i64 a.since] 33
      have p2 := hkV.at 2 (v := .int .i64 a.f.to) rfl
      have hB1 := hbr.trans (hBV.mono hbr.size)
      clear hkV hBV hb
      by_cases hto : a.f.to = to
      · have hC := Lib.hid (show cnt to (k.take (j + 1)) = cnt to (k.take j) + 1 by rw [take_snoc hla, cnt_snoc_yes hto])
        have hbq : (a.f.to == to) = true := by simpa using hto
        clear hto hla
        go_wp2
        go_roundw
        case rel => exact ⟨j + 1, by omega, by go_num, by rw [hC.out]; go_num, hB1⟩
        case measure => simp [intOf]; omega
      · have hC := Lib.hid (show cnt to (k.take (j + 1)) = cnt to (k.take j) by rw [take_snoc hla, cnt_snoc_no hto])
        have hbq : (a.f.to == to) = false := by simpa using hto
        clear hto hla
        go_wp2
        go_roundw
        case rel => exact ⟨j + 1, by omega, by go_num, by rw [hC.out], hB1⟩
        case measure => simp [intOf]; omega
    · have HE := Lib.hid (show k.take j = k by rw [List.take_of_length_le (by rw [hb.1]; omega)])
      go_wp2
      go_ret
      exact ⟨ret_int (by rw [HE.out]), hbr⟩

set_option maxHeartbeats 1000000 in
theorem count19 (A : Option Addr) (n cap : Nat) (l : List Mail) (to : Int) (w : World) (hn : n ≤ 9223372036854775807) (hr : Rd w EM A n l) :
    Calls Try.prog 19 #[.slice A n cap, .int .i64 to] w fun e w' => e = .returned (.int .i64 (cnt to (l.take 16))) ∧ Below w.heap.size w w' := by
  have h16 : (l.take 16).length ≤ 16 := by rw [List.length_take]; omega
  have HF := Lib.hid (first28 A n cap l w hn hr)
  clear hr
  generalize l.take 16 = k at *
  go_enter Try.func19, Try.ntmps19
  go_wp2_with fail
  refine HF.out.mono ?_
  rintro e w1 ⟨B, m, cap1, rfl, hown, hb1⟩
  have hm16 : m ≤ 16 := by rw [← hown.1]; exact h16
  have hb := hown.rd
  clear hown h16 HF
  go_wp2
  go_loop [6, 7] (fun c i => ∃ j : Nat, j ≤ m ∧ i = .int .i64 j ∧ c = .int .i64 (cnt to (k.take j))) (fun _ i => m - (intOf i).toNat)
  case atStart => exact ⟨0, by omega, rfl, by simp [cnt]⟩
  case round =>
    obtain ⟨j, hj, rfl, rfl⟩ := hrel
    have hcb : cnt to (k.take j) ≤ j := by
      unfold cnt
      exact Nat.le_trans (List.length_filter_le _ _) (by rw [List.length_take]; omega)
    by_cases hlt : j < m
    · obtain ⟨b, off, a, rfl, hla, q0, q1, q2, q3, q4, q5, q6, q7, q8, q9⟩ := mail_at hb hlt
      by_cases hto : a.f.to = to
      · have hC := Lib.hid (show cnt to (k.take (j + 1)) = cnt to (k.take j) + 1 by rw [take_snoc hla, cnt_snoc_yes hto])
        have hbq : (a.f.to == to) = true := by simpa using hto
        clear hto hla
        go_wp2
        go_round
        case rel => exact ⟨j + 1, by omega, by go_num, by rw [hC.out]; go_num⟩
        case measure => simp [intOf]; omega
      · have hC := Lib.hid (show cnt to (k.take (j + 1)) = cnt to (k.take j) by rw [take_snoc hla, cnt_snoc_no hto])
        have hbq : (a.f.to == to) = false := by simpa using hto
        clear hto hla
        go_wp2
        go_round
        case rel => exact ⟨j + 1, by omega, by go_num, by rw [hC.out]⟩
        case measure => simp [intOf]; omega
    · have HE := Lib.hid (show k.take j = k by rw [List.take_of_length_le (by rw [hb.1]; omega)])
      go_wp2
      go_ret
      exact ⟨ret_int (by rw [HE.out]), hb1⟩

/-- is a mail still to be kept? -/
def live (now life : Int) (m : Mail) : Bool := decide (lim now - lim m.since ≤ lim life)
set_option maxHeartbeats 1000000 in
theorem expired31 (m : Mail) (now life : Int) (w : World) : Calls Try.prog 31 #[maV m, .int .i64 now, .int .i64 life] w fun e w' => e = .returned (.bool (!live now life m)) ∧ Below w.heap.size w w' := by
  obtain ⟨V, hV, hBV, hzV, hkV⟩ := boxed w #[.int .i64 m.f.kind, .int .i64 m.f.src, .int .i64 m.f.to, .int .i64 m.f.source, .int .i64 m.f.target, .int .i64 m.f.seq, .int .i64 m.f.hops, .bool m.f.urgent, .string m.f.data, .int .i64 m.since] 33
  have C9 := After.cell (hkV.at 9 (v := .int .i64 m.since) rfl)
  have L1 : ∀ p : After V, Calls Try.prog 21 #[.int .i64 now] p.w fun e w'' => e = .returned (.int .i64 (lim now)) ∧ ∃ q : After V, w'' = q.w := fun p => p.same (tick21 _ p.w)
  have L2 : ∀ p : After V, Calls Try.prog 21 #[.int .i64 m.since] p.w fun e w'' => e = .returned (.int .i64 (lim m.since)) ∧ ∃ q : After V, w'' = q.w := fun p => p.same (tick21 _ p.w)
  have L3 : ∀ p : After V, Calls Try.prog 21 #[.int .i64 life] p.w fun e w'' => e = .returned (.int .i64 (lim life)) ∧ ∃ q : After V, w'' = q.w := fun p => p.same (tick21 _ p.w)
  have b1 := lim_bd now
  have b2 := lim_bd m.since
  have b3 := lim_bd life
  go_enter Try.func31, Try.ntmps31
  go_wp2
  refine wp_region_after_tail 9 (by kernel_rfl) (by kernel_rfl) ?_
  simp only [List.take_succ_cons, List.take_zero, List.drop_succ_cons, List.drop_zero]
  repeat (go_big_quiet_step (first | (with_reducible exact L1 _) | (with_reducible exact L2 _) | (with_reducible exact L3 _)))
  refine wpQuiet_nil ?_
  intro w1 hb1
  have hB := hBV.trans (hb1.mono (Nat.le_of_lt hzV))
  clear L1 L2 L3 C9 hb1 hkV hV hBV
  go_wp2
  go_ret
  exact ⟨ret_bool (by unfold live; rw [Bool.eq_iff_iff]; simp), hB⟩
end Go.Proofs.Ytfbdiafgfimgaaa
