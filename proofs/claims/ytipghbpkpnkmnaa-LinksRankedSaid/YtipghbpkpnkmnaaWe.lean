/- Seen and Forget of the program. -/
import Derived.Test.YtipghbpkpnkmnaaWd
import Derived.Test.YtipghbpkpnkmnaaDel
import Derived.Test.YtipghbpkpnkmnaaInz
import Derived.Test.YtipghbpkpnkmnaaSet
import Derived.Deep.DeepCutAuto
namespace Go.Proofs.Ytipghbpkpnkmnaa
open Go.RowKit Go.BigFrame
set_option linter.unusedVariables false

set_option maxHeartbeats 2000000 in
theorem forget13 (A : Option Addr) (n cap : Nat) (l : List Link) (v : Int) (w : World) (hn : n ≤ 9223372036854775807) (hr : Rd w EL A n l) :
    Calls Try.prog 13 #[.slice A n cap, .int .i64 v] w (SlEnd w (forgT (tab l) v)) := by
  have TB := Lib.hid (table24 A n cap l w hn hr)
  have hl24 := tab_len l
  generalize tab l = t at *
  clear hr
  go_enter Try.func13, Try.ntmps13
  go_wp2_with fail
  refine TB.out.mono ?_
  rintro e w1 ⟨A1, n1, c1, rfl, ho1, hb1⟩
  have hn1 : n1 ≤ 24 := by rw [← ho1.1]; exact hl24
  have FD := Lib.hid (find25 A1 n1 c1 t v w1 (by omega) ho1.rd)
  cases hf : fnd t v with
  | false =>
    have HF := Lib.hid (show forgT t v = t by unfold forgT; rw [hf]; rfl)
    rw [hf] at FD
    clear hf TB
    go_wp2_with fail
    refine FD.out.mono ?_
    rintro e w2 ⟨rfl, hb2⟩
    go_wp2
    go_ret
    exact ⟨A1, n1, c1, rfl, by rw [HF.out]; exact (ho1.later hb2), hb1.trans (hb2.mono hb1.size)⟩
  | true =>
    have HF := Lib.hid (show forgT t v = t.eraseIdx (pos t v) by unfold forgT; rw [hf]; rfl)
    have hlt : pos t v < n1 := by
      obtain ⟨a, ha, _⟩ := fnd_some hf
      have := (List.getElem?_eq_some_iff.1 ha).1
      rwa [ho1.1] at this
    rw [hf] at FD
    clear hf TB
    generalize pos t v = i at *
    go_wp2_with fail
    refine FD.out.mono ?_
    rintro e w2 ⟨rfl, hb2⟩
    have ho2 := ho1.later hb2
    have hB2 := hb1.trans (hb2.mono hb1.size)
    have hw1 := hb1.size
    have hw2 := hb2.size
    clear FD ho1 hb1 hb2
    obtain ⟨m', hm'⟩ : ∃ m', n1 = i + 1 + m' := ⟨n1 - (i + 1), by omega⟩
    have HD := Lib.hid (show Calls Try.prog 29 #[.slice A1 n1 c1, .int .i64 i, .int .i64 (i + 1)] w2 fun e w' =>
      ∃ A' : Option Addr, e = .returned (.slice A' (i + m') c1) ∧ Ow w' w.heap.size 38 EL (.slice A' (i + m') c1) (i + m') (t.eraseIdx i) ∧ w2.grownBy w' (Value.ownBlock (.slice A1 n1 c1)) from by
        subst hm'
        exact delete29 w.heap.size A1 i m' c1 t w2 ho2)
    clear hm'
    go_wp2_with fail
    refine HD.out.mono ?_
    rintro e w3 ⟨A3, rfl, ho3, hg3⟩
    have hB3 : Below w.heap.size w w3 := Below.row hB2 hg3 (by omega) (Nat.le_refl _) ho2.lt
    go_wp2
    go_ret
    exact ⟨A3, i + m', c1, rfl, by rw [HF.out]; exact ho3, hB3⟩

theorem modify_at {α : Type} {t : List α} {i : Nat} {a : α} (h : t[i]? = some a) (f : α → α) : t.modify i f = t.set i (f a) := by
  induction t generalizing i with
  | nil => simp at h
  | cons b r ih =>
    cases i with
    | zero => simp at h; subst h; rfl
    | succ i => rw [List.modify_succ_cons, List.set_cons_succ, ih (by simpa using h)]
theorem seen_fin {w : World} {base g n cap i : Nat} {t : List Link} {a : Link} {ok : Bool} (ho : Ow w base 38 EL (.slice (some ⟨g, 0, none⟩) n cap) n t) (hit : t[i]? = some a) (X : Int) (hX : X = (2 * a.bits + (if ok then 1 else 0)) % 65536) :
    Ow ((w.setCell ⟨g, i * 3 + 1, none⟩ (.int .i64 X)).setCell ⟨g, i * 3 + 2, none⟩ (.int .i64 (min (a.count + 1) 16))) base 38 EL (.slice (some ⟨g, 0, none⟩) n cap) n (t.set i (upd a ok)) := by
  have h1 := ho.setField hit (j := 1) (a' := ⟨a.node, X, a.count⟩) (by decide) (.int .i64 X) rfl
  have hlt : i < t.length := (List.getElem?_eq_some_iff.1 hit).1
  have h2 := h1.setField (i := i) (a := ⟨a.node, X, a.count⟩) (j := 2) (a' := upd a ok) (by rw [List.getElem?_set_self hlt]) (by decide) (.int .i64 (min (a.count + 1) 16)) (by
    have hm : min (a.count + 1) 16 = if 16 < a.count + 1 then 16 else a.count + 1 := by split <;> omega
    show encL (upd a ok) = _
    unfold upd encL
    rw [hm, ← hX]; rfl)
  rw [List.set_set] at h2
  exact h2
set_option maxHeartbeats 4000000 in
theorem seen11 (A : Option Addr) (n cap : Nat) (l : List Link) (v : Int) (ok : Bool) (w : World) (hn : n ≤ 9223372036854775807) (hr : Rd w EL A n l) :
    Calls Try.prog 11 #[.slice A n cap, .int .i64 v, .bool ok] w (SlEnd w (seenT (tab l) v ok)) := by
  have TB := Lib.hid (table24 A n cap l w hn hr)
  have HG := Lib.hid (tab_good l)
  have hl24 := tab_len l
  generalize tab l = t at *
  clear hr
  go_enter Try.func11, Try.ntmps11
  go_wp2_with fail
  refine TB.out.mono ?_
  rintro e w1 ⟨A1, n1, c1, rfl, ho1, hb1⟩
  clear TB
  have hn1 : n1 ≤ 24 := by rw [← ho1.1]; exact hl24
  by_cases hv0 : v < 0
  · have HS := Lib.hid (show seenT t v ok = t by unfold seenT; rw [if_pos (.inl hv0)])
    go_wp2
    go_ret
    exact ⟨A1, n1, c1, rfl, by rw [HS.out]; exact ho1, hb1⟩
  by_cases hv1 : 250 < v
  · have HS := Lib.hid (show seenT t v ok = t by unfold seenT; rw [if_pos (.inr hv1)])
    go_wp2
    go_ret
    exact ⟨A1, n1, c1, rfl, by rw [HS.out]; exact ho1, hb1⟩
  have FD := Lib.hid (find25 A1 n1 c1 t v w1 (by omega) ho1.rd)
  have hle : pos t v ≤ n1 := by have := pos_le t v; rwa [ho1.1] at this
  have HS := Lib.hid (show seenT t v ok = if fnd t v = true then t.modify (pos t v) (fun a => upd a ok) else if t.length = 24 then t else t.take (pos t v) ++ upd ⟨v, 0, 0⟩ ok :: t.drop (pos t v) by
    unfold seenT; rw [if_neg (by omega)])
  have HA := Lib.hid (@fnd_some t v)
  generalize pos t v = i at *
  generalize fnd t v = f at *
  generalize seenT t v ok = r at *
  go_wp2_with fail
  refine FD.out.mono ?_
  rintro e w2 ⟨rfl, hb2⟩
  have ho2 := ho1.later hb2
  have hB2 := hb1.trans (hb2.mono hb1.size)
  have hw1 := hb1.size
  have hw2 := hb2.size
  clear FD ho1 hb1 hb2
  go_upto_if 27 with fail
  go_cut [7] (fun s7 wz => ∃ (g n' cap' : Nat) (t' : List Link) (a : Link), s7 = .slice (some ⟨g, 0, none⟩) n' cap' ∧ i < n' ∧ n' ≤ 24 ∧ t'[i]? = some a ∧ 0 ≤ a.bits ∧ a.bits < 65536 ∧ 0 ≤ a.count ∧ a.count ≤ 16 ∧ Hid (r = t'.set i (upd a ok)) ∧ Ow wz w.heap.size 38 EL (.slice (some ⟨g, 0, none⟩) n' cap') n' t' ∧ Below w.heap.size w wz)
  case first =>
    cases f with
    | true =>
      obtain ⟨a, ha, hav⟩ := HA.out rfl
      have hil : i < n1 := by have := (List.getElem?_eq_some_iff.1 ha).1; rwa [ho2.1] at this
      obtain ⟨g, hg, hgb, hgl⟩ := ho2.at0 (by omega)
      obtain ⟨_, _, b3, b4, b5, _, b7⟩ := good_bits (HG.out.2.2 a (List.mem_of_getElem? ha))
      have HR : Hid (r = t.set i (upd a ok)) := Lib.hid (by rw [HS.out, if_pos rfl, modify_at ha])
      subst hg
      clear HS HA
      go_wp2
      go_meet
      exact ⟨g, n1, c1, t, a, rfl, hil, hn1, ha, b5, b7, b3, b4, HR, ho2, hB2⟩
    | false =>
      by_cases h24 : n1 = 24
      · have HR : Hid (r = t) := Lib.hid (by rw [HS.out, if_neg (by decide), if_pos (by rw [ho2.1]; exact h24)])
        subst h24
        clear HS HA
        go_wp2
        go_ret
        exact ⟨A1, 24, c1, rfl, by rw [HR.out]; exact ho2, hB2⟩
      · have HR : Hid (r = (t.take i ++ ⟨v, 0, 0⟩ :: t.drop i).set i (upd ⟨v, 0, 0⟩ ok)) := Lib.hid (by
          rw [HS.out, if_neg (by decide), if_neg (by rw [ho2.1]; exact h24)]
          have hti : (t.take i).length = i := by rw [List.length_take, ho2.1]; omega
          rw [List.set_append_right _ _ (by omega), hti, Nat.sub_self, List.set_cons_zero])
        have HI := Lib.hid (insert26 w.heap.size A1 i n1 c1 t ⟨v, 0, 0⟩ w2.heap.size (w2.alloc (.cells #[.int .i64 v, .int .i64 0, .int .i64 0] 38)) (by omega) hle (ho2.later ((Below.refl _ _).alloc (Nat.le_refl _) _)) (by simp; omega) (Blk.new w2 38 _) (fun e => by have := (ho2.lt _ e).2; omega))
        have hit : (t.take i ++ ⟨v, 0, 0⟩ :: t.drop i)[i]? = some (⟨v, 0, 0⟩ : Link) := by
          have hti : (t.take i).length = i := by rw [List.length_take, ho2.1]; omega
          rw [List.getElem?_append_right (by omega), hti, Nat.sub_self]; rfl
        have hlt2 := (ho2.later ((Below.refl w2.heap.size w2).alloc (Nat.le_refl _) (.cells #[.int .i64 v, .int .i64 0, .int .i64 0] 38))).lt
        have h24i : ¬ ((n1 : Int) = 24) := by omega
        clear HS HA h24
        go_wp2_with fail
        refine HI.out.mono ?_
        rintro e w3 ⟨A3, c3, rfl, ho3, hg3⟩
        have hB3 : Below w.heap.size w w3 := Below.row (hB2.alloc hB2.size _) hg3 (by simp; omega) (Nat.le_refl _) hlt2
        obtain ⟨g, hg, hgb, hgl⟩ := ho3.at0 (by omega)
        subst hg
        clear HI
        go_wp2
        go_meet
        exact ⟨g, n1 + 1, c3, _, _, rfl, by omega, by omega, hit, Int.le_refl 0, (by show (0 : Int) < 65536; decide), Int.le_refl 0, (by show (0 : Int) ≤ 16; decide), HR, ho3, hB3⟩
  case rest =>
    obtain ⟨g, n', cap', t', a, rfl, hil, hn', hit, k1, k2, k3, k4, HR, ho, hB⟩ := hcut
    obtain ⟨wy, rfl⟩ : ∃ wy, wy = wc := ⟨_, rfl⟩
    obtain ⟨b, off, a', hA, hla, q0, q1, q2⟩ := link_at ho.rd hil
    cases hA
    obtain rfl : a = a' := by rw [hit] at hla; exact Option.some.inj hla
    simp only [Nat.zero_add] at q0 q1 q2
    obtain ⟨_, hgg, hgb, _⟩ := ho.at0 (by omega)
    cases hgg
    have z1 := ho.free (by omega) (i * 3 + 1)
    have z2 := ho.free (by omega) (i * 3 + 2)
    have HIT := Lib.hid hit
    clear HS HA HG hit hla ho2 hB2
    cases ok with
    | true =>
      go_wp2
      go_ret
      exact ⟨_, _, _, rfl, by rw [HR.out]; exact seen_fin ho HIT.out _ rfl, (hB.setCell (p := ⟨g, i * 3 + 1, none⟩) hgb _).setCell (p := ⟨g, i * 3 + 2, none⟩) hgb _⟩
    | false =>
      go_wp2
      go_ret
      exact ⟨_, _, _, rfl, by rw [HR.out]; exact seen_fin ho HIT.out _ (by simp), (hB.setCell (p := ⟨g, i * 3 + 1, none⟩) hgb _).setCell (p := ⟨g, i * 3 + 2, none⟩) hgb _⟩
end Go.Proofs.Ytipghbpkpnkmnaa
