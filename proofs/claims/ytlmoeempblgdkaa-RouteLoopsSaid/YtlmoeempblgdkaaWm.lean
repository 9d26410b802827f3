/- Decode. -/
import Derived.Test.YtlmoeempblgdkaaWl
import Derived.Laws.BitsLemmas
namespace Go.Proofs.Ytlmoeempblgdkaa
open Go.RowKit Go.BigFrame
set_option linter.unusedVariables false
set_option linter.unusedSimpArgs false

def nums (s : ByteArray) : List Int := s.data.toList.map fun b => (b.toNat : Int)
theorem nums_len (s : ByteArray) : (nums s).length = s.size := by unfold nums; rw [List.length_map]; rfl
theorem nums_get {s : ByteArray} {i : Nat} (h : i < s.size) : (nums s)[i]? = some ((s[i].toNat : Nat) : Int) := by
  unfold nums
  rw [List.getElem?_map]
  have : s.data.toList[i]? = some s[i] := by
    rw [Array.getElem?_toList]
    exact Array.getElem?_eq_getElem h
  rw [this]; rfl
theorem or8 {x y : Int} (h0 : 0 ≤ x) (h1 : x < 256) (h2 : 0 ≤ y) (h3 : y < 256) : bits BinOp.or .i64 (x * 256) y = x * 256 + y := by
  refine bits_join .i64 32 (by decide) (fun n h0 h1 => ?_) 8 (x * 256) y (by omega) (by omega) (by omega) h2 (by omega) (by omega)
  have : n < 4294967296 := by simpa using h1
  exact IntWalk.i64_in _ ⟨by omega, by omega⟩
/-- a route out of four bytes -/
def ofB (a b c d : Int) : Rt := ⟨a, b * 256 + c, d, 255⟩
/-- what Decode's loop makes of the bytes that are left: the table, the error -/
def dec1 : List Rt → List Int → List Rt × Int
  | acc, a :: b :: c :: d :: l => if usB (ofB a b c d) = false then ([], 2) else if ordB (pv acc) (ofB a b c d) = false then ([], 14) else dec1 (acc ++ [ofB a b c d]) l
  | acc, _ => (acc, 0)
def decs (s : ByteArray) : List Rt × Int := if s.size % 4 ≠ 0 then ([], 5) else if 96 < s.size then ([], 3) else dec1 [] (nums s)
theorem byte_lt (b : UInt8) : 0 ≤ ((b.toNat : Nat) : Int) ∧ ((b.toNat : Nat) : Int) < 256 := by have := b.toNat_lt; omega
theorem byte_w (b : UInt8) : wrap64 ((b.toNat : Nat) : Int) = ((b.toNat : Nat) : Int) := by have := byte_lt b; exact IntWalk.wrap64_in _ (by omega)
/-- the cells that Decode's loop writes -/
theorem cells4 (x0 x1 x2 x3 : UInt8) : (#[.int .i64 (wrap64 ((x0.toNat : Nat) : Int)), .int .i64 (bits BinOp.or .i64 (wrap64 (wrap64 ((x1.toNat : Nat) : Int) * 256)) (wrap64 ((x2.toNat : Nat) : Int))), .int .i64 (wrap64 ((x3.toNat : Nat) : Int)), .int .i64 255] : Array Value) = rtC (ofB x0.toNat x1.toNat x2.toNat x3.toNat) := by
  have h1 := byte_lt x1
  have h2 := byte_lt x2
  rw [byte_w x0, byte_w x1, byte_w x2, byte_w x3, IntWalk.wrap64_in (((x1.toNat : Nat) : Int) * 256) (by omega), or8 h1.1 h1.2 h2.1 h2.2]
  rfl
def szOf : Value → Nat
  | .string s => s.size
  | _ => 0
theorem nums_drop (s : ByteArray) : nums (s.extract 4 s.size) = (nums s).drop 4 := by
  unfold nums
  rw [← List.map_drop]
  congr 1
  rw [ByteArray.data_extract, Array.toList_extract, List.extract_eq_take_drop]
  exact List.take_of_length_le (by simp)
theorem size_drop (s : ByteArray) (h : 4 ≤ s.size) : (s.extract 4 s.size).size = s.size - 4 := by
  rw [ByteArray.size_extract]; omega
theorem nums_four {s : ByteArray} (h : 4 ≤ s.size) : nums s = (((s[0]'(by omega)).toNat : Nat) : Int) :: (((s[1]'(by omega)).toNat : Nat) : Int) :: (((s[2]'(by omega)).toNat : Nat) : Int) :: (((s[3]'(by omega)).toNat : Nat) : Int) :: nums (s.extract 4 s.size) := by
  rw [nums_drop]
  have e0 := drop_cons (nums_get (s := s) (i := 0) (by omega))
  have e1 := drop_cons (nums_get (s := s) (i := 1) (by omega))
  have e2 := drop_cons (nums_get (s := s) (i := 2) (by omega))
  have e3 := drop_cons (nums_get (s := s) (i := 3) (by omega))
  rw [List.drop_zero] at e0
  exact e0.trans (congrArg _ (e1.trans (congrArg _ (e2.trans (congrArg _ e3)))))
theorem nums_none {s : ByteArray} (h : s.size = 0) : nums s = [] := List.eq_nil_of_length_eq_zero (by rw [nums_len]; exact h)
theorem dec1_us {acc : List Rt} {a b c d : Int} {l : List Int} (h : usB (ofB a b c d) = false) : dec1 acc (a :: b :: c :: d :: l) = ([], 2) := by
  rw [dec1, if_pos h]
theorem dec1_or {acc : List Rt} {a b c d : Int} {l : List Int} (h : usB (ofB a b c d) = true) (h2 : ordB (pv acc) (ofB a b c d) = false) : dec1 acc (a :: b :: c :: d :: l) = ([], 14) := by
  rw [dec1, if_neg (by rw [h]; simp), if_pos h2]
theorem dec1_go {acc : List Rt} {a b c d : Int} {l : List Int} (h : usB (ofB a b c d) = true) (h2 : ordB (pv acc) (ofB a b c d) = true) : dec1 acc (a :: b :: c :: d :: l) = dec1 (acc ++ [ofB a b c d]) l := by
  rw [dec1, if_neg (by rw [h]; simp), if_neg (by rw [h2]; simp)]
theorem dec1_nil (acc : List Rt) : dec1 acc [] = (acc, 0) := by rw [dec1]; intro a b c d l h; cases h
theorem pv_last {l : List Rt} {m : Nat} {q : Rt} (h : l.length = m + 1) (hq : l[m]? = some q) : pv l = some q.d := by
  have := pv_take hq
  rwa [List.take_of_length_le (by omega)] at this
def DecEnd (w : World) (r : List Rt × Int) (e : Ending) (w' : World) : Prop :=
  ∃ (A : Option Addr) (n cap : Nat), e = .returned (.tuple #[.slice A n cap, .int .i64 r.2]) ∧ Ow w' w.heap.size 40 ER (.slice A n cap) n r.1 ∧ Below w.heap.size w w'
set_option maxRecDepth 20000 in
set_option maxHeartbeats 4000000 in
theorem dec18 (s : ByteArray) (w : World) (hs64 : s.size ≤ 1000) : Calls Try.prog 18 #[.string s] w (DecEnd w (decs s)) := by
  obtain ⟨i0, hi0, hz0, hz1, hz2⟩ := info_parts info40
  have hB0 := Below.refl w.heap.size w
  by_cases h4 : s.size % 4 = 0
  · have hr4 : ((s.size : Int)).tmod 4 = 0 := by rw [Int.tmod_eq_emod_of_nonneg (by omega)]; omega
    by_cases hs : s.size ≤ 96
    · have HD := Lib.hid (show decs s = dec1 [] (nums s) by unfold decs; rw [if_neg (by omega), if_neg (by omega)])
      go_enter Try.func18, Try.ntmps18
      go_wp2
      go_loopw [0, 4] (fun z t wr => ∃ (st : ByteArray) (m cp : Nat) (B : Option Addr) (tt : List Rt), z = .string st ∧ t = .slice B m cp ∧ Ow wr w.heap.size 40 ER (.slice B m cp) m tt ∧ m * 4 + st.size ≤ 96 ∧ st.size % 4 = 0 ∧ dec1 [] (nums s) = dec1 tt (nums st) ∧ Below w.heap.size w wr) (fun z _ _ => szOf z)
      case atStart => exact ⟨s, 0, 0, none, [], rfl, rfl, Ow.nil _ _ _ _, by omega, h4, rfl, hB0⟩
      case round =>
        clear hB0 hr4
        obtain ⟨st, m, cp, B, tt, rfl, rfl, ho, hm, hsz, hdec, hbr⟩ := hrel
        by_cases h0 : 0 < st.size
        · have i0' : (0 : Int) < (st.size : Int) := by omega
          have i1 : (1 : Int) < (st.size : Int) := by omega
          have i2 : (2 : Int) < (st.size : Int) := by omega
          have i3 : (3 : Int) < (st.size : Int) := by omega
          have HN := Lib.hid (nums_four (s := st) (by omega))
          have HSD := Lib.hid (size_drop st (by omega))
          have HDE := Lib.hid hdec
          have HTL := Lib.hid ho.1
          clear hdec
          go_upto_region 8 with fail
          obtain ⟨R, hR⟩ : ∃ R, R = ofB (st[0]'(by omega)).toNat (st[1]'(by omega)).toNat (st[2]'(by omega)).toNat (st[3]'(by omega)).toNat := ⟨_, rfl⟩
          have HRR := Lib.hid hR
          clear hR
          go_cut [5] (fun z w' => z = .pointer (some ⟨wr.heap.size, 0, none⟩) ∧ Blk w' wr.heap.size 40 (rtC R) ∧ Below wr.heap.size wr w')
          case first =>
            clear ho hbr
            go_region
            go_wp2
            go_meet
            refine ⟨rfl, ?_, ((Below.refl _ _).alloc (Nat.le_refl _) _).drew⟩
            rw [HRR.out, ← cells4]
            exact (Blk.new _ _ _).later (Below.drew (Below.refl _ _))
          case rest =>
            obtain ⟨rfl, hkV, hBV⟩ := hcut
            obtain ⟨V, rfl⟩ : ∃ x : World, x = wc := ⟨_, rfl⟩
            have a0 := hkV.at 0 (v := .int .i64 R.d) rfl
            have a1 := hkV.at 1 (v := .int .i64 R.s) rfl
            have a2 := hkV.at 2 (v := .int .i64 R.c) rfl
            have a3 := hkV.at 3 (v := .int .i64 R.n) rfl
            have oV := ho.later hBV
            have hbV := hbr.trans (hBV.mono hbr.size)
            have HBV := Lib.hid hbV
            clear i0' i1 i2 i3 hkV hBV ho hbr
            cases hu : usB R
            · have U := Lib.hid (hu ▸ usable33 R V)
              have HX := Lib.hid (show decs s = ([], 2) from HD.out.trans (HDE.out.trans (by rw [HN.out]; exact dec1_us (by rw [← HRR.out]; exact hu))))
              clear hu oV hbV
              go_wp2_with fail
              refine U.out.mono ?_
              rintro e w3 ⟨rfl, hb3⟩
              have hb4 := HBV.out.trans (hb3.mono HBV.out.size)
              clear hb3 a0 a1 a2 a3
              go_wp2
              refine bodyPost_ret (v := .tuple #[.slice none 0 0, .int .i64 2]) (by simp [results, Try.results18, go_sem]) rfl ?_
              exact ⟨none, 0, 0, by rw [HX.out], by rw [HX.out]; exact Ow.nil _ _ _ _, hb4⟩
            · have U := Lib.hid (hu ▸ usable33 R V)
              have HU := Lib.hid hu
              clear hu
              go_wp2_with fail
              refine U.out.mono ?_
              rintro e w3 ⟨rfl, hb3⟩
              have b0 := keep hb3 a0
              have b1 := keep hb3 a1
              have b2 := keep hb3 a2
              have b3 := keep hb3 a3
              have o3 := oV.later hb3
              have hb4 := hbV.trans (hb3.mono hbV.size)
              clear hb3 a0 a1 a2 a3 oV hbV
              go_upto_region 11 with fail
              go_cut [50] (fun y w' => y = .bool (!ordB (pv tt) R) ∧ Below w3.heap.size w3 w')
              case first =>
                have B0 := After.cell b0
                rcases m with _ | m'
                · have HO := Lib.hid (show ordB (pv tt) R = true by rw [List.eq_nil_of_length_eq_zero HTL.out]; rfl)
                  clear hb4 o3 b0 b1 b2 b3
                  refine wp_region_after (by kernel_rfl) (by kernel_rfl) ?_
                  repeat (go_big_quiet_step (fail))
                  refine wpQuiet_nil ?_
                  intro w6 hb6
                  clear B0
                  go_wp2
                  go_meet
                  exact ⟨by rw [HO.out]; rfl, hb6⟩
                · obtain ⟨g, rfl, hgb, hgl⟩ := o3.at0 (by omega)
                  obtain ⟨b', off', q, hA', hq, e0, e1, e2, e3⟩ := rt_at o3.rd (show m' < m' + 1 by omega)
                  obtain ⟨rfl, rfl⟩ : g = b' ∧ 0 = off' := by cases hA'; exact ⟨rfl, rfl⟩
                  simp only [Nat.zero_add] at e0
                  have HO := Lib.hid (show ordB (pv tt) R = decide (q.d < R.d) by rw [pv_last HTL.out hq]; rfl)
                  have E0 := After.cell e0
                  have hw1 : IntKind.i64.wrap (((m' + 1 : Nat) : Int) - 1) = (m' : Int) := by rw [IntWalk.i64_in _ (by omega)]; omega
                  have hx1 : (0 : Int) ≤ (m' : Int) := by omega
                  have hx2 : (m' : Int) < ((m' + 1 : Nat) : Int) := by omega
                  have hx3 : (0 : Int) < ((m' + 1 : Nat) : Int) := by omega
                  clear hb4 o3 b0 b1 b2 b3 e0 e1 e2 e3 hq hgb hgl hA'
                  refine wp_region_after (by kernel_rfl) (by kernel_rfl) ?_
                  repeat (go_big_quiet_step (fail))
                  refine wpQuiet_nil ?_
                  intro w6 hb6
                  clear B0 E0 hw1 hx1 hx2 hx3
                  go_wp2
                  go_meet
                  refine ⟨congrArg Value.bool ?_, hb6⟩
                  rw [HO.out, Bool.eq_iff_iff]
                  simp
              case rest =>
                obtain ⟨rfl, hb5⟩ := hcut
                obtain ⟨w5, rfl⟩ : ∃ x : World, x = wc := ⟨_, rfl⟩
                have o5 := o3.later hb5
                have hb6 := hb4.trans (hb5.mono hb4.size)
                have c0 := keep hb5 b0
                have c1 := keep hb5 b1
                have c2 := keep hb5 b2
                have c3 := keep hb5 b3
                clear b0 b1 b2 b3 hb5 o3 hb4
                cases hod : ordB (pv tt) R
                · have HX := Lib.hid (show decs s = ([], 14) from HD.out.trans (HDE.out.trans (by rw [HN.out]; exact dec1_or (by rw [← HRR.out]; exact HU.out) (by rw [← HRR.out]; exact hod))))
                  clear hod c0 c1 c2 c3 o5
                  go_wp2
                  refine bodyPost_ret (v := .tuple #[.slice none 0 0, .int .i64 14]) (by simp [results, Try.results18, go_sem]) rfl ?_
                  exact ⟨none, 0, 0, by rw [HX.out], by rw [HX.out]; exact Ow.nil _ _ _ _, hb6⟩
                · have HX := Lib.hid (show dec1 [] (nums s) = dec1 (tt ++ [R]) (nums (st.extract 4 st.size)) from HDE.out.trans (by rw [HN.out, HRR.out]; exact dec1_go (by rw [← HRR.out]; exact HU.out) (by rw [← HRR.out]; exact hod)))
                  clear hod
                  go_wp2_with (at_builtin; refine wpList_append_rd _ rfl (.tmp 51) (.tmp 53) 22 rfl w.heap.size 40 i0 _ ER Try.underlying22 hi0 hz0 hz1 rfl (.slice B m cp) m tt rfl (o5.later ((Below.refl _ _).alloc (Nat.le_refl _) _)) (some ⟨w5.heap.size, 0, none⟩) 1 1 [R] rfl (rt_one R w5 40) (by unfold maxLen; omega) (by rw [hz2]; omega) (by have := hb6.size; simp; omega) ?_; intro A1 cap1 w4 o4 hg)
                  have o3' : Ow (w5.alloc (.cells (rtC R) 40)) w.heap.size 40 ER (.slice B m cp) m tt := o5.later ((Below.refl _ _).alloc (Nat.le_refl _) _)
                  have hb7 := Below.row (hb6.alloc hb6.size (.cells (rtC R) 40)) hg (by have := hb6.size; simp; omega) (Nat.le_refl _) o3'.lt
                  clear hg o3' o5 hb6 c0 c1 c2 c3
                  go_roundw
                  case rel => exact ⟨_, m + 1, cap1, A1, tt ++ [R], rfl, rfl, o4, by rw [HSD.out]; omega, by rw [HSD.out]; omega, HX.out, hb7⟩
                  case measure => simp only [szOf]; rw [HSD.out]; omega
        · have HX := Lib.hid (show decs s = (tt, 0) from HD.out.trans (hdec.trans (by rw [nums_none (by omega)]; exact dec1_nil tt)))
          clear hdec
          go_wp2
          refine bodyPost_ret (v := .tuple #[.slice B m cp, .int .i64 0]) (by simp [results, Try.results18, go_sem]) rfl ?_
          exact ⟨B, m, cp, by rw [HX.out], by rw [HX.out]; exact ho, hbr⟩
    · have HX := Lib.hid (show decs s = ([], 3) by unfold decs; rw [if_neg (by omega), if_pos (by omega)])
      go_enter Try.func18, Try.ntmps18
      go_wp2
      refine bodyPost_ret (v := .tuple #[.slice none 0 0, .int .i64 3]) (by simp [results, Try.results18, go_sem]) rfl ?_
      exact ⟨none, 0, 0, by rw [HX.out], by rw [HX.out]; exact Ow.nil _ _ _ _, hB0⟩
  · have hr4 : ¬ ((s.size : Int)).tmod 4 = 0 := by rw [Int.tmod_eq_emod_of_nonneg (by omega)]; omega
    have HX := Lib.hid (show decs s = ([], 5) by unfold decs; rw [if_pos h4])
    go_enter Try.func18, Try.ntmps18
    go_wp2
    all_goals first | (exfalso; simp_all; done) | skip
    refine bodyPost_ret (v := .tuple #[.slice none 0 0, .int .i64 5]) (by simp [results, Try.results18, go_sem]) rfl ?_
    exact ⟨none, 0, 0, by rw [HX.out], by rw [HX.out]; exact Ow.nil _ _ _ _, hB0⟩
end Go.Proofs.Ytlmoeempblgdkaa
