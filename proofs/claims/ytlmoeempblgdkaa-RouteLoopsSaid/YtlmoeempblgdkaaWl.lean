/- Encode. -/
import Derived.Test.YtlmoeempblgdkaaWk
import Derived.Laws.BytesArg
namespace Go.Proofs.Ytlmoeempblgdkaa
open Go.RowKit Go.BigFrame
set_option linter.unusedVariables false
set_option linter.unusedSimpArgs false

/-- bytes -/
def encB (a : Int) : List Value := [.int .u8 a]
def EB : Enc Int := ⟨encB, 1, by omega, fun _ => rfl, fun a u hu => by simp [encB] at hu; subst hu; rfl⟩
theorem info5 : (Try.prog.info? 5).map (fun i => (i.zero, i.size, i.bytes)) = some (some (.int .u8 0), 1, 1) := by kernel_rfl
def four (r : Rt) : List Int := [r.d, r.s / 256, r.s % 256, r.c]
/-- the bytes of a table -/
def ebs1 (b : List Int) (r : Rt) : List Int := if usB r = true ∧ b.length < 96 then b ++ four r else b
def ebs (t : List Rt) : List Int := t.foldl ebs1 []
theorem ebs_le : ∀ (t : List Rt) (b : List Int), b.length ≤ 100 → (t.foldl ebs1 b).length ≤ 100 := by
  intro t
  induction t with
  | nil => intro b h; exact h
  | cons r t ih =>
    intro b h
    refine ih _ ?_
    unfold ebs1
    split
    · simp [four]; omega
    · exact h
theorem us_all {r : Rt} (h : usB r = true) : 0 ≤ r.d ∧ r.d ≤ 250 ∧ 0 ≤ r.s ∧ r.s ≤ 65535 ∧ 0 ≤ r.c ∧ r.c ≤ 255 := by
  unfold usB nodeB finB at h
  simp at h
  omega
theorem conv_str {w : World} {base : Nat} {A : Option Addr} {n cap : Nat} {xs : List Int} (h : Ow w base 5 EB (.slice A n cap) n xs) : (convert 60 9 (.slice A n cap)).run Try.prog w = .ok (.string (strOfNums xs)) w := by
  have hrd := h.rd
  have hlen : xs.length = n := h.1
  rcases h.2.2 with ⟨e, h0⟩ | ⟨g, cap', cur, e, _⟩
  · cases e
    obtain rfl : xs = [] := List.eq_nil_of_length_eq_zero (by omega)
    exact run_convert_bytes_nil w 60 5 Try.underlying60 Try.underlying5 0 0 9 Try.underlying9
  · cases e
    refine run_convert_bytes_arg w 60 5 Try.underlying60 Try.underlying5 g 0 n cap xs h.1 (fun i hi => ?_) 9 Try.underlying9
    obtain ⟨b, off, e2, hc⟩ := hrd.2 (by omega)
    cases e2
    have hx : (EB.flat xs)[i]? = some (.int .u8 (xs.getD i 0)) := by
      have hl : i < xs.length := by omega
      have := EB.flat_get xs (k := i) (j := 0) (a := xs[i]) (List.getElem?_eq_getElem hl) (by decide)
      rw [show i * EB.size + 0 = i from by rw [show EB.size = 1 from rfl]; omega] at this
      rw [this]
      simp [EB, encB, List.getD, List.getElem?_eq_getElem hl]
    exact hc i _ hx
theorem four_rd (r : Rt) (w : World) : Rd (w.alloc (.cells #[.int .u8 r.d, .int .u8 (r.s / 256), .int .u8 (r.s % 256), .int .u8 r.c] 5)) EB (some ⟨w.heap.size, 0, none⟩) 4 (four r) :=
  ⟨rfl, fun _ => ⟨w.heap.size, 0, rfl, fun j v hj => by
    rw [Nat.zero_add, (Blk.new w 5 _).cell, ← Array.getElem?_toList]
    exact hj⟩⟩
set_option maxRecDepth 20000 in
set_option maxHeartbeats 8000000 in
theorem enc20 (A : Option Addr) (n cap : Nat) (t : List Rt) (w : World) (hn : n ≤ 100) (hr : Rd w ER A n t) :
    Calls Try.prog 20 #[.slice A n cap] w fun e w' => e = .returned (.string (strOfNums (ebs t))) ∧ Below w.heap.size w w' := by
  have hlen : t.length = n := hr.1
  obtain ⟨i0, hi0, hz0, hz1, hz2⟩ := info_parts info5
  go_enter Try.func20, Try.ntmps20
  go_wp2
  go_loopw [3, 8] (fun s i wr => ∃ (j m cp : Nat) (B : Option Addr), j ≤ n ∧ i = .int .i64 j ∧ s = .slice B m cp ∧ Ow wr w.heap.size 5 EB (.slice B m cp) m ((t.take j).foldl ebs1 []) ∧ Below w.heap.size w wr) (fun _ i _ => n - (intOf i).toNat)
  case atStart => exact ⟨0, 0, 0, none, Nat.zero_le _, rfl, rfl, Ow.nil _ _ _ _, Below.refl _ _⟩
  case round =>
    obtain ⟨j, m, cp, B, hj, rfl, rfl, ho, hbr⟩ := hrel
    by_cases hlt : j < n
    · obtain ⟨b, off, r, hA, hla, e0, e1, e2, e3⟩ := rt_at (hr.later hbr) hlt
      rw [hA]
      have HST := Lib.hid (foldl_snoc ebs1 [] hla)
      have hm : m ≤ 100 := by rw [← ho.1]; exact ebs_le _ _ (by simp)
      have HML := Lib.hid ho.1
      generalize (t.take j).foldl ebs1 [] = bb at *
      clear hla
      go_upto_region 5 with fail
      obtain ⟨V, hV, hBV, hzV, hkV⟩ := boxeds wr (rtC r) 40
      rw [hV]
      have a0 := hkV.at 0 (v := .int .i64 r.d) rfl
      have a1 := hkV.at 1 (v := .int .i64 r.s) rfl
      have a2 := hkV.at 2 (v := .int .i64 r.c) rfl
      have a3 := hkV.at 3 (v := .int .i64 r.n) rfl
      have U := Lib.hid (usable33 r V)
      have hbV := hbr.trans (hBV.mono hbr.size)
      have oV := ho.later hBV
      clear e0 e1 e2 e3 hBV hzV hkV ho hbr
      cases hu : usB r
      · have HS := Lib.hid (HST.out.trans (show ebs1 bb r = bb by unfold ebs1; rw [if_neg (fun h => by rw [hu] at h; cases h.1)]))
        rw [hu] at U
        clear hu
        go_wp2_with fail
        refine U.out.mono ?_
        rintro e w3 ⟨rfl, hb3⟩
        have o3 := oV.later hb3
        have hb4 := hbV.trans (hb3.mono hbV.size)
        clear hb3 oV hbV a0 a1 a2 a3
        go_wp2
        go_roundw
        case rel => exact ⟨j + 1, m, cp, B, by omega, by go_num, rfl, by rw [HS.out]; exact o3, hb4⟩
        case measure => simp [intOf]; omega
      · rw [hu] at U
        have hua := us_all hu
        obtain ⟨u1, u2, u3, u4, u5, u6⟩ := hua
        by_cases h96 : m < 96
        · have HS := Lib.hid (HST.out.trans (show ebs1 bb r = bb ++ four r by unfold ebs1; rw [if_pos ⟨hu, by have := HML.out; omega⟩]))
          clear hu
          go_wp2_with fail
          refine U.out.mono ?_
          rintro e w3 ⟨rfl, hb3⟩
          have o3 := oV.later hb3
          have b0 := keep hb3 a0
          have b1 := keep hb3 a1
          have b2 := keep hb3 a2
          have hb4 := hbV.trans (hb3.mono hbV.size)
          clear hb3 oV hbV a0 a1 a2 a3
          go_wp2_with (at_builtin; refine wpList_append_rd _ rfl (.tmp 19) (.tmp 33) 60 rfl w.heap.size 5 i0 _ EB Try.underlying60 hi0 hz0 hz1 rfl (.slice B m cp) m bb rfl (o3.later ((Below.refl _ _).alloc (Nat.le_refl _) _)) (some ⟨w3.heap.size, 0, none⟩) 4 4 (four r) rfl (four_rd r w3) (by unfold maxLen; omega) (by rw [hz2]; omega) (by have := hb4.size; simp; omega) ?_; intro A1 cap1 w4 o4 hg)
          have o3' : Ow (w3.alloc (.cells #[.int .u8 r.d, .int .u8 (r.s / 256), .int .u8 (r.s % 256), .int .u8 r.c] 5)) w.heap.size 5 EB (.slice B m cp) m bb := o3.later ((Below.refl _ _).alloc (Nat.le_refl _) _)
          have hb5 := Below.row (hb4.alloc hb4.size (.cells #[.int .u8 r.d, .int .u8 (r.s / 256), .int .u8 (r.s % 256), .int .u8 r.c] 5)) hg (by have := hb4.size; simp; omega) (Nat.le_refl _) o3'.lt
          clear hg o3 o3' hb4 b0 b1 b2 u1 u2 u3 u4 u5 u6
          go_roundw
          case rel => exact ⟨j + 1, m + 4, cap1, A1, by omega, by go_num, rfl, by rw [HS.out]; exact o4, hb5⟩
          case measure => simp [intOf]; omega
        · have HS := Lib.hid (HST.out.trans (show ebs1 bb r = bb by unfold ebs1; rw [if_neg (fun h => by have := HML.out; have := h.2; omega)]))
          clear hu
          go_wp2_with fail
          refine U.out.mono ?_
          rintro e w3 ⟨rfl, hb3⟩
          have o3 := oV.later hb3
          have hb4 := hbV.trans (hb3.mono hbV.size)
          clear hb3 oV hbV a0 a1 a2 a3
          go_wp2
          go_roundw
          case rel => exact ⟨j + 1, m, cp, B, by omega, by go_num, rfl, by rw [HS.out]; exact o3, hb4⟩
          case measure => simp [intOf]; omega
    · rw [List.take_of_length_le (by omega)] at ho
      have hcv := conv_str ho
      clear ho
      go_wp2
      go_ret
      exact ⟨rfl, hbr⟩
end Go.Proofs.Ytlmoeempblgdkaa
