/- awake. -/
import Derived.Test.YtlmoeempblgdkaaWm
namespace Go.Proofs.Ytlmoeempblgdkaa
open Go.RowKit Go.BigFrame
set_option linter.unusedVariables false
set_option linter.unusedSimpArgs false

theorem rd_lit (w : World) (cells : Array Value) (l : List Rt) (h : cells.toList = ER.flat l) : Rd (w.alloc (.cells cells 40)) ER (some ⟨w.heap.size, 0, none⟩) l.length l :=
  ⟨rfl, fun _ => ⟨w.heap.size, 0, rfl, fun j v hj => by
    rw [Nat.zero_add, (Blk.new w 40 _).cell, ← Array.getElem?_toList, h]
    exact hj⟩⟩
abbrev T1 : List Rt := [⟨0, 4, 30, 2⟩, ⟨1, 0, 0, 1⟩, ⟨2, 6, 10, 2⟩]
abbrev T2 : List Rt := [⟨0, 5, 255, 255⟩, ⟨1, 0, 0, 1⟩, ⟨2, 7, 255, 255⟩]
abbrev T3 : List Rt := [⟨0, 6, 15, 3⟩, ⟨1, 0, 0, 1⟩, ⟨2, 7, 255, 255⟩]
abbrev T4 : List Rt := [⟨0, 6, 15, 255⟩, ⟨1, 0, 0, 255⟩, ⟨2, 7, 255, 255⟩]
theorem aw1 : upd [own (lim 1) 0] 1 2 10 [⟨0, 4, 20, 0⟩, ⟨2, 6, 0, 0⟩] = T1 := by decide +kernel
theorem aw2 : hop T1 0 = (2, true) := by decide +kernel
theorem aw3 : brk T1 1 2 = T2 := by decide +kernel
theorem aw4 : hop T2 0 = (0, false) := by decide +kernel
theorem aw5 : upd T2 1 3 10 [⟨0, 4, 5, 0⟩] = T2 := by decide +kernel
theorem aw6 : upd T2 1 3 10 [⟨0, 6, 5, 0⟩] = T3 := by decide +kernel
theorem aw7 : decs (strOfNums (ebs T3)) = (T4, 0) := by decide +kernel
theorem aw8 : (strOfNums (ebs T3)).size ≤ 1000 := by decide +kernel
theorem aw9 : chk T3 1 = 0 := by decide +kernel
def AwakeOk (w : World) : Prop := Calls Try.prog 10 #[] w fun e w' => e = .returned (.bool true) ∧ Below w.heap.size w w'
set_option maxRecDepth 40000 in
set_option maxHeartbeats 8000000 in
theorem awake10 (w : World) : AwakeOk w := by
  unfold AwakeOk
  go_enter Try.func10, Try.ntmps10
  go_wp2_with fail
  refine (new23 1 w).mono ?_
  rintro e w1 ⟨A1, n1, p1, rfl, o1, h1⟩
  obtain rfl : n1 = 1 := o1.1.symm
  obtain ⟨V1, hV1, hBV1, hzV1, hkV1⟩ := boxeds w1 #[.int .i64 0, .int .i64 4, .int .i64 20, .int .i64 0, .int .i64 2, .int .i64 6, .int .i64 0, .int .i64 0] 40
  have r1 : Rd V1 ER (some ⟨w1.heap.size, 0, none⟩) 2 [⟨0, 4, 20, 0⟩, ⟨2, 6, 0, 0⟩] := hV1 ▸ rd_lit w1 _ [⟨0, 4, 20, 0⟩, ⟨2, 6, 0, 0⟩] rfl
  have U1 := Lib.hid (upd12 A1 1 p1 _ 1 2 10 (some ⟨w1.heap.size, 0, none⟩) 2 2 _ V1 (by omega) (o1.later hBV1).rd (by omega) r1)
  have b1 := h1.trans (hBV1.mono h1.size)
  clear hkV1 hzV1 r1 o1
  go_wp2_with fail
  refine U1.out.mono ?_
  rintro e w2 ⟨A2, n2, p2, rfl, o2, h2⟩
  rw [aw1] at o2
  obtain rfl : n2 = 3 := o2.1.symm
  have b2 := b1.trans (h2.mono b1.size)
  clear h2 b1 hV1
  go_wp2_with fail
  refine (hop14 A2 3 p2 T1 0 w2 (by omega) o2.rd).mono ?_
  rintro e w3 ⟨rfl, h3⟩
  rw [aw2]
  have o3 := o2.later h3
  have b3 := b2.trans (h3.mono b2.size)
  clear o2 b2 h3
  go_wp2_with fail
  refine (brk16 A2 3 p2 T1 1 2 w3 (by omega) o3.rd).mono ?_
  rintro e w4 ⟨A4, n4, p4, rfl, o4, h4⟩
  rw [aw3] at o4
  obtain rfl : n4 = 3 := o4.1.symm
  have q4 := o3.later h4
  have b4 := b3.trans (h4.mono b3.size)
  clear o3 b3 h4
  go_wp2_with fail
  refine (hop14 A4 3 p4 T2 0 w4 (by omega) o4.rd).mono ?_
  rintro e w5 ⟨rfl, h5⟩
  rw [aw4]
  have o5 := o4.later h5
  have q5 := q4.later h5
  have b5 := b4.trans (h5.mono b4.size)
  clear o4 q4 b4 h5
  obtain ⟨V5, hV5, hBV5, hzV5, hkV5⟩ := boxeds w5 (rtC ⟨0, 4, 5, 0⟩) 40
  have r5 : Rd V5 ER (some ⟨w5.heap.size, 0, none⟩) 1 [⟨0, 4, 5, 0⟩] := hV5 ▸ rd_lit w5 _ [⟨0, 4, 5, 0⟩] rfl
  have U5 := Lib.hid (upd12 A4 3 p4 T2 1 3 10 (some ⟨w5.heap.size, 0, none⟩) 1 1 _ V5 (by omega) (o5.later hBV5).rd (by omega) r5)
  have o6 := o5.later hBV5
  have q6 := q5.later hBV5
  have b6 := b5.trans (hBV5.mono b5.size)
  clear hkV5 hzV5 r5 o5 q5 b5
  go_wp2_with fail
  refine U5.out.mono ?_
  rintro e w6 ⟨A6, n6, p6, rfl, o66, h6⟩
  rw [aw5] at o66
  obtain rfl : n6 = 3 := o66.1.symm
  have o7 := o6.later h6
  have q7 := q6.later h6
  have b7 := b6.trans (h6.mono b6.size)
  clear o6 q6 b6 h6 hV5
  obtain ⟨V7, hV7, hBV7, hzV7, hkV7⟩ := boxeds w6 (rtC ⟨0, 6, 5, 0⟩) 40
  have r7 : Rd V7 ER (some ⟨w6.heap.size, 0, none⟩) 1 [⟨0, 6, 5, 0⟩] := hV7 ▸ rd_lit w6 _ [⟨0, 6, 5, 0⟩] rfl
  have U7 := Lib.hid (upd12 A4 3 p4 T2 1 3 10 (some ⟨w6.heap.size, 0, none⟩) 1 1 _ V7 (by omega) (o7.later hBV7).rd (by omega) r7)
  have o8 := o7.later hBV7
  have q8 := q7.later hBV7
  have x8 := o66.later hBV7
  have b8 := b7.trans (hBV7.mono b7.size)
  clear hkV7 hzV7 r7 o7 q7 b7 o66
  go_wp2_with fail
  refine U7.out.mono ?_
  rintro e w8 ⟨A8, n8, p8, rfl, y8, h8⟩
  rw [aw6] at y8
  obtain rfl : n8 = 3 := y8.1.symm
  have o9 := o8.later h8
  have q9 := q8.later h8
  have x9 := x8.later h8
  have b9 := b8.trans (h8.mono b8.size)
  clear o8 q8 x8 b8 h8 hV7
  go_wp2_with fail
  refine (enc20 A8 3 p8 T3 w8 (by omega) y8.rd).mono ?_
  rintro e w9 ⟨rfl, h9⟩
  have D9 := Lib.hid (dec18 (strOfNums (ebs T3)) w9 aw8)
  rw [aw7] at D9
  have oa := o9.later h9
  have qa := q9.later h9
  have xa := x9.later h9
  have ya := y8.later h9
  have ba := b9.trans (h9.mono b9.size)
  clear o9 q9 x9 y8 b9 h9
  generalize strOfNums (ebs T3) = str at *
  go_wp2_with fail
  refine D9.out.mono ?_
  rintro e w10 ⟨A10, n10, p10, rfl, z10, h10⟩
  obtain rfl : n10 = 3 := z10.1.symm
  have ob := oa.later h10
  have qb := qa.later h10
  have xb := xa.later h10
  have yb := ya.later h10
  have bb := ba.trans (h10.mono ba.size)
  clear oa qa xa ya ba h10 D9
  obtain ⟨V11, hV11, hBV11, hzV11, hkV11⟩ := boxeds w10 #[.int .i64 0, .int .i64 4, .int .i64 30, .int .i64 2, .int .i64 1, .int .i64 0, .int .i64 0, .int .i64 1, .int .i64 2, .int .i64 6, .int .i64 10, .int .i64 2] 40
  have r11 : Rd V11 ER (some ⟨w10.heap.size, 0, none⟩) 3 T1 := hV11 ▸ rd_lit w10 _ T1 rfl
  have S11 := Lib.hid (same11 A2 (some ⟨w10.heap.size, 0, none⟩) 3 p2 3 T1 V11 (by omega) (qb.later hBV11).rd r11)
  have oc := ob.later hBV11
  have xc := xb.later hBV11
  have yc := yb.later hBV11
  have zc := z10.later hBV11
  have bc := bb.trans (hBV11.mono bb.size)
  clear hkV11 hzV11 r11 ob qb xb yb bb z10
  go_wp2_with fail
  refine S11.out.mono ?_
  rintro e w11 ⟨rfl, h11⟩
  have od := oc.later h11
  have xd := xc.later h11
  have yd := yc.later h11
  have zd := zc.later h11
  have bd := bc.trans (h11.mono bc.size)
  clear oc xc yc zc bc h11 hV11 S11
  go_wp2_with fail
  refine (same11 A4 A6 3 p4 p6 T2 w11 (by omega) od.rd xd.rd).mono ?_
  rintro e w12 ⟨rfl, h12⟩
  have ye := yd.later h12
  have ze := zd.later h12
  have be := bd.trans (h12.mono bd.size)
  clear od xd yd zd bd h12
  obtain ⟨V13, hV13, hBV13, hzV13, hkV13⟩ := boxeds w12 #[.int .i64 0, .int .i64 6, .int .i64 15, .int .i64 3, .int .i64 1, .int .i64 0, .int .i64 0, .int .i64 1, .int .i64 2, .int .i64 7, .int .i64 255, .int .i64 255] 40
  have r13 : Rd V13 ER (some ⟨w12.heap.size, 0, none⟩) 3 T3 := hV13 ▸ rd_lit w12 _ T3 rfl
  have S13 := Lib.hid (same11 A8 (some ⟨w12.heap.size, 0, none⟩) 3 p8 3 T3 V13 (by omega) (ye.later hBV13).rd r13)
  have yf := ye.later hBV13
  have zf := ze.later hBV13
  have bf := be.trans (hBV13.mono be.size)
  clear hkV13 hzV13 r13 ye ze be
  go_wp2_with fail
  refine S13.out.mono ?_
  rintro e w13 ⟨rfl, h13⟩
  have yg := yf.later h13
  have zg := zf.later h13
  have bg := bf.trans (h13.mono bf.size)
  obtain ⟨b, off, r, hA, hla, e0, e1, e2, e3⟩ := rt_at zg.rd (show 0 < 3 by omega)
  simp only [Nat.zero_mul, Nat.add_zero] at e0 e1 e2 e3
  have hrc : r.c = 15 := by cases hla; rfl
  rw [hrc] at e2
  rw [hA]
  have C13 := Lib.hid (check25 A8 3 p8 T3 1 w13 (by omega) yg.rd)
  rw [aw9] at C13
  clear yf zf bf h13 hV13 S13 zg yg hla hrc
  go_wp2_with fail
  refine C13.out.mono ?_
  rintro e w14 ⟨rfl, h14⟩
  have bh := bg.trans (h14.mono bg.size)
  clear bg h14 e0 e1 e2 e3 C13
  go_wp2
  go_ret
  exact ⟨rfl, bh⟩
end Go.Proofs.Ytlmoeempblgdkaa
