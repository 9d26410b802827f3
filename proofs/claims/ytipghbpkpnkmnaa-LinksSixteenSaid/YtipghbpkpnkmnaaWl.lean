/- The walk of LinksMonotone. -/
import Derived.Test.YtipghbpkpnkmnaaWj
import Derived.Test.YtipghbpkpnkmnaaMo
namespace Go.Proofs.Ytipghbpkpnkmnaa
open Go.RowKit Go.BigFrame
set_option linter.unusedVariables false

/-- what a slice that the call made is good for -/
structure Hs (w : World) (A : Option Addr) (n cap : Nat) (l : List Link) : Prop where
  rd : Rd w EL A n l
  le : n ≤ 9223372036854775807
theorem Hs.of {w : World} {A : Option Addr} {n cap base : Nat} {l : List Link} (h : Ow w base 38 EL (.slice A n cap) n l) : Hs w A n cap l :=
  ⟨h.rd, by have h1 := h.cap.1; have h2 := h.cap.2; unfold maxLen at h2; omega⟩
theorem Hs.later {w w' : World} {A : Option Addr} {n cap : Nat} {l : List Link} (h : Hs w A n cap l) (hb : Below w.heap.size w w') : Hs w' A n cap l := ⟨h.rd.later hb, h.le⟩
theorem chk_ok {w : World} {A : Option Addr} {n cap : Nat} {l : List Link} (h : Hs w A n cap l) (hg : Good l) : Calls Try.prog 17 #[.slice A n cap] w fun e w' => e = .returned (.int .i64 0) ∧ Below w.heap.size w w' := by
  have := check17 A n cap l w h.le h.rd
  rwa [chk_good.2 hg] at this
theorem cost_ok {w : World} {A : Option Addr} {n cap : Nat} {l : List Link} (h : Hs w A n cap l) (hg : Good l) (v : Int) : Calls Try.prog 16 #[.slice A n cap, .int .i64 v] w fun e w' => e = .returned (.int .i64 (costT l v)) ∧ Below w.heap.size w w' := by
  have := cost16 A n cap l v w h.le h.rd
  rwa [tab_of_good hg] at this
theorem forg_ok {w : World} {A : Option Addr} {n cap : Nat} {l : List Link} (h : Hs w A n cap l) (hg : Good l) (v : Int) : Calls Try.prog 13 #[.slice A n cap, .int .i64 v] w (SlEnd w (forgT l v)) := by
  have := forget13 A n cap l v w h.le h.rd
  rwa [tab_of_good hg] at this
theorem seen_ok {w : World} {A : Option Addr} {n cap : Nat} {l : List Link} (h : Hs w A n cap l) (hg : Good l) (v : Int) (ok : Bool) : Calls Try.prog 11 #[.slice A n cap, .int .i64 v, .bool ok] w (SlEnd w (seenT l v ok)) := by
  have := seen11 A n cap l v ok w h.le h.rd
  rwa [tab_of_good hg] at this

set_option maxRecDepth 20000 in
set_option maxHeartbeats 4000000 in
theorem lawMono4 (A : Option Addr) (n cap : Nat) (l : List Link) (v u : Int) (w : World) (hn : n ≤ cap) (hcap : cap ≤ 9223372036854775807) (hr : Rd w EL A n l) :
    Calls Try.prog 4 #[.slice A n cap, .int .i64 v, .int .i64 u] w fun e w' => e = .returned (.bool true) ∧ Below w.heap.size w w' := by
  have LV : Hid (∀ w, Calls Try.prog 9 #[] w fun e w' => e = .returned (.bool true) ∧ Below w.heap.size w w') := Lib.hid lives9
  have CK := Lib.hid (check15 A n cap l w (by omega) hr)
  have hH : Hs w A n cap l := ⟨hr, by omega⟩
  clear hr
  by_cases hc : chk l = 0
  · have hg := chk_good.1 hc
    rw [hc] at CK
    obtain ⟨gG, uG, _, _⟩ := seen_facts hg v true
    obtain ⟨gB, uB, _, _⟩ := seen_facts hg v false
    obtain ⟨gF, uF, nF⟩ := forg_facts hg v
    obtain ⟨mG, mB⟩ := mono_law hg v
    have cG : u ≠ v → costT (seenT l v true) u = costT l u := fun h => by rw [costT_at gG.2.1, costT_at hg.2.1, uG u h]
    have cB : u ≠ v → costT (seenT l v false) u = costT l u := fun h => by rw [costT_at gB.2.1, costT_at hg.2.1, uB u h]
    have cF : u ≠ v → costT (forgT l v) u = costT l u := fun h => by rw [costT_at gF.2.1, costT_at hg.2.1, uF u h]
    have cN : costT (forgT l v) v = 255 := by rw [costT_at gF.2.1, nF]; rfl
    have SG := Lib.hid (fun (w : World) h => seen_ok (w := w) (A := A) (n := n) (cap := cap) h hg v true)
    have SB := Lib.hid (fun (w : World) h => seen_ok (w := w) (A := A) (n := n) (cap := cap) h hg v false)
    have SF := Lib.hid (fun (w : World) h => forg_ok (w := w) (A := A) (n := n) (cap := cap) h hg v)
    have C1 := Lib.hid (fun (w : World) h => cost_ok (w := w) (A := A) (n := n) (cap := cap) h hg v)
    have C2 := Lib.hid (fun (w : World) h => cost_ok (w := w) (A := A) (n := n) (cap := cap) h hg u)
    have HG := Lib.hid gG
    have HB := Lib.hid gB
    have HF := Lib.hid gF
    have KG := Lib.hid cG
    have KB := Lib.hid cB
    have KF := Lib.hid cF
    have KN := Lib.hid cN
    clear uG uB uF nF gG gB gF cG cB cF cN hc hg
    generalize seenT l v true = G at *
    generalize seenT l v false = B at *
    generalize forgT l v = F at *
    generalize hcv : costT l v = cv at *
    generalize hcu : costT l u = cu at *
    generalize hgv : costT G v = gv at *
    generalize hbv : costT B v = bv at *
    clear hcv hcu
    have HGV := Lib.hid hgv
    have HBV := Lib.hid hbv
    clear hgv hbv
    go_enter Try.func4, Try.ntmps4
    go_wp2_with fail
    refine CK.out.mono ?_
    rintro e w1 ⟨rfl, hb1⟩
    have hH1 := hH.later hb1
    clear CK hH
    go_wp2_with fail
    refine (SG.out _ hH1).mono ?_
    rintro e w2 ⟨AG, nG, kG, rfl, ho2, hb2⟩
    have hG2 := Hs.of ho2
    have hH2 := hH1.later hb2
    have hB2 := hb1.trans (hb2.mono hb1.size)
    clear SG ho2 hH1 hb1 hb2
    go_wp2_with fail
    refine (SB.out _ hH2).mono ?_
    rintro e w3 ⟨AB, nB, kB, rfl, ho3, hb3⟩
    have hBd3 := Hs.of ho3
    have hG3 := hG2.later hb3
    have hH3 := hH2.later hb3
    have hB3 := hB2.trans (hb3.mono hB2.size)
    clear SB ho3 hH2 hG2 hb3 hB2
    go_wp2_with fail
    refine (C1.out _ hH3).mono ?_
    rintro e w4 ⟨rfl, hb4⟩
    have hBd4 := hBd3.later hb4
    have hG4 := hG3.later hb4
    have hH4 := hH3.later hb4
    have hB4 := hB3.trans (hb4.mono hB3.size)
    clear C1 hH3 hG3 hBd3 hb4 hB3
    go_wp2_with fail
    refine (chk_ok hG4 HG.out).mono ?_
    rintro e w5 ⟨rfl, hb5⟩
    have hBd5 := hBd4.later hb5
    have hG5 := hG4.later hb5
    have hH5 := hH4.later hb5
    have hB5 := hB4.trans (hb5.mono hB4.size)
    clear hH4 hG4 hBd4 hb5 hB4
    go_wp2_with fail
    refine (chk_ok hBd5 HB.out).mono ?_
    rintro e w6 ⟨rfl, hb6⟩
    have hBd6 := hBd5.later hb6
    have hG6 := hG5.later hb6
    have hH6 := hH5.later hb6
    have hB6 := hB5.trans (hb6.mono hB5.size)
    clear hH5 hG5 hBd5 hb6 hB5
    go_wp2_with fail
    refine (SF.out _ hH6).mono ?_
    rintro e w7 ⟨AF, nF, kF, rfl, ho7, hb7⟩
    have hF7 := Hs.of ho7
    have hBd7 := hBd6.later hb7
    have hG7 := hG6.later hb7
    have hH7 := hH6.later hb7
    have hB7 := hB6.trans (hb7.mono hB6.size)
    clear ho7 hH6 hG6 hBd6 hb7 hB6
    go_wp2_with fail
    refine (chk_ok hF7 HF.out).mono ?_
    rintro e w8 ⟨rfl, hb8⟩
    have hBd8 := hBd7.later hb8
    have hG8 := hG7.later hb8
    have hH8 := hH7.later hb8
    have hB8 := hB7.trans (hb8.mono hB7.size)
    clear hH7 hG7 hBd7 hF7 hb8 hB7
    have X1 : Hid (Calls Try.prog 16 #[.slice AG nG kG, .int .i64 v] w8 fun e w' => e = .returned (.int .i64 gv) ∧ Below w8.heap.size w8 w') := Lib.hid (by have := cost_ok hG8 HG.out v; rwa [HGV.out] at this)
    go_wp2_with fail
    refine X1.out.mono ?_
    rintro e w9 ⟨rfl, hb9⟩
    have hBd9 := hBd8.later hb9
    have hG9 := hG8.later hb9
    have hH9 := hH8.later hb9
    have hB9 := hB8.trans (hb9.mono hB8.size)
    clear X1 hH8 hG8 hBd8 hb9 hB8
    have X2 : Hid (Calls Try.prog 16 #[.slice AB nB kB, .int .i64 v] w9 fun e w' => e = .returned (.int .i64 bv) ∧ Below w9.heap.size w9 w') := Lib.hid (by have := cost_ok hBd9 HB.out v; rwa [HBV.out] at this)
    have mG' : ¬ cv < gv := by omega
    have mB' : ¬ bv < cv := by omega
    go_wp2_with fail
    refine X2.out.mono ?_
    rintro e w10 ⟨rfl, hb10⟩
    have hBd10 := hBd9.later hb10
    have hG10 := hG9.later hb10
    have hH10 := hH9.later hb10
    have hB10 := hB9.trans (hb10.mono hB9.size)
    clear X2 hH9 hG9 hBd9 hb10 hB9 mG mB
    go_wp2_with fail
    refine (C2.out _ hH10).mono ?_
    rintro e w11 ⟨rfl, hb11⟩
    have hBd11 := hBd10.later hb11
    have hG11 := hG10.later hb11
    have hH11 := hH10.later hb11
    have hB11 := hB10.trans (hb11.mono hB10.size)
    clear C2 hH10 hG10 hBd10 hb11 hB10
    by_cases huv : u = v
    · have hub : (u == v) = true := by simpa using huv
      have HU := Lib.hid huv
      clear huv
      go_wp2_with fail
      refine (SF.out _ hH11).mono ?_
      rintro e w12 ⟨AE, nE, kE, rfl, ho12, hb12⟩
      have hB12 := hB11.trans (hb12.mono hB11.size)
      have X3 : Hid (Calls Try.prog 16 #[.slice AE nE kE, .int .i64 v] w12 fun e w' => e = .returned (.int .i64 255) ∧ Below w12.heap.size w12 w') := Lib.hid (by have := cost_ok (Hs.of ho12) HF.out v; rwa [KN.out] at this)
      go_wp2_with fail
      refine X3.out.mono ?_
      rintro e w13 ⟨rfl, hb13⟩
      have hB13 := hB12.trans (hb13.mono hB12.size)
      go_wp2_with fail
      refine (LV.out _).mono ?_
      rintro e w14 ⟨rfl, hb14⟩
      have hB14 := hB13.trans (hb14.mono hB13.size)
      go_wp2
      go_ret
      exact ⟨rfl, hB14⟩
    · have hub : (u == v) = false := by simpa using huv
      have Y1 : Hid (Calls Try.prog 16 #[.slice AG nG kG, .int .i64 u] w11 fun e w' => e = .returned (.int .i64 cu) ∧ Below w11.heap.size w11 w') := Lib.hid (by have := cost_ok hG11 HG.out u; rwa [KG.out huv] at this)
      go_wp2_with fail
      refine Y1.out.mono ?_
      rintro e w12 ⟨rfl, hb12⟩
      have hBd12 := hBd11.later hb12
      have hH12 := hH11.later hb12
      have hB12 := hB11.trans (hb12.mono hB11.size)
      clear Y1 hH11 hG11 hBd11 hb12 hB11
      have Y2 : Hid (Calls Try.prog 16 #[.slice AB nB kB, .int .i64 u] w12 fun e w' => e = .returned (.int .i64 cu) ∧ Below w12.heap.size w12 w') := Lib.hid (by have := cost_ok hBd12 HB.out u; rwa [KB.out huv] at this)
      go_wp2_with fail
      refine Y2.out.mono ?_
      rintro e w13 ⟨rfl, hb13⟩
      have hH13 := hH12.later hb13
      have hB13 := hB12.trans (hb13.mono hB12.size)
      clear Y2 hH12 hBd12 hb13 hB12
      go_wp2_with fail
      refine (SF.out _ hH13).mono ?_
      rintro e w14 ⟨AD, nD, kD, rfl, ho14, hb14⟩
      have hH14 := hH13.later hb14
      have hB14 := hB13.trans (hb14.mono hB13.size)
      have Y3 : Hid (Calls Try.prog 16 #[.slice AD nD kD, .int .i64 u] w14 fun e w' => e = .returned (.int .i64 cu) ∧ Below w14.heap.size w14 w') := Lib.hid (by have := cost_ok (Hs.of ho14) HF.out u; rwa [KF.out huv] at this)
      clear ho14 hH13 hb14 hB13
      go_wp2_with fail
      refine Y3.out.mono ?_
      rintro e w15 ⟨rfl, hb15⟩
      have hH15 := hH14.later hb15
      have hB15 := hB14.trans (hb15.mono hB14.size)
      clear Y3 hH14 hb15 hB14
      go_wp2_with fail
      refine (SF.out _ hH15).mono ?_
      rintro e w16 ⟨AE, nE, kE, rfl, ho16, hb16⟩
      have hB16 := hB15.trans (hb16.mono hB15.size)
      have X3 : Hid (Calls Try.prog 16 #[.slice AE nE kE, .int .i64 v] w16 fun e w' => e = .returned (.int .i64 255) ∧ Below w16.heap.size w16 w') := Lib.hid (by have := cost_ok (Hs.of ho16) HF.out v; rwa [KN.out] at this)
      go_wp2_with fail
      refine X3.out.mono ?_
      rintro e w17 ⟨rfl, hb17⟩
      have hB17 := hB16.trans (hb17.mono hB16.size)
      go_wp2_with fail
      refine (LV.out _).mono ?_
      rintro e w18 ⟨rfl, hb18⟩
      have hB18 := hB17.trans (hb18.mono hB17.size)
      go_wp2
      go_ret
      exact ⟨rfl, hB18⟩
  · have hcb : (chk l == 0) = false := by simpa using hc
    have hcb' : (chk l != 0) = true := by rw [bne_iff_ne]; exact hc
    generalize chk l = ck at *
    clear hc hH
    go_enter Try.func4, Try.ntmps4
    go_wp2_with fail
    refine CK.out.mono ?_
    rintro e w1 ⟨rfl, hb1⟩
    go_wp2_with fail
    refine (LV.out _).mono ?_
    rintro e w2 ⟨rfl, hb2⟩
    have hB2 := hb1.trans (hb2.mono hb1.size)
    go_wp2
    go_ret
    exact ⟨rfl, hB2⟩
end Go.Proofs.Ytipghbpkpnkmnaa
