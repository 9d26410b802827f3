/- back: a happening with its lists in reverse. -/
import Derived.Test.YtkdnkieecchobaaMc
namespace Go.Proofs.Ytkdnkieecchobaa
open Go.RowKit Go.BigFrame
set_option linter.unusedVariables false

def bk (h : Hap) : Hap := ⟨h.ch.reverse ++ h.ch.take 1, h.ev.reverse, h.fr, h.til, h.mode, h.st, h.held.reverse ++ h.held.take 1⟩
structure BK (w : World) (W G base : Nat) (c : Hc) (h : Hap) (cs : Array Value) (wr : World) : Prop where
  kg : Blk wr G 26 cs
  kp : Blk wr w.heap.size 26 (hpC c h)
  kr : Blk wr W 26 zs26
  hb : Below w.heap.size w wr
  sz : base ≤ wr.heap.size
theorem BK.on {w : World} {W G base i : Nat} {c : Hc} {h : Hap} {cs cs' : Array Value} {wr V T : World} {u : Value} (b : BK w W G base c h cs wr) (l1 : w.heap.size < W) (l2 : W < G) (l3 : G < base)
    (hV : Below base wr V) (hT : V.setCell ⟨G, i, none⟩ u = T) (hc : cs.setIfInBounds i u = cs') : BK w W G base c h cs' T ∧ V.grownBy T (some G) := by
  subst hT
  have hg := grown_setCell V ⟨G, i, none⟩ u
  exact ⟨⟨hc ▸ (b.kg.below hV l3).set_ i u, (b.kp.below hV (by omega)).grown hg (by show _ ≠ G; omega), (b.kr.below hV (by omega)).grown hg (by show _ ≠ G; omega),
    Below.grow (b.hb.trans (hV.mono (by omega))) hg (by have := b.hb.size; have := hV.size; omega) (by show _ ≤ G; omega), Nat.le_trans b.sz (Nat.le_trans hV.size (by simp [World.setCell]))⟩, hg⟩
theorem append_own2 {α : Type} {P : Program} (w : World) (base : Nat) (t ty e : TypeId) (i : TypeInfo) (z : Value) (E : Enc α) (ht : P.underlying t = some (.slice e)) (hi : P.info? e = some i) (hz : i.zero = some z)
    (hsize : i.size = E.size) (hzs : z.cells.size = E.size) (v : Value) (n : Nat) (l : List α) (hown : Ow w base e E v n l)
    (A : Option Addr) (m c : Nat) (k : List α) (hr : Rd w E A m k) (h63 : n + m ≤ maxLen) (hbytes : (n + m) * i.bytes ≤ 140737488355328) (hbase : base ≤ w.heap.size) :
    ∃ (B : Option Addr) (cap : Nat) (w' : World), (Builtin.append_ #[t, t] ty #[v, .slice A m c]).run P w = .ok (.slice B (n + m) cap) w' ∧ Ow w' base e E (.slice B (n + m) cap) (n + m) (l ++ k) ∧ w.grownBy w' v.ownBlock ∧ ((Value.slice B (n + m) cap).ownBlock = v.ownBlock ∨ (Value.slice B (n + m) cap).ownBlock = some w.heap.size) := by
  obtain ⟨v', w', h1, h2, h3, h4⟩ := run_append_rd (P := P) w base t ty e i z E ht hi hz hsize hzs v n l hown A m c k hr h63 hbytes hbase
  rcases h2.2.2 with ⟨rfl, h0⟩ | ⟨g, cap, cur, rfl, _⟩
  · exact ⟨none, 0, w', by rw [h1, h0], by rw [h0] at h2 ⊢; exact h2, h3, by rw [h0]; exact h4⟩
  · exact ⟨_, _, w', h1, h2, h3, h4⟩
def Dj (v u : Value) : Prop := ∀ k, v.ownBlock = some k → u.ownBlock ≠ some k
theorem Dj.nil (v : Value) : Dj v (.slice none 0 0) := fun k _ e => by simp [Value.ownBlock] at e
theorem Dj.symm {v u : Value} (d : Dj v u) : Dj u v := fun k h e => d k e h
theorem Dj.step {α : Type} {wr : World} {base s n : Nat} {e : TypeId} {E : Enc α} {l : List α} {u v u' : Value} (d : Dj v u) (hv : Ow wr base e E v n l) (h : u'.ownBlock = u.ownBlock ∨ u'.ownBlock = some s) (hs : wr.heap.size ≤ s) : Dj v u' := fun k hk e => by
  rcases h with h | h
  · exact d k hk (h ▸ e)
  · rw [h] at e; cases e; have := (hv.lt _ hk).2; omega
theorem Ow.beside {α : Type} {wr A V1 T : World} {base G n : Nat} {e : TypeId} {E : Enc α} {l : List α} {u v : Value} (o : Ow wr base e E v n l) (hA : Below wr.heap.size wr A) (d : Dj v u) (hg : A.grownBy V1 u.ownBlock) (hgT : V1.grownBy T (some G)) (hG : G < base) : Ow T base e E v n l := by
  refine ((o.later hA).kept hg ?_).grown hgT hG
  cases hv : v.ownBlock with
  | none => exact .inl rfl
  | some k => exact .inr (fun e => d k hv e.symm)
theorem rev_step {α : Type} {l : List α} {n p k : Nat} {x : α} (hn : l.length = n) (hp : p + 1 + k = n) (hx : l[p]? = some x) : l.reverse.take k ++ [x] = l.reverse.take (k + 1) := by
  refine (take_snoc ?_).symm
  rw [List.getElem?_reverse (by omega), hn, show n - 1 - k = p by omega]
  exact hx

set_option maxRecDepth 20000 in
set_option maxHeartbeats 8000000 in
theorem back19 (c : Hc) (h : Hap) (w : World) (hr : HRd w c h) (hs : sm c 100) :
    Calls Try.prog 19 #[hpV c h] w (HEnd w (bk h)) := by
  obtain ⟨W, hW, hB, hz, hk⟩ := boxeds w (hpC c h) 26
  obtain ⟨W2, hW2, hB2, hz2, hk2⟩ := boxeds W zs26 26
  have hkp2 := hk.later hB2
  have p2 := hkp2.at 2 (v := .int .i64 h.fr) rfl
  have p3 := hkp2.at 3 (v := .int .i64 h.til) rfl
  have p4 := hkp2.at 4 (v := .string h.mode) rfl
  have p5 := hkp2.at 5 (v := .bool h.st) rfl
  have p0 := hkp2.at 0 (v := .slice c.A1 c.n1 c.c1) rfl
  have HR := Lib.hid hr
  have HS := Lib.hid hs
  have HZ1 := Lib.hid hz
  have HZ2 := Lib.hid hz2
  clear hz hz2 hr hs
  go_enter Try.func19, Try.ntmps19
  go_upto_region 2 with fail
  obtain ⟨W3, hW3, hB3, hz3, hk3⟩ := boxeds W2 #[.slice none 0 0, .slice none 0 0, .int .i64 h.fr, .int .i64 h.til, .string h.mode, .bool h.st, .slice none 0 0] 26
  rw [hW3]
  have hz := HZ1.out
  have hz2 := HZ2.out
  have LS := Lib.hid (show w.heap.size < W.heap.size ∧ W.heap.size < W2.heap.size ∧ W2.heap.size < W3.heap.size by omega)
  have HB : BK w W.heap.size W2.heap.size W3.heap.size c h #[.slice none 0 0, .slice none 0 0, .int .i64 h.fr, .int .i64 h.til, .string h.mode, .bool h.st, .slice none 0 0] W3 := ⟨hk3, hkp2.later hB3, hk2.later hB3, (hB.trans (hB2.mono hB.size)).trans (hB3.mono (by omega)), Nat.le_refl _⟩
  replace p0 := keep hB3 p0
  clear hz hz2 hz3 hk hk2 hk3 hB hB2 hB3 hkp2 p2 p3 p4 p5
  go_wp2
  clear p0
  go_loopw [4] (fun i wr => ∃ (p k cp : Nat) (z : Int) (B : Option Addr), p + k = c.n1 ∧ z = (p : Int) - 1 ∧ i = .int .i64 z ∧ BK w W.heap.size W2.heap.size W3.heap.size c h #[.slice B k cp, .slice none 0 0, .int .i64 h.fr, .int .i64 h.til, .string h.mode, .bool h.st, .slice none 0 0] wr ∧ Ow wr W3.heap.size 32 EK (.slice B k cp) k (h.ch.reverse.take k)) (fun i _ => (intOf i + 1).toNat)
  case atStart => exact ⟨c.n1, 0, 0, _, none, by omega, rfl, congrArg (Value.int .i64) (IntWalk.wrap64_in _ (by have := HS.out.1; omega)), HB, Ow.nil _ _ _ _⟩
  case round =>
    clear HB
    obtain ⟨p, k, cp, z, B, hpk, hi, rfl, hBr, o1⟩ := hrel
    have HBr := Lib.hid hBr
    clear hBr
    rcases p with _ | p
    rotate_left
    · obtain rfl : z = (p : Int) := by omega
      clear hi
      have hn1 := (HR.out.ns).1
      obtain ⟨b, off, x, hA, hla, e0, e1, e2⟩ := ky_at (HR.out.r1) (show p < c.n1 by omega)
      have E0 : ∀ w', Below W2.heap.size wr w' → _ := fun w' hb => keep (HBr.out.hb.trans (hb.mono (by have := LS.out; omega))) e0
      have E1 : ∀ w', Below W2.heap.size wr w' → _ := fun w' hb => keep (HBr.out.hb.trans (hb.mono (by have := LS.out; omega))) e1
      have E2 : ∀ w', Below W2.heap.size wr w' → _ := fun w' hb => keep (HBr.out.hb.trans (hb.mono (by have := LS.out; omega))) e2
      have P0 : ∀ w', Below W2.heap.size wr w' → w'.cell? ⟨w.heap.size, 0, none⟩ = some (.slice c.A1 c.n1 c.c1) := fun w' hb => (HBr.out.kp.below hb (by have := LS.out; omega)).at 0 rfl
      rw [hA] at P0
      obtain ⟨i0, hi0, hz0, hz1, hz2⟩ := info_parts info32
      have hwl := HBr.out.sz
      have hls := LS.out
      have hn100 := HS.out.1
      have bA : Below W3.heap.size wr (wr.alloc (.cells #[.int .i64 x.dev, .string x.a, .string x.b] 32)).drew := Below.drew ((Below.refl _ _).alloc hwl _)
      have bA0 : Below wr.heap.size wr (wr.alloc (.cells #[.int .i64 x.dev, .string x.a, .string x.b] 32)).drew := Below.drew ((Below.refl _ _).alloc (Nat.le_refl _) _)
      have oA : Ow (wr.alloc (.cells #[.int .i64 x.dev, .string x.a, .string x.b] 32)).drew W3.heap.size 32 EK (.slice B k cp) k (h.ch.reverse.take k) := o1.later (Below.drew ((Below.refl _ _).alloc (Nat.le_refl _) _))
      obtain ⟨Bx, px, V1, hr1, ho1, hg1, hob⟩ := append_own2 (P := Try.prog) _ W3.heap.size 22 22 32 i0 _ EK Try.underlying22 hi0 hz0 hz1 rfl _ k _ oA (some ⟨wr.heap.size, 0, none⟩) 1 1 [x] ((ky_one x wr 32).later (Below.drew (Below.refl _ _))) (by unfold maxLen; omega) (by rw [hz2]; omega) (Nat.le_trans hwl bA.size)
      have b1 := Below.row bA hg1 (Nat.le_trans hwl bA.size) (Nat.le_refl _) oA.lt
      have kz' := HBr.out.kg.below b1 hls.2.2
      have z4 := kz'.frozen 0
      have z4' := kz'.at 0 (v := .slice B k cp) rfl
      have g0 : wr.drew.cell? ⟨W2.heap.size, 0, none⟩ = some (.slice B k cp) := HBr.out.kg.at 0 rfl
      have g1 : (wr.alloc (.cells #[.int .i64 x.dev, .string x.a, .string x.b] 32)).drew.cell? ⟨W2.heap.size, 0, none⟩ = some (.slice B k cp) := (HBr.out.kg.below bA hls.2.2).at 0 rfl
      have e0a := E0 _ (Below.drew (Below.refl _ _))
      have e0b := E0 _ (bA.mono (Nat.le_of_lt hls.2.2))
      have e1a := E1 _ (Below.drew (Below.refl _ _))
      have e1b := E1 _ (bA.mono (Nat.le_of_lt hls.2.2))
      have e2a := E2 _ (Below.drew (Below.refl _ _))
      have e2b := E2 _ (bA.mono (Nat.le_of_lt hls.2.2))
      have p0a := P0 _ (Below.drew (Below.refl _ _))
      have p0b := P0 _ (bA.mono (Nat.le_of_lt hls.2.2))
      obtain ⟨T, hT⟩ : ∃ T, V1.setCell ⟨W2.heap.size, 0, none⟩ (.slice Bx (k + 1) px) = T := ⟨_, rfl⟩
      obtain ⟨hBT, hgT⟩ := HBr.out.on (cs' := #[.slice Bx (k + 1) px, .slice none 0 0, .int .i64 h.fr, .int .i64 h.til, .string h.mode, .bool h.st, .slice none 0 0]) hls.1 hls.2.1 hls.2.2 b1 hT (by simp)
      have ho2 := ho1.grown hgT hls.2.2
      have hlA : Below wr.heap.size wr _ := bA0
      have hsz : wr.heap.size ≤ _ := bA0.size
      rw [rev_step hn1 hpk hla] at ho2
      have HT2 := Lib.hid (show BK w W.heap.size W2.heap.size W3.heap.size c h #[.slice Bx (k + 1) px, .slice none 0 0, .int .i64 h.fr, .int .i64 h.til, .string h.mode, .bool h.st, .slice none 0 0] T ∧ Ow T W3.heap.size 32 EK (.slice Bx (k + 1) px) (k + 1) (h.ch.reverse.take (k + 1)) from ⟨hBT, ho2⟩)
      have hpn : (p : Int) < (c.n1 : Int) := by omega
      clear oA ho1 hg1 ho2 kz' hgT hBT hz0 hz1 hz2 hi0 hwl hls hla hA hlA hsz hob bA0 hn1 e0 e1 e2 o1
      go_wp2
      go_region_law (refine step_append_run rfl _ _ 22 22 rfl _ _ (by simp [Act.eval]) (by simp [Act.eval]) hr1 ?_)
      all_goals go_wp2
      all_goals
        go_roundw
        case rel => exact ⟨p, k + 1, px, _, Bx, by omega, rfl, rfl, HT2.out⟩
        case measure => simp [intOf]
    · obtain rfl : z = -1 := by omega
      clear hi
      obtain rfl : k = c.n1 := by omega
      clear hpk
      have hfu : h.ch.reverse.take c.n1 = h.ch.reverse := List.take_of_length_le (by rw [List.length_reverse, (HR.out.ns).1]; exact Nat.le_refl _)
      rw [hfu] at o1
      clear hfu
      obtain ⟨B1, rfl⟩ : ∃ x : Option Addr, x = B := ⟨_, rfl⟩
      obtain ⟨p1, rfl⟩ : ∃ x : Nat, x = cp := ⟨_, rfl⟩
      obtain ⟨w1, rfl⟩ : ∃ x : World, x = wr := ⟨_, rfl⟩
      have q0 := HBr.out.kp.at 1 (v := .slice c.A2 c.n2 c.c2) rfl
      go_wp2
      clear q0
      go_loopw [5] (fun i wr => ∃ (p k cp : Nat) (z : Int) (B : Option Addr), p + k = c.n2 ∧ z = (p : Int) - 1 ∧ i = .int .i64 z ∧ BK w W.heap.size W2.heap.size W3.heap.size c h #[.slice B1 c.n1 p1, .slice B k cp, .int .i64 h.fr, .int .i64 h.til, .string h.mode, .bool h.st, .slice none 0 0] wr ∧ Ow wr W3.heap.size 32 EK (.slice B1 c.n1 p1) c.n1 (h.ch.reverse) ∧ Ow wr W3.heap.size 34 EK (.slice B k cp) k (h.ev.reverse.take k) ∧ Dj (.slice B1 c.n1 p1) (.slice B k cp)) (fun i _ => (intOf i + 1).toNat)
      case atStart => exact ⟨c.n2, 0, 0, _, none, by omega, rfl, congrArg (Value.int .i64) (IntWalk.wrap64_in _ (by have := HS.out.2.1; omega)), HBr.out, o1, Ow.nil _ _ _ _, Dj.nil _⟩
      case round =>
        clear HBr o1
        obtain ⟨p, k, cp, z, B, hpk, hi, rfl, hBr, o1, o2, d12⟩ := hrel
        have HBr := Lib.hid hBr
        clear hBr
        rcases p with _ | p
        rotate_left
        · obtain rfl : z = (p : Int) := by omega
          clear hi
          have hn2 := (HR.out.ns).2.1
          obtain ⟨b, off, x, hA, hla, e0, e1, e2⟩ := ky_at (HR.out.r2) (show p < c.n2 by omega)
          have E0 : ∀ w', Below W2.heap.size wr w' → _ := fun w' hb => keep (HBr.out.hb.trans (hb.mono (by have := LS.out; omega))) e0
          have E1 : ∀ w', Below W2.heap.size wr w' → _ := fun w' hb => keep (HBr.out.hb.trans (hb.mono (by have := LS.out; omega))) e1
          have E2 : ∀ w', Below W2.heap.size wr w' → _ := fun w' hb => keep (HBr.out.hb.trans (hb.mono (by have := LS.out; omega))) e2
          have P0 : ∀ w', Below W2.heap.size wr w' → w'.cell? ⟨w.heap.size, 1, none⟩ = some (.slice c.A2 c.n2 c.c2) := fun w' hb => (HBr.out.kp.below hb (by have := LS.out; omega)).at 1 rfl
          rw [hA] at P0
          obtain ⟨i0, hi0, hz0, hz1, hz2⟩ := info_parts info34
          have hwl := HBr.out.sz
          have hls := LS.out
          have hn100 := HS.out.2.1
          have bA : Below W3.heap.size wr (wr.alloc (.cells #[.int .i64 x.dev, .string x.a, .string x.b] 34)).drew := Below.drew ((Below.refl _ _).alloc hwl _)
          have bA0 : Below wr.heap.size wr (wr.alloc (.cells #[.int .i64 x.dev, .string x.a, .string x.b] 34)).drew := Below.drew ((Below.refl _ _).alloc (Nat.le_refl _) _)
          have oA : Ow (wr.alloc (.cells #[.int .i64 x.dev, .string x.a, .string x.b] 34)).drew W3.heap.size 34 EK (.slice B k cp) k (h.ev.reverse.take k) := o2.later (Below.drew ((Below.refl _ _).alloc (Nat.le_refl _) _))
          obtain ⟨Bx, px, V1, hr1, ho1, hg1, hob⟩ := append_own2 (P := Try.prog) _ W3.heap.size 23 23 34 i0 _ EK Try.underlying23 hi0 hz0 hz1 rfl _ k _ oA (some ⟨wr.heap.size, 0, none⟩) 1 1 [x] ((ky_one x wr 34).later (Below.drew (Below.refl _ _))) (by unfold maxLen; omega) (by rw [hz2]; omega) (Nat.le_trans hwl bA.size)
          have b1 := Below.row bA hg1 (Nat.le_trans hwl bA.size) (Nat.le_refl _) oA.lt
          have kz' := HBr.out.kg.below b1 hls.2.2
          have z4 := kz'.frozen 1
          have z4' := kz'.at 1 (v := .slice B k cp) rfl
          have g0 : wr.drew.cell? ⟨W2.heap.size, 1, none⟩ = some (.slice B k cp) := HBr.out.kg.at 1 rfl
          have g1 : (wr.alloc (.cells #[.int .i64 x.dev, .string x.a, .string x.b] 34)).drew.cell? ⟨W2.heap.size, 1, none⟩ = some (.slice B k cp) := (HBr.out.kg.below bA hls.2.2).at 1 rfl
          have e0a := E0 _ (Below.drew (Below.refl _ _))
          have e0b := E0 _ (bA.mono (Nat.le_of_lt hls.2.2))
          have e1a := E1 _ (Below.drew (Below.refl _ _))
          have e1b := E1 _ (bA.mono (Nat.le_of_lt hls.2.2))
          have e2a := E2 _ (Below.drew (Below.refl _ _))
          have e2b := E2 _ (bA.mono (Nat.le_of_lt hls.2.2))
          have p0a := P0 _ (Below.drew (Below.refl _ _))
          have p0b := P0 _ (bA.mono (Nat.le_of_lt hls.2.2))
          obtain ⟨T, hT⟩ : ∃ T, V1.setCell ⟨W2.heap.size, 1, none⟩ (.slice Bx (k + 1) px) = T := ⟨_, rfl⟩
          obtain ⟨hBT, hgT⟩ := HBr.out.on (cs' := #[.slice B1 c.n1 p1, .slice Bx (k + 1) px, .int .i64 h.fr, .int .i64 h.til, .string h.mode, .bool h.st, .slice none 0 0]) hls.1 hls.2.1 hls.2.2 b1 hT (by simp)
          have ho2 := ho1.grown hgT hls.2.2
          have hlA : Below wr.heap.size wr _ := bA0
          have hsz : wr.heap.size ≤ _ := bA0.size
          rw [rev_step hn2 hpk hla] at ho2
          have HT2 := Lib.hid (show BK w W.heap.size W2.heap.size W3.heap.size c h #[.slice B1 c.n1 p1, .slice Bx (k + 1) px, .int .i64 h.fr, .int .i64 h.til, .string h.mode, .bool h.st, .slice none 0 0] T ∧ Ow T W3.heap.size 32 EK (.slice B1 c.n1 p1) c.n1 (h.ch.reverse) ∧ Ow T W3.heap.size 34 EK (.slice Bx (k + 1) px) (k + 1) (h.ev.reverse.take (k + 1)) ∧ Dj (.slice B1 c.n1 p1) (.slice Bx (k + 1) px) from ⟨hBT, o1.beside hlA d12 hg1 hgT hls.2.2, ho2, d12.step o1 hob hsz⟩)
          have hpn : (p : Int) < (c.n2 : Int) := by omega
          clear oA ho1 hg1 ho2 kz' hgT hBT hz0 hz1 hz2 hi0 hwl hls hla hA hlA hsz hob bA0 hn2 e0 e1 e2 o1 o2 d12
          go_wp2
          go_region_law (refine step_append_run rfl _ _ 23 23 rfl _ _ (by simp [Act.eval]) (by simp [Act.eval]) hr1 ?_)
          all_goals go_wp2
          all_goals
            go_roundw
            case rel => exact ⟨p, k + 1, px, _, Bx, by omega, rfl, rfl, HT2.out⟩
            case measure => simp [intOf]
        · obtain rfl : z = -1 := by omega
          clear hi
          obtain rfl : k = c.n2 := by omega
          clear hpk
          have hfu : h.ev.reverse.take c.n2 = h.ev.reverse := List.take_of_length_le (by rw [List.length_reverse, (HR.out.ns).2.1]; exact Nat.le_refl _)
          rw [hfu] at o2
          clear hfu
          obtain ⟨B2, rfl⟩ : ∃ x : Option Addr, x = B := ⟨_, rfl⟩
          obtain ⟨p2, rfl⟩ : ∃ x : Nat, x = cp := ⟨_, rfl⟩
          obtain ⟨w2, rfl⟩ : ∃ x : World, x = wr := ⟨_, rfl⟩
          have q0 := HBr.out.kp.at 6 (v := .slice c.A3 c.n3 c.c3) rfl
          go_wp2
          clear q0
          go_loopw [6] (fun i wr => ∃ (p k cp : Nat) (z : Int) (B : Option Addr), p + k = c.n3 ∧ z = (p : Int) - 1 ∧ i = .int .i64 z ∧ BK w W.heap.size W2.heap.size W3.heap.size c h #[.slice B1 c.n1 p1, .slice B2 c.n2 p2, .int .i64 h.fr, .int .i64 h.til, .string h.mode, .bool h.st, .slice B k cp] wr ∧ Ow wr W3.heap.size 32 EK (.slice B1 c.n1 p1) c.n1 (h.ch.reverse) ∧ Ow wr W3.heap.size 34 EK (.slice B2 c.n2 p2) c.n2 (h.ev.reverse) ∧ Ow wr W3.heap.size 9 ET (.slice B k cp) k (h.held.reverse.take k) ∧ Dj (.slice B1 c.n1 p1) (.slice B2 c.n2 p2) ∧ Dj (.slice B1 c.n1 p1) (.slice B k cp) ∧ Dj (.slice B2 c.n2 p2) (.slice B k cp)) (fun i _ => (intOf i + 1).toNat)
          case atStart => exact ⟨c.n3, 0, 0, _, none, by omega, rfl, congrArg (Value.int .i64) (IntWalk.wrap64_in _ (by have := HS.out.2.2; omega)), HBr.out, o1, o2, Ow.nil _ _ _ _, d12, Dj.nil _, Dj.nil _⟩
          case round =>
            clear HBr o1 o2 d12
            obtain ⟨p, k, cp, z, B, hpk, hi, rfl, hBr, o1, o2, o3, d12, d13, d23⟩ := hrel
            have HBr := Lib.hid hBr
            clear hBr
            rcases p with _ | p
            rotate_left
            · obtain rfl : z = (p : Int) := by omega
              clear hi
              have hn3 := (HR.out.ns).2.2
              obtain ⟨b, off, x, hA, hla, e0⟩ := tx_at (HR.out.r3) (show p < c.n3 by omega)
              have E0 : ∀ w', Below W2.heap.size wr w' → _ := fun w' hb => keep (HBr.out.hb.trans (hb.mono (by have := LS.out; omega))) e0
              have P0 : ∀ w', Below W2.heap.size wr w' → w'.cell? ⟨w.heap.size, 6, none⟩ = some (.slice c.A3 c.n3 c.c3) := fun w' hb => (HBr.out.kp.below hb (by have := LS.out; omega)).at 6 rfl
              rw [hA] at P0
              obtain ⟨i0, hi0, hz0, hz1, hz2⟩ := info_parts info9
              have hwl := HBr.out.sz
              have hls := LS.out
              have hn100 := HS.out.2.2
              have bA : Below W3.heap.size wr (wr.alloc (.cells #[.string x] 9)).drew := Below.drew ((Below.refl _ _).alloc hwl _)
              have bA0 : Below wr.heap.size wr (wr.alloc (.cells #[.string x] 9)).drew := Below.drew ((Below.refl _ _).alloc (Nat.le_refl _) _)
              have oA : Ow (wr.alloc (.cells #[.string x] 9)).drew W3.heap.size 9 ET (.slice B k cp) k (h.held.reverse.take k) := o3.later (Below.drew ((Below.refl _ _).alloc (Nat.le_refl _) _))
              obtain ⟨Bx, px, V1, hr1, ho1, hg1, hob⟩ := append_own2 (P := Try.prog) _ W3.heap.size 24 24 9 i0 _ ET Try.underlying24 hi0 hz0 hz1 rfl _ k _ oA (some ⟨wr.heap.size, 0, none⟩) 1 1 [x] ((tx_one x wr 9).later (Below.drew (Below.refl _ _))) (by unfold maxLen; omega) (by rw [hz2]; omega) (Nat.le_trans hwl bA.size)
              have b1 := Below.row bA hg1 (Nat.le_trans hwl bA.size) (Nat.le_refl _) oA.lt
              have kz' := HBr.out.kg.below b1 hls.2.2
              have z4 := kz'.frozen 6
              have z4' := kz'.at 6 (v := .slice B k cp) rfl
              have g0 : wr.drew.cell? ⟨W2.heap.size, 6, none⟩ = some (.slice B k cp) := HBr.out.kg.at 6 rfl
              have g1 : (wr.alloc (.cells #[.string x] 9)).drew.cell? ⟨W2.heap.size, 6, none⟩ = some (.slice B k cp) := (HBr.out.kg.below bA hls.2.2).at 6 rfl
              have e0a := E0 _ (Below.drew (Below.refl _ _))
              have e0b := E0 _ (bA.mono (Nat.le_of_lt hls.2.2))
              have p0a := P0 _ (Below.drew (Below.refl _ _))
              have p0b := P0 _ (bA.mono (Nat.le_of_lt hls.2.2))
              obtain ⟨T, hT⟩ : ∃ T, V1.setCell ⟨W2.heap.size, 6, none⟩ (.slice Bx (k + 1) px) = T := ⟨_, rfl⟩
              obtain ⟨hBT, hgT⟩ := HBr.out.on (cs' := #[.slice B1 c.n1 p1, .slice B2 c.n2 p2, .int .i64 h.fr, .int .i64 h.til, .string h.mode, .bool h.st, .slice Bx (k + 1) px]) hls.1 hls.2.1 hls.2.2 b1 hT (by simp)
              have ho2 := ho1.grown hgT hls.2.2
              have hlA : Below wr.heap.size wr _ := bA0
              have hsz : wr.heap.size ≤ _ := bA0.size
              rw [rev_step hn3 hpk hla] at ho2
              have HT2 := Lib.hid (show BK w W.heap.size W2.heap.size W3.heap.size c h #[.slice B1 c.n1 p1, .slice B2 c.n2 p2, .int .i64 h.fr, .int .i64 h.til, .string h.mode, .bool h.st, .slice Bx (k + 1) px] T ∧ Ow T W3.heap.size 32 EK (.slice B1 c.n1 p1) c.n1 (h.ch.reverse) ∧ Ow T W3.heap.size 34 EK (.slice B2 c.n2 p2) c.n2 (h.ev.reverse) ∧ Ow T W3.heap.size 9 ET (.slice Bx (k + 1) px) (k + 1) (h.held.reverse.take (k + 1)) ∧ Dj (.slice B1 c.n1 p1) (.slice B2 c.n2 p2) ∧ Dj (.slice B1 c.n1 p1) (.slice Bx (k + 1) px) ∧ Dj (.slice B2 c.n2 p2) (.slice Bx (k + 1) px) from ⟨hBT, o1.beside hlA d13 hg1 hgT hls.2.2, o2.beside hlA d23 hg1 hgT hls.2.2, ho2, d12, d13.step o1 hob hsz, d23.step o2 hob hsz⟩)
              have hpn : (p : Int) < (c.n3 : Int) := by omega
              clear oA ho1 hg1 ho2 kz' hgT hBT hz0 hz1 hz2 hi0 hwl hls hla hA hlA hsz hob bA0 hn3 e0 o1 o2 o3 d12 d13 d23
              go_wp2
              go_region_law (refine step_append_run rfl _ _ 24 24 rfl _ _ (by simp [Act.eval]) (by simp [Act.eval]) hr1 ?_)
              all_goals go_wp2
              all_goals
                go_roundw
                case rel => exact ⟨p, k + 1, px, _, Bx, by omega, rfl, rfl, HT2.out⟩
                case measure => simp [intOf]
            · obtain rfl : z = -1 := by omega
              clear hi
              obtain rfl : k = c.n3 := by omega
              clear hpk
              have hfu : h.held.reverse.take c.n3 = h.held.reverse := List.take_of_length_le (by rw [List.length_reverse, (HR.out.ns).2.2]; exact Nat.le_refl _)
              rw [hfu] at o3
              clear hfu
              obtain ⟨B3, rfl⟩ : ∃ x : Option Addr, x = B := ⟨_, rfl⟩
              obtain ⟨p3, rfl⟩ : ∃ x : Nat, x = cp := ⟨_, rfl⟩
              obtain ⟨w3, rfl⟩ : ∃ x : World, x = wr := ⟨_, rfl⟩
              have q0 := HBr.out.kp.at 0 (v := .slice c.A1 c.n1 c.c1) rfl
              go_upto_if 73 with fail
              clear q0
              go_cut [] (fun w' => ∃ (X1 : Option Addr) (m1 x1 : Nat), BK w W.heap.size W2.heap.size W3.heap.size c h #[.slice X1 m1 x1, .slice B2 c.n2 p2, .int .i64 h.fr, .int .i64 h.til, .string h.mode, .bool h.st, .slice B3 c.n3 p3] w' ∧ Ow w' W3.heap.size 32 EK (.slice X1 m1 x1) m1 (h.ch.reverse ++ h.ch.take 1) ∧ Ow w' W3.heap.size 34 EK (.slice B2 c.n2 p2) c.n2 (h.ev.reverse) ∧ Ow w' W3.heap.size 9 ET (.slice B3 c.n3 p3) c.n3 (h.held.reverse) ∧ Dj (.slice X1 m1 x1) (.slice B2 c.n2 p2) ∧ Dj (.slice X1 m1 x1) (.slice B3 c.n3 p3) ∧ Dj (.slice B2 c.n2 p2) (.slice B3 c.n3 p3))
              case first =>
                by_cases hlt : 0 < c.n1
                · skip
                  have hn1 := (HR.out.ns).1
                  obtain ⟨b, off, x, hA, hla, e0, e1, e2⟩ := ky_at (HR.out.r1) hlt
                  simp only [Nat.zero_mul, Nat.add_zero] at e0 e1 e2
                  have E0 : ∀ w', Below W2.heap.size w3 w' → _ := fun w' hb => keep (HBr.out.hb.trans (hb.mono (by have := LS.out; omega))) e0
                  have E1 : ∀ w', Below W2.heap.size w3 w' → _ := fun w' hb => keep (HBr.out.hb.trans (hb.mono (by have := LS.out; omega))) e1
                  have E2 : ∀ w', Below W2.heap.size w3 w' → _ := fun w' hb => keep (HBr.out.hb.trans (hb.mono (by have := LS.out; omega))) e2
                  have P0 : ∀ w', Below W2.heap.size w3 w' → w'.cell? ⟨w.heap.size, 0, none⟩ = some (.slice c.A1 c.n1 c.c1) := fun w' hb => (HBr.out.kp.below hb (by have := LS.out; omega)).at 0 rfl
                  rw [hA] at P0
                  obtain ⟨i0, hi0, hz0, hz1, hz2⟩ := info_parts info32
                  have hwl := HBr.out.sz
                  have hls := LS.out
                  have hn100 := HS.out.1
                  have bA : Below W3.heap.size w3 (w3.alloc (.cells #[.int .i64 x.dev, .string x.a, .string x.b] 32)).drew := Below.drew ((Below.refl _ _).alloc hwl _)
                  have bA0 : Below w3.heap.size w3 (w3.alloc (.cells #[.int .i64 x.dev, .string x.a, .string x.b] 32)).drew := Below.drew ((Below.refl _ _).alloc (Nat.le_refl _) _)
                  have oA : Ow (w3.alloc (.cells #[.int .i64 x.dev, .string x.a, .string x.b] 32)).drew W3.heap.size 32 EK (.slice B1 c.n1 p1) c.n1 (h.ch.reverse) := o1.later (Below.drew ((Below.refl _ _).alloc (Nat.le_refl _) _))
                  obtain ⟨Bx, px, V1, hr1, ho1, hg1, hob⟩ := append_own2 (P := Try.prog) _ W3.heap.size 22 22 32 i0 _ EK Try.underlying22 hi0 hz0 hz1 rfl _ c.n1 _ oA (some ⟨w3.heap.size, 0, none⟩) 1 1 [x] ((ky_one x w3 32).later (Below.drew (Below.refl _ _))) (by unfold maxLen; omega) (by rw [hz2]; omega) (Nat.le_trans hwl bA.size)
                  have b1 := Below.row bA hg1 (Nat.le_trans hwl bA.size) (Nat.le_refl _) oA.lt
                  have kz' := HBr.out.kg.below b1 hls.2.2
                  have z4 := kz'.frozen 0
                  have z4' := kz'.at 0 (v := .slice B1 c.n1 p1) rfl
                  have g0 : w3.drew.cell? ⟨W2.heap.size, 0, none⟩ = some (.slice B1 c.n1 p1) := HBr.out.kg.at 0 rfl
                  have g1 : (w3.alloc (.cells #[.int .i64 x.dev, .string x.a, .string x.b] 32)).drew.cell? ⟨W2.heap.size, 0, none⟩ = some (.slice B1 c.n1 p1) := (HBr.out.kg.below bA hls.2.2).at 0 rfl
                  have e0a := E0 _ (Below.drew (Below.refl _ _))
                  have e0b := E0 _ (bA.mono (Nat.le_of_lt hls.2.2))
                  have e1a := E1 _ (Below.drew (Below.refl _ _))
                  have e1b := E1 _ (bA.mono (Nat.le_of_lt hls.2.2))
                  have e2a := E2 _ (Below.drew (Below.refl _ _))
                  have e2b := E2 _ (bA.mono (Nat.le_of_lt hls.2.2))
                  have p0a := P0 _ (Below.drew (Below.refl _ _))
                  have p0b := P0 _ (bA.mono (Nat.le_of_lt hls.2.2))
                  obtain ⟨T, hT⟩ : ∃ T, V1.setCell ⟨W2.heap.size, 0, none⟩ (.slice Bx (c.n1 + 1) px) = T := ⟨_, rfl⟩
                  obtain ⟨hBT, hgT⟩ := HBr.out.on (cs' := #[.slice Bx (c.n1 + 1) px, .slice B2 c.n2 p2, .int .i64 h.fr, .int .i64 h.til, .string h.mode, .bool h.st, .slice B3 c.n3 p3]) hls.1 hls.2.1 hls.2.2 b1 hT (by simp)
                  have ho2 := ho1.grown hgT hls.2.2
                  have hlA : Below w3.heap.size w3 _ := bA0
                  have hsz : w3.heap.size ≤ _ := bA0.size
                  have hone : h.ch.take 1 = [x] := by rw [take_snoc hla, List.take_zero, List.nil_append]
                  rw [← hone] at ho2
                  have HT2 := Lib.hid (show BK w W.heap.size W2.heap.size W3.heap.size c h #[.slice Bx (c.n1 + 1) px, .slice B2 c.n2 p2, .int .i64 h.fr, .int .i64 h.til, .string h.mode, .bool h.st, .slice B3 c.n3 p3] T ∧ Ow T W3.heap.size 32 EK (.slice Bx (c.n1 + 1) px) (c.n1 + 1) (h.ch.reverse ++ h.ch.take 1) ∧ Ow T W3.heap.size 34 EK (.slice B2 c.n2 p2) c.n2 (h.ev.reverse) ∧ Ow T W3.heap.size 9 ET (.slice B3 c.n3 p3) c.n3 (h.held.reverse) ∧ Dj (.slice Bx (c.n1 + 1) px) (.slice B2 c.n2 p2) ∧ Dj (.slice Bx (c.n1 + 1) px) (.slice B3 c.n3 p3) ∧ Dj (.slice B2 c.n2 p2) (.slice B3 c.n3 p3) from ⟨hBT, ho2, o2.beside hlA d12.symm hg1 hgT hls.2.2, o3.beside hlA d13.symm hg1 hgT hls.2.2, (d12.symm.step o2 hob hsz).symm, (d13.symm.step o3 hob hsz).symm, d23⟩)
                  have hpn : (0 : Int) < (c.n1 : Int) := by omega
                  clear oA ho1 hg1 ho2 kz' hgT hBT hz0 hz1 hz2 hi0 hwl hls hla hA hlA hsz hob bA0 hn1 hone e0 e1 e2 o1 o2 o3 d12 d13 d23
                  go_wp2
                  all_goals first | (exfalso; omega) | skip
                  go_region_law (refine step_append_run rfl _ _ 22 22 rfl _ _ (by simp [Act.eval]) (by simp [Act.eval]) hr1 ?_)
                  all_goals go_wp2
                  all_goals go_meet
                  all_goals exact ⟨Bx, c.n1 + 1, px, HT2.out⟩
                · have hnil : h.ch = [] := List.eq_nil_of_length_eq_zero (by rw [(HR.out.ns).1]; omega)
                  have HT2 := Lib.hid (show BK w W.heap.size W2.heap.size W3.heap.size c h #[.slice B1 c.n1 p1, .slice B2 c.n2 p2, .int .i64 h.fr, .int .i64 h.til, .string h.mode, .bool h.st, .slice B3 c.n3 p3] w3 ∧ Ow w3 W3.heap.size 32 EK (.slice B1 c.n1 p1) c.n1 (h.ch.reverse ++ h.ch.take 1) ∧ Ow w3 W3.heap.size 34 EK (.slice B2 c.n2 p2) c.n2 (h.ev.reverse) ∧ Ow w3 W3.heap.size 9 ET (.slice B3 c.n3 p3) c.n3 (h.held.reverse) ∧ Dj (.slice B1 c.n1 p1) (.slice B2 c.n2 p2) ∧ Dj (.slice B1 c.n1 p1) (.slice B3 c.n3 p3) ∧ Dj (.slice B2 c.n2 p2) (.slice B3 c.n3 p3) from ⟨HBr.out, (by rw [hnil] at o1 ⊢; simpa using o1), o2, o3, d12, d13, d23⟩)
                  clear hnil o1 o2 o3 d12 d13 d23
                  go_wp2
                  all_goals first | (exfalso; omega) | skip
                  go_meet
                  exact ⟨_, _, _, HT2.out⟩
              case rest =>
                clear HBr o1 o2 o3 d12 d13 d23
                obtain ⟨X1, m1, x1, hBr, o1, o2, o3, d12, d13, d23⟩ := hcut
                have HBr := Lib.hid hBr
                clear hBr
                obtain ⟨v1, rfl⟩ : ∃ x : World, x = wc := ⟨_, rfl⟩
                have q0 := HBr.out.kp.at 6 (v := .slice c.A3 c.n3 c.c3) rfl
                go_upto_if 86 with fail
                clear q0
                go_cut [] (fun w' => ∃ (X3 : Option Addr) (m3 x3 : Nat), BK w W.heap.size W2.heap.size W3.heap.size c h #[.slice X1 m1 x1, .slice B2 c.n2 p2, .int .i64 h.fr, .int .i64 h.til, .string h.mode, .bool h.st, .slice X3 m3 x3] w' ∧ Ow w' W3.heap.size 32 EK (.slice X1 m1 x1) m1 (h.ch.reverse ++ h.ch.take 1) ∧ Ow w' W3.heap.size 34 EK (.slice B2 c.n2 p2) c.n2 (h.ev.reverse) ∧ Ow w' W3.heap.size 9 ET (.slice X3 m3 x3) m3 (h.held.reverse ++ h.held.take 1) ∧ Dj (.slice X1 m1 x1) (.slice B2 c.n2 p2) ∧ Dj (.slice X1 m1 x1) (.slice X3 m3 x3) ∧ Dj (.slice B2 c.n2 p2) (.slice X3 m3 x3))
                case first =>
                  by_cases hlt : 0 < c.n3
                  · skip
                    have hn3 := (HR.out.ns).2.2
                    obtain ⟨b, off, x, hA, hla, e0⟩ := tx_at (HR.out.r3) hlt
                    simp only [Nat.add_zero] at e0
                    have E0 : ∀ w', Below W2.heap.size v1 w' → _ := fun w' hb => keep (HBr.out.hb.trans (hb.mono (by have := LS.out; omega))) e0
                    have P0 : ∀ w', Below W2.heap.size v1 w' → w'.cell? ⟨w.heap.size, 6, none⟩ = some (.slice c.A3 c.n3 c.c3) := fun w' hb => (HBr.out.kp.below hb (by have := LS.out; omega)).at 6 rfl
                    rw [hA] at P0
                    obtain ⟨i0, hi0, hz0, hz1, hz2⟩ := info_parts info9
                    have hwl := HBr.out.sz
                    have hls := LS.out
                    have hn100 := HS.out.2.2
                    have bA : Below W3.heap.size v1 (v1.alloc (.cells #[.string x] 9)).drew := Below.drew ((Below.refl _ _).alloc hwl _)
                    have bA0 : Below v1.heap.size v1 (v1.alloc (.cells #[.string x] 9)).drew := Below.drew ((Below.refl _ _).alloc (Nat.le_refl _) _)
                    have oA : Ow (v1.alloc (.cells #[.string x] 9)).drew W3.heap.size 9 ET (.slice B3 c.n3 p3) c.n3 (h.held.reverse) := o3.later (Below.drew ((Below.refl _ _).alloc (Nat.le_refl _) _))
                    obtain ⟨Bx, px, V1, hr1, ho1, hg1, hob⟩ := append_own2 (P := Try.prog) _ W3.heap.size 24 24 9 i0 _ ET Try.underlying24 hi0 hz0 hz1 rfl _ c.n3 _ oA (some ⟨v1.heap.size, 0, none⟩) 1 1 [x] ((tx_one x v1 9).later (Below.drew (Below.refl _ _))) (by unfold maxLen; omega) (by rw [hz2]; omega) (Nat.le_trans hwl bA.size)
                    have b1 := Below.row bA hg1 (Nat.le_trans hwl bA.size) (Nat.le_refl _) oA.lt
                    have kz' := HBr.out.kg.below b1 hls.2.2
                    have z4 := kz'.frozen 6
                    have z4' := kz'.at 6 (v := .slice B3 c.n3 p3) rfl
                    have g0 : v1.drew.cell? ⟨W2.heap.size, 6, none⟩ = some (.slice B3 c.n3 p3) := HBr.out.kg.at 6 rfl
                    have g1 : (v1.alloc (.cells #[.string x] 9)).drew.cell? ⟨W2.heap.size, 6, none⟩ = some (.slice B3 c.n3 p3) := (HBr.out.kg.below bA hls.2.2).at 6 rfl
                    have e0a := E0 _ (Below.drew (Below.refl _ _))
                    have e0b := E0 _ (bA.mono (Nat.le_of_lt hls.2.2))
                    have p0a := P0 _ (Below.drew (Below.refl _ _))
                    have p0b := P0 _ (bA.mono (Nat.le_of_lt hls.2.2))
                    obtain ⟨T, hT⟩ : ∃ T, V1.setCell ⟨W2.heap.size, 6, none⟩ (.slice Bx (c.n3 + 1) px) = T := ⟨_, rfl⟩
                    obtain ⟨hBT, hgT⟩ := HBr.out.on (cs' := #[.slice X1 m1 x1, .slice B2 c.n2 p2, .int .i64 h.fr, .int .i64 h.til, .string h.mode, .bool h.st, .slice Bx (c.n3 + 1) px]) hls.1 hls.2.1 hls.2.2 b1 hT (by simp)
                    have ho2 := ho1.grown hgT hls.2.2
                    have hlA : Below v1.heap.size v1 _ := bA0
                    have hsz : v1.heap.size ≤ _ := bA0.size
                    have hone : h.held.take 1 = [x] := by rw [take_snoc hla, List.take_zero, List.nil_append]
                    rw [← hone] at ho2
                    have HT2 := Lib.hid (show BK w W.heap.size W2.heap.size W3.heap.size c h #[.slice X1 m1 x1, .slice B2 c.n2 p2, .int .i64 h.fr, .int .i64 h.til, .string h.mode, .bool h.st, .slice Bx (c.n3 + 1) px] T ∧ Ow T W3.heap.size 32 EK (.slice X1 m1 x1) m1 (h.ch.reverse ++ h.ch.take 1) ∧ Ow T W3.heap.size 34 EK (.slice B2 c.n2 p2) c.n2 (h.ev.reverse) ∧ Ow T W3.heap.size 9 ET (.slice Bx (c.n3 + 1) px) (c.n3 + 1) (h.held.reverse ++ h.held.take 1) ∧ Dj (.slice X1 m1 x1) (.slice B2 c.n2 p2) ∧ Dj (.slice X1 m1 x1) (.slice Bx (c.n3 + 1) px) ∧ Dj (.slice B2 c.n2 p2) (.slice Bx (c.n3 + 1) px) from ⟨hBT, o1.beside hlA d13 hg1 hgT hls.2.2, o2.beside hlA d23 hg1 hgT hls.2.2, ho2, d12, d13.step o1 hob hsz, d23.step o2 hob hsz⟩)
                    have hpn : (0 : Int) < (c.n3 : Int) := by omega
                    clear oA ho1 hg1 ho2 kz' hgT hBT hz0 hz1 hz2 hi0 hwl hls hla hA hlA hsz hob bA0 hn3 hone e0 o1 o2 o3 d12 d13 d23
                    go_wp2
                    all_goals first | (exfalso; omega) | skip
                    go_region_law (refine step_append_run rfl _ _ 24 24 rfl _ _ (by simp [Act.eval]) (by simp [Act.eval]) hr1 ?_)
                    all_goals go_wp2
                    all_goals go_meet
                    all_goals exact ⟨Bx, c.n3 + 1, px, HT2.out⟩
                  · have hnil : h.held = [] := List.eq_nil_of_length_eq_zero (by rw [(HR.out.ns).2.2]; omega)
                    have HT2 := Lib.hid (show BK w W.heap.size W2.heap.size W3.heap.size c h #[.slice X1 m1 x1, .slice B2 c.n2 p2, .int .i64 h.fr, .int .i64 h.til, .string h.mode, .bool h.st, .slice B3 c.n3 p3] v1 ∧ Ow v1 W3.heap.size 32 EK (.slice X1 m1 x1) m1 (h.ch.reverse ++ h.ch.take 1) ∧ Ow v1 W3.heap.size 34 EK (.slice B2 c.n2 p2) c.n2 (h.ev.reverse) ∧ Ow v1 W3.heap.size 9 ET (.slice B3 c.n3 p3) c.n3 (h.held.reverse ++ h.held.take 1) ∧ Dj (.slice X1 m1 x1) (.slice B2 c.n2 p2) ∧ Dj (.slice X1 m1 x1) (.slice B3 c.n3 p3) ∧ Dj (.slice B2 c.n2 p2) (.slice B3 c.n3 p3) from ⟨HBr.out, o1, o2, (by rw [hnil] at o3 ⊢; simpa using o3), d12, d13, d23⟩)
                    clear hnil o1 o2 o3 d12 d13 d23
                    go_wp2
                    all_goals first | (exfalso; omega) | skip
                    go_meet
                    exact ⟨_, _, _, HT2.out⟩
                case rest =>
                  clear HBr o1 o2 o3 d12 d13 d23
                  obtain ⟨X3, m3, x3, hBr, o1, o2, o3, d12, d13, d23⟩ := hcut
                  have HBr := Lib.hid hBr
                  clear hBr
                  obtain ⟨v3, rfl⟩ : ∃ x : World, x = wc := ⟨_, rfl⟩
                  obtain ⟨T6, hT6, hk6, hg6, hs6⟩ := stored7 HBr.out.kr (.slice X1 m1 x1) (.slice B2 c.n2 p2) (.int .i64 h.fr) (.int .i64 h.til) (.string h.mode) (.bool h.st) (.slice X3 m3 x3)
                  have c0 := HBr.out.kg.at 0 (v := .slice X1 m1 x1) rfl
                  have g0 := HBr.out.kr.frozen 0
                  have e0 := HBr.out.kr.at 0 (v := .slice none 0 0) rfl
                  have c1 := HBr.out.kg.at 1 (v := .slice B2 c.n2 p2) rfl
                  have g1 := HBr.out.kr.frozen 1
                  have e1 := HBr.out.kr.at 1 (v := .slice none 0 0) rfl
                  have c2 := HBr.out.kg.at 2 (v := .int .i64 h.fr) rfl
                  have g2 := HBr.out.kr.frozen 2
                  have e2 := HBr.out.kr.at 2 (v := .int .i64 0) rfl
                  have c3 := HBr.out.kg.at 3 (v := .int .i64 h.til) rfl
                  have g3 := HBr.out.kr.frozen 3
                  have e3 := HBr.out.kr.at 3 (v := .int .i64 0) rfl
                  have c4 := HBr.out.kg.at 4 (v := .string h.mode) rfl
                  have g4 := HBr.out.kr.frozen 4
                  have e4 := HBr.out.kr.at 4 (v := .string ⟨#[]⟩) rfl
                  have c5 := HBr.out.kg.at 5 (v := .bool h.st) rfl
                  have g5 := HBr.out.kr.frozen 5
                  have e5 := HBr.out.kr.at 5 (v := .bool false) rfl
                  have c6 := HBr.out.kg.at 6 (v := .slice X3 m3 x3) rfl
                  have g6 := HBr.out.kr.frozen 6
                  have e6 := HBr.out.kr.at 6 (v := .slice none 0 0) rfl
                  have hls := LS.out
                  have hbb := HBr.out.hb
                  have hsz := HBr.out.sz
                  have hBy := Below.grow hbb hg6 hbb.size (by omega)
                  have r1 := (o1.grown hg6 (by omega)).rebase (base' := w.heap.size) (by omega)
                  have r2 := (o2.grown hg6 (by omega)).rebase (base' := w.heap.size) (by omega)
                  have r3 := (o3.grown hg6 (by omega)).rebase (base' := w.heap.size) (by omega)
                  clear hls hbb hsz hg6 hs6 o1 o2 o3 d12 d13 d23
                  go_wp2
                  refine bodyPost_ret (results_cell_row rfl _ _ W.heap.size 26 _ (0, 0) _ rfl hk6 Try.underlying26 rfl size26) rfl ?_
                  exact ⟨⟨X1, m1, x1, B2, c.n2, p2, X3, m3, x3⟩, rfl, ⟨r1, r2, r3⟩, hBy⟩
end Go.Proofs.Ytkdnkieecchobaa

