/- The law TriggerJoined. -/
import Derived.Test.YtkdnkieecchobaaLf
namespace Go.Proofs.Ytkdnkieecchobaa
open Go.RowKit Go.BigFrame
set_option linter.unusedVariables false
set_option linter.unusedSimpArgs false

/-- what the law asks of the windows -/
def joinC (t : Tg) (a b : Hap) : Prop := t.kind ≠ 4 ∧ (t.kind = 3 → 0 ≤ a.fr ∧ a.fr ≤ a.til ∧ b.fr = a.til ∧ b.fr ≤ b.til ∧ b.til ≤ 1073741824 ∧ b.til - a.fr ≤ 1440)
theorem mem_join {α : Type} {lt : α → α → Bool} (hl : Lin lt) (a b : List α) (z : α) : z ∈ setO lt (setO lt a ++ setO lt b) ↔ z ∈ setO lt a ∨ z ∈ setO lt b := by
  rw [mem_setO hl, List.mem_append]
theorem strk_join {f m t n k : Int} (h1 : f ≤ m) (h2 : m ≤ t) : strk f t n k ↔ strk f m n k ∨ strk m t n k := by
  unfold strk
  constructor
  · rintro ⟨k1, k2, x, a1, a2, a3⟩
    by_cases hx : x ≤ m
    · exact .inl ⟨k1, k2, x, a1, hx, a3⟩
    · exact .inr ⟨k1, k2, x, by omega, a2, a3⟩
  · rintro (⟨k1, k2, x, a1, a2, a3⟩ | ⟨k1, k2, x, a1, a2, a3⟩)
    · exact ⟨k1, k2, x, a1, by omega, a3⟩
    · exact ⟨k1, k2, x, by omega, a2, a3⟩
theorem win_id {f t : Int} (h0 : 0 ≤ f) (h1 : f ≤ t) (h2 : t - f ≤ 1440) (h3 : t ≤ 1073741824) : win f t = (f, t) := by
  unfold win
  rw [if_neg (by omega), Int.max_eq_left (by omega)]
theorem join_plain {t : Tg} {r : ByteArray} {a b : Hap} (hc : joinC t a b) : fireP t r (norm (norm (mg (norm a) (norm b)))) ↔ fireP t r (norm a) ∨ fireP t r (norm b) := by
  rw [norm_norm]
  obtain ⟨h4, h3⟩ := hc
  have hs : t.kind = 3 → (strk (norm (mg (norm a) (norm b))).fr (norm (mg (norm a) (norm b))).til t.n t.m ↔ strk (norm a).fr (norm a).til t.n t.m ∨ strk (norm b).fr (norm b).til t.n t.m) := fun hk => by
    obtain ⟨a1, a2, a3, a4, a5, a6⟩ := h3 hk
    have wa : win a.fr a.til = (a.fr, a.til) := win_id a1 a2 (by omega) (by omega)
    have wb : win b.fr b.til = (b.fr, b.til) := win_id (by omega) a4 (by omega) a5
    have ea : (norm a).fr = a.fr ∧ (norm a).til = a.til := by unfold norm; rw [wa]; exact ⟨rfl, rfl⟩
    have eb : (norm b).fr = b.fr ∧ (norm b).til = b.til := by unfold norm; rw [wb]; exact ⟨rfl, rfl⟩
    have em : (mg (norm a) (norm b)).fr = a.fr ∧ (mg (norm a) (norm b)).til = b.til := by
      unfold mg
      simp only [ea.1, ea.2, eb.1, eb.2]
      rw [if_neg (by omega), if_neg (by omega)]
      exact ⟨rfl, rfl⟩
    have wm : win a.fr b.til = (a.fr, b.til) := win_id a1 (by omega) a6 a5
    have en : (norm (mg (norm a) (norm b))).fr = a.fr ∧ (norm (mg (norm a) (norm b))).til = b.til := by
      generalize mg (norm a) (norm b) = m at em
      unfold norm
      rw [em.1, em.2, wm]
      exact ⟨rfl, rfl⟩
    rw [en.1, en.2, ea.1, ea.2, eb.1, eb.2, a3]
    exact strk_join a2 (by omega)
  have c1 : t.key ∈ (norm (mg (norm a) (norm b))).ch ↔ t.key ∈ (norm a).ch ∨ t.key ∈ (norm b).ch := mem_join kLin _ _ _
  have c2 : t.ev ∈ (norm (mg (norm a) (norm b))).ev ↔ t.ev ∈ (norm a).ev ∨ t.ev ∈ (norm b).ev := mem_join kLin _ _ _
  have c6 : r ∈ (norm (mg (norm a) (norm b))).held ↔ r ∈ (norm a).held ∨ r ∈ (norm b).held := mem_join sLin _ _ _
  have c5 : (norm (mg (norm a) (norm b))).st = true ↔ (norm a).st = true ∨ (norm b).st = true := by
    show ((norm a).st || (norm b).st) = true ↔ _
    rw [Bool.or_eq_true]
  unfold fireP
  rw [c1, c2, c6, c5]
  constructor
  · rintro (⟨k, h⟩ | ⟨k, h⟩ | ⟨k, h⟩ | ⟨k, h⟩ | ⟨k, h⟩ | ⟨k, h⟩)
    · exact h.elim (fun h => .inl (.inl ⟨k, h⟩)) (fun h => .inr (.inl ⟨k, h⟩))
    · exact h.elim (fun h => .inl (.inr (.inl ⟨k, h⟩))) (fun h => .inr (.inr (.inl ⟨k, h⟩)))
    · exact ((hs k).1 h).elim (fun h => .inl (.inr (.inr (.inl ⟨k, h⟩)))) (fun h => .inr (.inr (.inr (.inl ⟨k, h⟩))))
    · exact absurd k h4
    · exact h.elim (fun h => .inl (.inr (.inr (.inr (.inr (.inl ⟨k, h⟩)))))) (fun h => .inr (.inr (.inr (.inr (.inr (.inl ⟨k, h⟩))))))
    · exact h.elim (fun h => .inl (.inr (.inr (.inr (.inr (.inr ⟨k, h⟩)))))) (fun h => .inr (.inr (.inr (.inr (.inr (.inr ⟨k, h⟩))))))
  · rintro (h | h)
    · rcases h with ⟨k, h⟩ | ⟨k, h⟩ | ⟨k, h⟩ | ⟨k, h⟩ | ⟨k, h⟩ | ⟨k, h⟩
      · exact .inl ⟨k, .inl h⟩
      · exact .inr (.inl ⟨k, .inl h⟩)
      · exact .inr (.inr (.inl ⟨k, (hs k).2 (.inl h)⟩))
      · exact absurd k h4
      · exact .inr (.inr (.inr (.inr (.inl ⟨k, .inl h⟩))))
      · exact .inr (.inr (.inr (.inr (.inr ⟨k, .inl h⟩))))
    · rcases h with ⟨k, h⟩ | ⟨k, h⟩ | ⟨k, h⟩ | ⟨k, h⟩ | ⟨k, h⟩ | ⟨k, h⟩
      · exact .inl ⟨k, .inr h⟩
      · exact .inr (.inl ⟨k, .inr h⟩)
      · exact .inr (.inr (.inl ⟨k, (hs k).2 (.inr h)⟩))
      · exact absurd k h4
      · exact .inr (.inr (.inr (.inr (.inl ⟨k, .inr h⟩))))
      · exact .inr (.inr (.inr (.inr (.inr ⟨k, .inr h⟩))))

set_option maxRecDepth 20000 in
set_option maxHeartbeats 8000000 in
theorem lawJoined7 (t : Tg) (r : ByteArray) (c d : Hc) (h k : Hap) (w : World) (hr : HRd w c h) (hq : HRd w d k) :
    Calls Try.prog 7 #[tgV t, .string r, hpV c h, hpV d k] w fun e w' => e = .returned (.bool true) ∧ Below w.heap.size w w' := by
  obtain ⟨W, hW, hB, hz, hk⟩ := boxeds w (tgC t) 36
  obtain ⟨W2, hW2, hB2, hz2, hk2⟩ := boxeds W (hpC c h) 26
  obtain ⟨W3, hW3, hB3, hz3, hk3⟩ := boxeds W2 (hpC d k) 26
  have hkT := (hk.later hB2).later hB3
  have hkH := hk2.later hB3
  have hBx := hB.trans ((hB2.mono hB.size).trans (hB3.mono (Nat.le_trans hB.size hB2.size)))
  have hrx := hr.later hBx
  have hqx := hq.later hBx
  have LV := Lib.hid lives11
  have HF := Lib.hid hBx
  have T0 : ∀ w', Below W3.heap.size W3 w' → w'.cell? ⟨w.heap.size, 0, none⟩ = some (.int .i64 t.kind) := fun w' hb => keep hb (hkT.at 0 rfl)
  have T1 : ∀ w', Below W3.heap.size W3 w' → w'.cell? ⟨w.heap.size, 1, none⟩ = some (.int .i64 t.key.dev) := fun w' hb => keep hb (hkT.at 1 rfl)
  have T2 : ∀ w', Below W3.heap.size W3 w' → w'.cell? ⟨w.heap.size, 2, none⟩ = some (.string t.key.a) := fun w' hb => keep hb (hkT.at 2 rfl)
  have T3 : ∀ w', Below W3.heap.size W3 w' → w'.cell? ⟨w.heap.size, 3, none⟩ = some (.string t.key.b) := fun w' hb => keep hb (hkT.at 3 rfl)
  have T4 : ∀ w', Below W3.heap.size W3 w' → w'.cell? ⟨w.heap.size, 4, none⟩ = some (.int .i64 t.ev.dev) := fun w' hb => keep hb (hkT.at 4 rfl)
  have T5 : ∀ w', Below W3.heap.size W3 w' → w'.cell? ⟨w.heap.size, 5, none⟩ = some (.string t.ev.a) := fun w' hb => keep hb (hkT.at 5 rfl)
  have T6 : ∀ w', Below W3.heap.size W3 w' → w'.cell? ⟨w.heap.size, 6, none⟩ = some (.string t.ev.b) := fun w' hb => keep hb (hkT.at 6 rfl)
  have T7 : ∀ w', Below W3.heap.size W3 w' → w'.cell? ⟨w.heap.size, 7, none⟩ = some (.string t.name) := fun w' hb => keep hb (hkT.at 7 rfl)
  have T8 : ∀ w', Below W3.heap.size W3 w' → w'.cell? ⟨w.heap.size, 8, none⟩ = some (.int .i64 t.n) := fun w' hb => keep hb (hkT.at 8 rfl)
  have T9 : ∀ w', Below W3.heap.size W3 w' → w'.cell? ⟨w.heap.size, 9, none⟩ = some (.int .i64 t.m) := fun w' hb => keep hb (hkT.at 9 rfl)
  have K0 : ∀ w', Below W3.heap.size W3 w' → w'.cell? ⟨W.heap.size, 0, none⟩ = some (.slice c.A1 c.n1 c.c1) := fun w' hb => keep hb (hkH.at 0 rfl)
  have K1 : ∀ w', Below W3.heap.size W3 w' → w'.cell? ⟨W.heap.size, 1, none⟩ = some (.slice c.A2 c.n2 c.c2) := fun w' hb => keep hb (hkH.at 1 rfl)
  have K2 : ∀ w', Below W3.heap.size W3 w' → w'.cell? ⟨W.heap.size, 2, none⟩ = some (.int .i64 h.fr) := fun w' hb => keep hb (hkH.at 2 rfl)
  have K3 : ∀ w', Below W3.heap.size W3 w' → w'.cell? ⟨W.heap.size, 3, none⟩ = some (.int .i64 h.til) := fun w' hb => keep hb (hkH.at 3 rfl)
  have K4 : ∀ w', Below W3.heap.size W3 w' → w'.cell? ⟨W.heap.size, 4, none⟩ = some (.string h.mode) := fun w' hb => keep hb (hkH.at 4 rfl)
  have K5 : ∀ w', Below W3.heap.size W3 w' → w'.cell? ⟨W.heap.size, 5, none⟩ = some (.bool h.st) := fun w' hb => keep hb (hkH.at 5 rfl)
  have K6 : ∀ w', Below W3.heap.size W3 w' → w'.cell? ⟨W.heap.size, 6, none⟩ = some (.slice c.A3 c.n3 c.c3) := fun w' hb => keep hb (hkH.at 6 rfl)
  have J0 : ∀ w', Below W3.heap.size W3 w' → w'.cell? ⟨W2.heap.size, 0, none⟩ = some (.slice d.A1 d.n1 d.c1) := fun w' hb => keep hb (hk3.at 0 rfl)
  have J1 : ∀ w', Below W3.heap.size W3 w' → w'.cell? ⟨W2.heap.size, 1, none⟩ = some (.slice d.A2 d.n2 d.c2) := fun w' hb => keep hb (hk3.at 1 rfl)
  have J2 : ∀ w', Below W3.heap.size W3 w' → w'.cell? ⟨W2.heap.size, 2, none⟩ = some (.int .i64 k.fr) := fun w' hb => keep hb (hk3.at 2 rfl)
  have J3 : ∀ w', Below W3.heap.size W3 w' → w'.cell? ⟨W2.heap.size, 3, none⟩ = some (.int .i64 k.til) := fun w' hb => keep hb (hk3.at 3 rfl)
  have J4 : ∀ w', Below W3.heap.size W3 w' → w'.cell? ⟨W2.heap.size, 4, none⟩ = some (.string k.mode) := fun w' hb => keep hb (hk3.at 4 rfl)
  have J5 : ∀ w', Below W3.heap.size W3 w' → w'.cell? ⟨W2.heap.size, 5, none⟩ = some (.bool k.st) := fun w' hb => keep hb (hk3.at 5 rfl)
  have J6 : ∀ w', Below W3.heap.size W3 w' → w'.cell? ⟨W2.heap.size, 6, none⟩ = some (.slice d.A3 d.n3 d.c3) := fun w' hb => keep hb (hk3.at 6 rfl)
  have G := Lib.hid (fun w' => great10 c h w')
  have G2 := Lib.hid (fun w' => great10 d k w')
  have GE : Hid (greatB c = false → greatB d = false → sm c 100 ∧ sm d 100) := Lib.hid (fun e1 e2 => ⟨greatB_no e1, greatB_no e2⟩)
  have k0 := T0 W3 (Below.refl _ _)
  have f0 := K0 W3 (Below.refl _ _)
  have f1 := K1 W3 (Below.refl _ _)
  have f2 := K2 W3 (Below.refl _ _)
  have f3 := K3 W3 (Below.refl _ _)
  have f4 := K4 W3 (Below.refl _ _)
  have f5 := K5 W3 (Below.refl _ _)
  have f6 := K6 W3 (Below.refl _ _)
  clear hz hz2 hz3 hk hk2 hk3 hB hB2 hB3 hkT hkH
  cases hg : greatB c
  · have G := Lib.hid (fun w' => great_fact c h hg w')
    go_enter Try.func7, Try.ntmps7
    go_upto_region 1 with fail
    go_cut [19] (fun z w' => Below W3.heap.size W3 w' ∧ (z = .bool true ∨ (z = .bool false ∧ t.kind ≠ 4 ∧ greatB d = false)))
    case first =>
      clear hBx hrx hqx hr hq
      go_wp2_with fail
      refine (G.out _).mono ?_
      rintro e w1 ⟨rfl, hb1⟩
      have x0 := J0 w1 hb1
      have x1 := J1 w1 hb1
      have x2 := J2 w1 hb1
      have x3 := J3 w1 hb1
      have x4 := J4 w1 hb1
      have x5 := J5 w1 hb1
      have x6 := J6 w1 hb1
      cases hg2 : greatB d
      · have G3 := Lib.hid (fun w' => great_fact d k hg2 w')
        go_wp2_with fail
        refine (G3.out _).mono ?_
        rintro e w2 ⟨rfl, hb2⟩
        have hb12 := hb1.trans (hb2.mono hb1.size)
        have y0 := T0 w2 hb12
        by_cases h4 : t.kind = 4
        · have HN := Lib.hid hb12
          rw [h4] at y0
          clear h4 hb12 hb1 hb2
          go_wp2
          go_meet
          exact ⟨HN.out, .inl rfl⟩
        · have HN := Lib.hid hb12
          have HK := Lib.hid h4
          have HG := Lib.hid hg2
          clear h4 hb12 hb1 hb2 hg hg2
          go_wp2
          go_meet
          exact ⟨HN.out, .inr ⟨congrArg Value.bool (beq_eq_false_iff_ne.2 HK.out), HK.out, HG.out⟩⟩
      · have G3 := Lib.hid (fun w' => great_fact d k hg2 w')
        go_wp2_with fail
        refine (G3.out _).mono ?_
        rintro e w2 ⟨rfl, hb2⟩
        have HN := Lib.hid (hb1.trans (hb2.mono hb1.size))
        clear hb1 hb2
        go_wp2
        go_meet
        exact ⟨HN.out, .inl rfl⟩
    case rest =>
      obtain ⟨w1, rfl⟩ : ∃ x : World, x = wc := ⟨_, rfl⟩
      obtain ⟨hb1, rfl | ⟨rfl, h4, hg2⟩⟩ := hcut
      · have hBF := HF.out.trans (hb1.mono HF.out.size)
        clear hb1 hBx hr hq hrx hqx
        go_wp2_with fail
        refine (LV.out w1).mono ?_
        rintro e w2 ⟨rfl, hb2⟩
        have hBE := hBF.trans (hb2.mono hBF.size)
        go_wp2
        go_ret
        exact ⟨rfl, hBE⟩
      · have S := Lib.hid (GE.out hg hg2)
        have H4 := Lib.hid h4
        have HB1 := Lib.hid hb1
        have y0 := T0 w1 hb1
        have a2 := K2 w1 hb1
        have a3 := K3 w1 hb1
        have b2 := J2 w1 hb1
        have b3 := J3 w1 hb1
        clear hg hg2 h4 G2 G GE hb1 hBx hr hq k0 f0 f1 f2 f3 f4 f5 f6
        go_upto_region 3 with fail
        go_cut [62] (fun z w' => w' = w1 ∧ ∃ q : Bool, z = .bool q ∧ (q = false → t.kind = 3 → 0 ≤ h.fr ∧ h.fr ≤ h.til ∧ k.fr = h.til ∧ k.fr ≤ k.til ∧ k.til ≤ 1073741824 ∧ k.til - h.fr ≤ 1440))
        case first =>
          by_cases k3 : t.kind = 3
          · rw [k3] at y0
            have H3 := Lib.hid k3
            clear k3
            go_wp2
            all_goals go_meet
            all_goals refine ⟨rfl, _, rfl, fun hq h3 => ?_⟩
            all_goals simp at hq
            all_goals (first | omega | trace_state)
          · have k3' : (t.kind == 3) = false := beq_eq_false_iff_ne.2 k3
            have H3 := Lib.hid k3
            clear k3
            go_wp2
            go_meet
            refine ⟨rfl, _, rfl, fun hq h3 => absurd h3 H3.out⟩
        case rest =>
          obtain ⟨rfl, q, rfl, hq⟩ := hcut
          cases q
          · have HC : Hid (joinC t h k) := Lib.hid ⟨H4.out, hq rfl⟩
            clear hq y0 a2 a3 b2 b3
            obtain ⟨w5, rfl⟩ : ∃ x : World, x = wc := ⟨_, rfl⟩
            obtain ⟨ba, hba⟩ := bool_of (fireP t r (norm h))
            obtain ⟨bb, hbb⟩ := bool_of (fireP t r (norm k))
            obtain ⟨s1, s2⟩ := S.out
            have Fa : Hid (∀ w', Below W3.heap.size W3 w' → Calls Try.prog 15 #[tgV t, .string r, hpV c h] w' (fun e w'' => e = .returned (.bool ba) ∧ Below w'.heap.size w' w'')) := Lib.hid (fun w' hx => fires15 t r c h w' ba (hrx.later hx) (sm_up s1 (show 100 ≤ 200 by omega)).1 (sm_up s1 (show 100 ≤ 200 by omega)).2.1 (sm_up s1 (show 100 ≤ 200 by omega)).2.2 hba)
            have Fb : Hid (∀ w', Below W3.heap.size W3 w' → Calls Try.prog 15 #[tgV t, .string r, hpV d k] w' (fun e w'' => e = .returned (.bool bb) ∧ Below w'.heap.size w' w'')) := Lib.hid (fun w' hx => fires15 t r d k w' bb (hqx.later hx) (sm_up s2 (show 100 ≤ 200 by omega)).1 (sm_up s2 (show 100 ≤ 200 by omega)).2.1 (sm_up s2 (show 100 ≤ 200 by omega)).2.2 hbb)
            have M17 : Hid (∀ w', Below W3.heap.size W3 w' → Calls Try.prog 17 #[hpV c h, hpV d k] w' (HEnd w' (norm (mg (norm h) (norm k))))) := Lib.hid (fun w' hx => merge17 c d h k w' (hrx.later hx) (hqx.later hx) s1 s2)
            have FM : Hid (∀ (w' : World) (cM : Hc), HRd w' cM (norm (mg (norm h) (norm k))) → Calls Try.prog 15 #[tgV t, .string r, hpV cM (norm (mg (norm h) (norm k)))] w' (fun e w'' => e = .returned (.bool (ba || bb)) ∧ Below w'.heap.size w' w'')) := Lib.hid (fun w' cM rM => by
              have hs := smmg hrx hqx s1 s2 rM
              exact fires15 t r cM _ w' (ba || bb) rM hs.1 hs.2.1 hs.2.2 (by rw [join_plain HC.out, Bool.or_eq_true, hba, hbb]))
            generalize norm (mg (norm h) (norm k)) = x at M17 FM
            have hU0 := HB1.out
            clear hba hbb s1 s2 hrx hqx
            cases ba
            · cases bb
              · go_upto_region 5 with fail
                go_region_held3 (fun w' => Below W3.heap.size W3 w') (with_reducible (repeat (first | assumption | refine Below.drew ?_ | refine Below.trans ?_ (Below.mono hbM ?_) | refine Below.trans ?_ (Below.mono hbF ?_) | refine Below.trans ?_ (Below.mono hbA ?_) | refine Below.trans ?_ (Below.mono hbB ?_) | refine Below.trans ?_ (Below.mono hbL ?_) | refine @Below.size W3.heap.size W3 _ ?_)))
                  (first
                    | (go_at_call 17; refine (M17.out _ (by assumption)).mono ?_; rintro e wM ⟨cM, rfl, hoM, hbM⟩; have hrM := hoM.rd)
                    | (go_at_call 15; (with_reducible refine (FM.out _ cM hrM).mono ?_); rintro e wF ⟨rfl, hbF⟩)
                    | (go_at_call 15; (with_reducible refine (Fa.out _ (by assumption)).mono ?_); rintro e wA ⟨rfl, hbA⟩)
                    | (go_at_call 15; (with_reducible refine (Fb.out _ (by assumption)).mono ?_); rintro e wB ⟨rfl, hbB⟩)
                    | (go_at_call 11; refine (LV.out _).mono ?_; rintro e wL ⟨rfl, hbL⟩))
                have bhbM : Below W3.heap.size W3 _ := (HB1.out.drew).trans (hbM.mono (by exact HB1.out.size))
                have bhbF := bhbM.trans (hbF.mono bhbM.size)
                have bhbA := bhbF.trans (hbA.mono bhbF.size)
                have bhbB := bhbA.trans (hbB.mono bhbA.size)
                have bhbL := bhbB.trans (hbL.mono bhbB.size)
                have hfin := HF.out.trans (bhbL.mono HF.out.size)
                clear bhbM bhbF bhbA bhbB bhbL hbM hbF hbA hbB hbL hrM hoM
                go_wp2
                go_ret
                exact ⟨rfl, hfin⟩
              · go_upto_region 5 with fail
                go_region_held3 (fun w' => Below W3.heap.size W3 w') (with_reducible (repeat (first | assumption | refine Below.drew ?_ | refine Below.trans ?_ (Below.mono hbM ?_) | refine Below.trans ?_ (Below.mono hbF ?_) | refine Below.trans ?_ (Below.mono hbA ?_) | refine Below.trans ?_ (Below.mono hbB ?_) | refine Below.trans ?_ (Below.mono hbL ?_) | refine @Below.size W3.heap.size W3 _ ?_)))
                  (first
                    | (go_at_call 17; refine (M17.out _ (by assumption)).mono ?_; rintro e wM ⟨cM, rfl, hoM, hbM⟩; have hrM := hoM.rd)
                    | (go_at_call 15; (with_reducible refine (FM.out _ cM hrM).mono ?_); rintro e wF ⟨rfl, hbF⟩)
                    | (go_at_call 15; (with_reducible refine (Fa.out _ (by assumption)).mono ?_); rintro e wA ⟨rfl, hbA⟩)
                    | (go_at_call 15; (with_reducible refine (Fb.out _ (by assumption)).mono ?_); rintro e wB ⟨rfl, hbB⟩)
                    | (go_at_call 11; refine (LV.out _).mono ?_; rintro e wL ⟨rfl, hbL⟩))
                have bhbM : Below W3.heap.size W3 _ := (HB1.out.drew).trans (hbM.mono (by exact HB1.out.size))
                have bhbF := bhbM.trans (hbF.mono bhbM.size)
                have bhbA := bhbF.trans (hbA.mono bhbF.size)
                have bhbB := bhbA.trans (hbB.mono bhbA.size)
                have bhbL := bhbB.trans (hbL.mono bhbB.size)
                have hfin := HF.out.trans (bhbL.mono HF.out.size)
                clear bhbM bhbF bhbA bhbB bhbL hbM hbF hbA hbB hbL hrM hoM
                go_wp2
                go_ret
                exact ⟨rfl, hfin⟩
            · go_upto_region 5 with fail
              have hU := HB1.out.drew
              clear hU0
              refine wp_region_held_drew (S := fun w' => Below W3.heap.size W3 w') (by kernel_rfl) hU (fun _ => ?_)
              refine wpAnyH_take (i := 0) (v := (tgV t)) rfl (by kernel_rfl) (by kernel_rfl) (by kernel_rfl) (fun _ _ _ h => h) (Or.inl ⟨by rfl, ?_⟩) hU ?_
              · intro w' hSw
                go_simp
                done
              try simp only [Act.put, List.setIfInBounds_toArray, List.set_cons_zero, List.set_cons_succ]
              refine wpAnyH_take (i := 1) (v := (.string r)) rfl (by kernel_rfl) (by kernel_rfl) (by kernel_rfl) (fun _ _ _ h => h) (Or.inl ⟨by rfl, ?_⟩) hU ?_
              · intro w' hSw
                go_simp
                done
              try simp only [Act.put, List.setIfInBounds_toArray, List.set_cons_zero, List.set_cons_succ]
              refine wpAnyH_take (i := 2) (v := (hpV c h)) rfl (by kernel_rfl) (by kernel_rfl) (by kernel_rfl) (fun _ _ _ h => h) (Or.inl ⟨by rfl, ?_⟩) hU ?_
              · intro w' hSw
                go_simp
                done
              try simp only [Act.put, List.setIfInBounds_toArray, List.set_cons_zero, List.set_cons_succ]
              refine wpAnyH_take (i := 3) (v := (hpV d k)) rfl (by kernel_rfl) (by kernel_rfl) (by kernel_rfl) (fun _ _ _ h => h) (Or.inl ⟨by rfl, ?_⟩) hU ?_
              · intro w' hSw
                go_simp
                done
              try simp only [Act.put, List.setIfInBounds_toArray, List.set_cons_zero, List.set_cons_succ]
              refine wpAnyH_take (i := 6) (v := (tgV t)) rfl (by kernel_rfl) (by kernel_rfl) (by kernel_rfl) (fun _ _ _ h => h) (Or.inl ⟨by rfl, ?_⟩) hU ?_
              · intro w' hSw
                go_simp
                done
              try simp only [Act.put, List.setIfInBounds_toArray, List.set_cons_zero, List.set_cons_succ]
              refine wpAnyH_take (i := 7) (v := (.string r)) rfl (by kernel_rfl) (by kernel_rfl) (by kernel_rfl) (fun _ _ _ h => h) (Or.inl ⟨by rfl, ?_⟩) hU ?_
              · intro w' hSw
                go_simp
                done
              try simp only [Act.put, List.setIfInBounds_toArray, List.set_cons_zero, List.set_cons_succ]
              refine wpAnyH_take (i := 8) (v := (hpV c h)) rfl (by kernel_rfl) (by kernel_rfl) (by kernel_rfl) (fun _ _ _ h => h) (Or.inl ⟨by rfl, ?_⟩) hU ?_
              · intro w' hSw
                go_simp
                done
              try simp only [Act.put, List.setIfInBounds_toArray, List.set_cons_zero, List.set_cons_succ]
              refine wpAnyH_ready (rs := [4]) (by kernel_rfl) (by simp) (AllReadyH.cons rfl (fun K hK => ?_) AllReadyH.nil)
              go_simp
              refine (M17.out _ hU).mono ?_; rintro e wM ⟨cM, rfl, hoM, hbM⟩; have hrM := hoM.rd
              go_wp2_with fail
              have hV := hU.trans (hbM.mono hU.size)
              clear hU
              have hU := hV
              clear hV
              refine hK.out _ _ hU (fun _ => ?_)
              clear hK K
              try simp only [Act.put, List.setIfInBounds_toArray, List.set_cons_zero, List.set_cons_succ]
              refine wpAnyH_ready (rs := [5]) (by kernel_rfl) (by simp) (AllReadyH.cons rfl (fun K hK => ?_) AllReadyH.nil)
              go_simp
              refine (FM.out _ cM hrM).mono ?_; rintro e wF ⟨rfl, hbF⟩
              go_wp2_with fail
              have hV := hU.trans (hbF.mono hU.size)
              clear hU
              have hU := hV
              clear hV
              refine hK.out _ _ hU (fun _ => ?_)
              clear hK K
              try simp only [Act.put, List.setIfInBounds_toArray, List.set_cons_zero, List.set_cons_succ]
              refine wpAnyH_ready (rs := [9]) (by kernel_rfl) (by simp) (AllReadyH.cons rfl (fun K hK => ?_) AllReadyH.nil)
              go_simp
              refine (Fa.out _ hU).mono ?_; rintro e wA ⟨rfl, hbA⟩
              go_wp2_with fail
              have hV := hU.trans (hbA.mono hU.size)
              clear hU
              have hU := hV
              clear hV
              refine hK.out _ _ hU (fun _ => ?_)
              clear hK K
              try simp only [Act.put, List.setIfInBounds_toArray, List.set_cons_zero, List.set_cons_succ]
              refine wpAnyH_take (i := 10) (v := (.bool true)) rfl (by kernel_rfl) (by kernel_rfl) (by kernel_rfl) (fun _ _ _ h => h) (Or.inl ⟨by rfl, ?_⟩) hU ?_
              · intro w' hSw
                go_simp
                done
              try simp only [Act.put, List.setIfInBounds_toArray, List.set_cons_zero, List.set_cons_succ]
              refine wpAnyH_take (i := 11) (v := undef) rfl (by kernel_rfl) (by kernel_rfl) (by kernel_rfl) (fun _ _ _ h => h) (Or.inr ⟨by rfl, rfl⟩) hU ?_
              try simp only [Act.put, List.setIfInBounds_toArray, List.set_cons_zero, List.set_cons_succ]
              refine wpAnyH_take (i := 12) (v := undef) rfl (by kernel_rfl) (by kernel_rfl) (by kernel_rfl) (fun _ _ _ h => h) (Or.inr ⟨by rfl, rfl⟩) hU ?_
              try simp only [Act.put, List.setIfInBounds_toArray, List.set_cons_zero, List.set_cons_succ]
              refine wpAnyH_take (i := 13) (v := undef) rfl (by kernel_rfl) (by kernel_rfl) (by kernel_rfl) (fun _ _ _ h => h) (Or.inr ⟨by rfl, rfl⟩) hU ?_
              try simp only [Act.put, List.setIfInBounds_toArray, List.set_cons_zero, List.set_cons_succ]
              refine wpAnyH_take (i := 14) (v := undef) rfl (by kernel_rfl) (by kernel_rfl) (by kernel_rfl) (fun _ _ _ h => h) (Or.inr ⟨by rfl, rfl⟩) hU ?_
              try simp only [Act.put, List.setIfInBounds_toArray, List.set_cons_zero, List.set_cons_succ]
              refine wpAnyH_take (i := 15) (v := (.bool true)) rfl (by kernel_rfl) (by kernel_rfl) (by kernel_rfl) (fun _ _ _ h => h) (Or.inl ⟨by rfl, ?_⟩) hU ?_
              · intro w' hSw
                go_simp
                done
              try simp only [Act.put, List.setIfInBounds_toArray, List.set_cons_zero, List.set_cons_succ]
              refine wpAnyH_take (i := 16) (v := (.bool true)) rfl (by kernel_rfl) (by kernel_rfl) (by kernel_rfl) (fun _ _ _ h => h) (Or.inl ⟨by rfl, ?_⟩) hU ?_
              · intro w' hSw
                go_simp
                done
              try simp only [Act.put, List.setIfInBounds_toArray, List.set_cons_zero, List.set_cons_succ]
              refine wpAnyH_take (i := 17) (v := (.bool true)) rfl (by kernel_rfl) (by kernel_rfl) (by kernel_rfl) (fun _ _ _ h => h) (Or.inl ⟨by rfl, ?_⟩) hU ?_
              · intro w' hSw
                go_simp
                done
              try simp only [Act.put, List.setIfInBounds_toArray, List.set_cons_zero, List.set_cons_succ]
              refine wpAnyH_ready (rs := [18]) (by kernel_rfl) (by simp) (AllReadyH.cons rfl (fun K hK => ?_) AllReadyH.nil)
              go_simp
              refine (LV.out _).mono ?_; rintro e wL ⟨rfl, hbL⟩
              go_wp2_with fail
              have hV := hU.trans (hbL.mono hU.size)
              clear hU
              have hU := hV
              clear hV
              refine hK.out _ _ hU (fun _ => ?_)
              clear hK K
              try simp only [Act.put, List.setIfInBounds_toArray, List.set_cons_zero, List.set_cons_succ]
              refine wpAnyH_take (i := 19) (v := (.bool true)) rfl (by kernel_rfl) (by kernel_rfl) (by kernel_rfl) (fun _ _ _ h => h) (Or.inl ⟨by rfl, ?_⟩) hU ?_
              · intro w' hSw
                go_simp
                done
              try simp only [Act.put, List.setIfInBounds_toArray, List.set_cons_zero, List.set_cons_succ]
              refine wpAnyH_ready (rs := [20]) (by kernel_rfl) (by simp) (AllReadyH.cons rfl (fun K hK => ?_) AllReadyH.nil)
              go_simp
              refine hK.out _ _ hU (fun _ => ?_)
              clear hK K
              try simp only [Act.put, List.setIfInBounds_toArray, List.set_cons_zero, List.set_cons_succ]
              refine wpAnyH_done (by kernel_rfl) ?_ _
              have hfin := HF.out.trans (hU.mono HF.out.size)
              clear hU hbM hbF hbA hbL hrM hoM
              go_wp2
              go_ret
              exact ⟨rfl, hfin⟩
          · have hBF := HF.out.trans (HB1.out.mono HF.out.size)
            clear hq
            go_wp2_with fail
            refine (LV.out _).mono ?_
            rintro e w2 ⟨rfl, hb2⟩
            have hBE := hBF.trans (hb2.mono hBF.size)
            go_wp2
            go_ret
            exact ⟨rfl, hBE⟩
  · have G3 := Lib.hid (fun w' => great_fact c h hg w')
    clear hBx hrx hqx hr hq
    go_enter Try.func7, Try.ntmps7
    go_wp2_with fail
    refine (G3.out _).mono ?_
    rintro e w1 ⟨rfl, hb1⟩
    go_wp2_with fail
    refine (LV.out _).mono ?_
    rintro e w2 ⟨rfl, hb2⟩
    have hBE := (HF.out.trans (hb1.mono HF.out.size)).trans (hb2.mono (Nat.le_trans HF.out.size hb1.size))
    go_wp2
    go_ret
    exact ⟨rfl, hBE⟩
end Go.Proofs.Ytkdnkieecchobaa
