/- What a mailbox holds that is filled with at most 16 frames for one node, and then drained: plain facts. -/
import Derived.Test.YtfbdiafgfimgaaaOrd
namespace Go.Proofs.Ytfbdiafgfimgaaa
open Go.RowKit Go.BigFrame

/-- a frame, readdressed and laid down -/
def rt (t : Int) (f : Fr) : Fr := ⟨f.kind, f.src, t, f.source, f.target, f.seq, f.hops, f.urgent, f.data⟩
def cv (t : Int) (f : Fr) : Mail := ⟨rt t f, 3⟩
def up (l : List Fr) : List Fr := l.filter (fun f => f.urgent)
def dn (l : List Fr) : List Fr := l.filter (fun f => !f.urgent)
/-- after i Puts -/
def Fil (t : Int) (l : List Fr) (i : Nat) : List Mail := (up (l.take i) ++ dn (l.take i)).map (cv t)
/-- before round i of pass k -/
def Rst (t : Int) (l : List Fr) (k i : Nat) : List Mail :=
  match k with
  | 0 => (up (l.drop i) ++ dn l).map (cv t)
  | 1 => (dn (l.drop i)).map (cv t)
  | _ => []
theorem up_dn (l : List Fr) : (up l).length + (dn l).length = l.length := by
  induction l with
  | nil => rfl
  | cons a r ih => cases h : a.urgent <;> simp [up, dn, h] at ih ⊢ <;> omega
theorem Fil_length (t : Int) (l : List Fr) (i : Nat) : (Fil t l i).length ≤ i := by
  have := up_dn (l.take i)
  rw [List.length_take] at this
  simp [Fil]; omega
theorem Fil_zero (t : Int) (l : List Fr) : Fil t l 0 = [] := rfl
theorem take_snocF {l : List Fr} {k : Nat} {a : Fr} (h : l[k]? = some a) : l.take (k + 1) = l.take k ++ [a] := by
  have hlt : k < l.length := (List.getElem?_eq_some_iff.1 h).1
  rw [List.take_succ_eq_append_getElem hlt, (List.getElem?_eq_some_iff.1 h).2]
theorem frst_two (u d : List Mail) (hu : ∀ a ∈ u, a.f.urgent = true) (hd : ∀ a ∈ d, a.f.urgent = false) : frst (u ++ d) = u.length := by
  induction u with
  | nil =>
    cases d with
    | nil => rfl
    | cons b r => simp [frst, List.findIdx_cons, hd b (by simp)]
  | cons a r ih =>
    have := ih (fun b hb => hu b (by simp [hb]))
    simp only [frst] at this ⊢
    rw [List.cons_append, List.findIdx_cons, hu a (by simp)]
    simp [this]
theorem put_fil {t : Int} {l : List Fr} {i : Nat} {f : Fr} (hf : l[i]? = some f) (hi : i < 16) : putM (Fil t l i) (cv t f) = (Fil t l (i + 1), true) := by
  have hlen := Fil_length t l i
  have hT := take_snocF hf
  unfold putM
  cases hu : f.urgent with
  | false =>
    rw [if_pos (by exact hu), if_neg (by omega)]
    simp [Fil, hT, up, dn, hu]
  | true =>
    rw [if_neg (by show ¬ f.urgent = false; rw [hu]; decide), if_neg (by omega)]
    have hfr : frst (Fil t l i) = ((up (l.take i)).map (cv t)).length := by
      unfold Fil
      rw [List.map_append]
      refine frst_two _ _ (fun a ha => ?_) (fun a ha => ?_)
      · obtain ⟨g, hg, rfl⟩ := List.mem_map.1 ha
        exact (List.mem_filter.1 hg).2
      · obtain ⟨g, hg, rfl⟩ := List.mem_map.1 ha
        have := (List.mem_filter.1 hg).2
        simpa [cv, rt] using this
    unfold ins
    rw [hfr]
    unfold Fil
    rw [List.map_append, List.take_left, List.drop_left, hT]
    simp [up, dn, hu]
theorem Rst_start (t : Int) (l : List Fr) (n : Nat) (hn : l.length = n) : Fil t l n = Rst t l 0 0 := by
  simp [Fil, Rst, List.take_of_length_le (show l.length ≤ n by omega)]
theorem Rst_next (t : Int) (l : List Fr) (k n : Nat) (hn : l.length = n) (hk : k < 2) : Rst t l k n = Rst t l (k + 1) 0 := by
  rcases k with _ | _ | k
  · simp [Rst, List.drop_eq_nil_of_le (show l.length ≤ n by omega), up]
  · simp [Rst, List.drop_eq_nil_of_le (show l.length ≤ n by omega), dn]
  · omega
theorem Rst_len (t : Int) (l : List Fr) (k i : Nat) (hl : l.length ≤ 16) : (Rst t l k i).length ≤ 16 := by
  have h1 := up_dn l
  have h2 := up_dn (l.drop i)
  have h3 : (up (l.drop i)).length ≤ (up l).length := (((List.drop_sublist i l).filter _)).length_le
  rw [List.length_drop] at h2
  rcases k with _ | _ | k <;> simp [Rst] <;> omega
theorem Rst_live {t : Int} {l : List Fr} {k i : Nat} {a : Mail} (h : a ∈ Rst t l k i) : a.f.to = t ∧ a.since = 3 := by
  rcases k with _ | _ | k
  · obtain ⟨g, _, rfl⟩ := List.mem_map.1 h; exact ⟨rfl, rfl⟩
  · obtain ⟨g, _, rfl⟩ := List.mem_map.1 h; exact ⟨rfl, rfl⟩
  · simp [Rst] at h
theorem Rst_filter (t : Int) (l : List Fr) (k i : Nat) (hl : l.length ≤ 16) : ((Rst t l k i).take 16).filter (live 3 0) = Rst t l k i := by
  rw [List.take_of_length_le (Rst_len t l k i hl)]
  refine List.filter_eq_self.2 fun a ha => ?_
  unfold live
  rw [(Rst_live ha).2]
  decide
theorem drop_consF {l : List Fr} {i : Nat} {f : Fr} (h : l[i]? = some f) : l.drop i = f :: l.drop (i + 1) := by
  obtain ⟨hi, rfl⟩ := List.getElem?_eq_some_iff.1 h
  exact List.drop_eq_getElem_cons hi
theorem Rst_skip {t : Int} {l : List Fr} {k i : Nat} {f : Fr} (hf : l[i]? = some f) (hu : f.urgent ≠ (k == 0)) (hk : k < 2) : Rst t l k (i + 1) = Rst t l k i := by
  have hd := drop_consF hf
  rcases k with _ | _ | k
  · have : f.urgent = false := by cases h : f.urgent with | false => rfl | true => rw [h] at hu; exact absurd rfl hu
    simp only [Rst]; rw [hd]; simp [up, this]
  · have : f.urgent = true := by cases h : f.urgent with | true => rfl | false => rw [h] at hu; exact absurd rfl hu
    simp only [Rst]; rw [hd]; simp [dn, this]
  · omega
theorem Rst_take {t : Int} {l : List Fr} {k i : Nat} {f : Fr} (hf : l[i]? = some f) (hu : f.urgent = (k == 0)) (hk : k < 2) (hl : l.length ≤ 16) : takeL t (((Rst t l k i).take 16).filter (live 3 0)) = (some (rt t f), Rst t l k (i + 1)) := by
  rw [Rst_filter t l k i hl]
  have hd := drop_consF hf
  have : Rst t l k i = cv t f :: Rst t l k (i + 1) := by
    rcases k with _ | _ | k
    · have hu' : f.urgent = true := hu
      simp only [Rst]; rw [hd]; simp [up, hu']
    · have hu' : f.urgent = false := hu
      simp only [Rst]; rw [hd]; simp [dn, hu']
    · omega
  rw [this, takeL, if_pos (by rfl)]; rfl
end Go.Proofs.Ytfbdiafgfimgaaa
