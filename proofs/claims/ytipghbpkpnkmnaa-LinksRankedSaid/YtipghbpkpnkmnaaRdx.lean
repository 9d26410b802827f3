/- Parts of what is read. Nothing of the program. -/
import Derived.Test.YtipghbpkpnkmnaaRow
namespace Go.Proofs.Ytipghbpkpnkmnaa
open Go.RowKit
variable {α : Type}
theorem Rd.take {w : World} {E : Enc α} {A : Option Addr} {n q : Nat} {l : List α} (h : Rd w E A n l) (hq : q ≤ n) : Rd w E A q (l.take q) :=
  ⟨by rw [List.length_take, h.1]; omega, fun h0 => by
    obtain ⟨b, off, e, hc⟩ := h.2 (by omega)
    refine ⟨b, off, e, fun j v hj => hc j v ?_⟩
    rw [← E.flat_take, List.getElem?_take] at hj
    split at hj
    · exact hj
    · cases hj⟩
theorem Rd.drop {w : World} {E : Enc α} {g off n q : Nat} {l : List α} (h : Rd w E (some ⟨g, off, none⟩) n l) (hq : q ≤ n) : Rd w E (some ⟨g, off + q * E.size, none⟩) (n - q) (l.drop q) :=
  ⟨by rw [List.length_drop, h.1], fun h0 => by
    obtain ⟨b, off', e, hc⟩ := h.2 (by omega)
    cases e
    refine ⟨g, off + q * E.size, rfl, fun j v hj => ?_⟩
    rw [← E.flat_drop, List.getElem?_drop] at hj
    rw [Nat.add_assoc]
    exact hc _ v hj⟩
end Go.Proofs.Ytipghbpkpnkmnaa
