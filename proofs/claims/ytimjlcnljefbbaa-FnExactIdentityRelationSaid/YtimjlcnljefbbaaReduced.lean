/- The reduced rows: the program's; a space of them. -/
import Derived.Test.YtimjlcnljefbbaaReduction
import Derived.Test.YtimjlcnljefbbaaClones
import Derived.Test.YtimjlcnljefbbaaMatBox
namespace Go.Proofs.Ytimjlcnljefbbaa
open Go.RowKit
namespace Ints

/-- A list of lists of which each is nothing. -/
theorem ownsM_nils {w : World} {base n : Nat} {v : Value} (h : w.ownsRow base 36 1 v n (List.replicate n (.slice none 0 0))) (hn : n ≤ maxLen) (L : List (List Int)) (hl : L.length = n) (he : ∀ i, i < n → lAt L i = []) : OwnsM (base ≤ ·) w v L := by
  have h1 := owns_of_row h hn
  subst hl
  refine ⟨_, h1.1, h1.2, ?_⟩
  refine ⟨by simp, fun i hi => ?_, fun i j _ hj hi1 => absurd (he i (by omega)) hi1⟩
  rw [he i hi, show vAt (List.replicate L.length (Value.slice none 0 0)) i = .slice none 0 0 by simp [vAt, hi]]
  exact ⟨⟨rfl, none, 0, rfl, Nat.le_refl _, Nat.zero_le _, fun h => by simp [ofL] at h⟩, fun g h => absurd rfl h⟩
theorem ownBlock_slice (a : Option Addr) (n c n' c' : Nat) : (Value.slice a n c).ownBlock = (Value.slice a n' c').ownBlock := by cases a <;> rfl
/-- The first rows of a matrix of the call's own. -/
theorem OwnsM.take {S : Nat → Prop} {w : World} {a : Option Addr} {cap cap' : Nat} {L : List (List Int)} {r : Nat} (h : OwnsM S w (.slice a L.length cap) L) (hr : r ≤ L.length) (hc : r ≤ cap') (hc2 : cap' ≤ cap) : OwnsM S w (.slice a r cap') (L.take r) := by
  obtain ⟨rs, h1, h2, h3⟩ := h
  have hl : (L.take r).length = r := by rw [List.length_take]; omega
  have hrs : rs.length = L.length := h3.1
  have hv : ∀ i, i < r → vAt (rs.take r) i = vAt rs i := fun i hi => by unfold vAt; rw [List.getElem?_take, if_pos hi]
  have hL : ∀ i, i < r → lAt (L.take r) i = lAt L i := fun i hi => by unfold lAt; rw [List.getElem?_take, if_pos hi]
  refine ⟨rs.take r, ?_, fun g hx hg => h2 g (fun e => hx (by rw [e]; simp)) ((ownBlock_slice a _ _ _ _).trans hg), by rw [List.length_take, List.length_take, hrs], fun i hi => ?_, fun i j hij hj => ?_⟩
  · obtain ⟨q1, a', c', e, q2, q3, q4⟩ := h1
    simp only [Value.slice.injEq] at e
    obtain ⟨rfl, -, rfl⟩ := e
    rw [hl]
    refine ⟨by rw [List.length_take, hrs]; omega, a, cap', rfl, hc, by omega, fun hp => ?_⟩
    rw [List.length_take, hrs] at hp
    obtain ⟨g, off, cs, rfl, hg, hcell⟩ := q4 (by rw [hrs]; omega)
    refine ⟨g, off, cs, rfl, hg, fun j hj => ?_⟩
    rw [List.length_take, hrs] at hj
    rw [hcell j (by rw [hrs]; omega), List.getElem?_take, if_pos (by omega)]
  · rw [hl] at hi
    rw [hv i hi, hL i hi]
    exact h3.2.1 i (by omega)
  · rw [hl] at hj
    rw [hv i (by omega), hv j hj, hL i (by omega), hL j hj]
    exact h3.2.2 i j hij (by omega)

end Ints
end Go.Proofs.Ytimjlcnljefbbaa
