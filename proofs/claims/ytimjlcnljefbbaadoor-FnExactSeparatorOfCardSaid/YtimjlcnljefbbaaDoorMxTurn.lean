/- Transposed matrices. -/
import Derived.Test.YtimjlcnljefbbaaDoorMxZero
import Derived.Test.YtimjlcnljefbbaaDoorRowFn
namespace Go.Proofs.YtimjlcnljefbbaaDoor
open Go.RowKit
namespace Ints

/-- A transposed matrix of which k rows of the first one and j places of the next one are in. -/
def turnPart (c : Nat) (L : List (List Int)) (k j : Nat) : List (List Int) := tabT c L.length fun q i => if i < k ∨ (i = k ∧ q < j) then at2 L i q else 0
theorem turnPart_zero (c : Nat) (L : List (List Int)) : zeroT c L.length = turnPart c L 0 0 := tabT_congr fun q i _ _ => by simp
theorem turnPart_end (c : Nat) (L : List (List Int)) : turnPart c L L.length 0 = turnT c L := tabT_congr fun q i _ hi => by simp [hi]
theorem turnPart_row (c : Nat) (L : List (List Int)) (k : Nat) : turnPart c L k c = turnPart c L (k + 1) 0 := tabT_congr fun q i hq _ => by
  have : (i < k ∨ (i = k ∧ q < c)) = (i < k + 1 ∨ (i = k + 1 ∧ q < 0)) := by
    apply propext
    constructor
    · rintro (h | ⟨h, _⟩) <;> left <;> omega
    · rintro (h | ⟨_, h⟩)
      · rcases Nat.lt_or_ge i k with h1 | h1
        · exact .inl h1
        · exact .inr ⟨by omega, hq⟩
      · omega
  simp only [this]
theorem turnPart_step {c : Nat} {L : List (List Int)} {k j : Nat} (hj : j < c) : (turnPart c L k j).set j ((lAt (turnPart c L k j) j).set k (at2 L k j)) = turnPart c L k (j + 1) := by
  rw [turnPart, tabT_set2 _ hj]
  refine tabT_congr fun q i _ _ => ?_
  by_cases e : q = j ∧ i = k
  · obtain ⟨rfl, rfl⟩ := e
    simp
  · rw [if_neg e]
    have : (i < k ∨ (i = k ∧ q < j)) = (i < k ∨ (i = k ∧ q < j + 1)) := by
      apply propext
      constructor
      · rintro (h | ⟨h, h1⟩)
        · exact .inl h
        · exact .inr ⟨h, by omega⟩
      · rintro (h | ⟨h, h1⟩)
        · exact .inl h
        · refine .inr ⟨h, ?_⟩
          rcases Nat.lt_or_ge q j with h2 | h2
          · exact h2
          · exact absurd ⟨by omega, h⟩ e
    simp only [this]

end Ints
end Go.Proofs.YtimjlcnljefbbaaDoor
