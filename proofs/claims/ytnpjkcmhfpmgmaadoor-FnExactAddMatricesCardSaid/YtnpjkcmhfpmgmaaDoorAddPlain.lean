/- Plain words: two matrices of one form. -/
import Derived.Test.YtnpjkcmhfpmgmaaDoorLawBase
namespace Go.Proofs.YtnpjkcmhfpmgmaaDoor
namespace Ints

/-- A table of which k rows and j places of the next one are in. -/
def fillT (r c : Nat) (f : Nat → Nat → Int) (k j : Nat) : List (List Int) := tabT r c fun i q => if i < k ∨ (i = k ∧ q < j) then f i q else 0
theorem fill_zero (r c : Nat) (f : Nat → Nat → Int) : zeroT r c = fillT r c f 0 0 := tabT_congr fun q i _ _ => by simp
theorem fill_end (r c : Nat) (f : Nat → Nat → Int) : fillT r c f r 0 = tabT r c f := tabT_congr fun q i hq _ => by simp [hq]
theorem fill_row (r c : Nat) (f : Nat → Nat → Int) (k : Nat) : fillT r c f k c = fillT r c f (k + 1) 0 := tabT_congr fun i q _ hq => by
  have : (i < k ∨ (i = k ∧ q < c)) = (i < k + 1 ∨ (i = k + 1 ∧ q < 0)) := by
    apply propext
    constructor
    · rintro (h | ⟨h, _⟩) <;> left <;> omega
    · rintro (h | ⟨_, h⟩)
      · rcases Nat.lt_or_ge i k with h1 | h1
        · exact .inl h1
        · exact .inr ⟨by omega, hq⟩
      · omega
  simp only [this]
theorem fill_step {r c : Nat} {f : Nat → Nat → Int} {k j : Nat} (hk : k < r) : (fillT r c f k j).set k ((lAt (fillT r c f k j) k).set j (f k j)) = fillT r c f k (j + 1) := by
  rw [fillT, tabT_set2 _ hk]
  refine tabT_congr fun i q _ _ => ?_
  by_cases e : i = k ∧ q = j
  · obtain ⟨rfl, rfl⟩ := e
    simp
  · rw [if_neg e]
    have : (i < k ∨ (i = k ∧ q < j)) = (i < k ∨ (i = k ∧ q < j + 1)) := by
      apply propext
      constructor
      · rintro (h | ⟨h, h1⟩)
        · exact .inl h
        · exact .inr ⟨h, by omega⟩
      · rintro (h | ⟨h, h1⟩)
        · exact .inl h
        · refine .inr ⟨h, ?_⟩
          rcases Nat.lt_or_ge q j with h2 | h2
          · exact h2
          · exact absurd ⟨h, by omega⟩ e
    simp only [this]
theorem fill_length (r c : Nat) (f : Nat → Nat → Int) (k j : Nat) : (fillT r c f k j).length = r := tabT_length _ _ _
theorem fill_rowlen {r c : Nat} {f : Nat → Nat → Int} {k j i : Nat} (h : i < r) : (lAt (fillT r c f k j) i).length = c := by rw [fillT, tabT_at h, rowT_length]
/-- A table of which the first k rows have been turned. -/
def rowsT (r c : Nat) (f g : Nat → Nat → Int) (k : Nat) : List (List Int) := tabT r c fun i q => if i < k then f i q else g i q
theorem rowsT_zero {p : Int} {r c : Nat} {f : Nat → Nat → Int} {L : List (List Int)} (h : ElemsT p L.length c L) (hr : L.length = r) : L = rowsT r c f (at2 L) 0 := by
  rw [tab_eq hr (fun i hi => (h.2 i (by omega)).1)]
  refine tabT_congr fun i q hi hq => ?_
  rw [if_neg (Nat.not_lt_zero i)]
  unfold at2
  rw [tabT_at hi, rowT_at hq]
theorem rowsT_length (r c : Nat) (f g : Nat → Nat → Int) (k : Nat) : (rowsT r c f g k).length = r := tabT_length _ _ _
theorem rowsT_at {r c : Nat} {f g : Nat → Nat → Int} {k i : Nat} (h : i < r) : lAt (rowsT r c f g k) i = rowT c fun q => if i < k then f i q else g i q := by rw [rowsT, tabT_at h]
theorem rowsT_end (r c : Nat) (f g : Nat → Nat → Int) : rowsT r c f g r = tabT r c f := tabT_congr fun i q hi _ => by rw [if_pos hi]
theorem rowsT_step {r c : Nat} {f g : Nat → Nat → Int} {k : Nat} (h : k < r) : (rowsT r c f g k).set k (rowT c (f k)) = rowsT r c f g (k + 1) := by
  rw [rowsT, tabT_set _ h]
  refine tabT_congr fun i q _ _ => ?_
  by_cases e : i = k
  · subst e; simp
  · by_cases e2 : i < k
    · simp [e, e2, show i < k + 1 by omega]
    · simp [e, e2, show ¬ i < k + 1 by omega]
theorem len_ne (a b : Nat) : ((a : Int) != (b : Int)) = !decide (a = b) := by
  by_cases h : a = b
  · subst h; simp
  · have h2 : ¬ (a : Int) = (b : Int) := by omega
    simp [h, h2]
def fitB (p ca cb : Int) (A B : List (List Int)) : Bool := matB p ca A && matB p cb B && (ca == cb) && decide (A.length = B.length)
def addOut (p ca cb : Int) (A B : List (List Int)) : List (List Int) := if fitB p ca cb A B then addT p ca.toNat A B else []
def addCols (p ca cb : Int) (A B : List (List Int)) : Int := if fitB p ca cb A B then ca else 0
theorem fit_parts {p ca cb : Int} {A B : List (List Int)} (h : fitB p ca cb A B = true) : ∃ n : Nat, ca = n ∧ cb = n ∧ n ≤ 24 ∧ A.length ≤ 24 ∧ B.length = A.length ∧ (2 ≤ p ∧ p ≤ 97) ∧ ElemsT p A.length n A ∧ ElemsT p A.length n B := by
  simp only [fitB, Bool.and_eq_true, decide_eq_true_eq, beq_iff_eq] at h
  obtain ⟨⟨⟨h1, h2⟩, h3⟩, h4⟩ := h
  obtain ⟨n, e1, hn, hl, hp, hA⟩ := mat_nats h1
  obtain ⟨n2, e2, _, _, _, hB⟩ := mat_nats h2
  have : n2 = n := by omega
  subst this
  rw [← h4] at hB
  exact ⟨n2, e1, e2, hn, hl, h4.symm, hp, hA, hB⟩
theorem addOut_ctr (p ca cb : Int) (A B : List (List Int)) : (1 : Int) + (sumL (addOut p ca cb A B) : Int) ≤ 1000000000 := by
  unfold addOut
  split
  · rename_i h
    obtain ⟨n, rfl, rfl, hn, hl, _⟩ := fit_parts h
    exact ctr_tab (by omega) (by simp; omega) _
  · exact ctr_nil

end Ints
end Go.Proofs.YtnpjkcmhfpmgmaaDoor
