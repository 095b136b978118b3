/- A list in which every wire occurs once: by counts, and as a permutation. -/
import Derived.Test.YtapgfgbpcpdnlaaValidP
namespace Go.Proofs.Ytapgfgbpcpdnlaa
open Go.RowKit
namespace Ints
open Fld (inR)

/-- No number stands in front of itself. -/
def ndB (A : List Int) : Bool := (List.range A.length).all fun k => !decide (A[k]?.getD 0 ∈ A.take k)
def permB (c : Nat) (A : List Int) : Bool := decide (A.length = c) && A.all (okB c) && ndB A
def onceB (c : Nat) (A : List Int) : Bool := (cntL c A).all fun a => inR a 1 1
theorem nd_at {A : List Int} (h : ndB A = true) {k : Nat} (hk : k < A.length) : A[k]?.getD 0 ∉ A.take k := by
  unfold ndB at h
  rw [List.all_eq_true] at h
  have := h k (List.mem_range.2 hk)
  simpa using this
theorem nd_count {A : List Int} (h : ndB A = true) (x : Int) : ∀ k, k ≤ A.length → (A.take k).count x ≤ 1 := by
  intro k
  induction k with
  | zero => intro _; simp
  | succ k ih =>
    intro hk
    have h1 := ih (by omega)
    have h2 := nd_at h (k := k) (by omega)
    rw [take_one A k (by omega), List.count_append]
    by_cases e : A[k]?.getD 0 = x
    · rw [e] at h2 ⊢
      rw [List.count_eq_zero_of_not_mem h2]
      simp
    · have : [A[k]?.getD 0].count x = 0 := List.count_eq_zero_of_not_mem (by simpa using fun e2 => e e2.symm)
      omega
theorem nd_seen {A : List Int} {c : Nat} (h : ndB A = true) (ho : A.all (okB c) = true) : ∀ k, k ≤ A.length → seenN c (A.take k) = k := by
  intro k
  induction k with
  | zero => intro _; simp [seenN]
  | succ k ih =>
    intro hk
    have h1 := ih (by omega)
    have h2 := nd_at h (k := k) (by omega)
    have h3 : okB c (A[k]?.getD 0) = true := by
      rw [List.all_eq_true] at ho
      refine ho _ ?_
      rw [List.getElem?_eq_getElem (by omega)]
      exact List.getElem_mem _
    obtain ⟨j, hj, hjc⟩ := okB_true h3
    rw [take_one A k (by omega), hj]
    rw [hj] at h2
    rw [seenN_new hjc h2, h1]
theorem once_iff (c : Nat) (A : List Int) : onceB c A = true ↔ ∀ i, i < c → A.count (i : Int) = 1 := by
  unfold onceB cntL
  rw [List.all_eq_true]
  constructor
  · intro h i hi
    have := h _ (List.mem_map.2 ⟨i, List.mem_range.2 hi, rfl⟩)
    unfold inR at this
    simp at this
    omega
  · intro h a ha
    obtain ⟨i, hi, rfl⟩ := List.mem_map.1 ha
    rw [h i (List.mem_range.1 hi)]
    rfl
theorem once_eq (c : Nat) (A : List Int) (ho : A.all (okB c) = true) : onceB c A = permB c A := by
  rw [Bool.eq_iff_iff, once_iff]
  unfold permB
  rw [ho, Bool.and_true, Bool.and_eq_true, decide_eq_true_eq]
  have hmem : ∀ k, k < A.length → ∃ j : Nat, A[k]?.getD 0 = j ∧ j < c := by
    intro k hk
    rw [List.all_eq_true] at ho
    refine okB_true (ho _ ?_)
    rw [List.getElem?_eq_getElem hk]
    exact List.getElem_mem _
  constructor
  · intro h
    have hn : ndB A = true := by
      unfold ndB
      rw [List.all_eq_true]
      intro k hk
      have hk := List.mem_range.1 hk
      obtain ⟨j, hj, hjc⟩ := hmem k hk
      simp only [Bool.not_eq_true', decide_eq_false_iff_not]
      intro hin
      have h1 := h j hjc
      have e : A = A.take (k + 1) ++ A.drop (k + 1) := (List.take_append_drop _ _).symm
      rw [e, take_one A k hk, List.count_append, List.count_append, hj] at h1
      rw [hj] at hin
      have h2 := List.count_pos_iff.2 hin
      have h3 : [(j : Int)].count (j : Int) = 1 := by simp
      omega
    refine ⟨?_, hn⟩
    have h1 := nd_seen hn ho A.length (Nat.le_refl _)
    rw [List.take_length] at h1
    have h2 : (seenN c A == c) = true := by
      rw [seenN_all, List.all_eq_true]
      intro i hi
      have := h i (List.mem_range.1 hi)
      simp only [decide_eq_true_eq]
      exact List.count_pos_iff.1 (by omega)
    rw [beq_iff_eq] at h2
    omega
  · rintro ⟨hl, hn⟩ i hi
    have h1 := nd_seen hn ho A.length (Nat.le_refl _)
    rw [List.take_length] at h1
    have h2 : (seenN c A == c) = true := by rw [beq_iff_eq]; omega
    rw [seenN_all, List.all_eq_true] at h2
    have h3 := h2 i (List.mem_range.2 hi)
    simp only [decide_eq_true_eq] at h3
    have h4 := List.count_pos_iff.2 h3
    have h5 := nd_count hn (i : Int) A.length (Nat.le_refl _)
    rw [List.take_length] at h5
    omega

end Ints
end Go.Proofs.Ytapgfgbpcpdnlaa
