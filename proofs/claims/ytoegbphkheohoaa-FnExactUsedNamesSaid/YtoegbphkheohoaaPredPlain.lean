/- Plain words: what all elements of a list are asked. -/
import Derived.Test.YtoegbphkheohoaaFx
import Derived.Test.YtoegbphkheohoaaRowsA
namespace Go.Proofs.Ytoegbphkheohoaa
namespace Ints
open Fld

section
variable {α : Type} {l : List α} {q : α → Bool} {k : Nat} {d : α}
theorem all_start : (l.take 0).all q = true := by simp
theorem all_succ (h : (l.take k).all q = true) (hk : k < l.length) (hx : q (l[k]?.getD d) = true) : (l.take (k + 1)).all q = true := by
  rw [List.take_succ_eq_append_getElem hk, List.all_append, h]
  rw [List.getElem?_eq_getElem hk] at hx
  simpa using hx
theorem all_no (hk : k < l.length) (hx : q (l[k]?.getD d) = false) : l.all q = false := by
  rw [← Bool.not_eq_true, List.all_eq_true]
  intro h
  have := h l[k] (List.getElem_mem hk)
  rw [List.getElem?_eq_getElem hk] at hx
  rw [show q l[k] = false from hx] at this
  cases this
theorem all_end (h : (l.take l.length).all q = true) : l.all q = true := by rwa [List.take_length] at h
end

/-- A list of n elements of the field. -/
def vecB (p n : Int) (r : List Int) : Bool := decide ((r.length : Int) = n) && r.all (inB p)
def rowsB (p n : Int) (L : List (List Int)) : Bool := L.all (vecB p n)
/-- A matrix over the field, of at most 24 rows and columns. -/
def matB (p c : Int) (L : List (List Int)) : Bool := goodB p && inR c 0 24 && decide (L.length ≤ 24) && rowsB p c L

theorem fdIn_eq (p : Int) (l : List Int) : l.all (fun a => inR a 0 (p - 1)) = l.all (inB p) := by
  congr 1
  funext a
  exact inR_eq p a

theorem mat_parts {p c : Int} {L : List (List Int)} (h : matB p c L = true) : goodB p = true ∧ (0 ≤ c ∧ c ≤ 24) ∧ L.length ≤ 24 ∧ ∀ i, i < L.length → ((lAt L i).length : Int) = c ∧ ∀ j, j < (lAt L i).length → 0 ≤ (lAt L i)[j]?.getD 0 ∧ (lAt L i)[j]?.getD 0 < p := by
  simp only [matB, Bool.and_eq_true, decide_eq_true_eq] at h
  obtain ⟨⟨⟨h1, h2⟩, h3⟩, h4⟩ := h
  refine ⟨h1, inR_true h2, h3, fun i hi => ?_⟩
  have h5 := List.all_eq_true.1 h4 (L[i]) (List.getElem_mem hi)
  have h6 : lAt L i = L[i] := by simp [lAt, hi]
  rw [h6]
  simp only [vecB, Bool.and_eq_true, decide_eq_true_eq] at h5
  refine ⟨h5.1, fun j hj => ?_⟩
  have h7 := List.all_eq_true.1 h5.2 (L[i][j]) (List.getElem_mem hj)
  rw [List.getElem?_eq_getElem hj]
  exact in_bounds h7

end Ints
end Go.Proofs.Ytoegbphkheohoaa
