/- SpanOf, both. (Printed by wip/gen_span.py.) -/
import Derived.Test.YtimjlcnljefbbaaSpReduce
import Derived.Test.YtimjlcnljefbbaaSpPred
import Derived.Test.YtimjlcnljefbbaaReduced
import Derived.Test.YtimjlcnljefbbaaMatBox
import Derived.Test.YtimjlcnljefbbaaLawBase
import Derived.Test.YtimjlcnljefbbaaPred
namespace Go.Proofs.Ytimjlcnljefbbaa
open Go.RowKit
namespace Ints

def fitSpan (p c : Int) (A : List (List Int)) : Bool := Fld.goodB p && Fld.inR c 0 24 && decide (A.length ≤ 48) && rowsB p c A
def spanOut (p c : Int) (A : List (List Int)) : List (List Int) := if fitSpan p c A then reducedL p c.toNat A else []
def spanCols (p c : Int) (A : List (List Int)) : Int := if fitSpan p c A then c else 0
theorem rows_elems {p c : Int} {A : List (List Int)} (h : rowsB p c A = true) (hc : 0 ≤ c) : ElemsT p A.length c.toNat A := by
  refine ⟨rfl, fun i hi => ?_⟩
  have h1 := List.all_eq_true.1 h (A[i]) (List.getElem_mem hi)
  have e : lAt A i = A[i] := by simp [lAt, hi]
  unfold vecB at h1
  simp only [Bool.and_eq_true, decide_eq_true_eq] at h1
  unfold at2
  rw [e]
  refine ⟨by omega, fun j hj => ?_⟩
  have hjl : j < (A[i]).length := by omega
  have h2 := List.all_eq_true.1 h1.2 ((A[i])[j]) (List.getElem_mem hjl)
  rw [List.getElem?_eq_getElem hjl]
  unfold Fld.inB at h2
  simp only [Bool.and_eq_true, decide_eq_true_eq] at h2
  exact h2
theorem inR_parts {c lo hi : Int} (h : Fld.inR c lo hi = true) : lo ≤ c ∧ c ≤ hi := by
  have := h
  unfold Fld.inR at this
  simpa using this
theorem fitSpan_parts {p c : Int} {A : List (List Int)} (h : fitSpan p c A = true) : ∃ n : Nat, c = n ∧ n ≤ 24 ∧ A.length ≤ 48 ∧ Fld.goodB p = true ∧ ElemsT p A.length n A := by
  simp only [fitSpan, Bool.and_eq_true, decide_eq_true_eq] at h
  obtain ⟨⟨⟨h1, h2⟩, h3⟩, h4⟩ := h
  obtain ⟨q1, q2⟩ := inR_parts h2
  refine ⟨c.toNat, by omega, by omega, h3, h1, rows_elems h4 q1⟩
theorem ctr_elems' {p : Int} {r c : Nat} {L : List (List Int)} (h : ElemsT p r c L) (hr : r ≤ 1000) (hc : c ≤ 1000) : (1 : Int) + (sumL L : Int) ≤ 1000000000 := by
  have h1 := sum_le_mul List.length c L (fun l hl => by
    obtain ⟨i, hi, rfl⟩ := List.getElem_of_mem hl
    have := (h.2 i (by rw [← h.1]; exact hi)).1
    rw [show lAt L i = L[i] by simp [lAt, hi]] at this
    omega)
  have h2 : r * c ≤ 1000 * 1000 := Nat.mul_le_mul hr hc
  rw [h.1] at h1
  unfold sumL
  omega
theorem reduced_elems {p : Int} {n c : Nat} {M : List (List Int)} (hg : Fld.goodB p = true) (hM : ElemsT p n c M) : ElemsT p (reducedL p c M).length c (reducedL p c M) ∧ (reducedL p c M).length ≤ n := by
  obtain ⟨ld, _, h2, h3, _⟩ := Lin.reduced_spec hg hM
  exact ⟨h2, h3⟩
theorem spanOut_ctr (p c : Int) (A : List (List Int)) : (1 : Int) + (sumL (spanOut p c A) : Int) ≤ 1000000000 := by
  unfold spanOut
  split
  · rename_i h
    obtain ⟨n, rfl, hn, hl, hg, hA⟩ := fitSpan_parts h
    obtain ⟨h1, h2⟩ := reduced_elems hg hA
    exact ctr_elems' h1 (by omega) (by omega)
  · exact ctr_nil

end Ints
end Go.Proofs.Ytimjlcnljefbbaa
