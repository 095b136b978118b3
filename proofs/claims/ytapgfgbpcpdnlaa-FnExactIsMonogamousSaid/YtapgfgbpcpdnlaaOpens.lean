/- What comes in: a list of lists of integers, of whatever make, reads as a list of lists. A matrix that comes in. A space that comes in. A relation that comes in. -/
import Derived.Test.YtapgfgbpcpdnlaaRowsA
import Derived.ProofKit
import Derived.OpenShut
import Derived.Deep.Matrix
import Derived.Lib.SmallJoins
namespace Go.Proofs.Ytapgfgbpcpdnlaa
open Go.RowKit Go.ChangeShapes Go.WideShapes Go.Deep
namespace Ints

theorem addr_of_cell {w : World} {a : Addr} {v : Value} (h : w.cell? a = some v) : a = ⟨a.block, a.off, none⟩ := by
  unfold World.cell? at h
  split at h
  · split at h
    · cases h
    · rename_i hs
      cases a with
      | mk b o s =>
        cases s with
        | none => rfl
        | some x => simp at hs
  · cases h
theorem add_plain (b o j : Nat) : (⟨b, o, none⟩ : Addr).add j = ⟨b, o + j, none⟩ := by unfold Addr.add; split <;> simp_all

theorem reads_of_cells {w : World} {a : Option Addr} {n cap : Nat} (xs : List Value) (hx : xs.length = n) (hc : n ≤ cap) (hm : cap ≤ maxLen)
    (h : 0 < n → ∃ a', a = some a' ∧ ∀ j, j < n → w.cell? (a'.add j) = some (xs[j]?.getD undef)) : Reads w 1 (.slice a n cap) n xs := by
  refine ⟨by omega, a, cap, rfl, hc, hm, fun hp => ?_⟩
  obtain ⟨a', rfl, hcell⟩ := h (by omega)
  have h0 := hcell 0 (by omega)
  have e0 : a'.add 0 = a' := rfl
  rw [e0] at h0
  have ha := addr_of_cell h0
  refine ⟨a'.block, a'.off, by rw [← ha], fun j hj => ?_⟩
  have h1 := hcell j (by omega)
  rw [ha, add_plain] at h1
  exact h1

theorem reads_nil (w : World) : Reads w 1 (.slice none 0 0) 0 (ofL []) := ⟨rfl, none, 0, rfl, Nat.le_refl _, Nat.zero_le _, fun h => by simp [ofL] at h⟩

theorem readsM_of_trod {H : Type} {enc : TypeId × Value → H} {w : World} {base : Nat} {held : Bool} {fuel : Nat} {v : Value} {x : DataW H × List MemPlace}
    (h : DataW.trod enc Try.prog w base (fun _ => true) held fuel 51 [v] = some x) : ∃ L, ReadsM w v L := by
  rcases open_int_rows Try.underlying51 Try.underlying23 Try.underlying3 (by kernel_rfl) (by kernel_rfl) h with ⟨h1, _⟩ | ⟨a, len, cap, A, Ln, C, Z, h1, _, hl, hm, _, hr⟩
  · simp only [List.cons.injEq, and_true] at h1
    subst h1
    exact ⟨[], [], reads_nil w, rfl, fun i hi => by simp at hi⟩
  · simp only [List.cons.injEq, and_true] at h1
    subst h1
    refine ⟨(List.range len).map fun r => (Z r).take (Ln r), (List.range len).map fun r => .slice (A r) (Ln r) (C r), ?_, ?_, fun i hi => ?_⟩
    · rw [show ((List.range len).map fun r => (Z r).take (Ln r)).length = len by simp]
      refine reads_of_cells _ (by simp) hl hm fun _ => ⟨a, rfl, fun j hj => ?_⟩
      rw [(hr j (by omega)).1]
      simp [hj]
    · simp
    · have hi' : i < len := by simpa using hi
      obtain ⟨_, r1, r2, r3, _, r5, r6⟩ := hr i (by omega)
      have e1 : vAt ((List.range len).map fun r => Value.slice (A r) (Ln r) (C r)) i = .slice (A i) (Ln i) (C i) := by simp [vAt, hi']
      have e2 : lAt ((List.range len).map fun r => (Z r).take (Ln r)) i = (Z i).take (Ln i) := by simp [lAt, hi']
      have e3 : ((Z i).take (Ln i)).length = Ln i := by rw [List.length_take]; omega
      rw [e1, e2, e3]
      refine reads_of_cells _ (by rw [ofL_length, e3]) r1 r2 fun hp => ?_
      cases ha : A i with
      | none => have := r5 ha; omega
      | some a' =>
        refine ⟨a', rfl, fun j hj => ?_⟩
        rw [(r6 a' ha).2 j (by omega), ofL_at _ j (by rw [e3]; exact hj)]
        simp [hj, List.getD]

end Ints
end Go.Proofs.Ytapgfgbpcpdnlaa

namespace Go.Proofs.Ytapgfgbpcpdnlaa
open Go.RowKit Go.ChangeShapes Go.WideShapes Go.Deep Go.Joins
namespace Ints

end Ints
end Go.Proofs.Ytapgfgbpcpdnlaa

namespace Go.Proofs.Ytapgfgbpcpdnlaa
open Go.RowKit Go.ChangeShapes Go.WideShapes Go.Deep Go.Joins
namespace Ints

end Ints
end Go.Proofs.Ytapgfgbpcpdnlaa
