/- A struct of two lists that comes in. -/
import Derived.Test.YtapgfgbpcpdnlaaOpens
import Derived.Test.YtapgfgbpcpdnlaaPair
import Derived.ChangeSlices
namespace Go.Proofs.Ytapgfgbpcpdnlaa
open Go.RowKit Go.ChangeShapes Go.WideShapes Go.Deep Go.Joins
namespace Ints

set_option maxRecDepth 100000 in
theorem readsI_of_trod {H : Type} {enc : TypeId × Value → H} {w : World} {base : Nat} {held : Bool} {fuel : Nat} {v : Value} {x : DataW H × List MemPlace}
    (hf : DataW.trod enc Try.prog w base (fun _ => true) held fuel 23 [v] = some x) : ∃ L, ReadsI w v L := by
  rcases Go.ChangeShapes.open_ints Try.underlying23 Try.underlying3 (by kernel_rfl) hf with ⟨h1, _⟩ | ⟨a', len', cap', zs, h1, _, hl, hm, hz, _, hr, _⟩
  · simp only [List.cons.injEq, and_true] at h1
    rw [h1]
    exact ⟨[], reads_nil w⟩
  · simp only [List.cons.injEq, and_true] at h1
    rw [h1]
    have hz' : zs.length = cap' := by simpa using hz
    have e3 : (zs.take len').length = len' := by rw [List.length_take]; omega
    refine ⟨zs.take len', ?_⟩
    show Reads w 1 _ _ _
    rw [e3]
    refine reads_of_cells _ (by rw [ofL_length, e3]) hl hm fun _ => ⟨a', rfl, fun j hj => ?_⟩
    rw [hr j (by omega), ofL_at _ j (by rw [e3]; exact hj)]
    simp [hj, List.getD]

end Ints
end Go.Proofs.Ytapgfgbpcpdnlaa
