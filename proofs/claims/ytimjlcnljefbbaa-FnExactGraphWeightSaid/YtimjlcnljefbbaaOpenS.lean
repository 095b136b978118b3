/- A list that comes in as it is. -/
import Derived.Test.YtimjlcnljefbbaaOpens
import Derived.ChangeSlices
namespace Go.Proofs.Ytimjlcnljefbbaa
open Go.RowKit Go.ChangeShapes Go.WideShapes Go.Deep
namespace Ints

set_option maxRecDepth 100000 in
theorem open_IntS {H : Type} {enc : TypeId × Value → H} {w : World} {base b0 : Nat} {held : Bool} {r : Reach} {v : Value} {d : DataW H} {p : List MemPlace}
    (hv : Value.okWide Try.prog w r b0 36 v) (h : DataW.Trod enc Try.prog w base (fun _ => true) held 36 v d p) : ∃ L, Reads w 1 v L.length (ofL L) := by
  obtain ⟨a, len, cap, rfl⟩ := okWide_slice Try.underlying36 hv
  obtain ⟨fuel, hf⟩ := h
  rcases Go.ChangeShapes.open_ints Try.underlying36 Try.underlying3 (by kernel_rfl) hf with ⟨h1, _⟩ | ⟨a', len', cap', zs, h1, _, hl, hm, hz, _, hr, _⟩
  · rw [show (Value.slice a len cap).cells.toList = [Value.slice a len cap] from rfl] at h1
    simp only [List.cons.injEq, and_true] at h1
    rw [h1]
    exact ⟨[], reads_nil w⟩
  · rw [show (Value.slice a len cap).cells.toList = [Value.slice a len cap] from rfl] at h1
    simp only [List.cons.injEq, and_true] at h1
    rw [h1]
    have hz' : zs.length = cap' := by simpa using hz
    have e3 : (zs.take len').length = len' := by rw [List.length_take]; omega
    refine ⟨zs.take len', ?_⟩
    rw [e3]
    refine reads_of_cells _ (by rw [ofL_length, e3]) hl hm fun _ => ⟨a', rfl, fun j hj => ?_⟩
    rw [hr j (by omega), ofL_at _ j (by rw [e3]; exact hj)]
    simp [hj, List.getD]

end Ints
end Go.Proofs.Ytimjlcnljefbbaa
