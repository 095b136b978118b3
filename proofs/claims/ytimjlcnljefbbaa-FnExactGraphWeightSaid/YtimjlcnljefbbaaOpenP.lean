/- A struct of two lists that comes in. -/
import Derived.Test.YtimjlcnljefbbaaOpens
import Derived.Test.YtimjlcnljefbbaaPair
import Derived.ChangeSlices
namespace Go.Proofs.Ytimjlcnljefbbaa
open Go.RowKit Go.ChangeShapes Go.WideShapes Go.Deep Go.Joins
namespace Ints

set_option maxRecDepth 100000 in
theorem readsI_of_trod {H : Type} {enc : TypeId × Value → H} {w : World} {base : Nat} {held : Bool} {fuel : Nat} {v : Value} {x : DataW H × List MemPlace}
    (hf : DataW.trod enc Try.prog w base (fun _ => true) held fuel 36 [v] = some x) : ∃ L, ReadsI w v L := by
  rcases Go.ChangeShapes.open_ints Try.underlying36 Try.underlying3 (by kernel_rfl) hf with ⟨h1, _⟩ | ⟨a', len', cap', zs, h1, _, hl, hm, hz, _, hr, _⟩
  · simp only [List.cons.injEq, and_true] at h1
    rw [h1]
    exact ⟨[], reads_nil w⟩
  · simp only [List.cons.injEq, and_true] at h1
    rw [h1]
    have hz' : zs.length = cap' := by simpa using hz
    have e3 : (zs.take len').length = len' := by rw [List.length_take]; omega
    refine ⟨zs.take len', ?_⟩
    show Reads w 1 _ _ _
    rw [e3]
    refine reads_of_cells _ (by rw [ofL_length, e3]) hl hm fun _ => ⟨a', rfl, fun j hj => ?_⟩
    rw [hr j (by omega), ofL_at _ j (by rw [e3]; exact hj)]
    simp [hj, List.getD]

set_option maxRecDepth 100000 in
theorem open_Match {H : Type} {enc : TypeId × Value → H} {w : World} {base b0 : Nat} {held : Bool} {r : Reach} {v : Value} {d : DataW H} {p : List MemPlace}
    (hv : Value.okWide Try.prog w r b0 38 v) (h : DataW.Trod enc Try.prog w base (fun _ => true) held 38 v d p) : ∃ u1 u2 L, v = .agg #[u1, u2] ∧ ReadsP w u1 u2 L := by
  obtain ⟨v0, v1, y0, y1, n, rfl, _, _, hy0, hy1⟩ := open_agg2 Try.underlying38 (by kernel_rfl) (show Try.prog.cellsOf 38 = 2 by kernel_rfl) hv h
  obtain ⟨L0, h0⟩ := readsI_of_trod hy0
  obtain ⟨L1, h1⟩ := readsI_of_trod hy1
  exact ⟨v0, v1, (L0, L1), rfl, h0, h1⟩

end Ints
end Go.Proofs.Ytimjlcnljefbbaa
