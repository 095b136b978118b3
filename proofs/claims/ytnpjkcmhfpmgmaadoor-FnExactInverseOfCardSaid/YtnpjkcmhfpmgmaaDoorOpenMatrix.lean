/- A matrix that comes in. -/
import Derived.Test.YtnpjkcmhfpmgmaaDoorOpenRows
namespace Go.Proofs.YtnpjkcmhfpmgmaaDoor
open Go.RowKit Go.ChangeShapes Go.WideShapes Go.Deep Go.Joins
namespace Ints

theorem open_Matrix {H : Type} {enc : TypeId × Value → H} {w : World} {base b0 : Nat} {held : Bool} {r : Reach} {v : Value} {d : DataW H} {p : List MemPlace}
    (hv : Value.okWide Tryd.prog w r b0 24 v) (h : DataW.Trod enc Tryd.prog w base (fun _ => true) held 24 v d p) : ∃ c u L, v = .agg #[.int .i64 c, u] ∧ ReadsM w u L := by
  obtain ⟨v0, v1, y0, y1, n, rfl, _, _, hy0, hy1⟩ := open_agg2 Tryd.underlying24 (by kernel_rfl) (show Tryd.prog.cellsOf 24 = 2 by kernel_rfl) hv h
  obtain ⟨a, e0, _, _⟩ := DataW.trod_int Tryd.underlying3 hy0
  simp at e0
  subst e0
  obtain ⟨L, hL⟩ := readsM_of_trod hy1
  exact ⟨a, v1, L, rfl, hL⟩

end Ints
end Go.Proofs.YtnpjkcmhfpmgmaaDoor
