/- A list of lists that comes in as it is. -/
import Derived.Test.YtkpheigoegehoaaDoorOpens
namespace Go.Proofs.YtkpheigoegehoaaDoor
open Go.RowKit Go.ChangeShapes Go.WideShapes Go.Deep
namespace Ints

set_option maxRecDepth 100000 in
theorem open_IntSS {H : Type} {enc : TypeId × Value → H} {w : World} {base b0 : Nat} {held : Bool} {r : Reach} {v : Value} {d : DataW H} {p : List MemPlace}
    (hv : Value.okWide Tryd.prog w r b0 22 v) (h : DataW.Trod enc Tryd.prog w base (fun _ => true) held 22 v d p) : ∃ L, ReadsM w v L := by
  obtain ⟨a, len, cap, rfl⟩ := okWide_slice Tryd.underlying22 hv
  obtain ⟨fuel, hf⟩ := h
  exact readsM_of_trod (v := .slice a len cap) hf

end Ints
end Go.Proofs.YtkpheigoegehoaaDoor
