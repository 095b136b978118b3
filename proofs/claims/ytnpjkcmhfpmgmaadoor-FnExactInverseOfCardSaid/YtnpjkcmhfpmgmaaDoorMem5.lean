/- A list of lists that can be read, with the blocks in which it lies. -/
import Derived.Test.YtnpjkcmhfpmgmaaDoorMem3
namespace Go.Proofs.YtnpjkcmhfpmgmaaDoor
open Go.RowKit
namespace Ints

def InM (S : Nat → Prop) (w : World) (v : Value) (L : List (List Int)) : Prop :=
  ∃ rs, Reads w 1 v L.length rs ∧ blkIn S v rs ∧ RowsRead w rs L ∧ ∀ i, i < L.length → blkIn S (vAt rs i) (ofL (lAt L i))
section
variable {S T : Nat → Prop} {w w' : World} {v : Value} {L : List (List Int)}
theorem InM.reads (h : InM S w v L) : ReadsM w v L := by
  obtain ⟨rs, h1, _, h3, _⟩ := h
  exact ⟨rs, h1, h3⟩
theorem InM.of_reads (h : ReadsM w v L) : InM (· < w.heap.size) w v L := by
  obtain ⟨rs, h1, h2⟩ := h
  exact ⟨rs, h1, h1.lt, h2, fun i hi => (h2.2 i hi).lt⟩
theorem InM.of_owns (h : OwnsM S w v L) : InM S w v L := by
  obtain ⟨rs, h1, h2, h3⟩ := h
  exact ⟨rs, h1.reads, h2, h3.reads, fun i hi => (h3.2.1 i hi).2⟩
theorem InM.chg (h : InM S w v L) (hc : Chg T w w') (hd : ∀ g, g < w.heap.size → S g → ¬ T g) : InM S w' v L := by
  obtain ⟨rs, h1, h2, h3, h4⟩ := h
  exact ⟨rs, h1.chg hc fun g hx hg => hd g (h1.lt g hx hg) (h2 g hx hg), h2, ⟨h3.1, fun i hi => (h3.2 i hi).chg hc fun g hx hg => hd g ((h3.2 i hi).lt g hx hg) (h4 i hi g hx hg)⟩, h4⟩
theorem InM.below (h : InM S w v L) (hb : Below w.heap.size w w') : InM S w' v L := h.chg (T := fun _ => False) (Below.chg hb _) (fun _ _ _ => id)
theorem InM.mono (h : InM S w v L) (hST : ∀ g, g < w.heap.size → S g → T g) : InM T w v L := by
  obtain ⟨rs, h1, h2, h3, h4⟩ := h
  exact ⟨rs, h1, fun g hx hg => hST g (h1.lt g hx hg) (h2 g hx hg), h3, fun i hi g hx hg => hST g ((h3.2 i hi).lt g hx hg) (h4 i hi g hx hg)⟩
end
end Ints
end Go.Proofs.YtnpjkcmhfpmgmaaDoor
