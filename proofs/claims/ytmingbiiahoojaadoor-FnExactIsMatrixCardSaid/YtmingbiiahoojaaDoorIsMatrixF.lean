/- IsMatrix, both. -/
import Derived.Test.YtmingbiiahoojaaDoorMatLawBase
namespace Go.Proofs.YtmingbiiahoojaaDoor
open Go.RowKit
namespace Ints
open Fld (goodB inB inR tab_alloc)

theorem specIsMatrix_any (p c : Int) (v : Value) (L : List (List Int)) (w : World) (h : ReadsM w v L) :
    Calls Tryd.prog 13 #[.int .i64 p, .agg #[.int .i64 c, v]] w fun e w' => e = .returned (.bool (matB p c L)) ∧ Below w.heap.size w w' := by
  have hB := Lib.hid ((Below.refl w.heap.size w).alloc (Nat.le_refl _) (.cells #[.int .i64 c, v] 27))
  have hcall := Lib.hid (mxGood_any p c v L _ (h.below hB.out))
  obtain ⟨a, cap, rfl⟩ := h.form
  obtain ⟨r, hr⟩ : ∃ r, matB p c L = r := ⟨_, rfl⟩
  rw [hr] at hcall ⊢
  clear h hr
  go_enter Tryd.func13, Tryd.ntmps13
  go_wp2_with (go_at_call 39; ((with_reducible refine (hcall.out).mono ?_); rintro e w' ⟨rfl, hb⟩))
  go_ret
  exact ⟨rfl, hB.out.trans (hb.mono hB.out.size)⟩
theorem implIsMatrix_any (p c : Int) (v : Value) (L : List (List Int)) (w : World) (ht : Tab w) (h : ReadsM w v L) :
    Calls Tryd.prog 15 #[.int .i64 p, .agg #[.int .i64 c, v]] w fun e w' => e = .returned (.bool (matB p c L)) ∧ Below w.heap.size w w' := by
  have hB := Lib.hid ((Below.refl w.heap.size w).alloc (Nat.le_refl _) (.cells #[.int .i64 c, v] 27))
  have hcall := Lib.hid (isMatrix_any p c v L _ (tab_alloc ht _) (h.below hB.out))
  obtain ⟨a, cap, rfl⟩ := h.form
  obtain ⟨r, hr⟩ : ∃ r, matB p c L = r := ⟨_, rfl⟩
  rw [hr] at hcall ⊢
  clear h hr ht
  go_enter Tryd.func15, Tryd.ntmps15
  go_wp2_with (go_at_call 41; ((with_reducible refine (hcall.out).mono ?_); rintro e w' ⟨rfl, hb⟩))
  go_ret
  exact ⟨rfl, hB.out.trans (hb.mono hB.out.size)⟩

end Ints
end Go.Proofs.YtmingbiiahoojaaDoor
