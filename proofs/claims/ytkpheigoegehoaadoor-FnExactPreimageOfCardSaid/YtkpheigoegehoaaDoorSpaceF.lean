/- IsSpace, both; pairs of spaces. -/
import Derived.Test.YtkpheigoegehoaaDoorSpGood
namespace Go.Proofs.YtkpheigoegehoaaDoor
open Go.RowKit
namespace Ints
open Fld (tab_alloc)

set_option maxHeartbeats 1000000 in
theorem specIsSpace_any (p c : Int) (v : Value) (L : List (List Int)) (w : World) (h : ReadsM w v L) :
    Calls Tryd.prog 42 #[.int .i64 p, .agg #[.int .i64 c, v]] w fun e w' => e = .returned (.bool (spB p c L)) ∧ Below w.heap.size w w' := by
  have hB := Lib.hid ((Below.refl w.heap.size w).alloc (Nat.le_refl _) (.cells #[.int .i64 c, v] 43))
  have hcall := Lib.hid (spGood_any p c v L _ (h.below hB.out))
  obtain ⟨a, cap, rfl⟩ := h.form
  obtain ⟨r, hr⟩ : ∃ r, spB p c L = r := ⟨_, rfl⟩
  rw [hr] at hcall ⊢
  clear h hr
  go_enter Tryd.func42, Tryd.ntmps42
  go_wp2_with (go_at_call 94; ((with_reducible refine (hcall.out).mono ?_); rintro e w' ⟨rfl, hq⟩))
  go_ret
  exact ⟨rfl, hB.out.trans (hq.mono hB.out.size)⟩

set_option maxHeartbeats 1000000 in
theorem implIsSpace_any (p c : Int) (v : Value) (L : List (List Int)) (w : World) (ht : Tab w) (h : ReadsM w v L) :
    Calls Tryd.prog 44 #[.int .i64 p, .agg #[.int .i64 c, v]] w fun e w' => e = .returned (.bool (spB p c L)) ∧ Below w.heap.size w w' := by
  have hB := Lib.hid ((Below.refl w.heap.size w).alloc (Nat.le_refl _) (.cells #[.int .i64 c, v] 43))
  have hcall := Lib.hid (isSpace_any p c v L _ (tab_alloc ht _) (h.below hB.out))
  obtain ⟨a, cap, rfl⟩ := h.form
  obtain ⟨r, hr⟩ : ∃ r, spB p c L = r := ⟨_, rfl⟩
  rw [hr] at hcall ⊢
  clear h hr ht
  go_enter Tryd.func44, Tryd.ntmps44
  go_wp2_with (go_at_call 95; ((with_reducible refine (hcall.out).mono ?_); rintro e w' ⟨rfl, hq⟩))
  go_ret
  exact ⟨rfl, hB.out.trans (hq.mono hB.out.size)⟩

end Ints
end Go.Proofs.YtkpheigoegehoaaDoor
