/- The law FnExactPrimitiveRoot: both functions return the same. -/
import Derived.Test.YtkkiconlcboehaaDoorFieldLoops
namespace Go.Proofs.YtkkiconlcboehaaDoor.fnExactPrimitiveRoot
open Go.RowKit Fld

set_option maxHeartbeats 1000000 in
theorem walk (a0 : Int) (_w0 : (Lit.int .i64 a0).wf = true) (w : World) (ht : Tab w) :
    Calls Tryd.prog 6 #[.int .i64 a0] w fun e w' => e = .returned (.bool true) ∧ Below w.heap.size w w' := by
  cases hg : goodB a0 with
  | false =>
    go_enter Tryd.func6, Tryd.ntmps6
    go_wp2_with (first | (go_at_call 36; ((with_reducible refine (fdGood_any _ _).mono ?_); rintro e w' ⟨rfl, rfl⟩)) | (go_at_call 37; ((with_reducible refine (isField_any _ _ ht).mono ?_); rintro e w' ⟨rfl, rfl⟩)) | go_in)
    go_ret
    exact ⟨rfl, Below.refl _ _⟩
  | true =>
    obtain ⟨p2, p97⟩ := good_bounds hg
    obtain ⟨p, rfl⟩ := Int.eq_ofNat_of_zero_le (a := a0) (by omega)
    have hgN : goodN p = true := (goodB_nat p).symm.trans hg
    obtain ⟨r, hr⟩ := root_hit p (by omega) hgN
    have hr' := Lib.hid hr
    have cs := Lib.hid (spec_PrimitiveRoot_yes p r hr' hgN (by omega) (by omega) hg w)
    have ci := Lib.hid (impl_PrimitiveRoot_yes p r true hr' hgN (by omega) (by omega) hg w ht)
    have hne : ((r : Int) != (r : Int)) = false := by simp
    clear hg hgN hr
    go_enter Tryd.func6, Tryd.ntmps6
    go_wp2_with (first | (go_at_call 19; ((with_reducible refine (cs.out).mono ?_); rintro e w' ⟨rfl, rfl⟩)) | (go_at_call 20; ((with_reducible refine (ci.out).mono ?_); rintro e w' ⟨rfl, rfl⟩)))
    go_ret
    exact ⟨rfl, Below.refl _ _⟩
end Go.Proofs.YtkkiconlcboehaaDoor.fnExactPrimitiveRoot
