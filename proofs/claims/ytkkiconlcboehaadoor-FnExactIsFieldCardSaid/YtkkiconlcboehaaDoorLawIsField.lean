/- The law FnExactIsField: both functions return the same. -/
import Derived.Test.YtkkiconlcboehaaDoorFieldWalks
namespace Go.Proofs.YtkkiconlcboehaaDoor.fnExactIsField
open Go.RowKit Fld

theorem walk (a0 : Int) (_w0 : (Lit.int .i64 a0).wf = true) (w : World) (ht : Tab w) :
    Calls Tryd.prog 3 #[.int .i64 a0] w fun e w' => e = .returned (.bool true) ∧ Below w.heap.size w w' := by
  have hne : (goodB a0 != goodB a0) = false := by simp
  go_enter Tryd.func3, Tryd.ntmps3
  go_wp2_with (first | (go_at_call 36; ((with_reducible refine (fdGood_any _ _).mono ?_); rintro e w' ⟨rfl, rfl⟩)) | (go_at_call 37; ((with_reducible refine (isField_any _ _ ht).mono ?_); rintro e w' ⟨rfl, rfl⟩)) | go_in)
  go_ret
  exact ⟨rfl, Below.refl _ _⟩
end Go.Proofs.YtkkiconlcboehaaDoor.fnExactIsField
