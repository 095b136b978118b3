/- The law FnExactPrintLibrary: its said form. -/
import Derived.Test.YtlfcmlbffpmhkaaDoorRowPrintLibrary
import Derived.Test.YtlfcmlbffpmhkaaDoorSeatEnter
import Derived.Test.YtlfcmlbffpmhkaaDoorSeatLifts
import Derived.Test.YtlfcmlbffpmhkaaDoorSeatMake
import Derived.Test.YtlfcmlbffpmhkaaDoorTie
namespace Go.Proofs.YtlfcmlbffpmhkaaDoor.fnExactPrintLibrary
open Go.ChangeShapes Go.WideShapes Go.ChangeAt Go.RowKit
set_option linter.unusedVariables false


theorem closed : joinedFacts Tryd.pinned.checked.prog 6 Tryd.f6 (OpenSpec.ofChange Rows.fnExactPrintLibrarySpec).bare Rows.fnExactPrintLibraryRow = true := by
  unfold joinedFacts
  rw [seatEnter, seatLifts, seatMake]
  kernel_rfl

theorem said : Rows.FnExactPrintLibrarySaid :=
  OpenClaim.holds_of_cond 6 Tryd.f6 rfl rfl rfl rfl rfl rfl rfl ⟨rfl, rfl, rfl, rfl, rfl⟩ rfl rfl rfl rfl rfl (by kernel_rfl) Tryd.func6 closed
    (of_decide_eq_true (by kernel_rfl)) (by unfold Func.isWrapper; first | (rw [if_pos (by decide +kernel)]; kernel_rfl) | (rw [if_neg (by decide +kernel)]; exact ⟨rfl, rfl⟩))
    (fun os started H enc _ F => by rw [OpenClaim.pre_eq_preRow]; exact lifted os started H enc F)


end Go.Proofs.YtlfcmlbffpmhkaaDoor.fnExactPrintLibrary
