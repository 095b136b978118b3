/- The law FnExactPrintTerm: its card. -/
import Derived.Test.YtlfcmlbffpmhkaaDoorSaidPrintTerm
import Derived.Test.YtlfcmlbffpmhkaaDoorSeatMain
namespace Go.Proofs.YtlfcmlbffpmhkaaDoor.fnExactPrintTerm
open Go.ChangeShapes Go.WideShapes Go.ChangeAt Go.RowKit
set_option linter.unusedVariables false


theorem noStand : ∀ t ∈ Tryd.f4.params, Tryd.prog.wantsStandIn t = false := by
  have h : Tryd.f4.params.toList.all (fun t => !Tryd.prog.wantsStandIn t) = true := by kernel_rfl
  intro t ht
  have := List.all_eq_true.1 h t (Array.mem_toList_iff.2 ht)
  simpa using this
theorem plain (f : FuncId) (fn : Func) (hf : Tryd.pinned.checked.prog.funcNamed "loop.example/g01073/laws.FnExactPrintTerm" = some f) (hfn : Tryd.pinned.checked.prog.funcs[f]? = some fn) :
    true = Tryd.pinned.checked.prog.looks [] ∧ ∀ (j : Nat) t, fn.params[j]? = some t → Tryd.pinned.checked.prog.wantsStandIn t = false := by
  obtain rfl : f = 4 := Option.some.inj ((show Tryd.prog.funcNamed "loop.example/g01073/laws.FnExactPrintTerm" = some 4 by kernel_rfl).symm.trans hf) |>.symm
  obtain rfl : fn = Tryd.f4 := (Option.some.inj (Tryd.func4.symm.trans hfn)).symm
  exact ⟨by kernel_rfl, fun j t ht => noStand t (Array.mem_of_getElem? ht)⟩

/-- THE CARD. -/
theorem card : Rows.FnExactPrintTermCardSaid :=
  Claim7.holds_tied_plain_at .later [] _ _ _ _ said (fun _ h => by cases h) (by kernel_rfl) (fun _ h => by cases h) fnExactPrintTerm_row_tie rfl ⟨rfl, rfl⟩ seatMain rfl plain (by kernel_rfl)
#print axioms card
end Go.Proofs.YtlfcmlbffpmhkaaDoor.fnExactPrintTerm
