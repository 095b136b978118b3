/- The law FnExactProjectOf: its card. -/
import Derived.Test.YtimjlcnljefbbaaDoorSaidProjectOf
import Derived.Test.YtimjlcnljefbbaaDoorSeatMain
namespace Go.Proofs.YtimjlcnljefbbaaDoor.fnExactProjectOf
open Go.ChangeShapes Go.WideShapes Go.ChangeAt Go.RowKit
set_option linter.unusedVariables false


theorem noStand : ∀ t ∈ Tryd.f5.params, Tryd.prog.wantsStandIn t = false := by
  have h : Tryd.f5.params.toList.all (fun t => !Tryd.prog.wantsStandIn t) = true := by kernel_rfl
  intro t ht
  have := List.all_eq_true.1 h t (Array.mem_toList_iff.2 ht)
  simpa using this
theorem plain (f : FuncId) (fn : Func) (hf : Tryd.pinned.checked.prog.funcNamed "loop.example/g01073/laws.FnExactProjectOf" = some f) (hfn : Tryd.pinned.checked.prog.funcs[f]? = some fn) :
    false = Tryd.pinned.checked.prog.looks [] ∧ ∀ (j : Nat) t, fn.params[j]? = some t → Tryd.pinned.checked.prog.wantsStandIn t = false := by
  obtain rfl : f = 5 := Option.some.inj ((show Tryd.prog.funcNamed "loop.example/g01073/laws.FnExactProjectOf" = some 5 by kernel_rfl).symm.trans hf) |>.symm
  obtain rfl : fn = Tryd.f5 := (Option.some.inj (Tryd.func5.symm.trans hfn)).symm
  exact ⟨by kernel_rfl, fun j t ht => noStand t (Array.mem_of_getElem? ht)⟩

/-- THE CARD. -/
theorem card : Rows.FnExactProjectOfCardSaid :=
  Claim7.holds_tied_plain_at .later [] _ _ _ _ said (fun _ h => by cases h) (by kernel_rfl) (fun _ h => by cases h) fnExactProjectOf_row_tie rfl ⟨rfl, rfl⟩ seatMain rfl plain (by kernel_rfl)
#print axioms card
end Go.Proofs.YtimjlcnljefbbaaDoor.fnExactProjectOf
