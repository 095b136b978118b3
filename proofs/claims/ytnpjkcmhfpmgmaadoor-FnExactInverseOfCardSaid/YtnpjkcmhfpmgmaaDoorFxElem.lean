/- isElement -/
import Derived.Test.YtnpjkcmhfpmgmaaDoorFieldBase
namespace Go.Proofs.YtnpjkcmhfpmgmaaDoor
open Go.RowKit
namespace Fld

set_option maxHeartbeats 400000 in
theorem isElement_any (p a : Int) (w : World) :
    Calls Tryd.prog 102 #[.int .i64 p, .int .i64 a] w fun e w' => e = .returned (.bool (inB p a)) ∧ w = w' := by
  by_cases h : 0 ≤ a
  · have h1 : decide (0 ≤ a) = true := by simpa using h
    have e1 : inB p a = decide (a < p) := by simp [inB, h]
    rw [e1]
    clear h e1
    go_enter Tryd.func102, Tryd.ntmps102
    go_wp2
    go_ret
    exact ⟨by simp, rfl⟩
  · have h1 : decide (0 ≤ a) = false := by simpa using h
    have e1 : inB p a = false := by simp [inB, h]
    rw [e1]
    clear h e1
    go_enter Tryd.func102, Tryd.ntmps102
    go_wp2
    go_ret
    exact ⟨by simp, rfl⟩

end Fld
end Go.Proofs.YtnpjkcmhfpmgmaaDoor
