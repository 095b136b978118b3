/- Is it a matrix? The reference's functions. Is it a matrix? The program's functions. -/
import Derived.Test.YtoegbphkheohoaaPredPlain
import Derived.Test.YtoegbphkheohoaaFx
namespace Go.Proofs.Ytoegbphkheohoaa
open Go.RowKit
namespace Ints
open Fld (goodB inB inR inR_eq inR_true inR_mk inR_no good_bounds l1In_any)

end Ints
end Go.Proofs.Ytoegbphkheohoaa

namespace Go.Proofs.Ytoegbphkheohoaa
open Go.RowKit
namespace Ints
open Fld (goodB inB inR inR_eq inR_true inR_mk inR_no good_bounds tab_alloc)

set_option maxHeartbeats 400000 in
theorem within_any (n lo hi : Int) (w : World) :
    Calls Try.prog 56 #[.int .i64 n, .int .i64 lo, .int .i64 hi] w fun e w' => e = .returned (.bool (inR n lo hi)) ∧ w = w' := by
  by_cases h : lo ≤ n
  · have h1 : decide (lo ≤ n) = true := by simpa using h
    have e1 : inR n lo hi = decide (n ≤ hi) := by simp [inR, h]
    rw [e1]
    clear h e1
    go_enter Try.func56, Try.ntmps56
    go_wp2
    go_ret
    exact ⟨by simp, rfl⟩
  · have h1 : decide (lo ≤ n) = false := by simpa using h
    have e1 : inR n lo hi = false := by simp [inR, h]
    rw [e1]
    clear h e1
    go_enter Try.func56, Try.ntmps56
    go_wp2
    go_ret
    exact ⟨by simp, rfl⟩

end Ints
end Go.Proofs.Ytoegbphkheohoaa
