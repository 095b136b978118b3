/- fdNeg -/
import Derived.Test.YtnpjkcmhfpmgmaaDoorFieldBase
namespace Go.Proofs.YtnpjkcmhfpmgmaaDoor
open Go.RowKit
namespace Fld

theorem fdNeg_any (p a : Int) (hp : 2 ≤ p) (hp' : p ≤ 97) (ha : 0 ≤ a) (ha' : a < p) (w : World) :
    Calls Tryd.prog 88 #[.int .i64 p, .int .i64 a] w fun e w' => e = .returned (.int .i64 ((p - a) % p)) ∧ w = w' := by
  have hp0 : (p == 0) = false := by simp; omega
  go_enter Tryd.func88, Tryd.ntmps88
  go_wp2
  go_ret
  exact ⟨rfl, rfl⟩

end Fld
end Go.Proofs.YtnpjkcmhfpmgmaaDoor
