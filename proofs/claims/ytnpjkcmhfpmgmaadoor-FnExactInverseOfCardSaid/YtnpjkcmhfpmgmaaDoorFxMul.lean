/- fdMul -/
import Derived.Test.YtnpjkcmhfpmgmaaDoorFieldBase
namespace Go.Proofs.YtnpjkcmhfpmgmaaDoor
open Go.RowKit
namespace Fld

theorem fdMul_any (p a b : Int) (hp : 2 ≤ p) (hp' : p ≤ 97) (ha : 0 ≤ a) (ha' : a < p) (hb : 0 ≤ b) (hb' : b < p) (w : World) :
    Calls Tryd.prog 89 #[.int .i64 p, .int .i64 a, .int .i64 b] w fun e w' => e = .returned (.int .i64 (a * b % p)) ∧ w = w' := by
  have hp0 : (p == 0) = false := by simp; omega
  obtain ⟨m0, m1⟩ := mul_bounds hp' ha ha' hb hb'
  go_enter Tryd.func89, Tryd.ntmps89
  go_wp2
  go_ret
  exact ⟨rfl, rfl⟩

end Fld
end Go.Proofs.YtnpjkcmhfpmgmaaDoor
