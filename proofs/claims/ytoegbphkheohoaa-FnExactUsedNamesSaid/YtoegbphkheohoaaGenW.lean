/- The arities of the generators, both sides. -/
import Derived.Test.YtoegbphkheohoaaMemB
import Derived.Test.YtoegbphkheohoaaFx
namespace Go.Proofs.Ytoegbphkheohoaa
open Go.RowKit
namespace Ints
open Fld (inR)

def tmIn (k : Int) : Int := if k = 5 ∨ k = 9 then 2 else if k = 6 ∨ k = 10 then 0 else 1
def tmOut (k : Int) : Int := if k = 3 ∨ k = 11 then 2 else if k = 4 ∨ k = 12 then 0 else 1
def valB (k v : Int) : Bool := if k = 7 ∨ k = 13 then inR v 0 96 else v == 0
def edgeB (k v : Int) (a b : Nat) : Bool := inR k 3 14 && valB k v && ((a : Int) == tmIn k) && ((b : Int) == tmOut k)

theorem kinds_cases {k : Int} (h : inR k 3 14 = true) : k = 3 ∨ k = 4 ∨ k = 5 ∨ k = 6 ∨ k = 7 ∨ k = 8 ∨ k = 9 ∨ k = 10 ∨ k = 11 ∨ k = 12 ∨ k = 13 ∨ k = 14 := by
  unfold inR at h
  simp at h
  omega

set_option maxHeartbeats 1000000 in
theorem generatorWires_any (k : Int) (hk : inR k 3 14 = true) (w : World) : Calls Try.prog 69 #[.int .i64 k] w fun e w' => e = .returned (.agg #[.int .i64 (tmIn k), .int .i64 (tmOut k)]) ∧ Below w.heap.size w w' := by
  rcases kinds_cases hk with rfl | rfl | rfl | rfl | rfl | rfl | rfl | rfl | rfl | rfl | rfl | rfl
  all_goals
    go_enter Try.func69, Try.ntmps69
    go_wp2
    refine bodyPost_ret (v := .agg #[.int .i64 _, .int .i64 _]) (by simp [results, Try.results69, go_sem]; exact ⟨rfl, rfl⟩) rfl ?_
    exact ⟨rfl, by repeat (first | exact Below.refl _ _ | apply below_alloc)⟩

set_option maxHeartbeats 1000000 in
theorem tmKind_any (k : Int) (hk : inR k 3 14 = true) (w : World) : Calls Try.prog 60 #[.int .i64 k] w fun e w' => e = .returned (.tuple #[.int .i64 (tmIn k), .int .i64 (tmOut k)]) ∧ w = w' := by
  rcases kinds_cases hk with rfl | rfl | rfl | rfl | rfl | rfl | rfl | rfl | rfl | rfl | rfl | rfl
  all_goals
    go_enter Try.func60, Try.ntmps60
    go_wp2
    go_ret2
    exact ⟨rfl, rfl⟩

end Ints
end Go.Proofs.Ytoegbphkheohoaa
