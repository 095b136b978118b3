/- The program's and the reference's functions on one list: zeros, copies, multiples. The reference's functions on one list that turn it in its place. -/
import Derived.Test.YtapgfgbpcpdnlaaMemB
import Derived.Test.YtapgfgbpcpdnlaaFx
import Derived.Deep.RegionHeld3
import Derived.Deep.AppendLies
import Derived.Deep.RegionLaw
namespace Go.Proofs.Ytapgfgbpcpdnlaa
open Go.RowKit
namespace Ints
-- nothing of it here

/-- A row of which the first k places have been turned. -/
def part (n k : Nat) (f g : Nat → Int) : List Int := rowT n fun j => if j < k then f j else g j
theorem part_zero {n : Nat} {f g : Nat → Int} : part n 0 f g = rowT n g := rowT_congr fun j _ => by simp
theorem part_end {n : Nat} {f g : Nat → Int} : part n n f g = rowT n f := rowT_congr fun j hj => by simp [hj]
theorem part_length {n k : Nat} {f g : Nat → Int} : (part n k f g).length = n := rowT_length _ _
theorem part_at {n k : Nat} {f g : Nat → Int} (h : k < n) : (part n k f g)[k]?.getD 0 = g k := by rw [part, rowT_at h]; simp
theorem part_set {n k : Nat} {f g : Nat → Int} : (part n k f g).set k (f k) = part n (k + 1) f g := by
  rw [part, rowT_set]
  apply rowT_congr
  intro j _
  by_cases e : j = k
  · subst e; simp
  · by_cases h : j < k
    · simp [e, h, show j < k + 1 by omega]
    · simp [e, h, show ¬ j < k + 1 by omega]
theorem part_start {l : List Int} {n : Nat} {f : Nat → Int} (h : l.length = n) : l = part n 0 f fun j => l[j]?.getD 0 := by rw [part_zero]; exact row_eq h

theorem times_bounds {b x : Int} (hb : -10000 ≤ b) (hb' : b ≤ 10000) (hx : 0 ≤ x) (hx' : x < 97) : -970000 ≤ b * x ∧ b * x ≤ 970000 := by
  have h1 : b * x ≤ 10000 * x := Int.mul_le_mul_of_nonneg_right hb' hx
  have h2 : -10000 * x ≤ b * x := Int.mul_le_mul_of_nonneg_right hb hx
  omega

end Ints
end Go.Proofs.Ytapgfgbpcpdnlaa

namespace Go.Proofs.Ytapgfgbpcpdnlaa
open Go.RowKit
namespace Ints
open Fld (mul_bounds)

theorem less_mod (p x b y : Int) : (x + p - (b * y % p)) % p = (x + -b * y) % p := by
  rw [show x + p - (b * y % p) = (x + -(b * y % p)) + p * 1 by omega, Int.add_mul_emod_self_left]
  have h := Int.emod_add_mul_ediv (b * y) p
  rw [show x + -b * y = x + -(b * y % p) + p * -(b * y / p) by rw [Int.neg_mul, Int.mul_neg]; omega, Int.add_mul_emod_self_left]

end Ints
end Go.Proofs.Ytapgfgbpcpdnlaa
