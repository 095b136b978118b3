/- A name replaced by its definition's body: the plain law, and the reference's walk. -/
import Derived.Test.YtoegbphkheohoaaCopy
import Derived.Test.YtoegbphkheohoaaSizeP
import Derived.Deep.RegionHeld3
import Derived.Deep.DeepCutAuto
namespace Go.Proofs.Ytoegbphkheohoaa
open Go.RowKit
namespace Ints

def inlS (d : DefL) (n : NodeL) : List NodeL := if n.kind = 17 ∧ n.name.toList = d.name.toList then d.body else [n]
def inlN (d : DefL) (ns : List NodeL) : List NodeL := (ns.map (inlS d)).flatten
theorem inlN_succ (d : DefL) (ns : List NodeL) (k : Nat) (h : k < ns.length) : inlN d (ns.take (k + 1)) = inlN d (ns.take k) ++ inlS d (nAt ns k) := by
  unfold inlN
  rw [take_oneN ns k h]
  simp
theorem inlN_append (d : DefL) (a b : List NodeL) : inlN d (a ++ b) = inlN d a ++ inlN d b := by simp [inlN]
theorem inlN_le (d : DefL) (ns : List NodeL) : (inlN d ns).length ≤ ns.length * (1 + d.body.length) := by
  induction ns with
  | nil => simp [inlN]
  | cons n ns ih =>
    have h1 : (inlS d n).length ≤ 1 + d.body.length := by
      unfold inlS
      split
      · omega
      · simp
    have h2 : inlN d (n :: ns) = inlS d n ++ inlN d ns := by simp [inlN]
    rw [h2, List.length_append, List.length_cons, Nat.add_mul, Nat.one_mul]
    omega
theorem inlN_part (d : DefL) (ns : List NodeL) (k : Nat) : (inlN d (ns.take k)).length ≤ (inlN d ns).length := by
  have h : inlN d ns = inlN d (ns.take k) ++ inlN d (ns.drop k) := by rw [← inlN_append, List.take_append_drop]
  rw [h, List.length_append]
  omega

end Ints
end Go.Proofs.Ytoegbphkheohoaa
