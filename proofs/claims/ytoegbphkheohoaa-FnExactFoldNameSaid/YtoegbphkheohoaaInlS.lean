/- A term with a name replaced: both sides. -/
import Derived.Test.YtoegbphkheohoaaInlP
import Derived.Test.YtoegbphkheohoaaSizeS
import Derived.Test.YtoegbphkheohoaaBoxN
namespace Go.Proofs.Ytoegbphkheohoaa
open Go.RowKit
namespace Ints

def inlO (ds : List DefL) (ns : List NodeL) (s : ByteArray) : Option (List NodeL) := if (typI ds ns).isSome = true then (match findD ds s with
  | some k => if (inlN (dAt ds k) ns).length ≤ 400 then some (inlN (dAt ds k) ns) else none
  | none => none) else none
def inlR (ds : List DefL) (ns : List NodeL) (s : ByteArray) : List NodeL := (inlO ds ns s).getD []
def inlB (ds : List DefL) (ns : List NodeL) (s : ByteArray) : Bool := (inlO ds ns s).isSome
theorem typI_len {ds : List DefL} {ns : List NodeL} (h : (typI ds ns).isSome = true) : ns.length ≤ 400 ∧ libB ds = true := by
  cases ht : typI ds ns with
  | none => rw [ht] at h; cases h
  | some p =>
    obtain ⟨h1, h2⟩ := typI_lib ht
    unfold typeOf at h2
    split at h2
    · exact ⟨by omega, h1⟩
    · cases h2
theorem body_len {ds : List DefL} (h : libB ds = true) {k : Nat} (hk : k < ds.length) : (dAt ds k).body.length ≤ 400 := by
  have h2 := (defB_parts ((libB_all h).2.1 k hk)).2.2
  unfold typeOf at h2
  split at h2
  · omega
  · cases h2
theorem inlN_small {ds : List DefL} {ns : List NodeL} (h : (typI ds ns).isSome = true) {k : Nat} (hk : k < ds.length) : (inlN (dAt ds k) ns).length ≤ 1000000 := by
  obtain ⟨h1, h2⟩ := typI_len h
  have h3 := body_len h2 hk
  have h4 := inlN_le (dAt ds k) ns
  have h5 : ns.length * (1 + (dAt ds k).body.length) ≤ 400 * 401 := Nat.mul_le_mul h1 (by omega)
  omega

end Ints
end Go.Proofs.Ytoegbphkheohoaa
