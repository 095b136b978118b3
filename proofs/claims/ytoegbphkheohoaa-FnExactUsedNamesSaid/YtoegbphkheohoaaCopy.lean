/- Copies of terms and libraries: the program's and the reference's. -/
import Derived.Test.YtoegbphkheohoaaNodeE
import Derived.Test.YtoegbphkheohoaaStack
import Derived.Lib.SliceRun
namespace Go.Proofs.Ytoegbphkheohoaa
open Go.RowKit
namespace Ints

theorem ofN_take_succ (ns : List NodeL) (k : Nat) (h : k < ns.length) : ofN (ns.take (k + 1)) = ofN (ns.take k) ++ cellsN (nAt ns k) := by
  rw [take_oneN ns k h, ofN_append]
  simp [ofN]
/-- A row of nodes of the call's own, as an owned slice. -/
theorem ownsN_row {w : World} {base : Nat} {v : Value} {ns : List NodeL} {n : Nat} (h : w.ownsRow base 71 3 v n (ofN ns)) (hn : ns.length = n) (hm : n ≤ maxLen) : OwnsN (base ≤ ·) w v ns := by
  subst hn
  exact owns_of_row h hm

/-- What 'append([]Node{}, nodes...)' starts from, and what it leaves. -/
theorem own_lit {W : World} {b : Nat} (e : TypeId) (size : Nat) (hs : W.heap.size = b) : (W.alloc (.cells #[] e)).ownsRow b e size (.slice (some ⟨b, 0, none⟩) 0 0) 0 [] := by
  subst hs
  exact World.ownsRow_lit (base := W.heap.size) (size := size) (e := e) W #[] 0 (Nat.le_refl _) (Nat.zero_le _) (by simp)

end Ints
end Go.Proofs.Ytoegbphkheohoaa
