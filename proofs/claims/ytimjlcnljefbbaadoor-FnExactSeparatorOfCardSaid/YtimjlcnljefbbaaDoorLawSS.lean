/- The laws' helpers over lists of lists, in the form in which the laws' walks ask for them; what OptMat is for a list of lists alone, and for one more number. -/
import Derived.Test.YtimjlcnljefbbaaDoorLawBase
import Derived.Test.YtimjlcnljefbbaaDoorMatBox
namespace Go.Proofs.YtimjlcnljefbbaaDoor
open Go.RowKit
namespace Ints

theorem szIntSS_b (v : Value) (L : List (List Int)) (left : Int) (h0 : 0 ≤ left) (hl : left ≤ 1048576) (w : World) (h : ReadsM w v L) :
    Calls Tryd.prog 38 #[v, .int .i64 left] w fun e w' => e = .returned (.int .i64 (szN (tot L) left)) ∧ Below w.heap.size w w' :=
  (szIntSS_any v L left h0 hl w h).mono fun e w' h => ⟨h.1, by rw [← h.2]; exact Below.refl _ _⟩
theorem eqIntSS_same (va vb : Value) (L : List (List Int)) (w : World) (ha : ReadsM w va L) (hb : ReadsM w vb L) :
    Calls Tryd.prog 46 #[va, vb] w fun e w' => e = .returned (.bool true) ∧ Below w.heap.size w w' :=
  (eqIntSS_any va vb L L w ha hb).mono fun e w' h => ⟨by rw [h.1]; simp, h.2.below _⟩
theorem heldIntSS_b (v : Value) (L : List (List Int)) (k : Int) (hk : 0 ≤ k) (hb : k + sumL L ≤ 1000000000) (w : World) (h : ReadsM w v (marksL k L)) :
    Calls Tryd.prog 48 #[v, .int .i64 k] w fun e w' => e = .returned (.int .i64 (k + sumL L)) ∧ Below w.heap.size w w' :=
  (heldIntSS_any v L k hk hb w h).mono fun e w' h => ⟨h.1, by rw [← h.2]; exact Below.refl _ _⟩

end Ints
end Go.Proofs.YtimjlcnljefbbaaDoor
