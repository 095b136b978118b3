/- One step of a reduction: the same row operation in both lists. -/
import Derived.Test.YtimjlcnljefbbaaApply
namespace Go.Proofs.Ytimjlcnljefbbaa
open Go.RowKit
namespace Ints

/-- What the step's closure holds: the prime, the rows, the other rows, each in a box of its own. -/
def Held (S S' : Nat → Prop) (p : Int) (vA vT : Value) (gp gr ga : Nat) (W : World) : Prop :=
  W.cell? ⟨gp, 0, none⟩ = some (.int .i64 p) ∧ W.cell? ⟨gr, 0, none⟩ = some vA ∧ W.cell? ⟨ga, 0, none⟩ = some vT ∧ (¬ S gp ∧ ¬ S' gp) ∧ (¬ S gr ∧ ¬ S' gr) ∧ (¬ S ga ∧ ¬ S' ga)
theorem Held.chg {S S' : Nat → Prop} {p : Int} {vA vT : Value} {gp gr ga : Nat} {W W' : World} (h : Held S S' p vA vT gp gr ga W) (hc : Chg (fun g => S g ∨ S' g) W W') : Held S S' p vA vT gp gr ga W' :=
  ⟨hc.keep h.1 fun e => by rcases e with e | e; exact h.2.2.2.1.1 e; exact h.2.2.2.1.2 e, hc.keep h.2.1 fun e => by rcases e with e | e; exact h.2.2.2.2.1.1 e; exact h.2.2.2.2.1.2 e, hc.keep h.2.2.1 fun e => by rcases e with e | e; exact h.2.2.2.2.2.1 e; exact h.2.2.2.2.2.2 e, h.2.2.2⟩

end Ints
end Go.Proofs.Ytimjlcnljefbbaa
