/- More on row reduction: the determinant of the steps is a field element; stores into two blocks in either order. -/
import Derived.Test.YtimjlcnljefbbaaLinAll
import Derived.Test.YtimjlcnljefbbaaMemB
namespace Go.Proofs.Ytimjlcnljefbbaa
open Go.RowKit
namespace Ints

theorem setCell_comm (w : World) {a b : Addr} (h : a.block ≠ b.block) (u v : Value) : (w.setCell a u).setCell b v = (w.setCell b v).setCell a u := by
  unfold World.setCell
  congr 1
  apply Array.ext_getElem?
  intro i
  simp only [Array.getElem?_modify]
  by_cases h1 : b.block = i
  · by_cases h2 : a.block = i
    · exact absurd (h2.trans h1.symm) h
    · simp [h1, h2]
  · by_cases h2 : a.block = i
    · simp [h1, h2]
    · simp [h1, h2]
theorem swapL_comm {L : List (List Int)} {i k : Nat} (hi : i < L.length) (hk : k < L.length) : swapL L i k = swapL L k i := by
  apply list_eq (by rw [swapL_length, swapL_length])
  intro q _
  rw [swapL_at hi hk, swapL_at hk hi]
  by_cases e : q = k
  · subst e
    by_cases e2 : q = i
    · subst e2; simp
    · simp [e2]
  · simp [e]
theorem Red.step_M (p : Int) (s : Red) (c k : Nat) : (Red.step p s c k).M = clearP p (Red.col c (Red.scaled p s.r c (swapL s.M s.r k) (swapL s.M s.r k))) s.r (Red.scaled p s.r c (swapL s.M s.r k) (swapL s.M s.r k)) s.M.length := by
  show clearP _ _ _ _ _ = _
  congr 1
  unfold Red.scaled
  rw [List.length_set, swapL_length]
theorem Red.step_T (p : Int) (s : Red) (c k : Nat) : (Red.step p s c k).T = clearP p (Red.col c (Red.scaled p s.r c (swapL s.M s.r k) (swapL s.M s.r k))) s.r (Red.scaled p s.r c (swapL s.M s.r k) (swapL s.T s.r k)) s.T.length := by
  show clearP _ _ _ _ _ = _
  congr 1
  unfold Red.scaled
  rw [List.length_set, swapL_length]
theorem clear_next {p : Int} {X : Nat → Int} {r i : Nat} {M : List (List Int)} (hi : i < M.length) (hr : r < M.length) (hne : i ≠ r) (hx : X i ≠ 0) :
    (clearP p X r M i).set i (lessRow p (X i) (lAt (clearP p X r M i) i) (lAt (clearP p X r M i) r)) = clearP p X r M (i + 1) := by
  rw [← clearP_step hi, clearP_next hi, clearP_row hr, clearRow, if_pos ⟨hne, hx⟩]
theorem detN_bounds {p : Int} (hp : 2 ≤ p) (s : Red) : ∀ c, 0 ≤ (Lin.detN p ⟨s, 1⟩ c).det ∧ (Lin.detN p ⟨s, 1⟩ c).det < p
  | 0 => by show 0 ≤ (1 : Int) ∧ (1 : Int) < p; omega
  | c + 1 => by
    have ih := detN_bounds hp s c
    show 0 ≤ (Lin.detCol p (Lin.detN p ⟨s, 1⟩ c) c).det ∧ (Lin.detCol p (Lin.detN p ⟨s, 1⟩ c) c).det < p
    unfold Lin.detCol
    simp only
    split
    · exact ⟨Int.emod_nonneg _ (by omega), Int.emod_lt_of_pos _ (by omega)⟩
    · exact ih
end Ints
end Go.Proofs.Ytimjlcnljefbbaa
