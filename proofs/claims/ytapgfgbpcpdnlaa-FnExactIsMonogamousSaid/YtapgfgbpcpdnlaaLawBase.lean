/- What the laws' walks over matrices share. -/
import Derived.Test.YtapgfgbpcpdnlaaMemB
import Derived.Test.YtapgfgbpcpdnlaaMatLawBase
import Derived.WalkSpells
namespace Go.Proofs.Ytapgfgbpcpdnlaa
open Go.RowKit
namespace Ints

/-- The new cells of a struct of a number and a list of lists, still nothing. -/
def BoxIn (c W : World) (b : Nat) : Prop := c.heap.size ≤ b ∧ b < W.heap.size ∧ W.cell? ⟨b, 0, none⟩ = some (.int .i64 0) ∧ W.cell? ⟨b, 1, none⟩ = some (.slice none 0 0) ∧ W.frozen? ⟨b, 0, none⟩ = false ∧ W.frozen? ⟨b, 1, none⟩ = false
theorem boxIn_new {c X W : World} {ty : TypeId} (h : Below c.heap.size c X) (hb : Below (X.alloc (.cells #[.int .i64 0, .slice none 0 0] ty)).heap.size (X.alloc (.cells #[.int .i64 0, .slice none 0 0] ty)) W) : BoxIn c W X.heap.size :=
  ⟨h.size, by have := hb.size; simp at this; omega, cell_old hb (by simp [go_sem]), cell_old hb (by simp [go_sem]), frozen_old hb (by simp) (by simp [go_sem]), frozen_old hb (by simp) (by simp [go_sem])⟩
theorem boxIn_new' {c W : World} {ty : TypeId} (hb : Below (c.alloc (.cells #[.int .i64 0, .slice none 0 0] ty)).drew.heap.size (c.alloc (.cells #[.int .i64 0, .slice none 0 0] ty)).drew W) : BoxIn c W c.heap.size :=
  boxIn_new (X := c) (Below.refl _ _) ⟨hb.os, hb.tape, hb.output, hb.size, hb.block⟩
theorem BoxIn.keep {c W W' : World} {b : Nat} (h : BoxIn c W b) (hb : Below W.heap.size W W') : BoxIn c W' b :=
  ⟨h.1, Nat.lt_of_lt_of_le h.2.1 hb.size, cell_old hb h.2.2.1, cell_old hb h.2.2.2.1, frozen_old hb h.2.1 h.2.2.2.2.1, frozen_old hb h.2.1 h.2.2.2.2.2⟩
theorem outBox_put {c W : World} {b m : Nat} {a : Option Addr} {k : Nat} {A : List (List Int)} (d : Int) (h : Below c.heap.size c W) (ho : OwnsM (m ≤ ·) W (.slice a A.length k) A) (q : BoxIn c W b) (hm : b < m) :
    OutBox c d A (.pointer (some ⟨b, 0, none⟩)) ((W.setCell ⟨b, 0, none⟩ (.int .i64 d)).setCell ⟨b, 1, none⟩ (.slice a A.length k)) := by
  have hc2 : Chg (fun g => g = b) W ((W.setCell ⟨b, 0, none⟩ (.int .i64 d)).setCell ⟨b, 1, none⟩ (.slice a A.length k)) :=
    (Chg.set1 W ⟨b, 0, none⟩ _).setCell (p := ⟨b, 1, none⟩) (fun _ => rfl) _
  have hq := q.1
  have c0 := q.2.2.1
  have c1 := q.2.2.2.1
  refine ⟨b, a, k, rfl, by simp [go_sem, c0], by simp [go_sem, c1], ?_, hq, by simpa using q.2.1, h.trans (hc2.below h.size fun g hg => by omega)⟩
  refine OwnsM.mono (OwnsM.chg (OwnsM.bound ho) hc2 fun g hg e => by omega) fun g hg => ?_
  refine ⟨by omega, by simp; omega, by omega⟩
theorem below_le {c W : World} (h : Below c.heap.size c W) : c.heap.size ≤ W.heap.size := h.size
theorem below_drewB {c W : World} (h : Below c.heap.size c W) : Below c.heap.size c W.drew := h.drew
theorem sum_le_mul (f : List Int → Nat) (b : Nat) : ∀ (L : List (List Int)), (∀ l ∈ L, f l ≤ b) → (L.map f).sum ≤ L.length * b
  | [], _ => by simp
  | l :: L, h => by
    have h1 := sum_le_mul f b L (fun x hx => h x (List.mem_cons_of_mem _ hx))
    have h2 := h l List.mem_cons_self
    simp only [List.map_cons, List.sum_cons, List.length_cons, Nat.add_mul, Nat.one_mul]
    omega
theorem sumL_tab (r c : Nat) (f : Nat → Nat → Int) : sumL (tabT r c f) ≤ r * c := by
  have := sum_le_mul List.length c (tabT r c f) (fun l hl => by
    simp only [tabT, List.mem_map] at hl
    obtain ⟨i, _, rfl⟩ := hl
    rw [rowT_length]; exact Nat.le_refl _)
  rw [tabT_length] at this
  exact this
theorem ctr_tab {r c : Nat} (hr : r ≤ 1000) (hc : c ≤ 1000) (f : Nat → Nat → Int) : (1 : Int) + (sumL (tabT r c f) : Int) ≤ 1000000000 := by
  have h1 := sumL_tab r c f
  have h2 : r * c ≤ 1000 * 1000 := Nat.mul_le_mul hr hc
  omega
theorem ctr_nil : (1 : Int) + (sumL [] : Int) ≤ 1000000000 := by simp [sumL]

end Ints
end Go.Proofs.Ytapgfgbpcpdnlaa
