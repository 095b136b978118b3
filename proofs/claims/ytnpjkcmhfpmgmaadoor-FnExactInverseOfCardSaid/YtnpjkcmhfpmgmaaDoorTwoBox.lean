/- Two structs of a number and rows, made side by side. -/
import Derived.Test.YtnpjkcmhfpmgmaaDoorMatAt
namespace Go.Proofs.YtnpjkcmhfpmgmaaDoor
open Go.RowKit
namespace Ints

theorem boxIn_new2 {c X W : World} {ty ty2 : TypeId} (h : Below c.heap.size c X) (hb : Below ((X.alloc (.cells #[.int .i64 0, .slice none 0 0] ty)).alloc (.cells #[.int .i64 0, .slice none 0 0] ty2)).heap.size ((X.alloc (.cells #[.int .i64 0, .slice none 0 0] ty)).alloc (.cells #[.int .i64 0, .slice none 0 0] ty2)) W) : BoxIn c W X.heap.size ∧ BoxIn c W (X.heap.size + 1) := by
  have hb0 : Below (X.alloc (.cells #[.int .i64 0, .slice none 0 0] ty)).heap.size (X.alloc (.cells #[.int .i64 0, .slice none 0 0] ty)) W := ((Below.refl _ _).alloc (Nat.le_refl _) _).trans (hb.mono (by simp))
  have h1 := boxIn_new (X := X.alloc (.cells #[.int .i64 0, .slice none 0 0] ty)) (h.alloc h.size _) hb
  rw [show (X.alloc (.cells #[.int .i64 0, .slice none 0 0] ty)).heap.size = X.heap.size + 1 by simp] at h1
  exact ⟨boxIn_new h hb0, h1⟩
theorem boxIn_new2' {c W : World} {ty ty2 : TypeId} (hb : Below ((c.alloc (.cells #[.int .i64 0, .slice none 0 0] ty)).alloc (.cells #[.int .i64 0, .slice none 0 0] ty2)).drew.heap.size ((c.alloc (.cells #[.int .i64 0, .slice none 0 0] ty)).alloc (.cells #[.int .i64 0, .slice none 0 0] ty2)).drew W) : BoxIn c W c.heap.size ∧ BoxIn c W (c.heap.size + 1) :=
  boxIn_new2 (X := c) (Below.refl _ _) ⟨hb.os, hb.tape, hb.output, hb.size, hb.block⟩

/-- Two structs in new blocks, their rows apart from each other. -/
def TwoBox (c : World) (d1 : Int) (R1 : List (List Int)) (d2 : Int) (R2 : List (List Int)) (t1 t2 : Value) (W : World) : Prop :=
  ∃ (b1 b2 m : Nat) (v1 v2 : Value), t1 = .pointer (some ⟨b1, 0, none⟩) ∧ t2 = .pointer (some ⟨b2, 0, none⟩) ∧ (W.cell? ⟨b1, 0, none⟩ = some (.int .i64 d1) ∧ W.cell? ⟨b1, 1, none⟩ = some v1 ∧ W.cell? ⟨b2, 0, none⟩ = some (.int .i64 d2) ∧ W.cell? ⟨b2, 1, none⟩ = some v2) ∧
    OwnsM (fun g => c.heap.size ≤ g ∧ g < m ∧ g ≠ b1 ∧ g ≠ b2) W v1 R1 ∧ OwnsM (fun g => m ≤ g ∧ g < W.heap.size ∧ g ≠ b1 ∧ g ≠ b2) W v2 R2 ∧ c.heap.size ≤ m ∧ c.heap.size ≤ b1 ∧ b1 < W.heap.size ∧ c.heap.size ≤ b2 ∧ b2 < W.heap.size ∧ Below c.heap.size c W
theorem twoBox_mk {c W1 w1 W2 w2 W : World} {b1 b2 : Nat} {v1 v2 : Value} {d1 d2 : Int} {R1 R2 : List (List Int)} (hcW : Below c.heap.size c W1) (hb1 : Below W1.heap.size W1 w1) (h1 : OwnsM (W1.heap.size ≤ ·) w1 v1 R1) (h12 : Below w1.heap.size w1 W2) (hb2 : Below W2.heap.size W2 w2) (h2 : OwnsM (W2.heap.size ≤ ·) w2 v2 R2)
    (hc : Chg (fun g => g = b1 ∨ g = b2) w2 W) (hcells : W.cell? ⟨b1, 0, none⟩ = some (.int .i64 d1) ∧ W.cell? ⟨b1, 1, none⟩ = some v1 ∧ W.cell? ⟨b2, 0, none⟩ = some (.int .i64 d2) ∧ W.cell? ⟨b2, 1, none⟩ = some v2)
    (p1 : b1 < W1.heap.size ∨ w1.heap.size ≤ b1) (p2 : b2 < W1.heap.size ∨ w1.heap.size ≤ b2) (q1 : b1 < W2.heap.size ∨ w2.heap.size ≤ b1) (q2 : b2 < W2.heap.size ∨ w2.heap.size ≤ b2) (r1 : c.heap.size ≤ b1) (r2 : c.heap.size ≤ b2) :
    TwoBox c d1 R1 d2 R2 (.pointer (some ⟨b1, 0, none⟩)) (.pointer (some ⟨b2, 0, none⟩)) W := by
  have s0 := hcW.size
  have s1 := hb1.size
  have s2 := h12.size
  have s3 := hb2.size
  have s4 := hc.size
  have e1 := lt_of_cell hcells.1
  have e2 := lt_of_cell hcells.2.2.1
  simp only at e1 e2
  refine ⟨b1, b2, w1.heap.size, v1, v2, rfl, rfl, hcells, ?_, ?_, by omega, r1, e1, r2, e2, ?_⟩
  · exact (((h1.bound.below h12).below hb2).chg hc fun g hg e => by rcases e with e | e <;> omega).mono fun g hg => by omega
  · exact (h2.bound.chg hc fun g hg e => by rcases e with e | e <;> omega).mono fun g hg => by omega
  · exact (((hcW.trans (hb1.mono s0)).trans (h12.mono (by omega))).trans (hb2.mono (by omega))).trans (hc.below (by omega) fun g hg => by rcases hg with e | e <;> omega)

end Ints
end Go.Proofs.YtnpjkcmhfpmgmaaDoor
