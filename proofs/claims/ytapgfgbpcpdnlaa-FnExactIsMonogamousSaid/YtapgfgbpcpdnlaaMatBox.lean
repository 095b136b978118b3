/- A struct of a number and a list of lists in a block that may be written. Two structs of a number and rows, made side by side. -/
import Derived.Test.YtapgfgbpcpdnlaaMemB
import Derived.Test.YtapgfgbpcpdnlaaLawBase
namespace Go.Proofs.Ytapgfgbpcpdnlaa
open Go.RowKit
namespace Ints

/-- A struct of a number and a list of lists in block b, that lies elsewhere; it may be written. -/
def MatAt (S : Nat → Prop) (W : World) (b : Nat) (c : Int) (L : List (List Int)) (v : Value) : Prop :=
  W.cell? ⟨b, 0, none⟩ = some (.int .i64 c) ∧ W.cell? ⟨b, 1, none⟩ = some v ∧ W.frozen? ⟨b, 0, none⟩ = false ∧ W.frozen? ⟨b, 1, none⟩ = false ∧ InM S W v L
theorem MatAt.below {S : Nat → Prop} {W W' : World} {b : Nat} {c : Int} {L : List (List Int)} {v : Value} (h : MatAt S W b c L v) (hb : Below W.heap.size W W') : MatAt S W' b c L v :=
  ⟨cell_old hb h.1, cell_old hb h.2.1, frozen_old hb (lt_of_cell h.1) h.2.2.1, frozen_old hb (lt_of_cell h.2.1) h.2.2.2.1, h.2.2.2.2.below hb⟩
theorem MatAt.chg {S T : Nat → Prop} {W W' : World} {b : Nat} {c : Int} {L : List (List Int)} {v : Value} (h : MatAt S W b c L v) (hc : Chg T W W') (hb : ¬ T b) (hd : ∀ g, g < W.heap.size → S g → ¬ T g) : MatAt S W' b c L v :=
  ⟨hc.keep h.1 hb, hc.keep h.2.1 hb, hc.keepF h.2.2.1 (lt_of_cell h.1) hb, hc.keepF h.2.2.2.1 (lt_of_cell h.2.1) hb, h.2.2.2.2.chg hc hd⟩
theorem MatAt.form {S : Nat → Prop} {W : World} {b : Nat} {c : Int} {L : List (List Int)} {v : Value} (h : MatAt S W b c L v) : ∃ s k, v = .slice s L.length k := h.2.2.2.2.reads.form
theorem matAt_chg2 (W : World) (b : Nat) (x y : Value) : Chg (fun g => g = b) W ((W.setCell ⟨b, 0, none⟩ x).setCell ⟨b, 1, none⟩ y) :=
  (Chg.set1 W ⟨b, 0, none⟩ x).setCell (p := ⟨b, 1, none⟩) (fun _ => rfl) y
/-- Another matrix stored there. -/
theorem MatAt.store {S : Nat → Prop} {W : World} {b : Nat} {c d : Int} {L M : List (List Int)} {v u : Value} (h : MatAt S W b c L v) (hu : InM S W u M) (hS : ∀ g, S g → g ≠ b) : MatAt S ((W.setCell ⟨b, 0, none⟩ (.int .i64 d)).setCell ⟨b, 1, none⟩ u) b d M u := by
  obtain ⟨h1, h2, h3, h4, _⟩ := h
  have hc2 : Chg (fun g => g = b) W ((W.setCell ⟨b, 0, none⟩ (.int .i64 d)).setCell ⟨b, 1, none⟩ u) :=
    (Chg.set1 W ⟨b, 0, none⟩ _).setCell (p := ⟨b, 1, none⟩) (fun _ => rfl) _
  exact ⟨by simp [go_sem, h1], by simp [go_sem, h2], by simp [go_sem, h3], by simp [go_sem, h4], hu.chg hc2 fun g _ hg e => hS g hg e⟩

theorem matAt_nil {W : World} {b : Nat} (h0 : W.cell? ⟨b, 0, none⟩ = some (.int .i64 0)) (h1 : W.cell? ⟨b, 1, none⟩ = some (.slice none 0 0)) (f0 : W.frozen? ⟨b, 0, none⟩ = false) (f1 : W.frozen? ⟨b, 1, none⟩ = false) : MatAt (fun _ => False) W b 0 [] (.slice none 0 0) :=
  ⟨h0, h1, f0, f1, [], ⟨rfl, none, 0, rfl, Nat.le_refl _, Nat.zero_le _, fun h => by simp at h⟩, fun _ h => absurd rfl h, ⟨rfl, fun i hi => by simp at hi⟩, fun i hi => by simp at hi⟩
theorem MatAt.mono {S T : Nat → Prop} {W : World} {b : Nat} {c : Int} {L : List (List Int)} {v : Value} (h : MatAt S W b c L v) (hST : ∀ g, g < W.heap.size → S g → T g) : MatAt T W b c L v :=
  ⟨h.1, h.2.1, h.2.2.1, h.2.2.2.1, h.2.2.2.2.mono hST⟩
/-- A struct of a number and rows, all in new memory: its pointer; it may be written. -/
def OwnBox (w2 : World) (d : Int) (A : List (List Int)) (t : Value) (wx : World) : Prop :=
  ∃ (b : Nat) (v : Value), t = .pointer (some ⟨b, 0, none⟩) ∧ MatAt (fun g => w2.heap.size ≤ g ∧ g < wx.heap.size ∧ g ≠ b) wx b d A v ∧ OwnsM (fun g => w2.heap.size ≤ g ∧ g < wx.heap.size ∧ g ≠ b) wx v A ∧ w2.heap.size ≤ b ∧ b < wx.heap.size ∧ Below w2.heap.size w2 wx
theorem ownBox_alloc {w2 w3 : World} {v : Value} {A : List (List Int)} (d : Int) (ty : TypeId) (h : Below w2.heap.size w2 w3) (ho : OwnsM (w2.heap.size ≤ ·) w3 v A) :
    OwnBox w2 d A (.pointer (some ⟨w3.heap.size, 0, none⟩)) (w3.alloc (.cells #[.int .i64 d, v] ty)) := by
  have hb : Below w3.heap.size w3 (w3.alloc (.cells #[.int .i64 d, v] ty)) := (Below.refl _ _).alloc (Nat.le_refl _) _
  have ho2 := (ho.bound.below hb).mono (T := fun g => w2.heap.size ≤ g ∧ g < (w3.alloc (.cells #[.int .i64 d, v] ty)).heap.size ∧ g ≠ w3.heap.size) fun g hg => by simp; omega
  exact ⟨w3.heap.size, v, rfl, ⟨by simp [go_sem], by simp [go_sem], by simp [go_sem], by simp [go_sem], InM.of_owns ho2⟩, ho2, h.size, by simp, h.trans (hb.mono h.size)⟩
theorem ownBox_put {c W : World} {b m : Nat} {v : Value} {A : List (List Int)} (d : Int) (h : Below c.heap.size c W) (ho : OwnsM (m ≤ ·) W v A) (q : BoxIn c W b) (hm : b < m) :
    OwnBox c d A (.pointer (some ⟨b, 0, none⟩)) ((W.setCell ⟨b, 0, none⟩ (.int .i64 d)).setCell ⟨b, 1, none⟩ v) := by
  have hc2 := matAt_chg2 W b (.int .i64 d) v
  have hq := q.1
  have hq2 := q.2.1
  have c0 := q.2.2.1
  have c1 := q.2.2.2.1
  have f0 := q.2.2.2.2.1
  have f1 := q.2.2.2.2.2
  have ho2 := ((OwnsM.bound ho).chg hc2 fun g hg e => by omega).mono (T := fun g => c.heap.size ≤ g ∧ g < ((W.setCell ⟨b, 0, none⟩ (.int .i64 d)).setCell ⟨b, 1, none⟩ v).heap.size ∧ g ≠ b) fun g hg => ⟨by omega, by simp; omega, by omega⟩
  exact ⟨b, v, rfl, ⟨by simp [go_sem, c0], by simp [go_sem, c1], by simp [go_sem, f0], by simp [go_sem, f1], InM.of_owns ho2⟩, ho2, hq, by simpa using hq2, h.trans (hc2.below h.size fun g hg => by omega)⟩

end Ints
end Go.Proofs.Ytapgfgbpcpdnlaa

namespace Go.Proofs.Ytapgfgbpcpdnlaa
open Go.RowKit
namespace Ints

theorem boxIn_new2 {c X W : World} {ty ty2 : TypeId} (h : Below c.heap.size c X) (hb : Below ((X.alloc (.cells #[.int .i64 0, .slice none 0 0] ty)).alloc (.cells #[.int .i64 0, .slice none 0 0] ty2)).heap.size ((X.alloc (.cells #[.int .i64 0, .slice none 0 0] ty)).alloc (.cells #[.int .i64 0, .slice none 0 0] ty2)) W) : BoxIn c W X.heap.size ∧ BoxIn c W (X.heap.size + 1) := by
  have hb0 : Below (X.alloc (.cells #[.int .i64 0, .slice none 0 0] ty)).heap.size (X.alloc (.cells #[.int .i64 0, .slice none 0 0] ty)) W := ((Below.refl _ _).alloc (Nat.le_refl _) _).trans (hb.mono (by simp))
  have h1 := boxIn_new (X := X.alloc (.cells #[.int .i64 0, .slice none 0 0] ty)) (h.alloc h.size _) hb
  rw [show (X.alloc (.cells #[.int .i64 0, .slice none 0 0] ty)).heap.size = X.heap.size + 1 by simp] at h1
  exact ⟨boxIn_new h hb0, h1⟩
theorem boxIn_new2' {c W : World} {ty ty2 : TypeId} (hb : Below ((c.alloc (.cells #[.int .i64 0, .slice none 0 0] ty)).alloc (.cells #[.int .i64 0, .slice none 0 0] ty2)).drew.heap.size ((c.alloc (.cells #[.int .i64 0, .slice none 0 0] ty)).alloc (.cells #[.int .i64 0, .slice none 0 0] ty2)).drew W) : BoxIn c W c.heap.size ∧ BoxIn c W (c.heap.size + 1) :=
  boxIn_new2 (X := c) (Below.refl _ _) ⟨hb.os, hb.tape, hb.output, hb.size, hb.block⟩

/-- Two structs in new blocks, their rows apart from each other. -/
def TwoBox (c : World) (d1 : Int) (R1 : List (List Int)) (d2 : Int) (R2 : List (List Int)) (t1 t2 : Value) (W : World) : Prop :=
  ∃ (b1 b2 m : Nat) (v1 v2 : Value), t1 = .pointer (some ⟨b1, 0, none⟩) ∧ t2 = .pointer (some ⟨b2, 0, none⟩) ∧ (W.cell? ⟨b1, 0, none⟩ = some (.int .i64 d1) ∧ W.cell? ⟨b1, 1, none⟩ = some v1 ∧ W.cell? ⟨b2, 0, none⟩ = some (.int .i64 d2) ∧ W.cell? ⟨b2, 1, none⟩ = some v2) ∧
    OwnsM (fun g => c.heap.size ≤ g ∧ g < m ∧ g ≠ b1 ∧ g ≠ b2) W v1 R1 ∧ OwnsM (fun g => m ≤ g ∧ g < W.heap.size ∧ g ≠ b1 ∧ g ≠ b2) W v2 R2 ∧ c.heap.size ≤ m ∧ c.heap.size ≤ b1 ∧ b1 < W.heap.size ∧ c.heap.size ≤ b2 ∧ b2 < W.heap.size ∧ Below c.heap.size c W
theorem twoBox_mk {c W1 w1 W2 w2 W : World} {b1 b2 : Nat} {v1 v2 : Value} {d1 d2 : Int} {R1 R2 : List (List Int)} (hcW : Below c.heap.size c W1) (hb1 : Below W1.heap.size W1 w1) (h1 : OwnsM (W1.heap.size ≤ ·) w1 v1 R1) (h12 : Below w1.heap.size w1 W2) (hb2 : Below W2.heap.size W2 w2) (h2 : OwnsM (W2.heap.size ≤ ·) w2 v2 R2)
    (hc : Chg (fun g => g = b1 ∨ g = b2) w2 W) (hcells : W.cell? ⟨b1, 0, none⟩ = some (.int .i64 d1) ∧ W.cell? ⟨b1, 1, none⟩ = some v1 ∧ W.cell? ⟨b2, 0, none⟩ = some (.int .i64 d2) ∧ W.cell? ⟨b2, 1, none⟩ = some v2)
    (p1 : b1 < W1.heap.size ∨ w1.heap.size ≤ b1) (p2 : b2 < W1.heap.size ∨ w1.heap.size ≤ b2) (q1 : b1 < W2.heap.size ∨ w2.heap.size ≤ b1) (q2 : b2 < W2.heap.size ∨ w2.heap.size ≤ b2) (r1 : c.heap.size ≤ b1) (r2 : c.heap.size ≤ b2) :
    TwoBox c d1 R1 d2 R2 (.pointer (some ⟨b1, 0, none⟩)) (.pointer (some ⟨b2, 0, none⟩)) W := by
  have s0 := hcW.size
  have s1 := hb1.size
  have s2 := h12.size
  have s3 := hb2.size
  have s4 := hc.size
  have e1 := lt_of_cell hcells.1
  have e2 := lt_of_cell hcells.2.2.1
  simp only at e1 e2
  refine ⟨b1, b2, w1.heap.size, v1, v2, rfl, rfl, hcells, ?_, ?_, by omega, r1, e1, r2, e2, ?_⟩
  · exact (((h1.bound.below h12).below hb2).chg hc fun g hg e => by rcases e with e | e <;> omega).mono fun g hg => by omega
  · exact (h2.bound.chg hc fun g hg e => by rcases e with e | e <;> omega).mono fun g hg => by omega
  · exact (((hcW.trans (hb1.mono s0)).trans (h12.mono (by omega))).trans (hb2.mono (by omega))).trans (hc.below (by omega) fun g hg => by rcases hg with e | e <;> omega)

end Ints
end Go.Proofs.Ytapgfgbpcpdnlaa
