/- A struct of a number and a list of lists in a block that may be written. -/
import Derived.Test.YtnpjkcmhfpmgmaaDoorMem5
import Derived.Test.YtnpjkcmhfpmgmaaDoorLawBase
namespace Go.Proofs.YtnpjkcmhfpmgmaaDoor
open Go.RowKit
namespace Ints

/-- A struct of a number and a list of lists in block b, that lies elsewhere; it may be written. -/
def MatAt (S : Nat → Prop) (W : World) (b : Nat) (c : Int) (L : List (List Int)) (v : Value) : Prop :=
  W.cell? ⟨b, 0, none⟩ = some (.int .i64 c) ∧ W.cell? ⟨b, 1, none⟩ = some v ∧ W.frozen? ⟨b, 0, none⟩ = false ∧ W.frozen? ⟨b, 1, none⟩ = false ∧ InM S W v L
theorem MatAt.below {S : Nat → Prop} {W W' : World} {b : Nat} {c : Int} {L : List (List Int)} {v : Value} (h : MatAt S W b c L v) (hb : Below W.heap.size W W') : MatAt S W' b c L v :=
  ⟨cell_old hb h.1, cell_old hb h.2.1, frozen_old hb (lt_of_cell h.1) h.2.2.1, frozen_old hb (lt_of_cell h.2.1) h.2.2.2.1, h.2.2.2.2.below hb⟩
theorem MatAt.chg {S T : Nat → Prop} {W W' : World} {b : Nat} {c : Int} {L : List (List Int)} {v : Value} (h : MatAt S W b c L v) (hc : Chg T W W') (hb : ¬ T b) (hd : ∀ g, g < W.heap.size → S g → ¬ T g) : MatAt S W' b c L v :=
  ⟨hc.keep h.1 hb, hc.keep h.2.1 hb, hc.keepF h.2.2.1 (lt_of_cell h.1) hb, hc.keepF h.2.2.2.1 (lt_of_cell h.2.1) hb, h.2.2.2.2.chg hc hd⟩
theorem MatAt.form {S : Nat → Prop} {W : World} {b : Nat} {c : Int} {L : List (List Int)} {v : Value} (h : MatAt S W b c L v) : ∃ s k, v = .slice s L.length k := h.2.2.2.2.reads.form
theorem matAt_chg2 (W : World) (b : Nat) (x y : Value) : Chg (fun g => g = b) W ((W.setCell ⟨b, 0, none⟩ x).setCell ⟨b, 1, none⟩ y) :=
  (Chg.set1 W ⟨b, 0, none⟩ x).setCell (p := ⟨b, 1, none⟩) (fun _ => rfl) y
/-- Another matrix stored there. -/
theorem MatAt.store {S : Nat → Prop} {W : World} {b : Nat} {c d : Int} {L M : List (List Int)} {v u : Value} (h : MatAt S W b c L v) (hu : InM S W u M) (hS : ∀ g, S g → g ≠ b) : MatAt S ((W.setCell ⟨b, 0, none⟩ (.int .i64 d)).setCell ⟨b, 1, none⟩ u) b d M u := by
  obtain ⟨h1, h2, h3, h4, _⟩ := h
  have hc2 : Chg (fun g => g = b) W ((W.setCell ⟨b, 0, none⟩ (.int .i64 d)).setCell ⟨b, 1, none⟩ u) :=
    (Chg.set1 W ⟨b, 0, none⟩ _).setCell (p := ⟨b, 1, none⟩) (fun _ => rfl) _
  exact ⟨by simp [go_sem, h1], by simp [go_sem, h2], by simp [go_sem, h3], by simp [go_sem, h4], hu.chg hc2 fun g _ hg e => hS g hg e⟩

theorem matAt_nil {W : World} {b : Nat} (h0 : W.cell? ⟨b, 0, none⟩ = some (.int .i64 0)) (h1 : W.cell? ⟨b, 1, none⟩ = some (.slice none 0 0)) (f0 : W.frozen? ⟨b, 0, none⟩ = false) (f1 : W.frozen? ⟨b, 1, none⟩ = false) : MatAt (fun _ => False) W b 0 [] (.slice none 0 0) :=
  ⟨h0, h1, f0, f1, [], ⟨rfl, none, 0, rfl, Nat.le_refl _, Nat.zero_le _, fun h => by simp at h⟩, fun _ h => absurd rfl h, ⟨rfl, fun i hi => by simp at hi⟩, fun i hi => by simp at hi⟩
theorem MatAt.mono {S T : Nat → Prop} {W : World} {b : Nat} {c : Int} {L : List (List Int)} {v : Value} (h : MatAt S W b c L v) (hST : ∀ g, g < W.heap.size → S g → T g) : MatAt T W b c L v :=
  ⟨h.1, h.2.1, h.2.2.1, h.2.2.2.1, h.2.2.2.2.mono hST⟩
/-- A struct of a number and rows, all in new memory: its pointer; it may be written. -/
def OwnBox (w2 : World) (d : Int) (A : List (List Int)) (t : Value) (wx : World) : Prop :=
  ∃ (b : Nat) (v : Value), t = .pointer (some ⟨b, 0, none⟩) ∧ MatAt (fun g => w2.heap.size ≤ g ∧ g < wx.heap.size ∧ g ≠ b) wx b d A v ∧ OwnsM (fun g => w2.heap.size ≤ g ∧ g < wx.heap.size ∧ g ≠ b) wx v A ∧ w2.heap.size ≤ b ∧ b < wx.heap.size ∧ Below w2.heap.size w2 wx
theorem ownBox_alloc {w2 w3 : World} {v : Value} {A : List (List Int)} (d : Int) (ty : TypeId) (h : Below w2.heap.size w2 w3) (ho : OwnsM (w2.heap.size ≤ ·) w3 v A) :
    OwnBox w2 d A (.pointer (some ⟨w3.heap.size, 0, none⟩)) (w3.alloc (.cells #[.int .i64 d, v] ty)) := by
  have hb : Below w3.heap.size w3 (w3.alloc (.cells #[.int .i64 d, v] ty)) := (Below.refl _ _).alloc (Nat.le_refl _) _
  have ho2 := (ho.bound.below hb).mono (T := fun g => w2.heap.size ≤ g ∧ g < (w3.alloc (.cells #[.int .i64 d, v] ty)).heap.size ∧ g ≠ w3.heap.size) fun g hg => by simp; omega
  exact ⟨w3.heap.size, v, rfl, ⟨by simp [go_sem], by simp [go_sem], by simp [go_sem], by simp [go_sem], InM.of_owns ho2⟩, ho2, h.size, by simp, h.trans (hb.mono h.size)⟩
theorem ownBox_put {c W : World} {b m : Nat} {v : Value} {A : List (List Int)} (d : Int) (h : Below c.heap.size c W) (ho : OwnsM (m ≤ ·) W v A) (q : BoxIn c W b) (hm : b < m) :
    OwnBox c d A (.pointer (some ⟨b, 0, none⟩)) ((W.setCell ⟨b, 0, none⟩ (.int .i64 d)).setCell ⟨b, 1, none⟩ v) := by
  have hc2 := matAt_chg2 W b (.int .i64 d) v
  have hq := q.1
  have hq2 := q.2.1
  have c0 := q.2.2.1
  have c1 := q.2.2.2.1
  have f0 := q.2.2.2.2.1
  have f1 := q.2.2.2.2.2
  have ho2 := ((OwnsM.bound ho).chg hc2 fun g hg e => by omega).mono (T := fun g => c.heap.size ≤ g ∧ g < ((W.setCell ⟨b, 0, none⟩ (.int .i64 d)).setCell ⟨b, 1, none⟩ v).heap.size ∧ g ≠ b) fun g hg => ⟨by omega, by simp; omega, by omega⟩
  exact ⟨b, v, rfl, ⟨by simp [go_sem, c0], by simp [go_sem, c1], by simp [go_sem, f0], by simp [go_sem, f1], InM.of_owns ho2⟩, ho2, hq, by simpa using hq2, h.trans (hc2.below h.size fun g hg => by omega)⟩

end Ints
end Go.Proofs.YtnpjkcmhfpmgmaaDoor
