/- Transpose, both. -/
import Derived.Test.YtmingbiiahoojaaDoorTransposed
import Derived.Test.YtmingbiiahoojaaDoorPredSpec
import Derived.Test.YtmingbiiahoojaaDoorPredImpl
import Derived.Test.YtmingbiiahoojaaDoorLawBase
import Derived.Deep.RegionLaw
import Derived.Deep.RegionHeld3
namespace Go.Proofs.YtmingbiiahoojaaDoor
open Go.RowKit
namespace Ints
open Fld (goodB inB inR tab_alloc)

/-- A matrix in new memory, and whether there is one. -/
def OptMat (w : World) (b : Bool) (d : Int) (R : List (List Int)) (e : Ending) (w' : World) : Prop :=
  ∃ v, e = .returned (.tuple #[.agg #[.int .i64 d, v], .bool b]) ∧ OwnsM (w.heap.size ≤ ·) w' v R ∧ Below w.heap.size w w'
theorem ownsM_nil (S : Nat → Prop) (w : World) : OwnsM S w (.slice none 0 0) [] :=
  ⟨[], ⟨rfl, none, 0, rfl, Nat.le_refl _, Nat.zero_le _, fun h => absurd h (by simp)⟩, fun g h => absurd rfl h, RowsOwn.nil _ _⟩

/-- What a matrix's predicate says, in numbers. -/
theorem mat_nats {p c : Int} {L : List (List Int)} (h : matB p c L = true) : ∃ n : Nat, c = n ∧ n ≤ 24 ∧ L.length ≤ 24 ∧ (2 ≤ p ∧ p ≤ 97) ∧ ElemsT p L.length n L := by
  obtain ⟨h1, ⟨h2, h3⟩, h4, _⟩ := mat_parts h
  refine ⟨c.toNat, by omega, by omega, h4, Fld.good_bounds h1, mat_elems h⟩

/-- A result that is laid into the cells of its variable at the end. -/
theorem optMat_end {w w1 w2 : World} {d : Int} {v : Value} {R : List (List Int)} (h1 : Below w.heap.size w w1) (h2 : Below w1.heap.size w1 w2) (ho : OwnsM (w1.heap.size ≤ ·) w2 v R) (hs : w.heap.size + 2 ≤ w1.heap.size) :
    OptMat w true d R (.returned (.tuple #[.agg #[.int .i64 d, v], .bool true])) ((w2.setCell ⟨w.heap.size + 1, 0, none⟩ (.int .i64 d)).setCell ⟨w.heap.size + 1, 1, none⟩ v) := by
  have hc2 : Chg (fun g => g = w.heap.size + 1) w2 ((w2.setCell ⟨w.heap.size + 1, 0, none⟩ (.int .i64 d)).setCell ⟨w.heap.size + 1, 1, none⟩ v) :=
    (Chg.set1 w2 ⟨w.heap.size + 1, 0, none⟩ _).setCell (p := ⟨w.heap.size + 1, 1, none⟩) (fun _ => rfl) _
  refine ⟨_, rfl, (ho.chg hc2 fun g hg e => by omega).mono fun g hg => by omega, ?_⟩
  exact ((h1.trans (h2.mono (by omega))).setCell (p := ⟨w.heap.size + 1, 0, none⟩) (by simp) _).setCell (p := ⟨w.heap.size + 1, 1, none⟩) (by simp) _

def turnOut (p c : Int) (L : List (List Int)) : List (List Int) := if matB p c L then turnT c.toNat L else []
theorem turnOut_ctr (p c : Int) (L : List (List Int)) : (1 : Int) + (sumL (turnOut p c L) : Int) ≤ 1000000000 := by
  unfold turnOut
  split
  · rename_i h
    obtain ⟨n, rfl, hn, hl, _⟩ := mat_nats h
    exact ctr_tab (by simp; omega) (by omega) _
  · exact ctr_nil
def turnCols (p c : Int) (L : List (List Int)) : Int := if matB p c L then L.length else 0

set_option maxHeartbeats 2000000 in
theorem specTranspose_any (p c : Int) (v : Value) (L : List (List Int)) (w : World) (h : ReadsM w v L) :
    Calls Tryd.prog 17 #[.int .i64 p, .agg #[.int .i64 c, v]] w (OptMat w (matB p c L) (turnCols p c L) (turnOut p c L)) := by
  have hB := Lib.hid (((Below.refl w.heap.size w).alloc (Nat.le_refl _) (.cells #[.int .i64 c, v] 27)).alloc (by simp) (.cells #[.int .i64 0, .slice none 0 0] 27))
  have hcall := Lib.hid (mxGood_any p c v L _ (h.below hB.out))
  have HL := Lib.hid h
  obtain ⟨a, cap, rfl⟩ := h.form
  clear h
  cases hb : matB p c L with
  | false =>
    have e1 : turnOut p c L = [] := by simp [turnOut, hb]
    have e2 : turnCols p c L = 0 := by simp [turnCols, hb]
    rw [e1, e2]
    rw [hb] at hcall
    clear hb e1 e2
    go_enter Tryd.func17, Tryd.ntmps17
    go_wp2_with fail
    refine hcall.out.mono ?_
    rintro e w1 ⟨rfl, hb1⟩
    have r0 : w1.cell? ⟨w.heap.size + 1, 0, none⟩ = some (.int .i64 0) := cell_old hb1 (by simp [go_sem])
    have r1 : w1.cell? ⟨w.heap.size + 1, 1, none⟩ = some (.slice none 0 0) := cell_old hb1 (by simp [go_sem])
    have f0 : w1.frozen? ⟨w.heap.size + 1, 0, none⟩ = false := frozen_old hb1 (by simp) (by simp [go_sem])
    have f1 : w1.frozen? ⟨w.heap.size + 1, 1, none⟩ = false := frozen_old hb1 (by simp) (by simp [go_sem])
    have HB1 := Lib.hid (hB.out.trans (hb1.mono hB.out.size))
    have hs1 : w.heap.size + 2 ≤ w1.heap.size := by have := hb1.size; simpa using this
    clear hb1 hcall hB
    go_wp2
    refine bodyPost_ret (v := .tuple #[.agg #[.int .i64 0, .slice none 0 0], .bool false]) (by simp [results, Tryd.results17, go_sem, r0, r1]) rfl ?_
    exact ⟨_, rfl, ownsM_nil _ _, (HB1.out.setCell (p := ⟨w.heap.size + 1, 0, none⟩) (by simp) _).setCell (p := ⟨w.heap.size + 1, 1, none⟩) (by simp) _⟩
  | true =>
    obtain ⟨n, rfl, hn, hl, _, hel⟩ := mat_nats hb
    have e1 : turnOut p n L = turnT n L := by simp [turnOut, hb]
    have e2 : turnCols p n L = L.length := by simp [turnCols, hb]
    rw [e1, e2]
    rw [hb] at hcall
    have HE := Lib.hid (fun i hi => (hel.2 i hi).1)
    clear hb e1 e2 hel
    go_enter Tryd.func17, Tryd.ntmps17
    go_wp2_with fail
    refine hcall.out.mono ?_
    rintro e w1 ⟨rfl, hb1⟩
    have x0 : w1.cell? ⟨w.heap.size, 0, none⟩ = some (.int .i64 n) := cell_old hb1 (by simp [go_sem])
    have x1 : w1.cell? ⟨w.heap.size, 1, none⟩ = some (.slice a L.length cap) := cell_old hb1 (by simp [go_sem])
    have r0 := Lib.hid (show w1.cell? ⟨w.heap.size + 1, 0, none⟩ = some (.int .i64 0) from cell_old hb1 (by simp [go_sem]))
    have r1 := Lib.hid (show w1.cell? ⟨w.heap.size + 1, 1, none⟩ = some (.slice none 0 0) from cell_old hb1 (by simp [go_sem]))
    have f0 := Lib.hid (show w1.frozen? ⟨w.heap.size + 1, 0, none⟩ = false from frozen_old hb1 (by simp) (by simp [go_sem]))
    have f1 := Lib.hid (show w1.frozen? ⟨w.heap.size + 1, 1, none⟩ = false from frozen_old hb1 (by simp) (by simp [go_sem]))
    have HB1 := Lib.hid (hB.out.trans (hb1.mono hB.out.size))
    have hs1 : w.heap.size + 2 ≤ w1.heap.size := by have := hb1.size; simpa using this
    have hturn := Lib.hid (mxTurn_any n _ L (by omega) (by omega) HE.out w1 (HL.out.below HB1.out))
    clear hb1 hcall hB
    go_wp2_with fail
    refine hturn.out.mono ?_
    rintro e w2 ⟨v2, rfl, ho2, hb2⟩
    obtain ⟨a2, c2, rfl⟩ := ho2.reads.form
    have q0 := cell_old hb2 r0.out
    have q1 := cell_old hb2 r1.out
    have g0 := frozen_old hb2 (by simp; omega) f0.out
    have g1 := frozen_old hb2 (by simp; omega) f1.out
    have HO := Lib.hid ho2
    have HB2 := Lib.hid (HB1.out.trans (hb2.mono (by omega)))
    clear ho2 hb2 x0 x1 hturn
    generalize (turnT n L).length = m at *
    go_wp2
    refine bodyPost_ret (v := .tuple #[.agg #[.int .i64 L.length, .slice a2 m c2], .bool true]) (by simp [results, Tryd.results17, go_sem, q0, q1]) rfl ?_
    have hc2 : Chg (fun g => g = w.heap.size + 1) w2 ((w2.setCell ⟨w.heap.size + 1, 0, none⟩ (.int .i64 L.length)).setCell ⟨w.heap.size + 1, 1, none⟩ (.slice a2 m c2)) :=
      (Chg.set1 w2 ⟨w.heap.size + 1, 0, none⟩ _).setCell (p := ⟨w.heap.size + 1, 1, none⟩) (fun _ => rfl) _
    exact ⟨_, rfl, (HO.out.chg hc2 fun g hg e => by omega).mono fun g hg => by omega, (HB2.out.setCell (p := ⟨w.heap.size + 1, 0, none⟩) (by simp) _).setCell (p := ⟨w.heap.size + 1, 1, none⟩) (by simp) _⟩

set_option maxHeartbeats 2000000 in
theorem implTranspose_any (p c : Int) (v : Value) (L : List (List Int)) (w : World) (ht : Tab w) (h : ReadsM w v L) :
    Calls Tryd.prog 18 #[.int .i64 p, .agg #[.int .i64 c, v]] w (OptMat w (matB p c L) (turnCols p c L) (turnOut p c L)) := by
  have hB := Lib.hid (((Below.refl w.heap.size w).alloc (Nat.le_refl _) (.cells #[.int .i64 c, v] 27)).alloc (by simp) (.cells #[.int .i64 0, .slice none 0 0] 27))
  have hcall := Lib.hid (isMatrix_any p c v L _ (tab_alloc (tab_alloc ht _) _) (h.below hB.out))
  have HL := Lib.hid h
  obtain ⟨a, cap, rfl⟩ := h.form
  clear h ht
  cases hb : matB p c L with
  | false =>
    have e1 : turnOut p c L = [] := by simp [turnOut, hb]
    have e2 : turnCols p c L = 0 := by simp [turnCols, hb]
    rw [e1, e2]
    rw [hb] at hcall
    clear hb e1 e2
    go_enter Tryd.func18, Tryd.ntmps18
    go_wp2_with fail
    refine hcall.out.mono ?_
    rintro e w1 ⟨rfl, hb1⟩
    have r0 : w1.cell? ⟨w.heap.size + 1, 0, none⟩ = some (.int .i64 0) := cell_old hb1 (by simp [go_sem])
    have r1 : w1.cell? ⟨w.heap.size + 1, 1, none⟩ = some (.slice none 0 0) := cell_old hb1 (by simp [go_sem])
    have f0 : w1.frozen? ⟨w.heap.size + 1, 0, none⟩ = false := frozen_old hb1 (by simp) (by simp [go_sem])
    have f1 : w1.frozen? ⟨w.heap.size + 1, 1, none⟩ = false := frozen_old hb1 (by simp) (by simp [go_sem])
    have HB1 := Lib.hid (hB.out.trans (hb1.mono hB.out.size))
    have hs1 : w.heap.size + 2 ≤ w1.heap.size := by have := hb1.size; simpa using this
    clear hb1 hcall hB
    go_wp2
    refine bodyPost_ret (v := .tuple #[.agg #[.int .i64 0, .slice none 0 0], .bool false]) (by simp [results, Tryd.results18, go_sem, r0, r1]) rfl ?_
    exact ⟨_, rfl, ownsM_nil _ _, (HB1.out.setCell (p := ⟨w.heap.size + 1, 0, none⟩) (by simp) _).setCell (p := ⟨w.heap.size + 1, 1, none⟩) (by simp) _⟩
  | true =>
    obtain ⟨n, rfl, hn, hl, _, hel⟩ := mat_nats hb
    have e1 : turnOut p n L = turnT n L := by simp [turnOut, hb]
    have e2 : turnCols p n L = L.length := by simp [turnCols, hb]
    rw [e1, e2]
    rw [hb] at hcall
    have HE := Lib.hid (fun i hi => (hel.2 i hi).1)
    clear hb e1 e2 hel
    go_enter Tryd.func18, Tryd.ntmps18
    go_wp2_with fail
    refine hcall.out.mono ?_
    rintro e w1 ⟨rfl, hb1⟩
    have x0 : w1.cell? ⟨w.heap.size, 0, none⟩ = some (.int .i64 n) := cell_old hb1 (by simp [go_sem])
    have x1 : w1.cell? ⟨w.heap.size, 1, none⟩ = some (.slice a L.length cap) := cell_old hb1 (by simp [go_sem])
    have r0 := Lib.hid (show w1.cell? ⟨w.heap.size + 1, 0, none⟩ = some (.int .i64 0) from cell_old hb1 (by simp [go_sem]))
    have r1 := Lib.hid (show w1.cell? ⟨w.heap.size + 1, 1, none⟩ = some (.slice none 0 0) from cell_old hb1 (by simp [go_sem]))
    have f0 := Lib.hid (show w1.frozen? ⟨w.heap.size + 1, 0, none⟩ = false from frozen_old hb1 (by simp) (by simp [go_sem]))
    have f1 := Lib.hid (show w1.frozen? ⟨w.heap.size + 1, 1, none⟩ = false from frozen_old hb1 (by simp) (by simp [go_sem]))
    have HB1 := Lib.hid (hB.out.trans (hb1.mono hB.out.size)).drew
    have hs1 : w.heap.size + 2 ≤ w1.heap.size := by have := hb1.size; simpa using this
    have hs1' : w.heap.size + 1 < w1.drew.heap.size := hs1
    have HB1' : Hid (Below w.heap.size w w1.drew) := HB1.out
    have hturn := Lib.hid (transposed_any n _ L (by omega) (by omega) HE.out w1.drew (HL.out.below HB1.out))
    clear hb1 hcall hB
    go_wp2
    go_region_law (go_simp; go_at_call 44; refine hturn.out.mono ?_; rintro e w2 ⟨v2, rfl, ho2, hb2⟩; obtain ⟨a2, c2, rfl⟩ := ho2.reads.form; have y1 := cell_old hb2 (show w1.drew.cell? ⟨w.heap.size, 1, none⟩ = some (.slice a L.length cap) from x1); have q0 := cell_old hb2 (show w1.drew.cell? ⟨w.heap.size + 1, 0, none⟩ = _ from r0.out); have q1 := cell_old hb2 (show w1.drew.cell? ⟨w.heap.size + 1, 1, none⟩ = _ from r1.out); have g0 := frozen_old hb2 hs1' (show w1.drew.frozen? ⟨w.heap.size + 1, 0, none⟩ = _ from f0.out); have g1 := frozen_old hb2 hs1' (show w1.drew.frozen? ⟨w.heap.size + 1, 1, none⟩ = _ from f1.out))
    all_goals
      go_wp2
      refine bodyPost_ret (v := .tuple #[.agg #[.int .i64 L.length, .slice a2 (turnT n L).length c2], .bool true]) (by simp [results, Tryd.results18, go_sem, q0, q1]) rfl ?_
      exact optMat_end HB1'.out hb2 ho2 hs1

end Ints
end Go.Proofs.YtmingbiiahoojaaDoor
