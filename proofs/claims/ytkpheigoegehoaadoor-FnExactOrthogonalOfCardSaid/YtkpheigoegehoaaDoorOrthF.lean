/- OrthogonalOf, both. (Printed by wip/gen_orth.py.) -/
import Derived.Test.YtkpheigoegehoaaDoorSpaceF
import Derived.Test.YtkpheigoegehoaaDoorSpNull
import Derived.Test.YtkpheigoegehoaaDoorKern
import Derived.Test.YtkpheigoegehoaaDoorTransposed
import Derived.Test.YtkpheigoegehoaaDoorSpanF
import Derived.Deep.RegionHeld3
import Derived.Deep.DeepCutAuto
namespace Go.Proofs.YtkpheigoegehoaaDoor
open Go.RowKit
namespace Ints

def orthOut (p c : Int) (L : List (List Int)) : List (List Int) := if spB p c L then Lin.nullL p c.toNat L else []
def spCols (p c : Int) (L : List (List Int)) : Int := if spB p c L then c else 0
theorem orthOut_ctr (p c : Int) (L : List (List Int)) : (1 : Int) + (sumL (orthOut p c L) : Int) ≤ 1000000000 := by
  unfold orthOut
  split
  · rename_i h
    obtain ⟨n, rfl, hn, hl, hg, hA, _⟩ := spB_parts h
    obtain ⟨_, h1, h2, _⟩ := Lin.null_facts hg hA
    exact ctr_elems' h1 (by omega) (by omega)
  · exact ctr_nil

set_option maxHeartbeats 1000000 in
theorem orthogonal_any (p : Int) (hg : Fld.goodB p = true) (m n : Nat) (hm : m ≤ 1000) (hn : n ≤ 1000) (v : Value) (L : List (List Int)) (w : World) (hL : ElemsT p m n L) (hv : ReadsM w v L) :
    Calls Tryd.prog 109 #[.int .i64 p, v, .int .i64 n] w (NewRows w (Lin.nullL p n L)) := by
  have hl := hL.1
  have hturn := Lib.hid (transposed_any n v L hn (by omega) (fun i hi => (hL.2 i (by omega)).1) w hv)
  have hker := Lib.hid (fun W u (h : ReadsM W u (turnT n L)) => kernel_any p hg n m hn hm u (turnT n L) W (Lin.turn_elems hL) h)
  have e := Lin.orthogonal_eq hg hL
  rw [e] at hker
  obtain ⟨R, hR⟩ : ∃ R, Lin.nullL p n L = R := ⟨_, rfl⟩
  rw [hR] at hker ⊢
  obtain ⟨av, cv, rfl⟩ := hv.form
  have htl : (turnT n L).length = n := (Lin.turn_elems hL).1
  have HTL := Lib.hid htl
  rw [hl] at hturn ⊢
  have hmm : m ≤ 9223372036854775807 := by omega
  clear hg hL hv e hR hl htl
  go_enter Tryd.func109, Tryd.ntmps109
  go_wp2_with fail
  refine hturn.out.mono ?_
  rintro e w1 ⟨v1, rfl, ho1, hb1⟩
  obtain ⟨a1, c1, hv1⟩ := ho1.reads.form
  have hcall := Lib.hid (hker.out w1 v1 ho1.reads)
  rw [HTL.out] at hv1
  subst hv1
  have HB1 := Lib.hid hb1
  clear ho1 hb1 hturn hker
  go_wp2_with fail
  refine hcall.out.mono ?_
  rintro e w2 ⟨v2, rfl, ho2, hb2⟩
  obtain ⟨a2, c2, rfl⟩ := ho2.reads.form
  have hfin : Hid (NewRows w R (.returned (.slice a2 R.length c2)) w2) := ⟨_, rfl, ho2.mono fun g hg => Nat.le_trans HB1.out.size hg, HB1.out.trans (hb2.mono HB1.out.size)⟩
  clear ho2 hb2 hcall
  go_wp2
  go_ret
  exact hfin.out

set_option maxHeartbeats 4000000 in
theorem specOrth_any (p c : Int) (u : Value) (A : List (List Int)) (w : World) (hu : ReadsM w u A) :
    Calls Tryd.prog 61 #[.int .i64 p, .agg #[.int .i64 c, u]] w (OptMat w (spB p c A) (spCols p c A) (orthOut p c A)) := by
  obtain ⟨ua, uc, rfl⟩ := hu.form
  obtain ⟨w0, hw0⟩ : ∃ W, W = ((w.alloc (.cells #[.int .i64 c, .slice ua A.length uc] 43)).alloc (.cells #[.int .i64 0, .slice none 0 0] 43)) := ⟨_, rfl⟩
  have hB : Below w.heap.size w w0 := by rw [hw0]; exact (((Below.refl w.heap.size w).alloc (by simp) (.cells #[.int .i64 c, .slice ua A.length uc] 43)).alloc (by simp) (.cells #[.int .i64 0, .slice none 0 0] 43))
  have hs0 : w0.heap.size = w.heap.size + 2 := by rw [hw0]; simp
  have X0_0 : ∀ W, Below w0.heap.size w0 W → W.cell? ⟨w.heap.size, 0, none⟩ = some (.int .i64 c) := fun W hW => cell_old hW (by rw [hw0]; simp [go_sem])
  have X0_1 : ∀ W, Below w0.heap.size w0 W → W.cell? ⟨w.heap.size, 1, none⟩ = some (.slice ua A.length uc) := fun W hW => cell_old hW (by rw [hw0]; simp [go_sem])
  have Q0 : ∀ W, Below w0.heap.size w0 W → W.cell? ⟨w.heap.size + 1, 0, none⟩ = some (.int .i64 0) := fun W hW => cell_old hW (by rw [hw0]; simp [go_sem])
  have G0 : ∀ W, Below w0.heap.size w0 W → W.frozen? ⟨w.heap.size + 1, 0, none⟩ = false := fun W hW => frozen_old hW (by show w.heap.size + 1 < _; omega) (by rw [hw0]; simp [go_sem])
  have Q1 : ∀ W, Below w0.heap.size w0 W → W.cell? ⟨w.heap.size + 1, 1, none⟩ = some (.slice none 0 0) := fun W hW => cell_old hW (by rw [hw0]; simp [go_sem])
  have G1 : ∀ W, Below w0.heap.size w0 W → W.frozen? ⟨w.heap.size + 1, 1, none⟩ = false := fun W hW => frozen_old hW (by show w.heap.size + 1 < _; omega) (by rw [hw0]; simp [go_sem])
  have HW := Lib.hid hw0
  have HB := Lib.hid hB
  have HS := Lib.hid hs0
  have HU := Lib.hid (hu.below hB)
  obtain ⟨b1, hb1⟩ : ∃ b, (spB p c A) = b := ⟨_, rfl⟩
  have Cb1 := Lib.hid (fun W (hW : Below w0.heap.size w0 W) => spGood_any p c _ A W (HU.out.below hW))
  rw [hb1] at Cb1
  clear hw0 hB hs0 hu
  cases b1 with
  | false =>
    have e1 : orthOut p c A = [] := by simp [orthOut, hb1]
    have e2 : spCols p c A = 0 := by simp [spCols, hb1]
    rw [hb1, e1, e2]
    clear e1 e2
    clear hb1
    go_enter Tryd.func61, Tryd.ntmps61
    go_wp2_with fail
    rw [← HW.out]
    refine (Cb1.out w0 (Below.refl _ _)).mono ?_
    rintro e w1 ⟨rfl, hb1⟩
    have B1 : Below w0.heap.size w0 w1 := hb1
    clear hb1
    go_wp2
    refine bodyPost_ret (v := .tuple #[.agg #[.int .i64 0, .slice none 0 0], .bool false]) (by simp [results, Tryd.results61, go_sem, Q0 _ B1, Q1 _ B1]) rfl ?_
    exact optMat_none (HB.out.trans (B1.mono HB.out.size)) (by omega)
  | true =>
    obtain ⟨n, rfl, hn, hl, hg, hA, _⟩ := spB_parts hb1
    have e1 : orthOut p n A = Lin.nullL p n A := by simp [orthOut, hb1]
    have e2 : spCols p n A = n := by simp [spCols, hb1]
    rw [hb1, e1, e2]
    obtain ⟨R, hR⟩ : ∃ R, Lin.nullL p n A = R := ⟨_, rfl⟩
    rw [hR]
    have HR := Lib.hid hR
    have HA := Lib.hid hA
    clear e1 e2 hA hb1 hR
    go_enter Tryd.func61, Tryd.ntmps61
    go_wp2_with fail
    rw [← HW.out]
    refine (Cb1.out w0 (Below.refl _ _)).mono ?_
    rintro e w1 ⟨rfl, hb1⟩
    have B1 : Below w0.heap.size w0 w1 := hb1
    clear hb1
    have hcall := Lib.hid (HR.out ▸ spNull_any p hg A.length n (by omega) (by omega) _ A w1.drew HA.out (HU.out.below (below_drewB B1)))
    have HBW := Lib.hid (HB.out.trans ((below_drewB B1).mono HB.out.size))
    have HLT : w.heap.size + 1 < w1.drew.heap.size := by have := (B1).size; have := HS.out; show w.heap.size + 1 < w1.heap.size; omega
    have x0_0 := X0_0 _ B1
    have y0_0 := X0_0 _ (below_drewB B1)
    have x0_1 := X0_1 _ B1
    have y0_1 := X0_1 _ (below_drewB B1)
    
    go_upto_region 3 with fail
    go_region_held3 (fun W => W.cell? ⟨w.heap.size, 0, none⟩ = some (.int .i64 n) ∧ W.cell? ⟨w.heap.size, 1, none⟩ = some (.slice ua A.length uc))
      (first | exact S7.out | go_keep)
      (first | (go_at_call 103; (with_reducible refine hcall.out.mono ?_); rintro e w9 ⟨v9, rfl, ho9, hb9⟩; obtain ⟨a9, c9, rfl⟩ := ho9.reads.form; have B9 := below_step (below_drewB B1) hb9; have q0 := Q0 _ B9; have q1 := Q1 _ B9; have g0 := G0 _ B9; have g1 := G1 _ B9; have S7 := Lib.hid (And.intro (cell_old hb9 (show w1.drew.cell? _ = _ from y0_0)) (cell_old hb9 (show w1.drew.cell? _ = _ from y0_1)))))
    have hfin := Lib.hid (optMat_put HBW.out hb9 ho9 (b := w.heap.size + 1) (by omega) HLT (d := (n : Int)))
    clear ho9 hb9 hcall S7
    go_wp2
    refine bodyPost_ret (v := .tuple #[.agg #[.int .i64 (n : Int), .slice a9 R.length c9], .bool true]) (by simp [results, Tryd.results61, go_sem, q0, q1]) rfl ?_
    exact hfin.out
    
set_option maxHeartbeats 4000000 in
theorem implOrth_any (p c : Int) (u : Value) (A : List (List Int)) (w : World) (ht : Tab w) (hu : ReadsM w u A) :
    Calls Tryd.prog 62 #[.int .i64 p, .agg #[.int .i64 c, u]] w (OptMat w (spB p c A) (spCols p c A) (orthOut p c A)) := by
  obtain ⟨ua, uc, rfl⟩ := hu.form
  obtain ⟨w0, hw0⟩ : ∃ W, W = ((w.alloc (.cells #[.int .i64 c, .slice ua A.length uc] 43)).alloc (.cells #[.int .i64 0, .slice none 0 0] 43)) := ⟨_, rfl⟩
  have hB : Below w.heap.size w w0 := by rw [hw0]; exact (((Below.refl w.heap.size w).alloc (by simp) (.cells #[.int .i64 c, .slice ua A.length uc] 43)).alloc (by simp) (.cells #[.int .i64 0, .slice none 0 0] 43))
  have hs0 : w0.heap.size = w.heap.size + 2 := by rw [hw0]; simp
  have X0_0 : ∀ W, Below w0.heap.size w0 W → W.cell? ⟨w.heap.size, 0, none⟩ = some (.int .i64 c) := fun W hW => cell_old hW (by rw [hw0]; simp [go_sem])
  have X0_1 : ∀ W, Below w0.heap.size w0 W → W.cell? ⟨w.heap.size, 1, none⟩ = some (.slice ua A.length uc) := fun W hW => cell_old hW (by rw [hw0]; simp [go_sem])
  have Q0 : ∀ W, Below w0.heap.size w0 W → W.cell? ⟨w.heap.size + 1, 0, none⟩ = some (.int .i64 0) := fun W hW => cell_old hW (by rw [hw0]; simp [go_sem])
  have G0 : ∀ W, Below w0.heap.size w0 W → W.frozen? ⟨w.heap.size + 1, 0, none⟩ = false := fun W hW => frozen_old hW (by show w.heap.size + 1 < _; omega) (by rw [hw0]; simp [go_sem])
  have Q1 : ∀ W, Below w0.heap.size w0 W → W.cell? ⟨w.heap.size + 1, 1, none⟩ = some (.slice none 0 0) := fun W hW => cell_old hW (by rw [hw0]; simp [go_sem])
  have G1 : ∀ W, Below w0.heap.size w0 W → W.frozen? ⟨w.heap.size + 1, 1, none⟩ = false := fun W hW => frozen_old hW (by show w.heap.size + 1 < _; omega) (by rw [hw0]; simp [go_sem])
  have HW := Lib.hid hw0
  have HB := Lib.hid hB
  have HS := Lib.hid hs0
  have HU := Lib.hid (hu.below hB)
  have htB : Hid (Tab w0) := ht.below ht.size hB
  obtain ⟨b1, hb1⟩ : ∃ b, (spB p c A) = b := ⟨_, rfl⟩
  have Cb1 := Lib.hid (fun W (hW : Below w0.heap.size w0 W) => isSpace_any p c _ A W (htB.out.below htB.out.size hW) (HU.out.below hW))
  rw [hb1] at Cb1
  clear hw0 hB hs0 hu ht
  cases b1 with
  | false =>
    have e1 : orthOut p c A = [] := by simp [orthOut, hb1]
    have e2 : spCols p c A = 0 := by simp [spCols, hb1]
    rw [hb1, e1, e2]
    clear e1 e2
    clear hb1
    go_enter Tryd.func62, Tryd.ntmps62
    go_wp2_with fail
    rw [← HW.out]
    refine (Cb1.out w0 (Below.refl _ _)).mono ?_
    rintro e w1 ⟨rfl, hb1⟩
    have B1 : Below w0.heap.size w0 w1 := hb1
    clear hb1
    go_wp2
    refine bodyPost_ret (v := .tuple #[.agg #[.int .i64 0, .slice none 0 0], .bool false]) (by simp [results, Tryd.results62, go_sem, Q0 _ B1, Q1 _ B1]) rfl ?_
    exact optMat_none (HB.out.trans (B1.mono HB.out.size)) (by omega)
  | true =>
    obtain ⟨n, rfl, hn, hl, hg, hA, _⟩ := spB_parts hb1
    have e1 : orthOut p n A = Lin.nullL p n A := by simp [orthOut, hb1]
    have e2 : spCols p n A = n := by simp [spCols, hb1]
    rw [hb1, e1, e2]
    obtain ⟨R, hR⟩ : ∃ R, Lin.nullL p n A = R := ⟨_, rfl⟩
    rw [hR]
    have HR := Lib.hid hR
    have HA := Lib.hid hA
    clear e1 e2 hA hb1 hR
    go_enter Tryd.func62, Tryd.ntmps62
    go_wp2_with fail
    rw [← HW.out]
    refine (Cb1.out w0 (Below.refl _ _)).mono ?_
    rintro e w1 ⟨rfl, hb1⟩
    have B1 : Below w0.heap.size w0 w1 := hb1
    clear hb1
    have hcall := Lib.hid (HR.out ▸ orthogonal_any p hg A.length n (by omega) (by omega) _ A w1.drew HA.out (HU.out.below (below_drewB B1)))
    have HBW := Lib.hid (HB.out.trans ((below_drewB B1).mono HB.out.size))
    have HLT : w.heap.size + 1 < w1.drew.heap.size := by have := (B1).size; have := HS.out; show w.heap.size + 1 < w1.heap.size; omega
    have x0_0 := X0_0 _ B1
    have y0_0 := X0_0 _ (below_drewB B1)
    have x0_1 := X0_1 _ B1
    have y0_1 := X0_1 _ (below_drewB B1)
    
    go_upto_region 3 with fail
    go_region_held3 (fun W => W.cell? ⟨w.heap.size, 0, none⟩ = some (.int .i64 n) ∧ W.cell? ⟨w.heap.size, 1, none⟩ = some (.slice ua A.length uc))
      (first | exact S7.out | go_keep)
      (first | (go_at_call 109; (with_reducible refine hcall.out.mono ?_); rintro e w9 ⟨v9, rfl, ho9, hb9⟩; obtain ⟨a9, c9, rfl⟩ := ho9.reads.form; have B9 := below_step (below_drewB B1) hb9; have q0 := Q0 _ B9; have q1 := Q1 _ B9; have g0 := G0 _ B9; have g1 := G1 _ B9; have S7 := Lib.hid (And.intro (cell_old hb9 (show w1.drew.cell? _ = _ from y0_0)) (cell_old hb9 (show w1.drew.cell? _ = _ from y0_1)))))
    have hfin := Lib.hid (optMat_put HBW.out hb9 ho9 (b := w.heap.size + 1) (by omega) HLT (d := (n : Int)))
    clear ho9 hb9 hcall S7
    go_wp2
    refine bodyPost_ret (v := .tuple #[.agg #[.int .i64 (n : Int), .slice a9 R.length c9], .bool true]) (by simp [results, Tryd.results62, go_sem, q0, q1]) rfl ?_
    exact hfin.out
    

end Ints
end Go.Proofs.YtkpheigoegehoaaDoor
