/- SumOf, both; pairs of spaces. (Printed by wip/gen_sum.py.) -/
import Derived.Test.YtkpheigoegehoaaDoorJoin
import Derived.Test.YtkpheigoegehoaaDoorSpanF
import Derived.Test.YtkpheigoegehoaaDoorSpaceF
import Derived.Deep.RegionHeld3
import Derived.Deep.DeepCutAuto
namespace Go.Proofs.YtkpheigoegehoaaDoor
open Go.RowKit
namespace Ints

def twoB (p ca cb : Int) (A B : List (List Int)) : Bool := spB p ca A && spB p cb B && (ca == cb)
theorem twoB_parts {p ca cb : Int} {A B : List (List Int)} (h : twoB p ca cb A B = true) : ∃ n : Nat, ca = n ∧ cb = n ∧ n ≤ 24 ∧ A.length ≤ n ∧ B.length ≤ n ∧ Fld.goodB p = true ∧ ElemsT p A.length n A ∧ ElemsT p B.length n B := by
  simp only [twoB, Bool.and_eq_true, beq_iff_eq] at h
  obtain ⟨⟨h1, h2⟩, h3⟩ := h
  obtain ⟨n, e1, hn, hl, hg, hA, _⟩ := spB_parts h1
  obtain ⟨m, e2, hm, hl2, _, hB, _⟩ := spB_parts h2
  have : m = n := by omega
  subst this
  exact ⟨m, e1, e2, hn, hl, hl2, hg, hA, hB⟩
def sumOut (p ca cb : Int) (A B : List (List Int)) : List (List Int) := if twoB p ca cb A B then reducedL p ca.toNat (A ++ B) else []
def sumCols (p ca cb : Int) (A B : List (List Int)) : Int := if twoB p ca cb A B then ca else 0
theorem sumOut_ctr (p ca cb : Int) (A B : List (List Int)) : (1 : Int) + (sumL (sumOut p ca cb A B) : Int) ≤ 1000000000 := by
  unfold sumOut
  split
  · rename_i h
    obtain ⟨n, rfl, _, hn, hl, hl2, hg, hA, hB⟩ := twoB_parts h
    obtain ⟨h1, h2⟩ := reduced_elems hg (Lin.elems_app hA hB)
    exact ctr_elems' h1 (by omega) (by omega)
  · exact ctr_nil

set_option maxHeartbeats 2000000 in
theorem spTwo_any (p ca cb : Int) (u v : Value) (A B : List (List Int)) (w : World) (hu : ReadsM w u A) (hv : ReadsM w v B) :
    Calls Tryd.prog 100 #[.int .i64 p, .agg #[.int .i64 ca, u], .agg #[.int .i64 cb, v]] w fun e w' => e = .returned (.bool (twoB p ca cb A B)) ∧ Below w.heap.size w w' := by
  obtain ⟨ua, uc, rfl⟩ := hu.form
  obtain ⟨va, vc, rfl⟩ := hv.form
  obtain ⟨w0, hw0⟩ : ∃ W, W = ((w.alloc (.cells #[.int .i64 ca, .slice ua A.length uc] 43)).alloc (.cells #[.int .i64 cb, .slice va B.length vc] 43)) := ⟨_, rfl⟩
  have hB : Below w.heap.size w w0 := by rw [hw0]; exact ((Below.refl w.heap.size w).alloc (by simp) _).alloc (by simp) _
  have X0_0 : ∀ W, Below w0.heap.size w0 W → W.cell? ⟨w.heap.size, 0, none⟩ = some (.int .i64 ca) := fun W hW => cell_old hW (by rw [hw0]; simp [go_sem])
  have X0_1 : ∀ W, Below w0.heap.size w0 W → W.cell? ⟨w.heap.size, 1, none⟩ = some (.slice ua A.length uc) := fun W hW => cell_old hW (by rw [hw0]; simp [go_sem])
  have X1_0 : ∀ W, Below w0.heap.size w0 W → W.cell? ⟨w.heap.size + 1, 0, none⟩ = some (.int .i64 cb) := fun W hW => cell_old hW (by rw [hw0]; simp [go_sem])
  have X1_1 : ∀ W, Below w0.heap.size w0 W → W.cell? ⟨w.heap.size + 1, 1, none⟩ = some (.slice va B.length vc) := fun W hW => cell_old hW (by rw [hw0]; simp [go_sem])
  have x0 := X0_0 w0 (Below.refl _ _)
  have x1 := X0_1 w0 (Below.refl _ _)
  have HU := Lib.hid (hu.below hB)
  have HV := Lib.hid (hv.below hB)

  have hc1 := Lib.hid (fun W (hW : Below w0.heap.size w0 W) => spGood_any p ca _ A W (HU.out.below hW))
  have hc2 := Lib.hid (fun W (hW : Below w0.heap.size w0 W) => spGood_any p cb _ B W (HV.out.below hW))
  obtain ⟨b1, hb1⟩ : ∃ b, spB p ca A = b := ⟨_, rfl⟩
  obtain ⟨b2, hb2⟩ : ∃ b, spB p cb B = b := ⟨_, rfl⟩
  obtain ⟨b3, hb3⟩ : ∃ b, (ca == cb) = b := ⟨_, rfl⟩
  rw [hb1] at hc1
  rw [hb2] at hc2
  have HW := Lib.hid hw0
  have HB := Lib.hid hB
  have e0 : twoB p ca cb A B = (b1 && b2 && b3) := by simp [twoB, hb1, hb2, hb3]
  rw [e0]
  clear hw0 hB hu hv hb1 hb2 e0 HU HV 
  cases b1 with
  | false =>
    clear hb3
    go_enter Tryd.func100, Tryd.ntmps100
    go_wp2_with fail
    rw [← HW.out]
    go_wp2_with (go_at_call 94; ((with_reducible refine (hc1.out _ (Below.refl _ _)).mono ?_); rintro e w' ⟨rfl, hq⟩))
    go_ret
    exact ⟨rfl, HB.out.trans (hq.mono HB.out.size)⟩
  | true =>
    cases b2 with
    | false =>
      clear hb3
      go_enter Tryd.func100, Tryd.ntmps100
      go_wp2_with fail
      rw [← HW.out]
      refine (hc1.out _ (Below.refl _ _)).mono ?_
      rintro e w1 ⟨rfl, hq1⟩
      have x2 := X1_0 _ hq1
      have x3 := X1_1 _ hq1
      go_wp2_with (go_at_call 94; ((with_reducible refine (hc2.out _ hq1).mono ?_); rintro e w' ⟨rfl, hq⟩))
      go_ret
      exact ⟨rfl, HB.out.trans ((below_step hq1 hq).mono HB.out.size)⟩
    | true =>
      go_enter Tryd.func100, Tryd.ntmps100
      go_wp2_with fail
      rw [← HW.out]
      refine (hc1.out _ (Below.refl _ _)).mono ?_
      rintro e w1 ⟨rfl, hq1⟩
      have x2 := X1_0 _ hq1
      have x3 := X1_1 _ hq1
      go_wp2_with fail
      refine (hc2.out _ hq1).mono ?_
      rintro e w2 ⟨rfl, hq2⟩
      have hq3 := below_step hq1 hq2
      have y0 := X0_0 _ hq3
      have y1 := X0_1 _ hq3
      have y2 := X1_0 _ hq3
      have y3 := X1_1 _ hq3
      go_wp2
      go_ret
      exact ⟨rfl, HB.out.trans (hq3.mono HB.out.size)⟩

set_option maxHeartbeats 2000000 in
theorem twoSpaces_any (p ca cb : Int) (u v : Value) (A B : List (List Int)) (w : World) (ht : Tab w) (hu : ReadsM w u A) (hv : ReadsM w v B) :
    Calls Tryd.prog 102 #[.int .i64 p, .agg #[.int .i64 ca, u], .agg #[.int .i64 cb, v]] w fun e w' => e = .returned (.bool (twoB p ca cb A B)) ∧ Below w.heap.size w w' := by
  obtain ⟨ua, uc, rfl⟩ := hu.form
  obtain ⟨va, vc, rfl⟩ := hv.form
  obtain ⟨w0, hw0⟩ : ∃ W, W = ((w.alloc (.cells #[.int .i64 ca, .slice ua A.length uc] 43)).alloc (.cells #[.int .i64 cb, .slice va B.length vc] 43)) := ⟨_, rfl⟩
  have hB : Below w.heap.size w w0 := by rw [hw0]; exact ((Below.refl w.heap.size w).alloc (by simp) _).alloc (by simp) _
  have X0_0 : ∀ W, Below w0.heap.size w0 W → W.cell? ⟨w.heap.size, 0, none⟩ = some (.int .i64 ca) := fun W hW => cell_old hW (by rw [hw0]; simp [go_sem])
  have X0_1 : ∀ W, Below w0.heap.size w0 W → W.cell? ⟨w.heap.size, 1, none⟩ = some (.slice ua A.length uc) := fun W hW => cell_old hW (by rw [hw0]; simp [go_sem])
  have X1_0 : ∀ W, Below w0.heap.size w0 W → W.cell? ⟨w.heap.size + 1, 0, none⟩ = some (.int .i64 cb) := fun W hW => cell_old hW (by rw [hw0]; simp [go_sem])
  have X1_1 : ∀ W, Below w0.heap.size w0 W → W.cell? ⟨w.heap.size + 1, 1, none⟩ = some (.slice va B.length vc) := fun W hW => cell_old hW (by rw [hw0]; simp [go_sem])
  have x0 := X0_0 w0 (Below.refl _ _)
  have x1 := X0_1 w0 (Below.refl _ _)
  have HU := Lib.hid (hu.below hB)
  have HV := Lib.hid (hv.below hB)
  have htB : Hid (Tab w0) := ht.below ht.size hB
  have hc1 := Lib.hid (fun W (hW : Below w0.heap.size w0 W) => isSpace_any p ca _ A W (htB.out.below htB.out.size hW) (HU.out.below hW))
  have hc2 := Lib.hid (fun W (hW : Below w0.heap.size w0 W) => isSpace_any p cb _ B W (htB.out.below htB.out.size hW) (HV.out.below hW))
  obtain ⟨b1, hb1⟩ : ∃ b, spB p ca A = b := ⟨_, rfl⟩
  obtain ⟨b2, hb2⟩ : ∃ b, spB p cb B = b := ⟨_, rfl⟩
  obtain ⟨b3, hb3⟩ : ∃ b, (ca == cb) = b := ⟨_, rfl⟩
  rw [hb1] at hc1
  rw [hb2] at hc2
  have HW := Lib.hid hw0
  have HB := Lib.hid hB
  have e0 : twoB p ca cb A B = (b1 && b2 && b3) := by simp [twoB, hb1, hb2, hb3]
  rw [e0]
  clear hw0 hB hu hv hb1 hb2 e0 HU HV ht htB
  cases b1 with
  | false =>
    clear hb3
    go_enter Tryd.func102, Tryd.ntmps102
    go_wp2_with fail
    rw [← HW.out]
    go_wp2_with (go_at_call 95; ((with_reducible refine (hc1.out _ (Below.refl _ _)).mono ?_); rintro e w' ⟨rfl, hq⟩))
    go_ret
    exact ⟨rfl, HB.out.trans (hq.mono HB.out.size)⟩
  | true =>
    cases b2 with
    | false =>
      clear hb3
      go_enter Tryd.func102, Tryd.ntmps102
      go_wp2_with fail
      rw [← HW.out]
      refine (hc1.out _ (Below.refl _ _)).mono ?_
      rintro e w1 ⟨rfl, hq1⟩
      have x2 := X1_0 _ hq1
      have x3 := X1_1 _ hq1
      go_wp2_with (go_at_call 95; ((with_reducible refine (hc2.out _ hq1).mono ?_); rintro e w' ⟨rfl, hq⟩))
      go_ret
      exact ⟨rfl, HB.out.trans ((below_step hq1 hq).mono HB.out.size)⟩
    | true =>
      go_enter Tryd.func102, Tryd.ntmps102
      go_wp2_with fail
      rw [← HW.out]
      refine (hc1.out _ (Below.refl _ _)).mono ?_
      rintro e w1 ⟨rfl, hq1⟩
      have x2 := X1_0 _ hq1
      have x3 := X1_1 _ hq1
      go_wp2_with fail
      refine (hc2.out _ hq1).mono ?_
      rintro e w2 ⟨rfl, hq2⟩
      have hq3 := below_step hq1 hq2
      have y0 := X0_0 _ hq3
      have y1 := X0_1 _ hq3
      have y2 := X1_0 _ hq3
      have y3 := X1_1 _ hq3
      go_wp2
      go_ret
      exact ⟨rfl, HB.out.trans (hq3.mono HB.out.size)⟩

set_option maxHeartbeats 4000000 in
set_option maxRecDepth 100000 in
theorem specSum_any (p ca cb : Int) (u v : Value) (A B : List (List Int)) (w : World) (hu : ReadsM w u A) (hv : ReadsM w v B) :
    Calls Tryd.prog 51 #[.int .i64 p, .agg #[.int .i64 ca, u], .agg #[.int .i64 cb, v]] w (OptMat w (twoB p ca cb A B) (sumCols p ca cb A B) (sumOut p ca cb A B)) := by
  obtain ⟨ua, uc, rfl⟩ := hu.form
  obtain ⟨va, vc, rfl⟩ := hv.form
  obtain ⟨w0, hw0⟩ : ∃ W, W = (((w.alloc (.cells #[.int .i64 ca, .slice ua A.length uc] 43)).alloc (.cells #[.int .i64 cb, .slice va B.length vc] 43)).alloc (.cells #[.int .i64 0, .slice none 0 0] 43)) := ⟨_, rfl⟩
  have hB : Below w.heap.size w w0 := by rw [hw0]; exact ((((Below.refl w.heap.size w).alloc (by simp) (.cells #[.int .i64 ca, .slice ua A.length uc] 43)).alloc (by simp) (.cells #[.int .i64 cb, .slice va B.length vc] 43)).alloc (by simp; omega) (.cells #[.int .i64 0, .slice none 0 0] 43))
  have hs0 : w0.heap.size = w.heap.size + 3 := by rw [hw0]; simp
  have X0_0 : ∀ W, Below w0.heap.size w0 W → W.cell? ⟨w.heap.size, 0, none⟩ = some (.int .i64 ca) := fun W hW => cell_old hW (by rw [hw0]; simp [go_sem])
  have X0_1 : ∀ W, Below w0.heap.size w0 W → W.cell? ⟨w.heap.size, 1, none⟩ = some (.slice ua A.length uc) := fun W hW => cell_old hW (by rw [hw0]; simp [go_sem])
  have X1_0 : ∀ W, Below w0.heap.size w0 W → W.cell? ⟨w.heap.size + 1, 0, none⟩ = some (.int .i64 cb) := fun W hW => cell_old hW (by rw [hw0]; simp [go_sem])
  have X1_1 : ∀ W, Below w0.heap.size w0 W → W.cell? ⟨w.heap.size + 1, 1, none⟩ = some (.slice va B.length vc) := fun W hW => cell_old hW (by rw [hw0]; simp [go_sem])
  have Q0 : ∀ W, Below w0.heap.size w0 W → W.cell? ⟨w.heap.size + 1 + 1, 0, none⟩ = some (.int .i64 0) := fun W hW => cell_old hW (by rw [hw0]; simp [go_sem])
  have G0 : ∀ W, Below w0.heap.size w0 W → W.frozen? ⟨w.heap.size + 1 + 1, 0, none⟩ = false := fun W hW => frozen_old hW (by show w.heap.size + 1 + 1 < _; omega) (by rw [hw0]; simp [go_sem])
  have Q1 : ∀ W, Below w0.heap.size w0 W → W.cell? ⟨w.heap.size + 1 + 1, 1, none⟩ = some (.slice none 0 0) := fun W hW => cell_old hW (by rw [hw0]; simp [go_sem])
  have G1 : ∀ W, Below w0.heap.size w0 W → W.frozen? ⟨w.heap.size + 1 + 1, 1, none⟩ = false := fun W hW => frozen_old hW (by show w.heap.size + 1 + 1 < _; omega) (by rw [hw0]; simp [go_sem])
  have HW := Lib.hid hw0
  have HB := Lib.hid hB
  have HS := Lib.hid hs0
  have HU := Lib.hid (hu.below hB)
  have HV := Lib.hid (hv.below hB)
  obtain ⟨b1, hb1⟩ : ∃ b, (twoB p ca cb A B) = b := ⟨_, rfl⟩
  have Cb1 := Lib.hid (fun W (hW : Below w0.heap.size w0 W) => spTwo_any p ca cb _ _ A B W (HU.out.below hW) (HV.out.below hW))
  rw [hb1] at Cb1
  clear hw0 hB hs0 hu hv
  cases b1 with
  | false =>
    have e1 : sumOut p ca cb A B = [] := by simp [sumOut, hb1]
    have e2 : sumCols p ca cb A B = 0 := by simp [sumCols, hb1]
    rw [hb1, e1, e2]
    clear e1 e2
    clear hb1
    go_enter Tryd.func51, Tryd.ntmps51
    go_wp2_with fail
    rw [← HW.out]
    refine (Cb1.out w0 (Below.refl _ _)).mono ?_
    rintro e w1 ⟨rfl, hb1⟩
    have B1 : Below w0.heap.size w0 w1 := hb1
    clear hb1
    go_wp2
    refine bodyPost_ret (v := .tuple #[.agg #[.int .i64 0, .slice none 0 0], .bool false]) (by simp [results, Tryd.results51, go_sem, Q0 _ B1, Q1 _ B1]) rfl ?_
    exact optMat_none (HB.out.trans (B1.mono HB.out.size)) (by omega)
  | true =>
    obtain ⟨n, rfl, rfl, hn, hl, hl2, hg, hA, hBB⟩ := twoB_parts hb1
    have e1 : sumOut p n n A B = reducedL p n (A ++ B) := by simp [sumOut, hb1]
    have e2 : sumCols p n n A B = n := by simp [sumCols, hb1]
    rw [hb1, e1, e2]
    obtain ⟨R, hR⟩ : ∃ R, reducedL p n (A ++ B) = R := ⟨_, rfl⟩
    rw [hR]
    have HR := Lib.hid hR
    have HAB := Lib.hid (Lin.elems_app hA hBB)
    clear e1 e2 hA hBB hb1 hR
    go_enter Tryd.func51, Tryd.ntmps51
    go_wp2_with fail
    rw [← HW.out]
    refine (Cb1.out w0 (Below.refl _ _)).mono ?_
    rintro e w1 ⟨rfl, hb1⟩
    have B1 : Below w0.heap.size w0 w1 := hb1
    clear hb1
    have hjoin := Lib.hid (fun W (hW : Below w0.heap.size w0 W) => spJoin_any (.slice ua A.length uc) (.slice va B.length vc) A B W (HU.out.below hW) (HV.out.below hW) (by omega))
    have hred := Lib.hid (fun W u (h : ReadsM W u (A ++ B)) => HR.out ▸ spReduce_any p hg (A.length + B.length) n (by omega) (by omega) u (A ++ B) W HAB.out h)
    have hal : (A ++ B).length = A.length + B.length := by simp
    have HBW := Lib.hid (HB.out.trans ((below_drewB B1).mono HB.out.size))
    have HLT : w.heap.size + 1 + 1 < w1.drew.heap.size := by have := (B1).size; have := HS.out; show w.heap.size + 1 + 1 < w1.heap.size; omega
    have x0_0 := X0_0 _ B1
    have x0_1 := X0_1 _ B1
    have x1_1 := X1_1 _ B1
    go_upto_region 3 with fail
    go_region_held3 (fun W => W.cell? ⟨w.heap.size, 0, none⟩ = some (.int .i64 n) ∧ W.cell? ⟨w.heap.size, 1, none⟩ = some (.slice ua A.length uc) ∧ W.cell? ⟨w.heap.size + 1, 1, none⟩ = some (.slice va B.length vc))
      (first | exact S9.out | exact S8.out | exact S7.out | exact ⟨(matAt_chg2 w9 (w.heap.size + 1 + 1) _ _).keep (X0_0 _ B9) (fun e => by simp only at e; omega), (matAt_chg2 w9 (w.heap.size + 1 + 1) _ _).keep (X0_1 _ B9) (fun e => by simp only at e; omega), (matAt_chg2 w9 (w.heap.size + 1 + 1) _ _).keep (X1_1 _ B9) (fun e => by simp only at e; omega)⟩ | go_keep)
      (first | (go_at_call 101; (with_reducible refine (hjoin.out _ (below_drewB B1)).mono ?_); rintro e w_1 ⟨v_1, rfl, hr_1, hb_1⟩; obtain ⟨a_1, c_1, hv_1⟩ := hr_1.form; rw [List.length_append] at hv_1; subst hv_1; have B_1 := below_step (below_drewB B1) hb_1; have S7 := Lib.hid (And.intro (X0_0 _ B_1) (And.intro (X0_1 _ B_1) (X1_1 _ B_1)))) | (go_at_call 89; (with_reducible refine (hred.out _ _ hr_1).mono ?_); rintro e w9 ⟨v9, rfl, ho9, hb9⟩; obtain ⟨a9, c9, rfl⟩ := ho9.reads.form; have B9 := below_step B_1 hb9; have q0 := Q0 _ B9; have q1 := Q1 _ B9; have g0 := G0 _ B9; have g1 := G1 _ B9; have S8 := Lib.hid (And.intro (X0_0 _ B9) (And.intro (X0_1 _ B9) (X1_1 _ B9)))))
    have hfin := Lib.hid (optMat_put (HB.out.trans (B_1.mono HB.out.size)) hb9 ho9 (b := w.heap.size + 1 + 1) (by omega) (by have h1 := (B_1).size; have h2 := HS.out; omega) (d := (n : Int)))
    clear ho9 hb9
    go_wp2
    refine bodyPost_ret (v := .tuple #[.agg #[.int .i64 (n : Int), .slice a9 R.length c9], .bool true]) (by simp [results, Tryd.results51, go_sem, q0, q1]) rfl ?_
    exact hfin.out
    
set_option maxHeartbeats 4000000 in
set_option maxRecDepth 100000 in
theorem implSum_any (p ca cb : Int) (u v : Value) (A B : List (List Int)) (w : World) (ht : Tab w) (hu : ReadsM w u A) (hv : ReadsM w v B) :
    Calls Tryd.prog 52 #[.int .i64 p, .agg #[.int .i64 ca, u], .agg #[.int .i64 cb, v]] w (OptMat w (twoB p ca cb A B) (sumCols p ca cb A B) (sumOut p ca cb A B)) := by
  obtain ⟨ua, uc, rfl⟩ := hu.form
  obtain ⟨va, vc, rfl⟩ := hv.form
  obtain ⟨w0, hw0⟩ : ∃ W, W = (((w.alloc (.cells #[.int .i64 ca, .slice ua A.length uc] 43)).alloc (.cells #[.int .i64 cb, .slice va B.length vc] 43)).alloc (.cells #[.int .i64 0, .slice none 0 0] 43)) := ⟨_, rfl⟩
  have hB : Below w.heap.size w w0 := by rw [hw0]; exact ((((Below.refl w.heap.size w).alloc (by simp) (.cells #[.int .i64 ca, .slice ua A.length uc] 43)).alloc (by simp) (.cells #[.int .i64 cb, .slice va B.length vc] 43)).alloc (by simp; omega) (.cells #[.int .i64 0, .slice none 0 0] 43))
  have hs0 : w0.heap.size = w.heap.size + 3 := by rw [hw0]; simp
  have X0_0 : ∀ W, Below w0.heap.size w0 W → W.cell? ⟨w.heap.size, 0, none⟩ = some (.int .i64 ca) := fun W hW => cell_old hW (by rw [hw0]; simp [go_sem])
  have X0_1 : ∀ W, Below w0.heap.size w0 W → W.cell? ⟨w.heap.size, 1, none⟩ = some (.slice ua A.length uc) := fun W hW => cell_old hW (by rw [hw0]; simp [go_sem])
  have X1_0 : ∀ W, Below w0.heap.size w0 W → W.cell? ⟨w.heap.size + 1, 0, none⟩ = some (.int .i64 cb) := fun W hW => cell_old hW (by rw [hw0]; simp [go_sem])
  have X1_1 : ∀ W, Below w0.heap.size w0 W → W.cell? ⟨w.heap.size + 1, 1, none⟩ = some (.slice va B.length vc) := fun W hW => cell_old hW (by rw [hw0]; simp [go_sem])
  have Q0 : ∀ W, Below w0.heap.size w0 W → W.cell? ⟨w.heap.size + 1 + 1, 0, none⟩ = some (.int .i64 0) := fun W hW => cell_old hW (by rw [hw0]; simp [go_sem])
  have G0 : ∀ W, Below w0.heap.size w0 W → W.frozen? ⟨w.heap.size + 1 + 1, 0, none⟩ = false := fun W hW => frozen_old hW (by show w.heap.size + 1 + 1 < _; omega) (by rw [hw0]; simp [go_sem])
  have Q1 : ∀ W, Below w0.heap.size w0 W → W.cell? ⟨w.heap.size + 1 + 1, 1, none⟩ = some (.slice none 0 0) := fun W hW => cell_old hW (by rw [hw0]; simp [go_sem])
  have G1 : ∀ W, Below w0.heap.size w0 W → W.frozen? ⟨w.heap.size + 1 + 1, 1, none⟩ = false := fun W hW => frozen_old hW (by show w.heap.size + 1 + 1 < _; omega) (by rw [hw0]; simp [go_sem])
  have HW := Lib.hid hw0
  have HB := Lib.hid hB
  have HS := Lib.hid hs0
  have HU := Lib.hid (hu.below hB)
  have HV := Lib.hid (hv.below hB)
  have htB : Hid (Tab w0) := ht.below ht.size hB
  obtain ⟨b1, hb1⟩ : ∃ b, (twoB p ca cb A B) = b := ⟨_, rfl⟩
  have Cb1 := Lib.hid (fun W (hW : Below w0.heap.size w0 W) => twoSpaces_any p ca cb _ _ A B W (htB.out.below htB.out.size hW) (HU.out.below hW) (HV.out.below hW))
  rw [hb1] at Cb1
  clear hw0 hB hs0 hu hv ht
  cases b1 with
  | false =>
    have e1 : sumOut p ca cb A B = [] := by simp [sumOut, hb1]
    have e2 : sumCols p ca cb A B = 0 := by simp [sumCols, hb1]
    rw [hb1, e1, e2]
    clear e1 e2
    clear hb1
    go_enter Tryd.func52, Tryd.ntmps52
    go_wp2_with fail
    rw [← HW.out]
    refine (Cb1.out w0 (Below.refl _ _)).mono ?_
    rintro e w1 ⟨rfl, hb1⟩
    have B1 : Below w0.heap.size w0 w1 := hb1
    clear hb1
    go_wp2
    refine bodyPost_ret (v := .tuple #[.agg #[.int .i64 0, .slice none 0 0], .bool false]) (by simp [results, Tryd.results52, go_sem, Q0 _ B1, Q1 _ B1]) rfl ?_
    exact optMat_none (HB.out.trans (B1.mono HB.out.size)) (by omega)
  | true =>
    obtain ⟨n, rfl, rfl, hn, hl, hl2, hg, hA, hBB⟩ := twoB_parts hb1
    have e1 : sumOut p n n A B = reducedL p n (A ++ B) := by simp [sumOut, hb1]
    have e2 : sumCols p n n A B = n := by simp [sumCols, hb1]
    rw [hb1, e1, e2]
    obtain ⟨R, hR⟩ : ∃ R, reducedL p n (A ++ B) = R := ⟨_, rfl⟩
    rw [hR]
    have HR := Lib.hid hR
    have HAB := Lib.hid (Lin.elems_app hA hBB)
    have HTT := Lib.hid (elems_tot hA (by omega) (by omega))
    clear e1 e2 hA hBB hb1 hR
    go_enter Tryd.func52, Tryd.ntmps52
    go_wp2_with fail
    rw [← HW.out]
    refine (Cb1.out w0 (Below.refl _ _)).mono ?_
    rintro e w1 ⟨rfl, hb1⟩
    have B1 : Below w0.heap.size w0 w1 := hb1
    clear hb1
    have hcl := Lib.hid (fun W (hW : Below w0.heap.size w0 W) => clonesRow_any (.slice ua A.length uc) A W (HU.out.below hW) HTT.out)
    have hred := Lib.hid (fun W u (h : ReadsM W u (A ++ B)) => HR.out ▸ span_any p hg (A.length + B.length) n (by omega) (by omega) u (A ++ B) W HAB.out h)
    obtain ⟨rsB, hrB, hrrB⟩ := HV.out
    have RDB := Lib.hid (fun W (hW : Below w0.heap.size w0 W) => hrB.below hW)
    have RRB := Lib.hid (fun W (hW : Below w0.heap.size w0 W) => hrrB.below hW)
    have OB := Lib.hid (rows_one hrrB)
    have HM3 := Lib.hid (show A.length + B.length ≤ maxLen by unfold maxLen; omega)
    have HM4 := Lib.hid (show (A.length + B.length) * 24 ≤ 140737488355328 by omega)
    clear hrB hrrB
    have HBW := Lib.hid (HB.out.trans ((below_drewB B1).mono HB.out.size))
    have HLT : w.heap.size + 1 + 1 < w1.drew.heap.size := by have := (B1).size; have := HS.out; show w.heap.size + 1 + 1 < w1.heap.size; omega
    have x0_0 := X0_0 _ B1
    have x0_1 := X0_1 _ B1
    have x1_1 := X1_1 _ B1
    go_upto_region 3 with fail
    go_region_held3 (fun W => W.cell? ⟨w.heap.size, 0, none⟩ = some (.int .i64 n) ∧ W.cell? ⟨w.heap.size, 1, none⟩ = some (.slice ua A.length uc) ∧ W.cell? ⟨w.heap.size + 1, 1, none⟩ = some (.slice va B.length vc))
      (first | exact S9.out | exact S8.out | exact S7.out | exact ⟨(matAt_chg2 w9 (w.heap.size + 1 + 1) _ _).keep (X0_0 _ B9) (fun e => by simp only at e; omega), (matAt_chg2 w9 (w.heap.size + 1 + 1) _ _).keep (X0_1 _ B9) (fun e => by simp only at e; omega), (matAt_chg2 w9 (w.heap.size + 1 + 1) _ _).keep (X1_1 _ B9) (fun e => by simp only at e; omega)⟩ | go_keep)
      (first | (go_at_call 82; (with_reducible refine (hcl.out _ (below_drewB B1)).mono ?_); rintro e w_1 ⟨v_1, rs_1, rfl, hown_1, hrows_1, hb_1⟩; obtain ⟨a_1, c_1, rfl⟩ := ownsRow_form hown_1; have B_1 := below_step (below_drewB B1) hb_1; have rd_1 := RDB.out _ B_1; have S7 := Lib.hid (And.intro (X0_0 _ B_1) (And.intro (X0_1 _ B_1) (X1_1 _ B_1)))) | (refine step_append_reads (by rfl) _ _ 22 (by rfl) _ 67 (.slice none 0 0) 1 24 Tryd.underlying22 infoS (by rfl) (by decide) _ _ _ hown_1 _ _ _ rd_1 (by rfl) (by rfl) OB.out HM3.out HM4.out hb_1.size ?_; intro v_2 w_2 hown_2 hg_2; have hj := join_reads hown_1 hrows_1 hb_1 (RRB.out _ (below_drewB B1)) HM3.out hown_2 hg_2; obtain ⟨a_2, c_2, rfl⟩ := ownsRow_form hown_2; have B_2 := below_step (below_drewB B1) hj.2; have S8 := Lib.hid (And.intro (X0_0 _ B_2) (And.intro (X0_1 _ B_2) (X1_1 _ B_2)))) | (go_at_call 93; (with_reducible refine (hred.out _ _ hj.1).mono ?_); rintro e w9 ⟨v9, rfl, ho9, hb9⟩; obtain ⟨a9, c9, rfl⟩ := ho9.reads.form; have B9 := below_step B_2 hb9; have q0 := Q0 _ B9; have q1 := Q1 _ B9; have g0 := G0 _ B9; have g1 := G1 _ B9; have S9 := Lib.hid (And.intro (X0_0 _ B9) (And.intro (X0_1 _ B9) (X1_1 _ B9)))))
    have hfin := Lib.hid (optMat_put (HB.out.trans (B_2.mono HB.out.size)) hb9 ho9 (b := w.heap.size + 1 + 1) (by omega) (by have h1 := (B_2).size; have h2 := HS.out; omega) (d := (n : Int)))
    clear ho9 hb9
    go_wp2
    refine bodyPost_ret (v := .tuple #[.agg #[.int .i64 (n : Int), .slice a9 R.length c9], .bool true]) (by simp [results, Tryd.results52, go_sem, q0, q1]) rfl ?_
    exact hfin.out
    

end Ints
end Go.Proofs.YtkpheigoegehoaaDoor
