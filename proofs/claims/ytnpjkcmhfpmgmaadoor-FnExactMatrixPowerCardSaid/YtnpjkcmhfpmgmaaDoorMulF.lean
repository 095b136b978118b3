/- MulMatrices, both. (Printed by wip/gen_mul.py.) -/
import Derived.Test.YtnpjkcmhfpmgmaaDoorMxMul
import Derived.Test.YtnpjkcmhfpmgmaaDoorTimes
import Derived.Test.YtnpjkcmhfpmgmaaDoorPredSpec
import Derived.Test.YtnpjkcmhfpmgmaaDoorPredImpl
import Derived.Test.YtnpjkcmhfpmgmaaDoorLawBase
namespace Go.Proofs.YtnpjkcmhfpmgmaaDoor
open Go.RowKit
namespace Ints

def fitMul (p ca cb : Int) (A B : List (List Int)) : Bool := matB p ca A && matB p cb B && (ca == (B.length : Int))
def mulOut (p ca cb : Int) (A B : List (List Int)) : List (List Int) := if fitMul p ca cb A B then mulT p cb.toNat A B else []
def mulCols (p ca cb : Int) (A B : List (List Int)) : Int := if fitMul p ca cb A B then cb else 0
theorem fitMul_parts {p ca cb : Int} {A B : List (List Int)} (h : fitMul p ca cb A B = true) : ∃ n c : Nat, ca = n ∧ cb = c ∧ n ≤ 24 ∧ c ≤ 24 ∧ A.length ≤ 24 ∧ (2 ≤ p ∧ p ≤ 97) ∧ ElemsT p A.length n A ∧ ElemsT p n c B := by
  simp only [fitMul, Bool.and_eq_true, beq_iff_eq] at h
  obtain ⟨⟨h1, h2⟩, h3⟩ := h
  obtain ⟨n, e1, hn, hl, hp, hA⟩ := mat_nats h1
  obtain ⟨c, e2, hc, hl2, _, hB⟩ := mat_nats h2
  refine ⟨n, c, e1, e2, hn, hc, hl, hp, hA, ?_⟩
  rw [show B.length = n by omega] at hB
  exact hB
theorem ctr_elems {p : Int} {r c : Nat} {L : List (List Int)} (h : ElemsT p r c L) (hr : r ≤ 1000) (hc : c ≤ 1000) : (1 : Int) + (sumL L : Int) ≤ 1000000000 := by
  have h1 := sum_le_mul List.length c L (fun l hl => by
    obtain ⟨i, hi, rfl⟩ := List.getElem_of_mem hl
    have := (h.2 i (by rw [← h.1]; exact hi)).1
    rw [show lAt L i = L[i] by simp [lAt, hi]] at this
    omega)
  have h2 : r * c ≤ 1000 * 1000 := Nat.mul_le_mul hr hc
  rw [h.1] at h1
  unfold sumL
  omega
theorem mulOut_ctr (p ca cb : Int) (A B : List (List Int)) : (1 : Int) + (sumL (mulOut p ca cb A B) : Int) ≤ 1000000000 := by
  unfold mulOut
  split
  · rename_i h
    obtain ⟨n, c, rfl, rfl, hn, hc, hl, hp, hA, hB⟩ := fitMul_parts h
    exact ctr_elems (elems_mul hp.1 hA (c := c)) (by omega) (by omega)
  · exact ctr_nil

set_option maxHeartbeats 4000000 in
theorem specMul_any (p ca cb : Int) (u v : Value) (A B : List (List Int)) (w : World) (hu : ReadsM w u A) (hv : ReadsM w v B) :
    Calls Tryd.prog 19 #[.int .i64 p, .agg #[.int .i64 ca, u], .agg #[.int .i64 cb, v]] w (OptMat w (fitMul p ca cb A B) (mulCols p ca cb A B) (mulOut p ca cb A B)) := by
  obtain ⟨ua, uc, rfl⟩ := hu.form
  obtain ⟨va, vc, rfl⟩ := hv.form
  obtain ⟨w0, hw0⟩ : ∃ W, W = (((w.alloc (.cells #[.int .i64 ca, .slice ua A.length uc] 26)).alloc (.cells #[.int .i64 cb, .slice va B.length vc] 26)).alloc (.cells #[.int .i64 0, .slice none 0 0] 26)) := ⟨_, rfl⟩
  have hB : Below w.heap.size w w0 := by rw [hw0]; exact ((((Below.refl w.heap.size w).alloc (by simp) (.cells #[.int .i64 ca, .slice ua A.length uc] 26)).alloc (by simp) (.cells #[.int .i64 cb, .slice va B.length vc] 26)).alloc (by simp; omega) (.cells #[.int .i64 0, .slice none 0 0] 26))
  have hs0 : w0.heap.size = w.heap.size + 3 := by rw [hw0]; simp
  have X0_0 : ∀ W, Below w0.heap.size w0 W → W.cell? ⟨w.heap.size, 0, none⟩ = some (.int .i64 ca) := fun W hW => cell_old hW (by rw [hw0]; simp [go_sem])
  have X0_1 : ∀ W, Below w0.heap.size w0 W → W.cell? ⟨w.heap.size, 1, none⟩ = some (.slice ua A.length uc) := fun W hW => cell_old hW (by rw [hw0]; simp [go_sem])
  have X1_0 : ∀ W, Below w0.heap.size w0 W → W.cell? ⟨w.heap.size + 1, 0, none⟩ = some (.int .i64 cb) := fun W hW => cell_old hW (by rw [hw0]; simp [go_sem])
  have X1_1 : ∀ W, Below w0.heap.size w0 W → W.cell? ⟨w.heap.size + 1, 1, none⟩ = some (.slice va B.length vc) := fun W hW => cell_old hW (by rw [hw0]; simp [go_sem])
  have Q0 : ∀ W, Below w0.heap.size w0 W → W.cell? ⟨w.heap.size + 1 + 1, 0, none⟩ = some (.int .i64 0) := fun W hW => cell_old hW (by rw [hw0]; simp [go_sem])
  have G0 : ∀ W, Below w0.heap.size w0 W → W.frozen? ⟨w.heap.size + 1 + 1, 0, none⟩ = false := fun W hW => frozen_old hW (by show w.heap.size + 1 + 1 < _; omega) (by rw [hw0]; simp [go_sem])
  have Q1 : ∀ W, Below w0.heap.size w0 W → W.cell? ⟨w.heap.size + 1 + 1, 1, none⟩ = some (.slice none 0 0) := fun W hW => cell_old hW (by rw [hw0]; simp [go_sem])
  have G1 : ∀ W, Below w0.heap.size w0 W → W.frozen? ⟨w.heap.size + 1 + 1, 1, none⟩ = false := fun W hW => frozen_old hW (by show w.heap.size + 1 + 1 < _; omega) (by rw [hw0]; simp [go_sem])
  have HW := Lib.hid hw0
  have HB := Lib.hid hB
  have HS := Lib.hid hs0
  have HU := Lib.hid (hu.below hB)
  have HV := Lib.hid (hv.below hB)
  obtain ⟨b1, hb1⟩ : ∃ b, (matB p ca A) = b := ⟨_, rfl⟩
  have Cb1 := Lib.hid (fun W (hW : Below w0.heap.size w0 W) => mxGood_any p ca _ A W (HU.out.below hW))
  rw [hb1] at Cb1
  obtain ⟨b2, hb2⟩ : ∃ b, (matB p cb B) = b := ⟨_, rfl⟩
  have Cb2 := Lib.hid (fun W (hW : Below w0.heap.size w0 W) => mxGood_any p cb _ B W (HV.out.below hW))
  rw [hb2] at Cb2
  obtain ⟨b3, hb3⟩ : ∃ b, (ca == (B.length : Int)) = b := ⟨_, rfl⟩
  have Eb3 : (ca != (B.length : Int)) = !b3 := by rw [← hb3]; rfl
  clear hw0 hB hs0 hu hv
  cases b1 with
  | false =>
    have e0 : fitMul p ca cb A B = false := by simp [fitMul, hb1]
    have e1 : mulOut p ca cb A B = [] := by simp [mulOut, e0]
    have e2 : mulCols p ca cb A B = 0 := by simp [mulCols, e0]
    rw [e0, e1, e2]
    clear e0 e1 e2
    clear hb1 hb2 hb3
    go_enter Tryd.func19, Tryd.ntmps19
    go_wp2_with fail
    rw [← HW.out]
    refine (Cb1.out w0 (Below.refl _ _)).mono ?_
    rintro e w1 ⟨rfl, hb1⟩
    have B1 : Below w0.heap.size w0 w1 := hb1
    clear hb1
    go_wp2
    refine bodyPost_ret (v := .tuple #[.agg #[.int .i64 0, .slice none 0 0], .bool false]) (by simp [results, Tryd.results19, go_sem, Q0 _ B1, Q1 _ B1]) rfl ?_
    exact optMat_none (HB.out.trans (B1.mono HB.out.size)) (by omega)
  | true =>
    cases b2 with
    | false =>
      have e0 : fitMul p ca cb A B = false := by simp [fitMul, hb1, hb2]
      have e1 : mulOut p ca cb A B = [] := by simp [mulOut, e0]
      have e2 : mulCols p ca cb A B = 0 := by simp [mulCols, e0]
      rw [e0, e1, e2]
      clear e0 e1 e2
      clear hb1 hb2 hb3
      go_enter Tryd.func19, Tryd.ntmps19
      go_wp2_with fail
      rw [← HW.out]
      refine (Cb1.out w0 (Below.refl _ _)).mono ?_
      rintro e w1 ⟨rfl, hb1⟩
      have B1 : Below w0.heap.size w0 w1 := hb1
      clear hb1
      go_wp2_with fail
      refine (Cb2.out w1 B1).mono ?_
      rintro e w2 ⟨rfl, hb2⟩
      have B2 : Below w0.heap.size w0 w2 := below_step B1 hb2
      clear hb2
      go_wp2
      refine bodyPost_ret (v := .tuple #[.agg #[.int .i64 0, .slice none 0 0], .bool false]) (by simp [results, Tryd.results19, go_sem, Q0 _ B2, Q1 _ B2]) rfl ?_
      exact optMat_none (HB.out.trans (B2.mono HB.out.size)) (by omega)
    | true =>
      cases b3 with
      | false =>
        have e0 : fitMul p ca cb A B = false := by simp [fitMul, hb1, hb2, hb3]
        have e1 : mulOut p ca cb A B = [] := by simp [mulOut, e0]
        have e2 : mulCols p ca cb A B = 0 := by simp [mulCols, e0]
        rw [e0, e1, e2]
        clear e0 e1 e2
        clear hb1 hb2 hb3
        go_enter Tryd.func19, Tryd.ntmps19
        go_wp2_with fail
        rw [← HW.out]
        refine (Cb1.out w0 (Below.refl _ _)).mono ?_
        rintro e w1 ⟨rfl, hb1⟩
        have B1 : Below w0.heap.size w0 w1 := hb1
        clear hb1
        go_wp2_with fail
        refine (Cb2.out w1 B1).mono ?_
        rintro e w2 ⟨rfl, hb2⟩
        have B2 : Below w0.heap.size w0 w2 := below_step B1 hb2
        clear hb2
        go_wp2
        refine bodyPost_ret (v := .tuple #[.agg #[.int .i64 0, .slice none 0 0], .bool false]) (by simp [results, Tryd.results19, go_sem, Q0 _ B2, Q1 _ B2]) rfl ?_
        exact optMat_none (HB.out.trans (B2.mono HB.out.size)) (by omega)
      | true =>
        have e0 : fitMul p ca cb A B = true := by simp [fitMul, hb1, hb2, hb3]
        obtain ⟨n, c, rfl, rfl, hn, hc, hl, h2, hA, hBB⟩ := fitMul_parts e0
        have e1 : mulOut p n c A B = mulT p c A B := by simp [mulOut, e0]
        have e2 : mulCols p n c A B = c := by simp [mulCols, e0]
        rw [e0, e1, e2]
        have HA := Lib.hid hA
        have HBB := Lib.hid hBB
        clear e0 e1 e2 hb1 hb2 hb3 hA hBB
        obtain ⟨R, hR⟩ : ∃ R, mulT p c A B = R := ⟨_, rfl⟩
        rw [hR]
        have HR := Lib.hid hR
        clear hR
        go_enter Tryd.func19, Tryd.ntmps19
        go_wp2_with fail
        rw [← HW.out]
        refine (Cb1.out w0 (Below.refl _ _)).mono ?_
        rintro e w1 ⟨rfl, hb1⟩
        have B1 : Below w0.heap.size w0 w1 := hb1
        clear hb1
        go_wp2_with fail
        refine (Cb2.out w1 B1).mono ?_
        rintro e w2 ⟨rfl, hb2⟩
        have B2 : Below w0.heap.size w0 w2 := below_step B1 hb2
        clear hb2
        have hcall := Lib.hid (HR.out ▸ mxMul_any p n c n h2.1 h2.2 (by omega) _ _ A B w2 (by omega) HA.out HBB.out (HU.out.below B2) (HV.out.below B2))
        have HBW := Lib.hid (HB.out.trans (B2.mono HB.out.size))
        have HLT : w.heap.size + 1 + 1 < w2.heap.size := by have := (B2).size; have := HS.out; omega
        
        go_wp2_with fail
        refine hcall.out.mono ?_
        rintro e w9 ⟨v9, rfl, ho9, hb9⟩
        have B9 : Below w0.heap.size w0 w9 := below_step B2 hb9
        obtain ⟨a9, c9, rfl⟩ := ho9.reads.form
        have q0 := Q0 _ B9
        have q1 := Q1 _ B9
        have g0 := G0 _ B9
        have g1 := G1 _ B9
        have hfin := Lib.hid (optMat_put HBW.out hb9 ho9 (b := w.heap.size + 1 + 1) (by omega) HLT (d := (c : Int)))
        clear ho9 hb9 hcall
        go_wp2
        refine bodyPost_ret (v := .tuple #[.agg #[.int .i64 (c : Int), .slice a9 R.length c9], .bool true]) (by simp [results, Tryd.results19, go_sem, q0, q1]) rfl ?_
        exact hfin.out
        
set_option maxHeartbeats 4000000 in
theorem implMul_any (p ca cb : Int) (u v : Value) (A B : List (List Int)) (w : World) (ht : Tab w) (hu : ReadsM w u A) (hv : ReadsM w v B) :
    Calls Tryd.prog 20 #[.int .i64 p, .agg #[.int .i64 ca, u], .agg #[.int .i64 cb, v]] w (OptMat w (fitMul p ca cb A B) (mulCols p ca cb A B) (mulOut p ca cb A B)) := by
  obtain ⟨ua, uc, rfl⟩ := hu.form
  obtain ⟨va, vc, rfl⟩ := hv.form
  obtain ⟨w0, hw0⟩ : ∃ W, W = (((w.alloc (.cells #[.int .i64 ca, .slice ua A.length uc] 26)).alloc (.cells #[.int .i64 cb, .slice va B.length vc] 26)).alloc (.cells #[.int .i64 0, .slice none 0 0] 26)) := ⟨_, rfl⟩
  have hB : Below w.heap.size w w0 := by rw [hw0]; exact ((((Below.refl w.heap.size w).alloc (by simp) (.cells #[.int .i64 ca, .slice ua A.length uc] 26)).alloc (by simp) (.cells #[.int .i64 cb, .slice va B.length vc] 26)).alloc (by simp; omega) (.cells #[.int .i64 0, .slice none 0 0] 26))
  have hs0 : w0.heap.size = w.heap.size + 3 := by rw [hw0]; simp
  have X0_0 : ∀ W, Below w0.heap.size w0 W → W.cell? ⟨w.heap.size, 0, none⟩ = some (.int .i64 ca) := fun W hW => cell_old hW (by rw [hw0]; simp [go_sem])
  have X0_1 : ∀ W, Below w0.heap.size w0 W → W.cell? ⟨w.heap.size, 1, none⟩ = some (.slice ua A.length uc) := fun W hW => cell_old hW (by rw [hw0]; simp [go_sem])
  have X1_0 : ∀ W, Below w0.heap.size w0 W → W.cell? ⟨w.heap.size + 1, 0, none⟩ = some (.int .i64 cb) := fun W hW => cell_old hW (by rw [hw0]; simp [go_sem])
  have X1_1 : ∀ W, Below w0.heap.size w0 W → W.cell? ⟨w.heap.size + 1, 1, none⟩ = some (.slice va B.length vc) := fun W hW => cell_old hW (by rw [hw0]; simp [go_sem])
  have Q0 : ∀ W, Below w0.heap.size w0 W → W.cell? ⟨w.heap.size + 1 + 1, 0, none⟩ = some (.int .i64 0) := fun W hW => cell_old hW (by rw [hw0]; simp [go_sem])
  have G0 : ∀ W, Below w0.heap.size w0 W → W.frozen? ⟨w.heap.size + 1 + 1, 0, none⟩ = false := fun W hW => frozen_old hW (by show w.heap.size + 1 + 1 < _; omega) (by rw [hw0]; simp [go_sem])
  have Q1 : ∀ W, Below w0.heap.size w0 W → W.cell? ⟨w.heap.size + 1 + 1, 1, none⟩ = some (.slice none 0 0) := fun W hW => cell_old hW (by rw [hw0]; simp [go_sem])
  have G1 : ∀ W, Below w0.heap.size w0 W → W.frozen? ⟨w.heap.size + 1 + 1, 1, none⟩ = false := fun W hW => frozen_old hW (by show w.heap.size + 1 + 1 < _; omega) (by rw [hw0]; simp [go_sem])
  have HW := Lib.hid hw0
  have HB := Lib.hid hB
  have HS := Lib.hid hs0
  have HU := Lib.hid (hu.below hB)
  have HV := Lib.hid (hv.below hB)
  have htB : Hid (Tab w0) := ht.below ht.size hB
  obtain ⟨b1, hb1⟩ : ∃ b, (matB p ca A) = b := ⟨_, rfl⟩
  have Cb1 := Lib.hid (fun W (hW : Below w0.heap.size w0 W) => isMatrix_any p ca _ A W (htB.out.below htB.out.size hW) (HU.out.below hW))
  rw [hb1] at Cb1
  obtain ⟨b2, hb2⟩ : ∃ b, (matB p cb B) = b := ⟨_, rfl⟩
  have Cb2 := Lib.hid (fun W (hW : Below w0.heap.size w0 W) => isMatrix_any p cb _ B W (htB.out.below htB.out.size hW) (HV.out.below hW))
  rw [hb2] at Cb2
  obtain ⟨b3, hb3⟩ : ∃ b, (ca == (B.length : Int)) = b := ⟨_, rfl⟩
  have Eb3 : (ca != (B.length : Int)) = !b3 := by rw [← hb3]; rfl
  clear hw0 hB hs0 hu hv ht
  cases b1 with
  | false =>
    have e0 : fitMul p ca cb A B = false := by simp [fitMul, hb1]
    have e1 : mulOut p ca cb A B = [] := by simp [mulOut, e0]
    have e2 : mulCols p ca cb A B = 0 := by simp [mulCols, e0]
    rw [e0, e1, e2]
    clear e0 e1 e2
    clear hb1 hb2 hb3
    go_enter Tryd.func20, Tryd.ntmps20
    go_wp2_with fail
    rw [← HW.out]
    refine (Cb1.out w0 (Below.refl _ _)).mono ?_
    rintro e w1 ⟨rfl, hb1⟩
    have B1 : Below w0.heap.size w0 w1 := hb1
    clear hb1
    go_wp2
    refine bodyPost_ret (v := .tuple #[.agg #[.int .i64 0, .slice none 0 0], .bool false]) (by simp [results, Tryd.results20, go_sem, Q0 _ B1, Q1 _ B1]) rfl ?_
    exact optMat_none (HB.out.trans (B1.mono HB.out.size)) (by omega)
  | true =>
    cases b2 with
    | false =>
      have e0 : fitMul p ca cb A B = false := by simp [fitMul, hb1, hb2]
      have e1 : mulOut p ca cb A B = [] := by simp [mulOut, e0]
      have e2 : mulCols p ca cb A B = 0 := by simp [mulCols, e0]
      rw [e0, e1, e2]
      clear e0 e1 e2
      clear hb1 hb2 hb3
      go_enter Tryd.func20, Tryd.ntmps20
      go_wp2_with fail
      rw [← HW.out]
      refine (Cb1.out w0 (Below.refl _ _)).mono ?_
      rintro e w1 ⟨rfl, hb1⟩
      have B1 : Below w0.heap.size w0 w1 := hb1
      clear hb1
      go_wp2_with fail
      refine (Cb2.out w1 B1).mono ?_
      rintro e w2 ⟨rfl, hb2⟩
      have B2 : Below w0.heap.size w0 w2 := below_step B1 hb2
      clear hb2
      go_wp2
      refine bodyPost_ret (v := .tuple #[.agg #[.int .i64 0, .slice none 0 0], .bool false]) (by simp [results, Tryd.results20, go_sem, Q0 _ B2, Q1 _ B2]) rfl ?_
      exact optMat_none (HB.out.trans (B2.mono HB.out.size)) (by omega)
    | true =>
      cases b3 with
      | false =>
        have e0 : fitMul p ca cb A B = false := by simp [fitMul, hb1, hb2, hb3]
        have e1 : mulOut p ca cb A B = [] := by simp [mulOut, e0]
        have e2 : mulCols p ca cb A B = 0 := by simp [mulCols, e0]
        rw [e0, e1, e2]
        clear e0 e1 e2
        clear hb1 hb2 hb3
        go_enter Tryd.func20, Tryd.ntmps20
        go_wp2_with fail
        rw [← HW.out]
        refine (Cb1.out w0 (Below.refl _ _)).mono ?_
        rintro e w1 ⟨rfl, hb1⟩
        have B1 : Below w0.heap.size w0 w1 := hb1
        clear hb1
        go_wp2_with fail
        refine (Cb2.out w1 B1).mono ?_
        rintro e w2 ⟨rfl, hb2⟩
        have B2 : Below w0.heap.size w0 w2 := below_step B1 hb2
        clear hb2
        go_wp2
        refine bodyPost_ret (v := .tuple #[.agg #[.int .i64 0, .slice none 0 0], .bool false]) (by simp [results, Tryd.results20, go_sem, Q0 _ B2, Q1 _ B2]) rfl ?_
        exact optMat_none (HB.out.trans (B2.mono HB.out.size)) (by omega)
      | true =>
        have e0 : fitMul p ca cb A B = true := by simp [fitMul, hb1, hb2, hb3]
        obtain ⟨n, c, rfl, rfl, hn, hc, hl, h2, hA, hBB⟩ := fitMul_parts e0
        have e1 : mulOut p n c A B = mulT p c A B := by simp [mulOut, e0]
        have e2 : mulCols p n c A B = c := by simp [mulCols, e0]
        rw [e0, e1, e2]
        have HA := Lib.hid hA
        have HBB := Lib.hid hBB
        clear e0 e1 e2 hb1 hb2 hb3 hA hBB
        obtain ⟨R, hR⟩ : ∃ R, mulT p c A B = R := ⟨_, rfl⟩
        rw [hR]
        have HR := Lib.hid hR
        clear hR
        go_enter Tryd.func20, Tryd.ntmps20
        go_wp2_with fail
        rw [← HW.out]
        refine (Cb1.out w0 (Below.refl _ _)).mono ?_
        rintro e w1 ⟨rfl, hb1⟩
        have B1 : Below w0.heap.size w0 w1 := hb1
        clear hb1
        go_wp2_with fail
        refine (Cb2.out w1 B1).mono ?_
        rintro e w2 ⟨rfl, hb2⟩
        have B2 : Below w0.heap.size w0 w2 := below_step B1 hb2
        clear hb2
        have hcall := Lib.hid (HR.out ▸ times_any p n c n h2.1 h2.2 (by omega) _ _ A B w2 (by omega) HA.out HBB.out (HU.out.below B2) (HV.out.below B2))
        have HBW := Lib.hid (HB.out.trans (B2.mono HB.out.size))
        have HLT : w.heap.size + 1 + 1 < w2.heap.size := by have := (B2).size; have := HS.out; omega
        
        go_wp2_with fail
        refine hcall.out.mono ?_
        rintro e w9 ⟨v9, rfl, ho9, hb9⟩
        have B9 : Below w0.heap.size w0 w9 := below_step B2 hb9
        obtain ⟨a9, c9, rfl⟩ := ho9.reads.form
        have q0 := Q0 _ B9
        have q1 := Q1 _ B9
        have g0 := G0 _ B9
        have g1 := G1 _ B9
        have hfin := Lib.hid (optMat_put HBW.out hb9 ho9 (b := w.heap.size + 1 + 1) (by omega) HLT (d := (c : Int)))
        clear ho9 hb9 hcall
        go_wp2
        refine bodyPost_ret (v := .tuple #[.agg #[.int .i64 (c : Int), .slice a9 R.length c9], .bool true]) (by simp [results, Tryd.results20, go_sem, q0, q1]) rfl ?_
        exact hfin.out
        

end Ints
end Go.Proofs.YtnpjkcmhfpmgmaaDoor

