/- SpanOf, both. (Printed by wip/gen_span.py.) -/
import Derived.Test.YtkpheigoegehoaaDoorSpReduce
import Derived.Test.YtkpheigoegehoaaDoorSpPred
import Derived.Test.YtkpheigoegehoaaDoorReduced
import Derived.Test.YtkpheigoegehoaaDoorMatBox
import Derived.Test.YtkpheigoegehoaaDoorLawBase
import Derived.Test.YtkpheigoegehoaaDoorPred
namespace Go.Proofs.YtkpheigoegehoaaDoor
open Go.RowKit
namespace Ints

def fitSpan (p c : Int) (A : List (List Int)) : Bool := Fld.goodB p && Fld.inR c 0 24 && decide (A.length ≤ 48) && rowsB p c A
def spanOut (p c : Int) (A : List (List Int)) : List (List Int) := if fitSpan p c A then reducedL p c.toNat A else []
def spanCols (p c : Int) (A : List (List Int)) : Int := if fitSpan p c A then c else 0
theorem rows_elems {p c : Int} {A : List (List Int)} (h : rowsB p c A = true) (hc : 0 ≤ c) : ElemsT p A.length c.toNat A := by
  refine ⟨rfl, fun i hi => ?_⟩
  have h1 := List.all_eq_true.1 h (A[i]) (List.getElem_mem hi)
  have e : lAt A i = A[i] := by simp [lAt, hi]
  unfold vecB at h1
  simp only [Bool.and_eq_true, decide_eq_true_eq] at h1
  unfold at2
  rw [e]
  refine ⟨by omega, fun j hj => ?_⟩
  have hjl : j < (A[i]).length := by omega
  have h2 := List.all_eq_true.1 h1.2 ((A[i])[j]) (List.getElem_mem hjl)
  rw [List.getElem?_eq_getElem hjl]
  unfold Fld.inB at h2
  simp only [Bool.and_eq_true, decide_eq_true_eq] at h2
  exact h2
theorem inR_parts {c lo hi : Int} (h : Fld.inR c lo hi = true) : lo ≤ c ∧ c ≤ hi := by
  have := h
  unfold Fld.inR at this
  simpa using this
theorem fitSpan_parts {p c : Int} {A : List (List Int)} (h : fitSpan p c A = true) : ∃ n : Nat, c = n ∧ n ≤ 24 ∧ A.length ≤ 48 ∧ Fld.goodB p = true ∧ ElemsT p A.length n A := by
  simp only [fitSpan, Bool.and_eq_true, decide_eq_true_eq] at h
  obtain ⟨⟨⟨h1, h2⟩, h3⟩, h4⟩ := h
  obtain ⟨q1, q2⟩ := inR_parts h2
  refine ⟨c.toNat, by omega, by omega, h3, h1, rows_elems h4 q1⟩
theorem ctr_elems' {p : Int} {r c : Nat} {L : List (List Int)} (h : ElemsT p r c L) (hr : r ≤ 1000) (hc : c ≤ 1000) : (1 : Int) + (sumL L : Int) ≤ 1000000000 := by
  have h1 := sum_le_mul List.length c L (fun l hl => by
    obtain ⟨i, hi, rfl⟩ := List.getElem_of_mem hl
    have := (h.2 i (by rw [← h.1]; exact hi)).1
    rw [show lAt L i = L[i] by simp [lAt, hi]] at this
    omega)
  have h2 : r * c ≤ 1000 * 1000 := Nat.mul_le_mul hr hc
  rw [h.1] at h1
  unfold sumL
  omega
theorem reduced_elems {p : Int} {n c : Nat} {M : List (List Int)} (hg : Fld.goodB p = true) (hM : ElemsT p n c M) : ElemsT p (reducedL p c M).length c (reducedL p c M) ∧ (reducedL p c M).length ≤ n := by
  obtain ⟨ld, _, h2, h3, _⟩ := Lin.reduced_spec hg hM
  exact ⟨h2, h3⟩
theorem spanOut_ctr (p c : Int) (A : List (List Int)) : (1 : Int) + (sumL (spanOut p c A) : Int) ≤ 1000000000 := by
  unfold spanOut
  split
  · rename_i h
    obtain ⟨n, rfl, hn, hl, hg, hA⟩ := fitSpan_parts h
    obtain ⟨h1, h2⟩ := reduced_elems hg hA
    exact ctr_elems' h1 (by omega) (by omega)
  · exact ctr_nil

set_option maxHeartbeats 1000000 in
theorem span_any (p : Int) (hg : Fld.goodB p = true) (n c : Nat) (hn : n ≤ 1000) (hc : c ≤ 1000) (v : Value) (M : List (List Int)) (w : World) (hM : ElemsT p n c M) (hv : ReadsM w v M) :
    Calls Tryd.prog 93 #[.int .i64 p, .int .i64 c, v] w (NewMat w c (reducedL p c M)) := by
  obtain ⟨a, cap, rfl⟩ := hv.form
  have hB := Lib.hid ((Below.refl w.heap.size w).alloc (Nat.le_refl _) (.cells #[.int .i64 0, .slice none 0 0] 43))
  have hcall := Lib.hid (reduced_any p hg n c hn hc _ M _ hM (hv.below hB.out))
  obtain ⟨R, hR⟩ : ∃ R, reducedL p c M = R := ⟨_, rfl⟩
  rw [hR] at hcall ⊢
  clear hg hM hv hR
  go_enter Tryd.func93, Tryd.ntmps93
  go_wp2_with fail
  refine hcall.out.mono ?_
  rintro e w1 ⟨v1, rfl, ho1, hb1⟩
  obtain ⟨a1, c1, rfl⟩ := ho1.reads.form
  have q0 : w1.cell? ⟨w.heap.size, 0, none⟩ = some (.int .i64 0) := cell_old hb1 (by simp [go_sem])
  have q1 : w1.cell? ⟨w.heap.size, 1, none⟩ = some (.slice none 0 0) := cell_old hb1 (by simp [go_sem])
  have g0 : w1.frozen? ⟨w.heap.size, 0, none⟩ = false := frozen_old hb1 (by simp) (by simp [go_sem])
  have g1 : w1.frozen? ⟨w.heap.size, 1, none⟩ = false := frozen_old hb1 (by simp) (by simp [go_sem])
  have hfin : Hid (NewMat w c R (.returned (.agg #[.int .i64 c, .slice a1 R.length c1])) ((w1.setCell ⟨w.heap.size, 0, none⟩ (.int .i64 c)).setCell ⟨w.heap.size, 1, none⟩ (.slice a1 R.length c1))) := by
    have hc2 := matAt_chg2 w1 w.heap.size (.int .i64 c) (.slice a1 R.length c1)
    exact ⟨_, rfl, (ho1.chg hc2 fun g hg e => by simp at hg; omega).mono fun g hg => by simp at hg; omega, (hB.out.trans (hb1.mono hB.out.size)).trans (hc2.below (Nat.le_trans hB.out.size hb1.size) fun g hg => by omega)⟩
  clear ho1 hb1 hcall
  go_wp2
  refine bodyPost_ret (v := .agg #[.int .i64 c, .slice a1 R.length c1]) (by simp [results, Tryd.results93, go_sem, q0, q1]) rfl ?_
  exact hfin.out

set_option maxHeartbeats 4000000 in
set_option maxRecDepth 100000 in
theorem specSpan_any (p c : Int) (u : Value) (A : List (List Int)) (w : World) (hu : ReadsM w u A) :
    Calls Tryd.prog 33 #[.int .i64 p, .int .i64 c, u] w (OptMat w (fitSpan p c A) (spanCols p c A) (spanOut p c A)) := by
  obtain ⟨ua, uc, rfl⟩ := hu.form
  obtain ⟨w0, hw0⟩ : ∃ W, W = (w.alloc (.cells #[.int .i64 0, .slice none 0 0] 43)) := ⟨_, rfl⟩
  have hB : Below w.heap.size w w0 := by rw [hw0]; exact ((Below.refl w.heap.size w).alloc (by simp) (.cells #[.int .i64 0, .slice none 0 0] 43))
  have hs0 : w0.heap.size = w.heap.size + 1 := by rw [hw0]; simp
  have Q0 : ∀ W, Below w0.heap.size w0 W → W.cell? ⟨w.heap.size, 0, none⟩ = some (.int .i64 0) := fun W hW => cell_old hW (by rw [hw0]; simp [go_sem])
  have q0 := Q0 w0 (Below.refl _ _)
  have G0 : ∀ W, Below w0.heap.size w0 W → W.frozen? ⟨w.heap.size, 0, none⟩ = false := fun W hW => frozen_old hW (by show w.heap.size < _; omega) (by rw [hw0]; simp [go_sem])
  have g0 := G0 w0 (Below.refl _ _)
  have Q1 : ∀ W, Below w0.heap.size w0 W → W.cell? ⟨w.heap.size, 1, none⟩ = some (.slice none 0 0) := fun W hW => cell_old hW (by rw [hw0]; simp [go_sem])
  have q1 := Q1 w0 (Below.refl _ _)
  have G1 : ∀ W, Below w0.heap.size w0 W → W.frozen? ⟨w.heap.size, 1, none⟩ = false := fun W hW => frozen_old hW (by show w.heap.size < _; omega) (by rw [hw0]; simp [go_sem])
  have g1 := G1 w0 (Below.refl _ _)
  have HW := Lib.hid hw0
  have HB := Lib.hid hB
  have HS := Lib.hid hs0
  have HU := Lib.hid (hu.below hB)
  have hc1 := Lib.hid (fun W => Fld.fdGood_any p W)
  have hc2 := Lib.hid (fun W => Fld.l1In_any c 0 24 W)
  obtain ⟨b1, hb1⟩ : ∃ b, (Fld.goodB p) = b := ⟨_, rfl⟩
  obtain ⟨b2, hb2⟩ : ∃ b, (Fld.inR c 0 24) = b := ⟨_, rfl⟩
  obtain ⟨b3, hb3⟩ : ∃ b, (decide (A.length ≤ 48)) = b := ⟨_, rfl⟩
  obtain ⟨b4, hb4⟩ : ∃ b, (rowsB p c A) = b := ⟨_, rfl⟩
  clear hw0 hB hs0 hu
  cases b1 with
  | false =>
    have e0 : fitSpan p c A = false := by simp [fitSpan, hb1]
    have e1 : spanOut p c A = [] := by simp [spanOut, e0]
    have e2 : spanCols p c A = 0 := by simp [spanCols, e0]
    rw [e0, e1, e2]
    rw [hb1] at hc1
    clear e0 e1 e2 hb1 hb2 hb3 hb4
    go_enter Tryd.func33, Tryd.ntmps33
    go_wp2_with fail
    rw [← HW.out]
    go_wp2_with (first | (go_at_call 86; ((with_reducible refine (hc1.out _).mono ?_); rintro e w' ⟨rfl, rfl⟩)))
    refine bodyPost_ret (v := .tuple #[.agg #[.int .i64 0, .slice none 0 0], .bool false]) (by simp [results, Tryd.results33, go_sem, q0, q1]) rfl ?_
    exact optMat_none HB.out (by omega)
  | true =>
    have h297 := Lib.hid (Fld.good_bounds hb1)
    have hc4 := Lib.hid (fun W (hW : Below w0.heap.size w0 W) => spRows_any p c h297.out.1 h297.out.2 _ A W (HU.out.below hW))
    cases b2 with
    | false =>
      have e0 : fitSpan p c A = false := by simp [fitSpan, hb1, hb2]
      have e1 : spanOut p c A = [] := by simp [spanOut, e0]
      have e2 : spanCols p c A = 0 := by simp [spanCols, e0]
      rw [e0, e1, e2]
      rw [hb1] at hc1
      rw [hb2] at hc2
      clear e0 e1 e2 hb1 hb2 hb3 hb4
      go_enter Tryd.func33, Tryd.ntmps33
      go_wp2_with fail
      rw [← HW.out]
      go_wp2_with (first | (go_at_call 86; ((with_reducible refine (hc1.out _).mono ?_); rintro e w' ⟨rfl, rfl⟩)) | (go_at_call 87; ((with_reducible refine (hc2.out _).mono ?_); rintro e w' ⟨rfl, rfl⟩)))
      refine bodyPost_ret (v := .tuple #[.agg #[.int .i64 0, .slice none 0 0], .bool false]) (by simp [results, Tryd.results33, go_sem, q0, q1]) rfl ?_
      exact optMat_none HB.out (by omega)
    | true =>
      cases b3 with
      | false =>
        have e0 : fitSpan p c A = false := by simp [fitSpan, hb1, hb2, hb3]
        have e1 : spanOut p c A = [] := by simp [spanOut, e0]
        have e2 : spanCols p c A = 0 := by simp [spanCols, e0]
        rw [e0, e1, e2]
        rw [hb1] at hc1
        rw [hb2] at hc2
        have hlen : ¬ A.length ≤ 48 := by simpa using hb3
        have hx1 : decide ((48 : Int) < (A.length : Int)) = true := by simp; omega
        have hx2 : (48 : Int) < (A.length : Int) := by omega
        have hx3 : 48 < A.length := by omega
        clear e0 e1 e2 hb1 hb2 hb3 hb4
        go_enter Tryd.func33, Tryd.ntmps33
        go_wp2_with fail
        rw [← HW.out]
        go_wp2_with (first | (go_at_call 86; ((with_reducible refine (hc1.out _).mono ?_); rintro e w' ⟨rfl, rfl⟩)) | (go_at_call 87; ((with_reducible refine (hc2.out _).mono ?_); rintro e w' ⟨rfl, rfl⟩)))
        refine bodyPost_ret (v := .tuple #[.agg #[.int .i64 0, .slice none 0 0], .bool false]) (by simp [results, Tryd.results33, go_sem, q0, q1]) rfl ?_
        exact optMat_none HB.out (by omega)
      | true =>
        have hlen : A.length ≤ 48 := by simpa using hb3
        have hx1 : decide ((48 : Int) < (A.length : Int)) = false := by simp; omega
        have hx2 : ¬ (48 : Int) < (A.length : Int) := by omega
        have hx3 : ¬ 48 < A.length := by omega
        cases b4 with
        | false =>
          have e0 : fitSpan p c A = false := by simp [fitSpan, hb1, hb2, hb3, hb4]
          have e1 : spanOut p c A = [] := by simp [spanOut, e0]
          have e2 : spanCols p c A = 0 := by simp [spanCols, e0]
          rw [e0, e1, e2]
          rw [hb1] at hc1
          rw [hb2] at hc2
          rw [hb4] at hc4
          clear e0 e1 e2 hb1 hb2 hb3 hb4
          go_enter Tryd.func33, Tryd.ntmps33
          go_wp2_with fail
          rw [← HW.out]
          go_wp2_with (first | (go_at_call 86; ((with_reducible refine (hc1.out _).mono ?_); rintro e w' ⟨rfl, rfl⟩)) | (go_at_call 87; ((with_reducible refine (hc2.out _).mono ?_); rintro e w' ⟨rfl, rfl⟩)) | (go_at_call 88; ((with_reducible refine (hc4.out _ (Below.refl _ _)).mono ?_); rintro e w' ⟨rfl, rfl⟩)))
          refine bodyPost_ret (v := .tuple #[.agg #[.int .i64 0, .slice none 0 0], .bool false]) (by simp [results, Tryd.results33, go_sem, q0, q1]) rfl ?_
          exact optMat_none HB.out (by omega)
        | true =>
          have e0 : fitSpan p c A = true := by simp [fitSpan, hb1, hb2, hb3, hb4]
          obtain ⟨n, rfl, hn, hl, hg, hA⟩ := fitSpan_parts e0
          have e1 : spanOut p n A = reducedL p n A := by simp [spanOut, e0]
          have e2 : spanCols p n A = n := by simp [spanCols, e0]
          rw [e0, e1, e2]
          rw [hb1] at hc1
          rw [hb2] at hc2
          rw [hb4] at hc4
          have hcall := Lib.hid (spReduce_any p hg A.length n (by omega) (by omega) _ A w0 hA HU.out)
          obtain ⟨R, hR⟩ : ∃ R, reducedL p n A = R := ⟨_, rfl⟩
          rw [hR] at hcall ⊢
          clear e0 e1 e2 hA hg hR hb1 hb2 hb3 hb4
          go_enter Tryd.func33, Tryd.ntmps33
          go_wp2_with fail
          rw [← HW.out]
          go_wp2_with (first | (go_at_call 86; ((with_reducible refine (hc1.out _).mono ?_); rintro e w' ⟨rfl, rfl⟩)) | (go_at_call 87; ((with_reducible refine (hc2.out _).mono ?_); rintro e w' ⟨rfl, rfl⟩)) | (go_at_call 88; ((with_reducible refine (hc4.out _ (Below.refl _ _)).mono ?_); rintro e w' ⟨rfl, rfl⟩)))
          refine hcall.out.mono ?_
          rintro e w9 ⟨v9, rfl, ho9, hb9⟩
          obtain ⟨a9, c9, rfl⟩ := ho9.reads.form
          have q0 := Q0 _ hb9
          have q1 := Q1 _ hb9
          have g0 := G0 _ hb9
          have g1 := G1 _ hb9
          have HLT : w.heap.size < w0.heap.size := by have := HS.out; omega
          have hfin := Lib.hid (optMat_put HB.out hb9 ho9 (b := w.heap.size) (by omega) HLT (d := (n : Int)))
          clear ho9 hb9 hcall
          go_wp2
          refine bodyPost_ret (v := .tuple #[.agg #[.int .i64 (n : Int), .slice a9 R.length c9], .bool true]) (by simp [results, Tryd.results33, go_sem, q0, q1]) rfl ?_
          exact hfin.out
set_option maxHeartbeats 4000000 in
set_option maxRecDepth 100000 in
theorem implSpan_any (p c : Int) (u : Value) (A : List (List Int)) (w : World) (ht : Tab w) (hu : ReadsM w u A) :
    Calls Tryd.prog 35 #[.int .i64 p, .int .i64 c, u] w (OptMat w (fitSpan p c A) (spanCols p c A) (spanOut p c A)) := by
  obtain ⟨ua, uc, rfl⟩ := hu.form
  obtain ⟨w0, hw0⟩ : ∃ W, W = (w.alloc (.cells #[.int .i64 0, .slice none 0 0] 43)) := ⟨_, rfl⟩
  have hB : Below w.heap.size w w0 := by rw [hw0]; exact ((Below.refl w.heap.size w).alloc (by simp) (.cells #[.int .i64 0, .slice none 0 0] 43))
  have hs0 : w0.heap.size = w.heap.size + 1 := by rw [hw0]; simp
  have Q0 : ∀ W, Below w0.heap.size w0 W → W.cell? ⟨w.heap.size, 0, none⟩ = some (.int .i64 0) := fun W hW => cell_old hW (by rw [hw0]; simp [go_sem])
  have q0 := Q0 w0 (Below.refl _ _)
  have G0 : ∀ W, Below w0.heap.size w0 W → W.frozen? ⟨w.heap.size, 0, none⟩ = false := fun W hW => frozen_old hW (by show w.heap.size < _; omega) (by rw [hw0]; simp [go_sem])
  have g0 := G0 w0 (Below.refl _ _)
  have Q1 : ∀ W, Below w0.heap.size w0 W → W.cell? ⟨w.heap.size, 1, none⟩ = some (.slice none 0 0) := fun W hW => cell_old hW (by rw [hw0]; simp [go_sem])
  have q1 := Q1 w0 (Below.refl _ _)
  have G1 : ∀ W, Below w0.heap.size w0 W → W.frozen? ⟨w.heap.size, 1, none⟩ = false := fun W hW => frozen_old hW (by show w.heap.size < _; omega) (by rw [hw0]; simp [go_sem])
  have g1 := G1 w0 (Below.refl _ _)
  have HW := Lib.hid hw0
  have HB := Lib.hid hB
  have HS := Lib.hid hs0
  have htB : Hid (Tab w0) := ht.below ht.size hB
  have HU := Lib.hid (hu.below hB)
  have hc1 := Lib.hid (Fld.isField_any p w0 htB.out)
  have hc2 := Lib.hid (fun W => within_any c 0 24 W)
  obtain ⟨b1, hb1⟩ : ∃ b, (Fld.goodB p) = b := ⟨_, rfl⟩
  obtain ⟨b2, hb2⟩ : ∃ b, (Fld.inR c 0 24) = b := ⟨_, rfl⟩
  obtain ⟨b3, hb3⟩ : ∃ b, (decide (A.length ≤ 48)) = b := ⟨_, rfl⟩
  obtain ⟨b4, hb4⟩ : ∃ b, (rowsB p c A) = b := ⟨_, rfl⟩
  clear hw0 hB hs0 hu ht
  cases b1 with
  | false =>
    have e0 : fitSpan p c A = false := by simp [fitSpan, hb1]
    have e1 : spanOut p c A = [] := by simp [spanOut, e0]
    have e2 : spanCols p c A = 0 := by simp [spanCols, e0]
    rw [e0, e1, e2]
    rw [hb1] at hc1
    clear e0 e1 e2 hb1 hb2 hb3 hb4
    go_enter Tryd.func35, Tryd.ntmps35
    go_wp2_with fail
    rw [← HW.out]
    go_wp2_with (first | (go_at_call 90; ((with_reducible refine (hc1.out).mono ?_); rintro e w' ⟨rfl, rfl⟩)))
    refine bodyPost_ret (v := .tuple #[.agg #[.int .i64 0, .slice none 0 0], .bool false]) (by simp [results, Tryd.results35, go_sem, q0, q1]) rfl ?_
    exact optMat_none HB.out (by omega)
  | true =>
    have hc4 := Lib.hid (fun W (hW : Below w0.heap.size w0 W) => areVectors_any p c _ A W (HU.out.below hW))
    cases b2 with
    | false =>
      have e0 : fitSpan p c A = false := by simp [fitSpan, hb1, hb2]
      have e1 : spanOut p c A = [] := by simp [spanOut, e0]
      have e2 : spanCols p c A = 0 := by simp [spanCols, e0]
      rw [e0, e1, e2]
      rw [hb1] at hc1
      rw [hb2] at hc2
      clear e0 e1 e2 hb1 hb2 hb3 hb4
      go_enter Tryd.func35, Tryd.ntmps35
      go_wp2_with fail
      rw [← HW.out]
      go_wp2_with (first | (go_at_call 90; ((with_reducible refine (hc1.out).mono ?_); rintro e w' ⟨rfl, rfl⟩)) | (go_at_call 91; ((with_reducible refine (hc2.out _).mono ?_); rintro e w' ⟨rfl, rfl⟩)))
      refine bodyPost_ret (v := .tuple #[.agg #[.int .i64 0, .slice none 0 0], .bool false]) (by simp [results, Tryd.results35, go_sem, q0, q1]) rfl ?_
      exact optMat_none HB.out (by omega)
    | true =>
      cases b3 with
      | false =>
        have e0 : fitSpan p c A = false := by simp [fitSpan, hb1, hb2, hb3]
        have e1 : spanOut p c A = [] := by simp [spanOut, e0]
        have e2 : spanCols p c A = 0 := by simp [spanCols, e0]
        rw [e0, e1, e2]
        rw [hb1] at hc1
        rw [hb2] at hc2
        have hlen : ¬ A.length ≤ 48 := by simpa using hb3
        have hx1 : decide ((48 : Int) < (A.length : Int)) = true := by simp; omega
        have hx2 : (48 : Int) < (A.length : Int) := by omega
        have hx3 : 48 < A.length := by omega
        clear e0 e1 e2 hb1 hb2 hb3 hb4
        go_enter Tryd.func35, Tryd.ntmps35
        go_wp2_with fail
        rw [← HW.out]
        go_wp2_with (first | (go_at_call 90; ((with_reducible refine (hc1.out).mono ?_); rintro e w' ⟨rfl, rfl⟩)) | (go_at_call 91; ((with_reducible refine (hc2.out _).mono ?_); rintro e w' ⟨rfl, rfl⟩)))
        refine bodyPost_ret (v := .tuple #[.agg #[.int .i64 0, .slice none 0 0], .bool false]) (by simp [results, Tryd.results35, go_sem, q0, q1]) rfl ?_
        exact optMat_none HB.out (by omega)
      | true =>
        have hlen : A.length ≤ 48 := by simpa using hb3
        have hx1 : decide ((48 : Int) < (A.length : Int)) = false := by simp; omega
        have hx2 : ¬ (48 : Int) < (A.length : Int) := by omega
        have hx3 : ¬ 48 < A.length := by omega
        cases b4 with
        | false =>
          have e0 : fitSpan p c A = false := by simp [fitSpan, hb1, hb2, hb3, hb4]
          have e1 : spanOut p c A = [] := by simp [spanOut, e0]
          have e2 : spanCols p c A = 0 := by simp [spanCols, e0]
          rw [e0, e1, e2]
          rw [hb1] at hc1
          rw [hb2] at hc2
          rw [hb4] at hc4
          clear e0 e1 e2 hb1 hb2 hb3 hb4
          go_enter Tryd.func35, Tryd.ntmps35
          go_wp2_with fail
          rw [← HW.out]
          go_wp2_with (first | (go_at_call 90; ((with_reducible refine (hc1.out).mono ?_); rintro e w' ⟨rfl, rfl⟩)) | (go_at_call 91; ((with_reducible refine (hc2.out _).mono ?_); rintro e w' ⟨rfl, rfl⟩)) | (go_at_call 92; ((with_reducible refine (hc4.out _ (Below.refl _ _)).mono ?_); rintro e w' ⟨rfl, rfl⟩)))
          refine bodyPost_ret (v := .tuple #[.agg #[.int .i64 0, .slice none 0 0], .bool false]) (by simp [results, Tryd.results35, go_sem, q0, q1]) rfl ?_
          exact optMat_none HB.out (by omega)
        | true =>
          have e0 : fitSpan p c A = true := by simp [fitSpan, hb1, hb2, hb3, hb4]
          obtain ⟨n, rfl, hn, hl, hg, hA⟩ := fitSpan_parts e0
          have e1 : spanOut p n A = reducedL p n A := by simp [spanOut, e0]
          have e2 : spanCols p n A = n := by simp [spanCols, e0]
          rw [e0, e1, e2]
          rw [hb1] at hc1
          rw [hb2] at hc2
          rw [hb4] at hc4
          have hcall := Lib.hid (span_any p hg A.length n (by omega) (by omega) _ A w0 hA HU.out)
          obtain ⟨R, hR⟩ : ∃ R, reducedL p n A = R := ⟨_, rfl⟩
          rw [hR] at hcall ⊢
          clear e0 e1 e2 hA hg hR hb1 hb2 hb3 hb4
          go_enter Tryd.func35, Tryd.ntmps35
          go_wp2_with fail
          rw [← HW.out]
          go_wp2_with (first | (go_at_call 90; ((with_reducible refine (hc1.out).mono ?_); rintro e w' ⟨rfl, rfl⟩)) | (go_at_call 91; ((with_reducible refine (hc2.out _).mono ?_); rintro e w' ⟨rfl, rfl⟩)) | (go_at_call 92; ((with_reducible refine (hc4.out _ (Below.refl _ _)).mono ?_); rintro e w' ⟨rfl, rfl⟩)))
          refine hcall.out.mono ?_
          rintro e w9 ⟨v9, rfl, ho9, hb9⟩
          obtain ⟨a9, c9, rfl⟩ := ho9.reads.form
          have q0 := Q0 _ hb9
          have q1 := Q1 _ hb9
          have g0 := G0 _ hb9
          have g1 := G1 _ hb9
          have HLT : w.heap.size < w0.heap.size := by have := HS.out; omega
          have hfin := Lib.hid (optMat_put HB.out hb9 ho9 (b := w.heap.size) (by omega) HLT (d := (n : Int)))
          clear ho9 hb9 hcall
          go_wp2
          refine bodyPost_ret (v := .tuple #[.agg #[.int .i64 (n : Int), .slice a9 R.length c9], .bool true]) (by simp [results, Tryd.results35, go_sem, q0, q1]) rfl ?_
          exact hfin.out

end Ints
end Go.Proofs.YtkpheigoegehoaaDoor
