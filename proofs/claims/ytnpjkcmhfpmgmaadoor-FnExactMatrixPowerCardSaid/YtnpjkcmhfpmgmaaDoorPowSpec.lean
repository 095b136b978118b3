/- MatrixPower, the reference's. (Printed by wip/gen_pow.py.) -/
import Derived.Test.YtnpjkcmhfpmgmaaDoorMxPower
import Derived.Test.YtnpjkcmhfpmgmaaDoorPredSpec
import Derived.Test.YtnpjkcmhfpmgmaaDoorPredImpl
import Derived.Test.YtnpjkcmhfpmgmaaDoorLawBase
namespace Go.Proofs.YtnpjkcmhfpmgmaaDoor
open Go.RowKit
namespace Ints

set_option maxHeartbeats 1000000 in
theorem mxSquare_any (p c : Int) (v : Value) (L : List (List Int)) (w : World) (h : ReadsM w v L) :
    Calls Tryd.prog 54 #[.int .i64 p, .agg #[.int .i64 c, v]] w fun e w' => e = .returned (.bool (matB p c L && decide ((L.length : Int) = c))) ∧ Below w.heap.size w w' := by
  have hB := Lib.hid ((Below.refl w.heap.size w).alloc (Nat.le_refl _) (.cells #[.int .i64 c, v] 26))
  have hcall := Lib.hid (mxGood_any p c v L _ (h.below hB.out))
  obtain ⟨a, cap, rfl⟩ := h.form
  obtain ⟨r, hr⟩ : ∃ r, matB p c L = r := ⟨_, rfl⟩
  obtain ⟨b, hb⟩ : ∃ b, decide ((L.length : Int) = c) = b := ⟨_, rfl⟩
  rw [hr] at hcall ⊢
  rw [hb]
  have hb2 : ((L.length : Int) == c) = b := by rw [← hb]; rfl
  clear h hr hb
  cases r with
  | false =>
    go_enter Tryd.func54, Tryd.ntmps54
    go_wp2_with (go_at_call 45; ((with_reducible refine (hcall.out).mono ?_); rintro e w' ⟨rfl, hq⟩))
    go_ret
    exact ⟨rfl, hB.out.trans (hq.mono hB.out.size)⟩
  | true =>
    go_enter Tryd.func54, Tryd.ntmps54
    go_wp2_with fail
    refine hcall.out.mono ?_
    rintro e w1 ⟨rfl, hq⟩
    have c0 : w1.cell? ⟨w.heap.size, 0, none⟩ = some (.int .i64 c) := cell_old hq (by simp [go_sem])
    have c1 : w1.cell? ⟨w.heap.size, 1, none⟩ = some (.slice a L.length cap) := cell_old hq (by simp [go_sem])
    have HQ := Lib.hid hq
    clear hq
    go_wp2
    go_ret
    exact ⟨rfl, hB.out.trans (HQ.out.mono hB.out.size)⟩
set_option maxHeartbeats 1000000 in
theorem isSquare_any (c : Int) (v : Value) (L : List (List Int)) (w : World) (h : ReadsM w v L) :
    Calls Tryd.prog 57 #[.agg #[.int .i64 c, v]] w fun e w' => e = .returned (.bool (decide ((L.length : Int) = c))) ∧ Below w.heap.size w w' := by
  have hB := Lib.hid ((Below.refl w.heap.size w).alloc (Nat.le_refl _) (.cells #[.int .i64 c, v] 26))
  obtain ⟨a, cap, rfl⟩ := h.form
  obtain ⟨b, hb⟩ : ∃ b, decide ((L.length : Int) = c) = b := ⟨_, rfl⟩
  rw [hb]
  have hb2 : ((L.length : Int) == c) = b := by rw [← hb]; rfl
  clear h hb
  go_enter Tryd.func57, Tryd.ntmps57
  go_wp2
  go_ret
  exact ⟨rfl, hB.out⟩

set_option maxHeartbeats 4000000 in
theorem specPower_any (p c m : Int) (u : Value) (A : List (List Int)) (w : World) (hu : ReadsM w u A) :
    Calls Tryd.prog 21 #[.int .i64 p, .agg #[.int .i64 c, u], .int .i64 m] w (OptMat w (powB p c m A) (powCols p c m A) (powOut p c m A)) := by
  obtain ⟨ua, uc, rfl⟩ := hu.form
  obtain ⟨w0, hw0⟩ : ∃ W, W = ((w.alloc (.cells #[.int .i64 c, .slice ua A.length uc] 26)).alloc (.cells #[.int .i64 0, .slice none 0 0] 26)) := ⟨_, rfl⟩
  have hB : Below w.heap.size w w0 := by rw [hw0]; exact (((Below.refl w.heap.size w).alloc (by simp) (.cells #[.int .i64 c, .slice ua A.length uc] 26)).alloc (by simp) (.cells #[.int .i64 0, .slice none 0 0] 26))
  have hs0 : w0.heap.size = w.heap.size + 2 := by rw [hw0]; simp
  have X0_0 : ∀ W, Below w0.heap.size w0 W → W.cell? ⟨w.heap.size, 0, none⟩ = some (.int .i64 c) := fun W hW => cell_old hW (by rw [hw0]; simp [go_sem])
  have X0_1 : ∀ W, Below w0.heap.size w0 W → W.cell? ⟨w.heap.size, 1, none⟩ = some (.slice ua A.length uc) := fun W hW => cell_old hW (by rw [hw0]; simp [go_sem])
  have Q0 : ∀ W, Below w0.heap.size w0 W → W.cell? ⟨w.heap.size + 1, 0, none⟩ = some (.int .i64 0) := fun W hW => cell_old hW (by rw [hw0]; simp [go_sem])
  have G0 : ∀ W, Below w0.heap.size w0 W → W.frozen? ⟨w.heap.size + 1, 0, none⟩ = false := fun W hW => frozen_old hW (by show w.heap.size + 1 < _; omega) (by rw [hw0]; simp [go_sem])
  have Q1 : ∀ W, Below w0.heap.size w0 W → W.cell? ⟨w.heap.size + 1, 1, none⟩ = some (.slice none 0 0) := fun W hW => cell_old hW (by rw [hw0]; simp [go_sem])
  have G1 : ∀ W, Below w0.heap.size w0 W → W.frozen? ⟨w.heap.size + 1, 1, none⟩ = false := fun W hW => frozen_old hW (by show w.heap.size + 1 < _; omega) (by rw [hw0]; simp [go_sem])
  have HW := Lib.hid hw0
  have HB := Lib.hid hB
  have HS := Lib.hid hs0
  have HU := Lib.hid (hu.below hB)
  have HU0 := Lib.hid hu
  obtain ⟨b1, hb1⟩ : ∃ b, (matB p c A && decide ((A.length : Int) = c)) = b := ⟨_, rfl⟩
  have Cb1 := Lib.hid (fun W (hW : Below w0.heap.size w0 W) => mxSquare_any p c _ A W (HU.out.below hW))
  rw [hb1] at Cb1
  obtain ⟨b2, hb2⟩ : ∃ b, (Fld.inR m 0 1000) = b := ⟨_, rfl⟩
  have Cb2 := Lib.hid (fun W (hW : Below w0.heap.size w0 W) => Fld.l1In_any m 0 1000 W)
  rw [hb2] at Cb2
  clear hw0 hB hs0 hu
  cases b1 with
  | false =>
    have e0 : powB p c m A = false := by simp [powB, hb1]
    have e1 : powOut p c m A = [] := by simp [powOut, e0]
    have e2 : powCols p c m A = 0 := by simp [powCols, e0]
    rw [e0, e1, e2]
    clear e0 e1 e2
    clear hb1 hb2
    go_enter Tryd.func21, Tryd.ntmps21
    go_wp2_with fail
    rw [← HW.out]
    refine (Cb1.out w0 (Below.refl _ _)).mono ?_
    rintro e w1 ⟨rfl, hb1⟩
    have B1 : Below w0.heap.size w0 w1 := hb1
    clear hb1
    go_wp2
    refine bodyPost_ret (v := .tuple #[.agg #[.int .i64 0, .slice none 0 0], .bool false]) (by simp [results, Tryd.results21, go_sem, Q0 _ B1, Q1 _ B1]) rfl ?_
    exact optMat_none (HB.out.trans (B1.mono HB.out.size)) (by omega)
  | true =>
    cases b2 with
    | false =>
      have e0 : powB p c m A = false := by simp [powB, hb1, hb2]
      have e1 : powOut p c m A = [] := by simp [powOut, e0]
      have e2 : powCols p c m A = 0 := by simp [powCols, e0]
      rw [e0, e1, e2]
      clear e0 e1 e2
      clear hb1 hb2
      go_enter Tryd.func21, Tryd.ntmps21
      go_wp2_with fail
      rw [← HW.out]
      refine (Cb1.out w0 (Below.refl _ _)).mono ?_
      rintro e w1 ⟨rfl, hb1⟩
      have B1 : Below w0.heap.size w0 w1 := hb1
      clear hb1
      go_wp2_with fail
      refine (Cb2.out w1 B1).mono ?_
      rintro e w2 ⟨rfl, rfl⟩
      go_wp2
      refine bodyPost_ret (v := .tuple #[.agg #[.int .i64 0, .slice none 0 0], .bool false]) (by simp [results, Tryd.results21, go_sem, Q0 _ B1, Q1 _ B1]) rfl ?_
      exact optMat_none (HB.out.trans (B1.mono HB.out.size)) (by omega)
    | true =>
      have e0 : powB p c m A = true := by simp [powB, hb1, hb2]
      obtain ⟨n, k, rfl, rfl, hn, hk, hl, h2, hA⟩ := powB_parts e0
      have e1 : powOut p n k A = powT p n k (idT n) A := by simp [powOut, e0]
      have e2 : powCols p n k A = n := by simp [powCols, e0]
      rw [e0, e1, e2]
      have HA := Lib.hid hA
      have HL := Lib.hid hl
      clear e0 e1 e2 hb1 hb2 hA hl
      obtain ⟨R, hR⟩ : ∃ R, powT p n k (idT n) A = R := ⟨_, rfl⟩
      rw [hR]
      have HR := Lib.hid hR
      clear hR
      go_enter Tryd.func21, Tryd.ntmps21
      go_wp2_with fail
      rw [← HW.out]
      refine (Cb1.out w0 (Below.refl _ _)).mono ?_
      rintro e w1 ⟨rfl, hb1⟩
      have B1 : Below w0.heap.size w0 w1 := hb1
      clear hb1
      go_wp2_with fail
      refine (Cb2.out w1 B1).mono ?_
      rintro e w2 ⟨rfl, rfl⟩
      have hcall := Lib.hid (HR.out ▸ mxPower_any p n k h2.1 h2.2 (by omega) (by omega) _ A w1 HA.out (HU.out.below B1))
      have HBW := Lib.hid (HB.out.trans (B1.mono HB.out.size))
      have HLT : w.heap.size + 1 < w1.heap.size := by have := (B1).size; have := HS.out; omega
      
      go_wp2_with fail
      refine hcall.out.mono ?_
      rintro e w9 ⟨v9, rfl, ho9, hb9⟩
      have B9 : Below w0.heap.size w0 w9 := below_step B1 hb9
      obtain ⟨a9, c9, rfl⟩ := ho9.reads.form
      have q0 := Q0 _ B9
      have q1 := Q1 _ B9
      have g0 := G0 _ B9
      have g1 := G1 _ B9
      have hfin := Lib.hid (optMat_put HBW.out hb9 ho9 (b := w.heap.size + 1) (by omega) HLT (d := (n : Int)))
      clear ho9 hb9 hcall
      go_wp2
      refine bodyPost_ret (v := .tuple #[.agg #[.int .i64 (n : Int), .slice a9 R.length c9], .bool true]) (by simp [results, Tryd.results21, go_sem, q0, q1]) rfl ?_
      exact hfin.out
      

end Ints
end Go.Proofs.YtnpjkcmhfpmgmaaDoor

