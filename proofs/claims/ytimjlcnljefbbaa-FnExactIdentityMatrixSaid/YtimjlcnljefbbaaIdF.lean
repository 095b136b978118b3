/- IdentityMatrix, both. (Printed by wip/gen_id.py.) -/
import Derived.Test.YtimjlcnljefbbaaMxId
import Derived.Test.YtimjlcnljefbbaaClones
import Derived.Test.YtimjlcnljefbbaaPred
import Derived.Test.YtimjlcnljefbbaaLawBase
import Derived.IntWalk
namespace Go.Proofs.Ytimjlcnljefbbaa
open Go.RowKit
namespace Ints

def idB (n : Int) : Bool := Fld.inR n 0 24
def idOut (n : Int) : List (List Int) := if idB n then idT n.toNat else []
def idCols (n : Int) : Int := if idB n then n else 0
theorem idB_parts {n : Int} (h : idB n = true) : ∃ m : Nat, n = m ∧ m ≤ 24 := by
  have := h
  unfold idB Fld.inR at this
  simp only [Bool.and_eq_true, decide_eq_true_eq] at this
  exact ⟨n.toNat, by omega, by omega⟩
theorem idOut_ctr (n : Int) : (1 : Int) + (sumL (idOut n) : Int) ≤ 1000000000 := by
  unfold idOut
  split
  · rename_i h
    obtain ⟨m, rfl, hm⟩ := idB_parts h
    exact ctr_tab (by simp; omega) (by simp; omega) _
  · exact ctr_nil

set_option maxRecDepth 100000 in
set_option maxHeartbeats 4000000 in
theorem specId_any (n : Int) (w : World)  :
    Calls Try.prog 9 #[.int .i64 n] w (OptMat w (idB n) (idCols n) (idOut n)) := by
  obtain ⟨w0, hw0⟩ : ∃ W, W = (w.alloc (.cells #[.int .i64 0, .slice none 0 0] 24)) := ⟨_, rfl⟩
  have hB : Below w.heap.size w w0 := by rw [hw0]; exact ((Below.refl w.heap.size w).alloc (by simp) (.cells #[.int .i64 0, .slice none 0 0] 24))
  have hs0 : w0.heap.size = w.heap.size + 1 := by rw [hw0]; simp
  have Q0 : ∀ W, Below w0.heap.size w0 W → W.cell? ⟨w.heap.size, 0, none⟩ = some (.int .i64 0) := fun W hW => cell_old hW (by rw [hw0]; simp [go_sem])
  have G0 : ∀ W, Below w0.heap.size w0 W → W.frozen? ⟨w.heap.size, 0, none⟩ = false := fun W hW => frozen_old hW (by show w.heap.size < _; omega) (by rw [hw0]; simp [go_sem])
  have Q1 : ∀ W, Below w0.heap.size w0 W → W.cell? ⟨w.heap.size, 1, none⟩ = some (.slice none 0 0) := fun W hW => cell_old hW (by rw [hw0]; simp [go_sem])
  have G1 : ∀ W, Below w0.heap.size w0 W → W.frozen? ⟨w.heap.size, 1, none⟩ = false := fun W hW => frozen_old hW (by show w.heap.size < _; omega) (by rw [hw0]; simp [go_sem])
  have HW := Lib.hid hw0
  have HB := Lib.hid hB
  have HS := Lib.hid hs0
  obtain ⟨b1, hb1⟩ : ∃ b, (Fld.inR n 0 24) = b := ⟨_, rfl⟩
  have Cb1 := Lib.hid (fun W (_ : Below w0.heap.size w0 W) => Fld.l1In_any n 0 24 W)
  rw [hb1] at Cb1
  clear hw0 hB hs0 
  cases b1 with
  | false =>
    have e0 : idB n = false := hb1
    have e1 : idOut n = [] := by simp [idOut, e0]
    have e2 : idCols n = 0 := by simp [idCols, e0]
    rw [e0, e1, e2]
    clear e0 e1 e2
    clear hb1
    go_enter Try.func9, Try.ntmps9
    go_wp2_with fail
    rw [← HW.out]
    refine (Cb1.out w0 (Below.refl _ _)).mono ?_
    rintro e w1 ⟨rfl, rfl⟩
    have BR := Below.refl w0.heap.size w0
    go_wp2
    refine bodyPost_ret (v := .tuple #[.agg #[.int .i64 0, .slice none 0 0], .bool false]) (by simp [results, Try.results9, go_sem, Q0 _ (Below.refl w0.heap.size w0), Q1 _ (Below.refl w0.heap.size w0)]) rfl ?_
    exact optMat_none (HB.out.trans ((Below.refl w0.heap.size w0).mono HB.out.size)) (by omega)
  | true =>
    have e0 : idB n = true := hb1
    obtain ⟨m, rfl, hm⟩ := idB_parts e0
    have e1 : idOut m = idT m := by simp [idOut, e0]
    have e2 : idCols m = m := by simp [idCols, e0]
    rw [e0, e1, e2]
    have HIL := Lib.hid (show (idT m).length = m by rw [idT, tabT_length])
    obtain ⟨R, hR⟩ : ∃ R, idT m = R := ⟨_, rfl⟩
    rw [hR] at HIL ⊢
    have HR := Lib.hid hR
    clear e0 e1 e2 hb1 hR
    go_enter Try.func9, Try.ntmps9
    go_wp2_with fail
    rw [← HW.out]
    refine (Cb1.out w0 (Below.refl _ _)).mono ?_
    rintro e w1 ⟨rfl, rfl⟩
    have hc := Lib.hid (fun W => mxId_any m (by omega) W)
    rw [HR.out] at hc
    go_wp2_with fail
    refine (hc.out _).mono ?_
    rintro e w9 ⟨v9, rfl, ho9, hb9⟩
    obtain ⟨a9, c9, rfl⟩ := ho9.reads.form
    have q0 := Q0 _ hb9
    have q1 := Q1 _ hb9
    have g0 := G0 _ hb9
    have g1 := G1 _ hb9
    have hfin := Lib.hid (optMat_put HB.out hb9 ho9 (b := w.heap.size) (by omega) (by have h2 := HS.out; omega) (d := (m : Int)))
    clear ho9 hb9
    go_wp2
    refine bodyPost_ret (v := .tuple #[.agg #[.int .i64 (m : Int), .slice a9 R.length c9], .bool true]) (by simp [results, Try.results9, go_sem, q0, q1]) rfl ?_
    exact hfin.out

set_option maxRecDepth 100000 in
set_option maxHeartbeats 4000000 in
theorem implId_any (n : Int) (w : World)  :
    Calls Try.prog 10 #[.int .i64 n] w (OptMat w (idB n) (idCols n) (idOut n)) := by
  obtain ⟨w0, hw0⟩ : ∃ W, W = (w.alloc (.cells #[.int .i64 0, .slice none 0 0] 24)) := ⟨_, rfl⟩
  have hB : Below w.heap.size w w0 := by rw [hw0]; exact ((Below.refl w.heap.size w).alloc (by simp) (.cells #[.int .i64 0, .slice none 0 0] 24))
  have hs0 : w0.heap.size = w.heap.size + 1 := by rw [hw0]; simp
  have Q0 : ∀ W, Below w0.heap.size w0 W → W.cell? ⟨w.heap.size, 0, none⟩ = some (.int .i64 0) := fun W hW => cell_old hW (by rw [hw0]; simp [go_sem])
  have G0 : ∀ W, Below w0.heap.size w0 W → W.frozen? ⟨w.heap.size, 0, none⟩ = false := fun W hW => frozen_old hW (by show w.heap.size < _; omega) (by rw [hw0]; simp [go_sem])
  have Q1 : ∀ W, Below w0.heap.size w0 W → W.cell? ⟨w.heap.size, 1, none⟩ = some (.slice none 0 0) := fun W hW => cell_old hW (by rw [hw0]; simp [go_sem])
  have G1 : ∀ W, Below w0.heap.size w0 W → W.frozen? ⟨w.heap.size, 1, none⟩ = false := fun W hW => frozen_old hW (by show w.heap.size < _; omega) (by rw [hw0]; simp [go_sem])
  have HW := Lib.hid hw0
  have HB := Lib.hid hB
  have HS := Lib.hid hs0
  obtain ⟨b1, hb1⟩ : ∃ b, (Fld.inR n 0 24) = b := ⟨_, rfl⟩
  have Cb1 := Lib.hid (fun W (_ : Below w0.heap.size w0 W) => within_any n 0 24 W)
  rw [hb1] at Cb1
  clear hw0 hB hs0 
  cases b1 with
  | false =>
    have e0 : idB n = false := hb1
    have e1 : idOut n = [] := by simp [idOut, e0]
    have e2 : idCols n = 0 := by simp [idCols, e0]
    rw [e0, e1, e2]
    clear e0 e1 e2
    clear hb1
    go_enter Try.func10, Try.ntmps10
    go_wp2_with fail
    rw [← HW.out]
    refine (Cb1.out w0 (Below.refl _ _)).mono ?_
    rintro e w1 ⟨rfl, rfl⟩
    have BR := Below.refl w0.heap.size w0
    go_wp2
    refine bodyPost_ret (v := .tuple #[.agg #[.int .i64 0, .slice none 0 0], .bool false]) (by simp [results, Try.results10, go_sem, Q0 _ (Below.refl w0.heap.size w0), Q1 _ (Below.refl w0.heap.size w0)]) rfl ?_
    exact optMat_none (HB.out.trans ((Below.refl w0.heap.size w0).mono HB.out.size)) (by omega)
  | true =>
    have e0 : idB n = true := hb1
    obtain ⟨m, rfl, hm⟩ := idB_parts e0
    have e1 : idOut m = idT m := by simp [idOut, e0]
    have e2 : idCols m = m := by simp [idCols, e0]
    rw [e0, e1, e2]
    have HIL := Lib.hid (show (idT m).length = m by rw [idT, tabT_length])
    obtain ⟨R, hR⟩ : ∃ R, idT m = R := ⟨_, rfl⟩
    rw [hR] at HIL ⊢
    have HR := Lib.hid hR
    clear e0 e1 e2 hb1 hR
    go_enter Try.func10, Try.ntmps10
    go_wp2_with fail
    rw [← HW.out]
    refine (Cb1.out w0 (Below.refl _ _)).mono ?_
    rintro e w1 ⟨rfl, rfl⟩
    have hc := Lib.hid (fun W => identityRows_any m (by omega) W)
    rw [HR.out] at hc
    go_wp2_with fail
    refine (hc.out _).mono ?_
    rintro e w9 ⟨v9, rfl, ho9, hb9⟩
    obtain ⟨a9, c9, rfl⟩ := ho9.reads.form
    have q0 := Q0 _ hb9
    have q1 := Q1 _ hb9
    have g0 := G0 _ hb9
    have g1 := G1 _ hb9
    have hfin := Lib.hid (optMat_put HB.out hb9 ho9 (b := w.heap.size) (by omega) (by have h2 := HS.out; omega) (d := (m : Int)))
    clear ho9 hb9
    go_wp2
    refine bodyPost_ret (v := .tuple #[.agg #[.int .i64 (m : Int), .slice a9 R.length c9], .bool true]) (by simp [results, Try.results10, go_sem, q0, q1]) rfl ?_
    exact hfin.out

end Ints
end Go.Proofs.Ytimjlcnljefbbaa
