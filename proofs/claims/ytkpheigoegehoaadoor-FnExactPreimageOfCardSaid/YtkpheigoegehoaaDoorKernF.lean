/- KernelOf, both. -/
import Derived.Test.YtkpheigoegehoaaDoorSpNull
import Derived.Test.YtkpheigoegehoaaDoorKern
import Derived.Test.YtkpheigoegehoaaDoorMxTurn
import Derived.Test.YtkpheigoegehoaaDoorPred
import Derived.Test.YtkpheigoegehoaaDoorSpanF
import Derived.Deep.RegionHeld3
namespace Go.Proofs.YtkpheigoegehoaaDoor
open Go.RowKit
namespace Ints
open Fld (tab_alloc)

/-- A list of lists in new memory, and whether there is one. -/
def OptRows (w : World) (b : Bool) (R : List (List Int)) (e : Ending) (w' : World) : Prop :=
  ∃ v, e = .returned (.tuple #[v, .bool b]) ∧ OwnsM (w.heap.size ≤ ·) w' v R ∧ Below w.heap.size w w'
def kerOut (p c : Int) (A : List (List Int)) : List (List Int) := if matB p c A then Lin.kernelL p c.toNat A else []
theorem kerOut_ctr (p c : Int) (A : List (List Int)) : (1 : Int) + (sumL (kerOut p c A) : Int) ≤ 1000000000 := by
  unfold kerOut
  split
  · rename_i h
    obtain ⟨n, rfl, hn, hl, _, hA⟩ := mat_nats h
    obtain ⟨h1, h2, _⟩ := Lin.kernel_facts (mat_parts h).1 hA
    exact ctr_elems' h1 (by omega) (by omega)
  · exact ctr_nil

set_option maxRecDepth 100000 in
theorem run_field_rows (a : Int) (s : Option Addr) (n c : Nat) (w : World) : (Instr.field 30 (.agg #[.int .i64 a, .slice s n c]) 1).run Tryd.prog w = .ok (.slice s n c) w := by kernel_rfl

set_option maxHeartbeats 2000000 in
set_option maxRecDepth 100000 in
theorem specKernel_any (p c : Int) (u : Value) (A : List (List Int)) (w : World) (hu : ReadsM w u A) :
    Calls Tryd.prog 53 #[.int .i64 p, .agg #[.int .i64 c, u]] w (OptRows w (matB p c A) (kerOut p c A)) := by
  have hB := Lib.hid ((Below.refl w.heap.size w).alloc (Nat.le_refl _) (.cells #[.int .i64 c, u] 30))
  have hgood := Lib.hid (mxGood_any p c u A _ (hu.below hB.out))
  obtain ⟨ua, uc, rfl⟩ := hu.form
  cases hb : matB p c A with
  | false =>
    have e1 : kerOut p c A = [] := by simp [kerOut, hb]
    rw [e1]
    rw [hb] at hgood
    clear hu hb e1
    go_enter Tryd.func53, Tryd.ntmps53
    go_wp2_with (go_at_call 72; ((with_reducible refine (hgood.out).mono ?_); rintro e w' ⟨rfl, hq⟩))
    go_ret2
    exact ⟨_, rfl, ownsM_nil _ _, hB.out.trans (hq.mono hB.out.size)⟩
  | true =>
    have hg := (mat_parts hb).1
    obtain ⟨n, rfl, hn, hl, h2, hA⟩ := mat_nats hb
    have hT := Lin.turn_elems hA
    have e1 : kerOut p n A = Lin.nullL p A.length (turnT n A) := by rw [← Lin.kernel_eq hg hA]; simp [kerOut, hb]
    rw [e1]
    rw [hb] at hgood
    have hturn := Lib.hid (fun W (hW : Below w.heap.size w W) => mxTurn_any n (.slice ua A.length uc) A (by omega) (by omega) (fun i hi => (hA.2 i hi).1) W (hu.below hW))
    have hnull := Lib.hid (fun W v h => spNull_any p hg n A.length (by omega) (by omega) v (turnT n A) W hT h)
    obtain ⟨R, hR⟩ : ∃ R, Lin.nullL p A.length (turnT n A) = R := ⟨_, rfl⟩
    rw [hR] at hnull ⊢
    obtain ⟨r, hr⟩ : ∃ r, A.length = r := ⟨_, rfl⟩
    have hrm : r ≤ 9223372036854775807 := by omega
    have htl : (turnT n A).length = n := hT.1
    have HTL := Lib.hid htl
    rw [hr] at hturn hnull hgood hB hl ⊢
    clear hu hb e1 hA hg hR hT htl hr
    have hfd := run_field_rows
    go_enter Tryd.func53, Tryd.ntmps53
    go_wp2_with fail
    refine hgood.out.mono ?_
    rintro e w1 ⟨rfl, hq⟩
    have M0 : ∀ W, Below w1.heap.size w1 W → W.cell? ⟨w.heap.size, 0, none⟩ = some (.int .i64 n) := fun W hW => cell_old hW (cell_old hq (by simp [go_sem]))
    have M1 : ∀ W, Below w1.heap.size w1 W → W.cell? ⟨w.heap.size, 1, none⟩ = some (.slice ua r uc) := fun W hW => cell_old hW (cell_old hq (by simp [go_sem]))
    have HQ := Lib.hid (hB.out.trans (hq.mono hB.out.size))
    clear hq hgood
    go_upto_region 3 with fail
    go_region_held3 (fun W => Below w1.heap.size w1 W)
      (first | ((repeat (first | exact Below.refl _ _ | assumption | apply below_drewB | refine below_step ?_ hb_2 | refine below_step ?_ hb_1)); done))
      (first
        | (go_at_call 104; (with_reducible refine (hturn.out _ (HQ.out.trans (Below.mono (by repeat (first | exact Below.refl _ _ | assumption | apply below_drewB)) HQ.out.size))).mono ?_); rintro e w_1 ⟨v_1, rfl, ho_1, hb_1⟩; obtain ⟨a_1, c_1, rfl⟩ := ho_1.reads.form)
        | (go_at_call 103; (with_reducible refine (hnull.out _ _ ho_1.reads).mono ?_); rintro e w_2 ⟨v_2, rfl, ho_2, hb_2⟩; obtain ⟨a_2, c_2, rfl⟩ := ho_2.reads.form))
    have hB1 : Below w1.heap.size w1 w_1 := below_step (below_drewB (Below.refl _ _)) hb_1
    have hfin : Hid (OptRows w true R (.returned (.tuple #[.slice a_2 R.length c_2, .bool true])) w_2) :=
      ⟨_, rfl, ho_2.mono fun g hg => by have := hB1.size; have := HQ.out.size; omega, HQ.out.trans ((hB1.trans (hb_2.mono hB1.size)).mono HQ.out.size)⟩
    clear ho_1 hb_1 ho_2 hb_2 M0 M1 hturn hnull hfd
    go_wp2
    go_ret2
    exact hfin.out

set_option maxHeartbeats 2000000 in
set_option maxRecDepth 100000 in
theorem implKernel_any (p c : Int) (u : Value) (A : List (List Int)) (w : World) (ht : Tab w) (hu : ReadsM w u A) :
    Calls Tryd.prog 54 #[.int .i64 p, .agg #[.int .i64 c, u]] w (OptRows w (matB p c A) (kerOut p c A)) := by
  have hB := Lib.hid ((Below.refl w.heap.size w).alloc (Nat.le_refl _) (.cells #[.int .i64 c, u] 30))
  have hgood := Lib.hid (isMatrix_any p c u A _ (tab_alloc ht _) (hu.below hB.out))
  obtain ⟨ua, uc, rfl⟩ := hu.form
  cases hb : matB p c A with
  | false =>
    have e1 : kerOut p c A = [] := by simp [kerOut, hb]
    rw [e1]
    rw [hb] at hgood
    clear hu hb e1 ht
    go_enter Tryd.func54, Tryd.ntmps54
    go_wp2_with (go_at_call 74; ((with_reducible refine (hgood.out).mono ?_); rintro e w' ⟨rfl, hq⟩))
    go_ret2
    exact ⟨_, rfl, ownsM_nil _ _, hB.out.trans (hq.mono hB.out.size)⟩
  | true =>
    have hg := (mat_parts hb).1
    obtain ⟨n, rfl, hn, hl, h2, hA⟩ := mat_nats hb
    have e1 : kerOut p n A = Lin.kernelL p n A := by simp [kerOut, hb]
    rw [e1]
    rw [hb] at hgood
    have hcall := Lib.hid (fun W (hW : Below w.heap.size w W) => kernel_any p hg A.length n (by omega) (by omega) (.slice ua A.length uc) A W hA (hu.below hW))
    obtain ⟨R, hR⟩ : ∃ R, Lin.kernelL p n A = R := ⟨_, rfl⟩
    rw [hR] at hcall ⊢
    clear hu hb e1 hA hg hR ht
    go_enter Tryd.func54, Tryd.ntmps54
    go_wp2_with fail
    refine hgood.out.mono ?_
    rintro e w1 ⟨rfl, hq⟩
    have c0 : w1.cell? ⟨w.heap.size, 0, none⟩ = some (.int .i64 n) := cell_old hq (by simp [go_sem])
    have c1 : w1.cell? ⟨w.heap.size, 1, none⟩ = some (.slice ua A.length uc) := cell_old hq (by simp [go_sem])
    have HQ := Lib.hid (hB.out.trans (hq.mono hB.out.size))
    clear hq
    go_wp2_with fail
    refine (hcall.out w1 HQ.out).mono ?_
    rintro e w2 ⟨v2, rfl, ho2, hq2⟩
    obtain ⟨a2, c2, rfl⟩ := ho2.reads.form
    have hfin : Hid (OptRows w true R (.returned (.tuple #[.slice a2 R.length c2, .bool true])) w2) := ⟨_, rfl, ho2.mono fun g hg => Nat.le_trans HQ.out.size hg, HQ.out.trans (hq2.mono HQ.out.size)⟩
    clear ho2 hq2 c0 c1
    go_wp2
    go_ret2
    exact hfin.out

end Ints
end Go.Proofs.YtkpheigoegehoaaDoor
