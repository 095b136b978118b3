/- The law FnExactDeterminantOf: both functions return the same, each in memory of its own, and what they are handed stays as it was. -/
import Derived.Test.YtkpheigoegehoaaDoorLawBase
import Derived.Test.YtkpheigoegehoaaDoorDetF
import Derived.Deep.RegionHeld3
import Derived.Deep.DeepCutAuto
namespace Go.Proofs.YtkpheigoegehoaaDoor.fnExactDeterminantOf
open Go.RowKit Ints

set_option maxHeartbeats 8000000 in
set_option maxRecDepth 100000 in
theorem walk (a0 : Int) (_w0 : (Lit.int .i64 a0).wf = true) (c1x : Int) (v1 : Value) (L1 : List (List Int)) (w : World) (ht : Tab w) (h1 : ReadsM w v1 L1) :
    Calls Tryd.prog 4 #[.int .i64 a0, .agg #[.int .i64 c1x, v1]] w fun e w' => e = .returned (.bool true) ∧ Below w.heap.size w w' := by
  obtain ⟨s1, e1, rfl⟩ := h1.form
  have B := Lib.hid ((Below.refl w.heap.size w).alloc (Nat.le_refl _) (.cells #[.int .i64 c1x, (.slice s1 L1.length e1)] 24))
  have H1 := Lib.hid h1
  have HT := Lib.hid ht
  clear h1 ht
  rcases szN_cases (tot L1) 1048576 with hneg | ⟨hle, hpos⟩
  · have szc0 := Lib.hid (fun W hW => szMatrix_any c1x (.slice s1 L1.length e1) L1 1048576 (by omega) (by omega) W hW)
    rw [hneg] at szc0
    clear hneg
    go_enter Tryd.func4, Tryd.ntmps4
    go_wp2_with fail
    refine (szc0.out _ (H1.out.below B.out)).mono ?_
    rintro e z1 ⟨rfl, hb⟩
    have K0_0 : z1.cell? ⟨w.heap.size, 0, none⟩ = some (.int .i64 c1x) := cell_old hb (by simp [go_sem])
    have K0_1 : z1.cell? ⟨w.heap.size, 1, none⟩ = some ((.slice s1 L1.length e1)) := cell_old hb (by simp [go_sem])
    have BZ1 := Lib.hid (B.out.trans (hb.mono B.out.size))
    have ZB := Lib.hid (show w.heap.size + 1 ≤ z1.heap.size by have := hb.size; simp at this; omega)
    clear hb
    go_wp2
    go_ret
    exact ⟨rfl, BZ1.out⟩
  have szc0 := Lib.hid (fun W hW => szMatrix_any c1x (.slice s1 L1.length e1) L1 1048576 (by omega) (by omega) W hW)
  obtain ⟨r0, hr0⟩ : ∃ r, szN (tot L1) 1048576 = r := ⟨_, rfl⟩
  rw [hr0] at szc0 hpos
  have r00 : 0 ≤ r0 := by omega
  have r01 : r0 ≤ 1048576 := by omega
  have r0b : decide (r0 < 0) = false := by simp; omega
  have T1 := Lib.hid (show tot L1 ≤ 1048576 by omega)
  clear hpos hr0 hle
  obtain ⟨b0, hb0⟩ : ∃ b, detOut a0 c1x L1 = b := ⟨_, rfl⟩
  obtain ⟨b1, hb1⟩ : ∃ b, sqB a0 c1x L1 = b := ⟨_, rfl⟩
  have hs := Lib.hid (fun W v h => specDet_any a0 c1x v L1 W h)
  have hi := Lib.hid (fun W v t h => implDet_any a0 c1x v L1 W t h)
  rw [hb0, hb1] at hs hi
  clear hb0 hb1
  have hq0 : (b0 != b0) = false := by simp
  have hq1 : (b1 != b1) = false := by simp
  go_enter Tryd.func4, Tryd.ntmps4
  go_wp2_with fail
  refine (szc0.out _ (H1.out.below B.out)).mono ?_
  rintro e z1 ⟨rfl, hb⟩
  have K0_0 : z1.cell? ⟨w.heap.size, 0, none⟩ = some (.int .i64 c1x) := cell_old hb (by simp [go_sem])
  have K0_1 : z1.cell? ⟨w.heap.size, 1, none⟩ = some ((.slice s1 L1.length e1)) := cell_old hb (by simp [go_sem])
  have BZ1 := Lib.hid (B.out.trans (hb.mono B.out.size))
  have ZB := Lib.hid (show w.heap.size + 1 ≤ z1.heap.size by have := hb.size; simp at this; omega)
  clear hb
  have Bc := Lib.hid BZ1.out
  clear B BZ1 szc0
  go_wp2_with fail
  refine (toMatrix_any c1x (.slice s1 L1.length e1) L1 z1 (H1.out.below Bc.out) T1.out).mono ?_
  rintro e u1 ⟨v_t0, rfl, ho, hb⟩
  obtain ⟨s_t0, e_t0, rfl⟩ := ho.reads.form
  have F_t0 := Lib.hid ho.bound
  clear ho
  replace K0_0 := cell_old hb K0_0
  replace K0_1 := cell_old hb K0_1
  have Y_u1 := Lib.hid hb.size
  replace Bc := Lib.hid (Bc.out.trans (hb.mono Bc.out.size))
  clear hb
  go_wp2_with fail
  refine (hs.out u1 (.slice s_t0 L1.length e_t0) F_t0.out.reads).mono ?_
  rintro e u2 ⟨rfl, hb⟩
  replace K0_0 := cell_old hb K0_0
  replace K0_1 := cell_old hb K0_1
  replace F_t0 := Lib.hid (F_t0.out.below hb)
  have Y_u2 := Lib.hid hb.size
  replace Bc := Lib.hid (Bc.out.trans (hb.mono Bc.out.size))
  clear hb
  clear F_t0
  go_wp2_with fail
  refine (toMatrix_any c1x (.slice s1 L1.length e1) L1 u2 (H1.out.below Bc.out) T1.out).mono ?_
  rintro e u3 ⟨v_x0, rfl, ho, hb⟩
  obtain ⟨s_x0, e_x0, rfl⟩ := ho.reads.form
  have F_x0 := Lib.hid ho.bound
  clear ho
  replace K0_0 := cell_old hb K0_0
  replace K0_1 := cell_old hb K0_1
  have Y_u3 := Lib.hid hb.size
  replace Bc := Lib.hid (Bc.out.trans (hb.mono Bc.out.size))
  clear hb
  obtain ⟨u4, hu4⟩ : ∃ W, W = u3.alloc (.cells #[.int .i64 c1x, (.slice s_x0 L1.length e_x0)] 30) := ⟨_, rfl⟩
  have hb : Below u3.heap.size u3 u4 := by rw [hu4]; exact (Below.refl _ _).alloc (Nat.le_refl _) _
  have ZA1 := Lib.hid (show u3.heap.size + 1 ≤ u4.heap.size by rw [hu4]; simp)
  replace K0_0 := cell_old hb K0_0
  replace K0_1 := cell_old hb K0_1
  replace F_x0 := Lib.hid (F_x0.out.below hb)
  have Y_u4 := Lib.hid hb.size
  replace Bc := Lib.hid (Bc.out.trans (hb.mono Bc.out.size))
  clear hb
  have K1_0 : u4.cell? ⟨u3.heap.size, 0, none⟩ = some (.int .i64 c1x) := by rw [hu4]; simp [go_sem]
  have K1_1 : u4.cell? ⟨u3.heap.size, 1, none⟩ = some ((.slice s_x0 L1.length e_x0)) := by rw [hu4]; simp [go_sem]
  have HA1 := Lib.hid hu4
  clear hu4
  rw [HA1.out] at K0_0 K0_1 K1_0 K1_1
  go_wp2_with fail
  rw [← HA1.out]
  rw [← HA1.out] at K0_0 K0_1 K1_0 K1_1
  refine (hi.out u4 (.slice s_x0 L1.length e_x0) (HT.out.below HT.out.size Bc.out) F_x0.out.reads).mono ?_
  rintro e u5 ⟨rfl, hb⟩
  replace K0_0 := cell_old hb K0_0
  replace K0_1 := cell_old hb K0_1
  replace K1_0 := cell_old hb K1_0
  replace K1_1 := cell_old hb K1_1
  replace F_x0 := Lib.hid (F_x0.out.below hb)
  have Y_u5 := Lib.hid hb.size
  replace Bc := Lib.hid (Bc.out.trans (hb.mono Bc.out.size))
  clear hb
  go_wp2_with fail
  have M1_0 : ∀ W, Below u5.heap.size u5 W → W.cell? ⟨u3.heap.size, 0, none⟩ = some (.int .i64 c1x) := fun W hW => cell_old hW K1_0
  have M1_1 : ∀ W, Below u5.heap.size u5 W → W.cell? ⟨u3.heap.size, 1, none⟩ = some ((.slice s_x0 L1.length e_x0)) := fun W hW => cell_old hW K1_1
  have M0_0 : ∀ W, Below u5.heap.size u5 W → W.cell? ⟨w.heap.size, 0, none⟩ = some (.int .i64 c1x) := fun W hW => cell_old hW K0_0
  have M0_1 : ∀ W, Below u5.heap.size u5 W → W.cell? ⟨w.heap.size, 1, none⟩ = some ((.slice s1 L1.length e1)) := fun W hW => cell_old hW K0_1
  have HIK0_0 := Lib.hid K0_0
  have HIK0_1 := Lib.hid K0_1
  have HIK1_0 := Lib.hid K1_0
  have HIK1_1 := Lib.hid K1_1
  clear K0_0 K0_1 K1_0 K1_1
  have MX : Hid (∀ W, Below u5.heap.size u5 W → ReadsM W (.slice s_x0 L1.length e_x0) L1) := fun W hW => F_x0.out.reads.below hW
  have MA : Hid (∀ W, Below u5.heap.size u5 W → ReadsM W (.slice s1 L1.length e1) L1) := fun W hW => H1.out.below (Bc.out.trans (hW.mono Bc.out.size))
  go_region_held3 (fun W => Below u5.heap.size u5 W)
    (first | exact (Below.refl _ _).drew | exact below_step (by assumption) hb7_1 | exact below_step (by assumption) hb8_1)
    (first | (go_at_call 20; refine (toMatrix_any c1x (.slice s1 L1.length e1) L1 _ (MA.out _ (by assumption)) T1.out).mono ?_; rintro e W7_1 ⟨v7, rfl, ho7, hb7_1⟩) | (go_at_call 23; refine (eqMatrix_same c1x (.slice s_x0 L1.length e_x0) _ L1 _ (MX.out _ (by assumption)) ho7.reads).mono ?_; rintro e W8_1 ⟨rfl, hb8_1⟩))
  have hb : Below u5.heap.size u5 W8_1 := by assumption
  clear M1_0 M1_1 M0_0 M0_1 MX MA
  have K0_0 := HIK0_0.out
  have K0_1 := HIK0_1.out
  have K1_0 := HIK1_0.out
  have K1_1 := HIK1_1.out
  clear HIK0_0 HIK0_1 HIK1_0 HIK1_1
  replace K0_0 := cell_old hb K0_0
  replace K0_1 := cell_old hb K0_1
  replace K1_0 := cell_old hb K1_0
  replace K1_1 := cell_old hb K1_1
  replace F_x0 := Lib.hid (F_x0.out.below hb)
  have Y_W8_1 := Lib.hid hb.size
  replace Bc := Lib.hid (Bc.out.trans (hb.mono Bc.out.size))
  clear hb
  go_wp2
  go_ret
  exact ⟨rfl, Bc.out⟩
end Go.Proofs.YtkpheigoegehoaaDoor.fnExactDeterminantOf
