/- The law FnExactUsedNames: both functions return the same, each in memory of its own, and what they are handed stays as it was. -/
import Derived.Test.YtoegbphkheohoaaLibBase
import Derived.Test.YtoegbphkheohoaaUseI
import Derived.Test.YtoegbphkheohoaaOpenD
import Derived.Test.YtoegbphkheohoaaBoxN
import Derived.Test.YtoegbphkheohoaaMarkD
import Derived.Deep.RegionHeld3
import Derived.Deep.DeepCutAuto
namespace Go.Proofs.Ytoegbphkheohoaa.fnExactUsedNames
open Go.RowKit Ints

set_option maxHeartbeats 8000000 in
set_option maxRecDepth 100000 in
theorem walk (v0 : Value) (L0 : List DefL) (v1 : Value) (L1 : List NodeL) (w : World) (h0 : InD w v0 L0) (h1 : InN w v1 L1) :
    Calls Try.prog 3 #[v0, .agg #[v1]] w fun e w' => e = .returned (.bool true) ∧ Below w.heap.size w w' := by
  obtain ⟨s_0, e_0, rfl⟩ := h0.form
  obtain ⟨s_1, e_1, rfl⟩ := h1.form
  have B := Lib.hid ((Below.refl w.heap.size w).alloc (Nat.le_refl _) (.cells #[(.slice s_1 L1.length e_1)] 25))
  have H0 := Lib.hid h0
  have H1 := Lib.hid h1
  clear h0 h1
  rcases szN_cases (totD L0) 1048576 with hneg | ⟨hle, hpos⟩
  · have szc0 := Lib.hid (fun W hW => szDefS_b  (.slice s_0 L0.length e_0) L0 1048576 (by omega) (by omega) W hW)
    rw [hneg] at szc0
    clear hneg
    go_enter Try.func3, Try.ntmps3
    go_wp2_with fail
    refine (szc0.out _ (H0.out.below B.out)).mono ?_
    rintro e z1 ⟨rfl, hb⟩
    have K0_0 : z1.cell? ⟨w.heap.size, 0, none⟩ = some ((.slice s_1 L1.length e_1)) := cell_old hb (by simp [go_sem])
    have BZ1 := Lib.hid (B.out.trans (hb.mono B.out.size))
    have ZB := Lib.hid (show w.heap.size + 1 ≤ z1.heap.size by have := hb.size; simp at this; omega)
    clear hb
    go_wp2
    go_ret
    exact ⟨rfl, BZ1.out⟩
  have szc0 := Lib.hid (fun W hW => szDefS_b  (.slice s_0 L0.length e_0) L0 1048576 (by omega) (by omega) W hW)
  obtain ⟨r0, hr0⟩ : ∃ r, szN (totD L0) 1048576 = r := ⟨_, rfl⟩
  rw [hr0] at szc0 hpos
  have r00 : 0 ≤ r0 := by omega
  have r01 : r0 ≤ 1048576 := by omega
  have r0b : decide (r0 < 0) = false := by simp; omega
  have T0 := Lib.hid (show totD L0 ≤ 1048576 by omega)
  clear hpos hr0 hle
  rcases szN_cases (totN L1) r0 with hneg | ⟨hle, hpos⟩
  · have szc1 := Lib.hid (fun W hW => szTerm_b  (.slice s_1 L1.length e_1) L1 r0 (by omega) (by omega) W hW)
    rw [hneg] at szc1
    clear hneg
    go_enter Try.func3, Try.ntmps3
    go_wp2_with fail
    refine (szc0.out _ (H0.out.below B.out)).mono ?_
    rintro e z1 ⟨rfl, hb⟩
    have K0_0 : z1.cell? ⟨w.heap.size, 0, none⟩ = some ((.slice s_1 L1.length e_1)) := cell_old hb (by simp [go_sem])
    have BZ1 := Lib.hid (B.out.trans (hb.mono B.out.size))
    have ZB := Lib.hid (show w.heap.size + 1 ≤ z1.heap.size by have := hb.size; simp at this; omega)
    clear hb
    go_wp2_with fail
    refine (szc1.out _ (H1.out.below BZ1.out)).mono ?_
    rintro e z2 ⟨rfl, hb⟩
    replace K0_0 := cell_old hb K0_0
    have BZ2 := Lib.hid (BZ1.out.trans (hb.mono BZ1.out.size))
    replace ZB := Lib.hid (Nat.le_trans ZB.out hb.size)
    clear hb
    go_wp2
    go_ret
    exact ⟨rfl, BZ2.out⟩
  have szc1 := Lib.hid (fun W hW => szTerm_b  (.slice s_1 L1.length e_1) L1 r0 (by omega) (by omega) W hW)
  obtain ⟨r1, hr1⟩ : ∃ r, szN (totN L1) r0 = r := ⟨_, rfl⟩
  rw [hr1] at szc1 hpos
  have r10 : 0 ≤ r1 := by omega
  have r11 : r1 ≤ 1048576 := by omega
  have r1b : decide (r1 < 0) = false := by simp; omega
  have T1 := Lib.hid (show totN L1 ≤ 1048576 by omega)
  clear hpos hr1 hle
  obtain ⟨f, hf⟩ := need_ex L0 L1
  obtain ⟨b0, hb0⟩ : ∃ b, (typI L0 L1).isSome = b := ⟨_, rfl⟩
  obtain ⟨R, hR⟩ : ∃ R, unR L0 L1 f = R := ⟨_, rfl⟩
  have CTR := Lib.hid (unR_ctr L0 L1 f)
  have hs := Lib.hid (fun W v u h h' => specUN_any v u L0 L1 f hf W h h')
  have hi := Lib.hid (fun W v u h h' => implUN_any v u L0 L1 f hf T0.out T1.out W h h')
  rw [hb0, hR] at hs hi
  rw [hR] at CTR
  clear hb0 hR hf
  have hq0 : (b0 != b0) = false := by simp
  go_enter Try.func3, Try.ntmps3
  go_wp2_with fail
  refine (szc0.out _ (H0.out.below B.out)).mono ?_
  rintro e z1 ⟨rfl, hb⟩
  have K0_0 : z1.cell? ⟨w.heap.size, 0, none⟩ = some ((.slice s_1 L1.length e_1)) := cell_old hb (by simp [go_sem])
  have BZ1 := Lib.hid (B.out.trans (hb.mono B.out.size))
  have ZB := Lib.hid (show w.heap.size + 1 ≤ z1.heap.size by have := hb.size; simp at this; omega)
  clear hb
  go_wp2_with fail
  refine (szc1.out _ (H1.out.below BZ1.out)).mono ?_
  rintro e z2 ⟨rfl, hb⟩
  replace K0_0 := cell_old hb K0_0
  have BZ2 := Lib.hid (BZ1.out.trans (hb.mono BZ1.out.size))
  replace ZB := Lib.hid (Nat.le_trans ZB.out hb.size)
  clear hb
  have Bc := Lib.hid BZ2.out
  clear B BZ1 BZ2 szc0 szc1
  have nR0 : decide ((1 : Int) + (sumT R : Int) < 0) = false := by simp; omega
  have nR1 : ((1 : Int) + (sumT R : Int) != (1 : Int) + (sumT R : Int)) = false := by simp
  have CTL0 := Lib.hid (show (1 : Int) + (sumDS L0 : Int) ≤ 1000000000 by have h1 := T0.out; have h2 := sumDS_tot L0; omega)
  have nL00 : decide ((1 : Int) + (sumDS L0 : Int) < 0) = false := by simp; omega
  have nL01 : ((1 : Int) + (sumDS L0 : Int) != (1 : Int) + (sumDS L0 : Int)) = false := by simp
  have CTL1 := Lib.hid (show (1 : Int) + (sumN L1 : Int) ≤ 1000000000 by have h1 := T1.out; have h2 := sumN_tot L1; omega)
  have nL10 : decide ((1 : Int) + (sumN L1 : Int) < 0) = false := by simp; omega
  have nL11 : ((1 : Int) + (sumN L1 : Int) != (1 : Int) + (sumN L1 : Int)) = false := by simp
  have ZQ := Lib.hid (show (1 : Int) + (sumDS L0 : Int) + (sumN L1 : Int) ≤ 1000000000 by have q0 := T0.out; have r0 := sumDS_tot L0; have q1 := T1.out; have r1 := sumN_tot L1; omega)
  have ZN : decide ((1 : Int) + (sumDS L0 : Int) + (sumN L1 : Int) < 0) = false := by simp; omega
  go_upto_region 8 with fail
  have M0_0 : ∀ W, Below z2.heap.size z2 W → W.cell? ⟨w.heap.size, 0, none⟩ = some ((.slice s_1 L1.length e_1)) := fun W hW => cell_old hW K0_0
  have HIK0_0 := Lib.hid K0_0
  clear K0_0
  have MA0 : Hid (∀ W, Below z2.heap.size z2 W → InD W (.slice s_0 L0.length e_0) L0) := fun W hW => H0.out.below (Bc.out.trans (hW.mono Bc.out.size))
  have MA1 : Hid (∀ W, Below z2.heap.size z2 W → InN W (.slice s_1 L1.length e_1) L1) := fun W hW => H1.out.below (Bc.out.trans (hW.mono Bc.out.size))
  go_region_held3 (fun W => Below z2.heap.size z2 W)
    (first | ((repeat (first | exact Below.refl _ _ | assumption | apply below_alloc | apply below_drewB | refine below_step ?_ hb_r | refine below_step ?_ hb_t1 | refine below_step ?_ hb_t0)); done))
    (first
      | (go_at_call 8; (with_reducible refine (toDefS_b  (.slice s_0 L0.length e_0) L0 _ (MA0.out _ (by repeat (first | exact Below.refl _ _ | assumption | apply below_alloc | apply below_drewB | refine below_step ?_ hb_t1 | refine below_step ?_ hb_t0))) T0.out).mono ?_); rintro e w_t0 ⟨v_t0, rfl, ho_t0, hb_t0⟩; obtain ⟨s_t0, e_t0, rfl⟩ := ho_t0.reads.form)
      | (go_at_call 9; (with_reducible refine (toTerm_b  (.slice s_1 L1.length e_1) L1 _ (MA1.out _ (by repeat (first | exact Below.refl _ _ | assumption | apply below_alloc | apply below_drewB | refine below_step ?_ hb_t1 | refine below_step ?_ hb_t0))) T1.out).mono ?_); rintro e w_t1 ⟨v_t1, rfl, ho_t1, hb_t1⟩; obtain ⟨s_t1, e_t1, rfl⟩ := ho_t1.reads.form)
      | (go_at_call 7; (with_reducible refine (hs.out _ (.slice s_t0 L0.length e_t0) (.slice s_t1 L1.length e_t1) (ho_t0.reads.below (by repeat (first | exact Below.refl _ _ | assumption | apply below_alloc | apply below_drewB | refine below_step ?_ hb_t1 | refine below_step ?_ hb_t0))) (ho_t1.reads.below (by repeat (first | exact Below.refl _ _ | assumption | apply below_alloc | apply below_drewB | refine below_step ?_ hb_t1 | refine below_step ?_ hb_t0)))).mono ?_); rintro e u1 ⟨v_w0, rfl, ho_r, hb_r⟩; obtain ⟨s_w0, e_w0, rfl⟩ := ho_r.reads.form))
  have hb : Below z2.heap.size z2 u1 := (by repeat (first | exact Below.refl _ _ | assumption | apply below_alloc | apply below_drewB | refine below_step ?_ hb_r | refine below_step ?_ hb_t1 | refine below_step ?_ hb_t0))
  have FR_w0 := Lib.hid (ho_r.mono (T := fun g => z2.heap.size ≤ g) fun g hg => Nat.le_trans (below_le (c := z2) (by repeat (first | exact Below.refl _ _ | assumption | apply below_alloc | apply below_drewB | refine below_step ?_ hb_t1 | refine below_step ?_ hb_t0))) hg)
  clear ho_r
  clear hb_r hb_t0 ho_t0 hb_t1 ho_t1 M0_0 MA0 MA1
  have K0_0 := HIK0_0.out
  clear HIK0_0
  have F_w0 := Lib.hid FR_w0.out.bound
  replace K0_0 := cell_old hb K0_0
  have Y_u1 := Lib.hid hb.size
  replace Bc := Lib.hid (Bc.out.trans (hb.mono Bc.out.size))
  clear hb
  go_wp2_with fail
  refine (toDefS_b  (.slice s_0 L0.length e_0) L0 u1 (H0.out.below Bc.out) T0.out).mono ?_
  rintro e u2 ⟨v_x0, rfl, ho, hb⟩
  obtain ⟨s_x0, e_x0, rfl⟩ := ho.reads.form
  have F_x0 := Lib.hid ho.bound
  clear ho
  replace K0_0 := cell_old hb K0_0
  replace F_w0 := Lib.hid (F_w0.out.below hb)
  have Y_u2 := Lib.hid hb.size
  replace Bc := Lib.hid (Bc.out.trans (hb.mono Bc.out.size))
  clear hb
  go_wp2_with fail
  refine (toTerm_b  (.slice s_1 L1.length e_1) L1 u2 (H1.out.below Bc.out) T1.out).mono ?_
  rintro e u3 ⟨v_x1, rfl, ho, hb⟩
  obtain ⟨s_x1, e_x1, rfl⟩ := ho.reads.form
  have F_x1 := Lib.hid ho.bound
  clear ho
  replace K0_0 := cell_old hb K0_0
  replace F_w0 := Lib.hid (F_w0.out.below hb)
  replace F_x0 := Lib.hid (F_x0.out.below hb)
  have Y_u3 := Lib.hid hb.size
  replace Bc := Lib.hid (Bc.out.trans (hb.mono Bc.out.size))
  clear hb
  obtain ⟨u4, hu4⟩ : ∃ W, W = u3.alloc (.cells #[(.slice s_x1 L1.length e_x1)] 35) := ⟨_, rfl⟩
  have hb : Below u3.heap.size u3 u4 := by rw [hu4]; exact (Below.refl _ _).alloc (Nat.le_refl _) _
  have ZA1 := Lib.hid (show u3.heap.size + 1 ≤ u4.heap.size by rw [hu4]; simp)
  replace K0_0 := cell_old hb K0_0
  replace F_w0 := Lib.hid (F_w0.out.below hb)
  replace F_x0 := Lib.hid (F_x0.out.below hb)
  replace F_x1 := Lib.hid (F_x1.out.below hb)
  have Y_u4 := Lib.hid hb.size
  replace Bc := Lib.hid (Bc.out.trans (hb.mono Bc.out.size))
  clear hb
  have K1_0 : u4.cell? ⟨u3.heap.size, 0, none⟩ = some ((.slice s_x1 L1.length e_x1)) := by rw [hu4]; simp [go_sem]
  have HA1 := Lib.hid hu4
  clear hu4
  rw [HA1.out] at K0_0 K1_0
  go_wp2_with fail
  rw [← HA1.out]
  rw [← HA1.out] at K0_0 K1_0
  refine (hi.out u4 (.slice s_x0 L0.length e_x0) (.slice s_x1 L1.length e_x1) F_x0.out.reads F_x1.out.reads).mono ?_
  rintro e u5 ⟨v_g0, rfl, ho, hb⟩
  obtain ⟨s_g0, e_g0, rfl⟩ := ho.reads.form
  have F_g0 := Lib.hid ho.bound
  clear ho
  replace K0_0 := cell_old hb K0_0
  replace K1_0 := cell_old hb K1_0
  replace F_w0 := Lib.hid (F_w0.out.below hb)
  replace F_x0 := Lib.hid (F_x0.out.below hb)
  replace F_x1 := Lib.hid (F_x1.out.below hb)
  have Y_u5 := Lib.hid hb.size
  replace Bc := Lib.hid (Bc.out.trans (hb.mono Bc.out.size))
  clear hb
  go_wp2_with fail
  refine (eqStringS_same  (.slice s_g0 R.length e_g0) (.slice s_w0 R.length e_w0) R u5 F_g0.out.reads F_w0.out.reads).mono ?_
  rintro e u6 ⟨rfl, hb⟩
  replace K0_0 := cell_old hb K0_0
  replace K1_0 := cell_old hb K1_0
  replace F_w0 := Lib.hid (F_w0.out.below hb)
  replace F_x0 := Lib.hid (F_x0.out.below hb)
  replace F_x1 := Lib.hid (F_x1.out.below hb)
  replace F_g0 := Lib.hid (F_g0.out.below hb)
  have Y_u6 := Lib.hid hb.size
  replace Bc := Lib.hid (Bc.out.trans (hb.mono Bc.out.size))
  clear hb
  go_wp2_with fail
  refine (toDefS_b  (.slice s_0 L0.length e_0) L0 u6 (H0.out.below Bc.out) T0.out).mono ?_
  rintro e u7 ⟨v_c0, rfl, ho, hb⟩
  obtain ⟨s_c0, e_c0, rfl⟩ := ho.reads.form
  have F_c0 := Lib.hid ho.bound
  clear ho
  replace K0_0 := cell_old hb K0_0
  replace K1_0 := cell_old hb K1_0
  replace F_w0 := Lib.hid (F_w0.out.below hb)
  replace F_x0 := Lib.hid (F_x0.out.below hb)
  replace F_x1 := Lib.hid (F_x1.out.below hb)
  replace F_g0 := Lib.hid (F_g0.out.below hb)
  have Y_u7 := Lib.hid hb.size
  replace Bc := Lib.hid (Bc.out.trans (hb.mono Bc.out.size))
  clear hb
  go_wp2_with fail
  refine (eqDefS_same  (.slice s_x0 L0.length e_x0) (.slice s_c0 L0.length e_c0) L0 u7 F_x0.out.reads F_c0.out.reads).mono ?_
  rintro e u8 ⟨rfl, hb⟩
  replace K0_0 := cell_old hb K0_0
  replace K1_0 := cell_old hb K1_0
  replace F_w0 := Lib.hid (F_w0.out.below hb)
  replace F_x0 := Lib.hid (F_x0.out.below hb)
  replace F_x1 := Lib.hid (F_x1.out.below hb)
  replace F_g0 := Lib.hid (F_g0.out.below hb)
  replace F_c0 := Lib.hid (F_c0.out.below hb)
  have Y_u8 := Lib.hid hb.size
  replace Bc := Lib.hid (Bc.out.trans (hb.mono Bc.out.size))
  clear hb
  clear F_c0
  go_wp2_with fail
  have M1_0 : ∀ W, Below u8.heap.size u8 W → W.cell? ⟨u3.heap.size, 0, none⟩ = some ((.slice s_x1 L1.length e_x1)) := fun W hW => cell_old hW K1_0
  have M0_0 : ∀ W, Below u8.heap.size u8 W → W.cell? ⟨w.heap.size, 0, none⟩ = some ((.slice s_1 L1.length e_1)) := fun W hW => cell_old hW K0_0
  have HIK0_0 := Lib.hid K0_0
  have HIK1_0 := Lib.hid K1_0
  clear K0_0 K1_0
  have MX : Hid (∀ W, Below u8.heap.size u8 W → ReadsN W (.slice s_x1 L1.length e_x1) L1) := fun W hW => F_x1.out.reads.below hW
  have MA : Hid (∀ W, Below u8.heap.size u8 W → InN W (.slice s_1 L1.length e_1) L1) := fun W hW => H1.out.below (Bc.out.trans (hW.mono Bc.out.size))
  go_region_held3 (fun W => Below u8.heap.size u8 W)
    (first | exact (Below.refl _ _).drew | exact below_step (by assumption) hb7_1 | exact below_step (by assumption) hb8_1)
    (first | (go_at_call 9; refine (toTerm_b  (.slice s_1 L1.length e_1) L1 _ (MA.out _ (by assumption)) T1.out).mono ?_; rintro e W7_1 ⟨v_z7, rfl, ho7, hb7_1⟩) | (go_at_call 13; refine (eqTerm_same  (.slice s_x1 L1.length e_x1) _ L1 _ (MX.out _ (by assumption)) ho7.reads).mono ?_; rintro e W8_1 ⟨rfl, hb8_1⟩))
  have hb : Below u8.heap.size u8 W8_1 := by assumption
  clear M1_0 M0_0 MX MA
  have K0_0 := HIK0_0.out
  have K1_0 := HIK1_0.out
  clear HIK0_0 HIK1_0
  replace K0_0 := cell_old hb K0_0
  replace K1_0 := cell_old hb K1_0
  replace F_w0 := Lib.hid (F_w0.out.below hb)
  replace F_x0 := Lib.hid (F_x0.out.below hb)
  replace F_x1 := Lib.hid (F_x1.out.below hb)
  replace F_g0 := Lib.hid (F_g0.out.below hb)
  have Y_W8_1 := Lib.hid hb.size
  replace Bc := Lib.hid (Bc.out.trans (hb.mono Bc.out.size))
  clear hb
  go_wp2_with fail
  refine (markDefS_any (fun g => u1.heap.size ≤ g ∧ g < u2.heap.size)  (.slice s_x0 L0.length e_x0) L0 1 (by omega) CTL0.out W8_1 F_x0.out).mono ?_
  rintro e u9 ⟨rfl, ho, hc⟩
  replace K0_0 := hc.keep K0_0 (fun hS => by have := ZB.out; have := Y_u1.out; have := Y_u2.out; have := Y_u3.out; have := ZA1.out; have := Y_u4.out; have := Y_u5.out; have := Y_u6.out; have := Y_u7.out; have := Y_u8.out; have := Y_W8_1.out; (try simp only at hS); omega)
  replace K1_0 := hc.keep K1_0 (fun hS => by have := ZB.out; have := Y_u1.out; have := Y_u2.out; have := Y_u3.out; have := ZA1.out; have := Y_u4.out; have := Y_u5.out; have := Y_u6.out; have := Y_u7.out; have := Y_u8.out; have := Y_W8_1.out; (try simp only at hS); omega)
  replace F_w0 := Lib.hid (F_w0.out.chg hc (fun g h1 h2 => by have := ZB.out; have := Y_u1.out; have := Y_u2.out; have := Y_u3.out; have := ZA1.out; have := Y_u4.out; have := Y_u5.out; have := Y_u6.out; have := Y_u7.out; have := Y_u8.out; have := Y_W8_1.out; (try simp only at h1 h2); omega))
  replace F_x1 := Lib.hid (F_x1.out.chg hc (fun g h1 h2 => by have := ZB.out; have := Y_u1.out; have := Y_u2.out; have := Y_u3.out; have := ZA1.out; have := Y_u4.out; have := Y_u5.out; have := Y_u6.out; have := Y_u7.out; have := Y_u8.out; have := Y_W8_1.out; (try simp only at h1 h2); omega))
  replace F_g0 := Lib.hid (F_g0.out.chg hc (fun g h1 h2 => by have := ZB.out; have := Y_u1.out; have := Y_u2.out; have := Y_u3.out; have := ZA1.out; have := Y_u4.out; have := Y_u5.out; have := Y_u6.out; have := Y_u7.out; have := Y_u8.out; have := Y_W8_1.out; (try simp only at h1 h2); omega))
  replace F_x0 := Lib.hid ho
  have Y_u9 := Lib.hid hc.size
  replace Bc := Lib.hid (Bc.out.trans (hc.below (by have := ZB.out; have := Y_u1.out; have := Y_u2.out; have := Y_u3.out; have := ZA1.out; have := Y_u4.out; have := Y_u5.out; have := Y_u6.out; have := Y_u7.out; have := Y_u8.out; have := Y_W8_1.out; have := Y_u9.out; omega) (fun g h1 => by have := ZB.out; have := Y_u1.out; have := Y_u2.out; have := Y_u3.out; have := ZA1.out; have := Y_u4.out; have := Y_u5.out; have := Y_u6.out; have := Y_u7.out; have := Y_u8.out; have := Y_W8_1.out; have := Y_u9.out; (try simp only at h1); omega)))
  clear ho hc
  have CQ1 := Lib.hid (show 1 + (sumDS L0 : Int) + (sumN L1 : Int) ≤ 1000000000 by have := ZQ.out; omega)
  go_wp2_with fail
  refine (markTerm_any (fun g => u2.heap.size ≤ g ∧ g < u3.heap.size)  (.slice s_x1 L1.length e_x1) L1 (1 + (sumDS L0 : Int)) (by omega) CQ1.out u9 F_x1.out).mono ?_
  rintro e u10 ⟨rfl, ho, hc⟩
  replace K0_0 := hc.keep K0_0 (fun hS => by have := ZB.out; have := Y_u1.out; have := Y_u2.out; have := Y_u3.out; have := ZA1.out; have := Y_u4.out; have := Y_u5.out; have := Y_u6.out; have := Y_u7.out; have := Y_u8.out; have := Y_W8_1.out; have := Y_u9.out; (try simp only at hS); omega)
  replace K1_0 := hc.keep K1_0 (fun hS => by have := ZB.out; have := Y_u1.out; have := Y_u2.out; have := Y_u3.out; have := ZA1.out; have := Y_u4.out; have := Y_u5.out; have := Y_u6.out; have := Y_u7.out; have := Y_u8.out; have := Y_W8_1.out; have := Y_u9.out; (try simp only at hS); omega)
  replace F_w0 := Lib.hid (F_w0.out.chg hc (fun g h1 h2 => by have := ZB.out; have := Y_u1.out; have := Y_u2.out; have := Y_u3.out; have := ZA1.out; have := Y_u4.out; have := Y_u5.out; have := Y_u6.out; have := Y_u7.out; have := Y_u8.out; have := Y_W8_1.out; have := Y_u9.out; (try simp only at h1 h2); omega))
  replace F_x0 := Lib.hid (F_x0.out.chg hc (fun g h1 h2 => by have := ZB.out; have := Y_u1.out; have := Y_u2.out; have := Y_u3.out; have := ZA1.out; have := Y_u4.out; have := Y_u5.out; have := Y_u6.out; have := Y_u7.out; have := Y_u8.out; have := Y_W8_1.out; have := Y_u9.out; (try simp only at h1 h2); omega))
  replace F_g0 := Lib.hid (F_g0.out.chg hc (fun g h1 h2 => by have := ZB.out; have := Y_u1.out; have := Y_u2.out; have := Y_u3.out; have := ZA1.out; have := Y_u4.out; have := Y_u5.out; have := Y_u6.out; have := Y_u7.out; have := Y_u8.out; have := Y_W8_1.out; have := Y_u9.out; (try simp only at h1 h2); omega))
  replace F_x1 := Lib.hid ho
  have Y_u10 := Lib.hid hc.size
  replace Bc := Lib.hid (Bc.out.trans (hc.below (by have := ZB.out; have := Y_u1.out; have := Y_u2.out; have := Y_u3.out; have := ZA1.out; have := Y_u4.out; have := Y_u5.out; have := Y_u6.out; have := Y_u7.out; have := Y_u8.out; have := Y_W8_1.out; have := Y_u9.out; have := Y_u10.out; omega) (fun g h1 => by have := ZB.out; have := Y_u1.out; have := Y_u2.out; have := Y_u3.out; have := ZA1.out; have := Y_u4.out; have := Y_u5.out; have := Y_u6.out; have := Y_u7.out; have := Y_u8.out; have := Y_W8_1.out; have := Y_u9.out; have := Y_u10.out; (try simp only at h1); omega)))
  clear ho hc
  go_wp2_with fail
  refine (eqStringS_same  (.slice s_g0 R.length e_g0) (.slice s_w0 R.length e_w0) R u10 F_g0.out.reads F_w0.out.reads).mono ?_
  rintro e u11 ⟨rfl, hb⟩
  replace K0_0 := cell_old hb K0_0
  replace K1_0 := cell_old hb K1_0
  replace F_w0 := Lib.hid (F_w0.out.below hb)
  replace F_x0 := Lib.hid (F_x0.out.below hb)
  replace F_x1 := Lib.hid (F_x1.out.below hb)
  replace F_g0 := Lib.hid (F_g0.out.below hb)
  have Y_u11 := Lib.hid hb.size
  replace Bc := Lib.hid (Bc.out.trans (hb.mono Bc.out.size))
  clear hb
  clear F_x0
  clear F_x1
  go_wp2_with fail
  refine (markStringS_any (fun g => u4.heap.size ≤ g ∧ g < u5.heap.size)  (.slice s_g0 R.length e_g0) R 1 (by omega) CTR.out u11 F_g0.out).mono ?_
  rintro e u12 ⟨rfl, ho, hc⟩
  replace K0_0 := hc.keep K0_0 (fun hS => by have := ZB.out; have := Y_u1.out; have := Y_u2.out; have := Y_u3.out; have := ZA1.out; have := Y_u4.out; have := Y_u5.out; have := Y_u6.out; have := Y_u7.out; have := Y_u8.out; have := Y_W8_1.out; have := Y_u9.out; have := Y_u10.out; have := Y_u11.out; (try simp only at hS); omega)
  replace K1_0 := hc.keep K1_0 (fun hS => by have := ZB.out; have := Y_u1.out; have := Y_u2.out; have := Y_u3.out; have := ZA1.out; have := Y_u4.out; have := Y_u5.out; have := Y_u6.out; have := Y_u7.out; have := Y_u8.out; have := Y_W8_1.out; have := Y_u9.out; have := Y_u10.out; have := Y_u11.out; (try simp only at hS); omega)
  replace F_w0 := Lib.hid (F_w0.out.chg hc (fun g h1 h2 => by have := ZB.out; have := Y_u1.out; have := Y_u2.out; have := Y_u3.out; have := ZA1.out; have := Y_u4.out; have := Y_u5.out; have := Y_u6.out; have := Y_u7.out; have := Y_u8.out; have := Y_W8_1.out; have := Y_u9.out; have := Y_u10.out; have := Y_u11.out; (try simp only at h1 h2); omega))
  replace F_g0 := Lib.hid ho
  have Y_u12 := Lib.hid hc.size
  replace Bc := Lib.hid (Bc.out.trans (hc.below (by have := ZB.out; have := Y_u1.out; have := Y_u2.out; have := Y_u3.out; have := ZA1.out; have := Y_u4.out; have := Y_u5.out; have := Y_u6.out; have := Y_u7.out; have := Y_u8.out; have := Y_W8_1.out; have := Y_u9.out; have := Y_u10.out; have := Y_u11.out; have := Y_u12.out; omega) (fun g h1 => by have := ZB.out; have := Y_u1.out; have := Y_u2.out; have := Y_u3.out; have := ZA1.out; have := Y_u4.out; have := Y_u5.out; have := Y_u6.out; have := Y_u7.out; have := Y_u8.out; have := Y_W8_1.out; have := Y_u9.out; have := Y_u10.out; have := Y_u11.out; have := Y_u12.out; (try simp only at h1); omega)))
  clear ho hc
  go_wp2_with fail
  refine (heldStringS_any  (.slice s_g0 R.length e_g0) R 1 (by omega) CTR.out u12 F_g0.out.reads).mono ?_
  rintro e u13 ⟨rfl, hb⟩
  replace K0_0 := cell_old hb K0_0
  replace K1_0 := cell_old hb K1_0
  replace F_w0 := Lib.hid (F_w0.out.below hb)
  replace F_g0 := Lib.hid (F_g0.out.below hb)
  have Y_u13 := Lib.hid hb.size
  replace Bc := Lib.hid (Bc.out.trans (hb.mono Bc.out.size))
  clear hb
  go_upto_region 31 with fail
  have M0_0 : ∀ W, Below u13.heap.size u13 W → W.cell? ⟨w.heap.size, 0, none⟩ = some ((.slice s_1 L1.length e_1)) := fun W hW => cell_old hW K0_0
  have M1_0 : ∀ W, Below u13.heap.size u13 W → W.cell? ⟨u3.heap.size, 0, none⟩ = some ((.slice s_x1 L1.length e_x1)) := fun W hW => cell_old hW K1_0
  have HIK0_0 := Lib.hid K0_0
  have HIK1_0 := Lib.hid K1_0
  clear K0_0 K1_0
  have MA0 : Hid (∀ W, Below u13.heap.size u13 W → InD W (.slice s_0 L0.length e_0) L0) := fun W hW => H0.out.below (Bc.out.trans (hW.mono Bc.out.size))
  have MA1 : Hid (∀ W, Below u13.heap.size u13 W → InN W (.slice s_1 L1.length e_1) L1) := fun W hW => H1.out.below (Bc.out.trans (hW.mono Bc.out.size))
  go_region_held3 (fun W => Below u13.heap.size u13 W)
    (first | ((repeat (first | exact Below.refl _ _ | assumption | apply below_alloc | apply below_drewB | refine below_step ?_ hb_r | refine below_step ?_ hb_t1 | refine below_step ?_ hb_t0)); done))
    (first
      | (go_at_call 8; (with_reducible refine (toDefS_b  (.slice s_0 L0.length e_0) L0 _ (MA0.out _ (by repeat (first | exact Below.refl _ _ | assumption | apply below_alloc | apply below_drewB | refine below_step ?_ hb_t1 | refine below_step ?_ hb_t0))) T0.out).mono ?_); rintro e w_t0 ⟨v_t0, rfl, ho_t0, hb_t0⟩; obtain ⟨s_t0, e_t0, rfl⟩ := ho_t0.reads.form)
      | (go_at_call 9; (with_reducible refine (toTerm_b  (.slice s_1 L1.length e_1) L1 _ (MA1.out _ (by repeat (first | exact Below.refl _ _ | assumption | apply below_alloc | apply below_drewB | refine below_step ?_ hb_t1 | refine below_step ?_ hb_t0))) T1.out).mono ?_); rintro e w_t1 ⟨v_t1, rfl, ho_t1, hb_t1⟩; obtain ⟨s_t1, e_t1, rfl⟩ := ho_t1.reads.form)
      | (go_at_call 10; (with_reducible refine (hi.out _ (.slice s_t0 L0.length e_t0) (.slice s_t1 L1.length e_t1) (ho_t0.reads.below (by repeat (first | exact Below.refl _ _ | assumption | apply below_alloc | apply below_drewB | refine below_step ?_ hb_t1 | refine below_step ?_ hb_t0))) (ho_t1.reads.below (by repeat (first | exact Below.refl _ _ | assumption | apply below_alloc | apply below_drewB | refine below_step ?_ hb_t1 | refine below_step ?_ hb_t0)))).mono ?_); rintro e u14 ⟨v_h0, rfl, ho_r, hb_r⟩; obtain ⟨s_h0, e_h0, rfl⟩ := ho_r.reads.form))
  have hb : Below u13.heap.size u13 u14 := (by repeat (first | exact Below.refl _ _ | assumption | apply below_alloc | apply below_drewB | refine below_step ?_ hb_r | refine below_step ?_ hb_t1 | refine below_step ?_ hb_t0))
  have FR_h0 := Lib.hid (ho_r.mono (T := fun g => u13.heap.size ≤ g) fun g hg => Nat.le_trans (below_le (c := u13) (by repeat (first | exact Below.refl _ _ | assumption | apply below_alloc | apply below_drewB | refine below_step ?_ hb_t1 | refine below_step ?_ hb_t0))) hg)
  clear ho_r
  clear hb_r hb_t0 ho_t0 hb_t1 ho_t1 M0_0 M1_0 MA0 MA1
  have K0_0 := HIK0_0.out
  have K1_0 := HIK1_0.out
  clear HIK0_0 HIK1_0
  have F_h0 := Lib.hid FR_h0.out.bound
  replace K0_0 := cell_old hb K0_0
  replace K1_0 := cell_old hb K1_0
  replace F_w0 := Lib.hid (F_w0.out.below hb)
  replace F_g0 := Lib.hid (F_g0.out.below hb)
  have Y_u14 := Lib.hid hb.size
  replace Bc := Lib.hid (Bc.out.trans (hb.mono Bc.out.size))
  clear hb
  go_wp2_with fail
  refine (eqStringS_same  (.slice s_h0 R.length e_h0) (.slice s_w0 R.length e_w0) R u14 F_h0.out.reads F_w0.out.reads).mono ?_
  rintro e u15 ⟨rfl, hb⟩
  replace K0_0 := cell_old hb K0_0
  replace K1_0 := cell_old hb K1_0
  replace F_w0 := Lib.hid (F_w0.out.below hb)
  replace F_g0 := Lib.hid (F_g0.out.below hb)
  replace F_h0 := Lib.hid (F_h0.out.below hb)
  have Y_u15 := Lib.hid hb.size
  replace Bc := Lib.hid (Bc.out.trans (hb.mono Bc.out.size))
  clear hb
  go_wp2_with fail
  refine (heldStringS_any  (.slice s_g0 R.length e_g0) R 1 (by omega) CTR.out u15 F_g0.out.reads).mono ?_
  rintro e u16 ⟨rfl, hb⟩
  replace K0_0 := cell_old hb K0_0
  replace K1_0 := cell_old hb K1_0
  replace F_w0 := Lib.hid (F_w0.out.below hb)
  replace F_g0 := Lib.hid (F_g0.out.below hb)
  replace F_h0 := Lib.hid (F_h0.out.below hb)
  have Y_u16 := Lib.hid hb.size
  replace Bc := Lib.hid (Bc.out.trans (hb.mono Bc.out.size))
  clear hb
  go_wp2
  go_ret
  exact ⟨rfl, Bc.out⟩
end Go.Proofs.Ytoegbphkheohoaa.fnExactUsedNames
