/- The law FnExactThroughMatch: both functions return the same, each in memory of its own, and what they are handed stays as it was. -/
import Derived.Test.YtimjlcnljefbbaaLawBase
import Derived.Test.YtimjlcnljefbbaaThruF
import Derived.Test.YtimjlcnljefbbaaPair
import Derived.Deep.RegionHeld3
import Derived.Deep.DeepCutAuto
namespace Go.Proofs.Ytimjlcnljefbbaa.fnExactThroughMatch
open Go.RowKit Ints

set_option maxHeartbeats 8000000 in
set_option maxRecDepth 100000 in
theorem walk (v0 v0b : Value) (L0 : List Int × List Int) (v1 v1b : Value) (L1 : List Int × List Int) (w : World) (h0 : ReadsP w v0 v0b L0) (h1 : ReadsP w v1 v1b L1) :
    Calls Try.prog 5 #[.agg #[v0, v0b], .agg #[v1, v1b]] w fun e w' => e = .returned (.bool true) ∧ Below w.heap.size w w' := by
  obtain ⟨s_0, e_0, s_0b, e_0b, rfl, rfl⟩ := h0.form
  obtain ⟨s_1, e_1, s_1b, e_1b, rfl, rfl⟩ := h1.form
  have B := Lib.hid (((Below.refl w.heap.size w).alloc (Nat.le_refl _) (.cells #[(.slice s_0 L0.1.length e_0), (.slice s_0b L0.2.length e_0b)] 38)).alloc (by simp) (.cells #[(.slice s_1 L1.1.length e_1), (.slice s_1b L1.2.length e_1b)] 38))
  have H0 := Lib.hid h0
  have H1 := Lib.hid h1
  clear h0 h1
  rcases szN_cases (totP L0) 1048576 with hneg | ⟨hle, hpos⟩
  · have szc0 := Lib.hid (fun W hW => szMatch_any  (.slice s_0 L0.1.length e_0) (.slice s_0b L0.2.length e_0b) L0 1048576 (by omega) (by omega) W hW)
    rw [hneg] at szc0
    clear hneg
    go_enter Try.func5, Try.ntmps5
    go_wp2_with fail
    refine (szc0.out _ (H0.out.below B.out)).mono ?_
    rintro e z1 ⟨rfl, hb⟩
    have K0_0 : z1.cell? ⟨w.heap.size, 0, none⟩ = some ((.slice s_0 L0.1.length e_0)) := cell_old hb (by simp [go_sem])
    have K0_1 : z1.cell? ⟨w.heap.size, 1, none⟩ = some ((.slice s_0b L0.2.length e_0b)) := cell_old hb (by simp [go_sem])
    have K1_0 : z1.cell? ⟨w.heap.size + 1, 0, none⟩ = some ((.slice s_1 L1.1.length e_1)) := cell_old hb (by simp [go_sem])
    have K1_1 : z1.cell? ⟨w.heap.size + 1, 1, none⟩ = some ((.slice s_1b L1.2.length e_1b)) := cell_old hb (by simp [go_sem])
    have BZ1 := Lib.hid (B.out.trans (hb.mono B.out.size))
    have ZB := Lib.hid (show w.heap.size + 2 ≤ z1.heap.size by have := hb.size; simp at this; omega)
    clear hb
    go_wp2
    go_ret
    exact ⟨rfl, BZ1.out⟩
  have szc0 := Lib.hid (fun W hW => szMatch_any  (.slice s_0 L0.1.length e_0) (.slice s_0b L0.2.length e_0b) L0 1048576 (by omega) (by omega) W hW)
  obtain ⟨r0, hr0⟩ : ∃ r, szN (totP L0) 1048576 = r := ⟨_, rfl⟩
  rw [hr0] at szc0 hpos
  have r00 : 0 ≤ r0 := by omega
  have r01 : r0 ≤ 1048576 := by omega
  have r0b : decide (r0 < 0) = false := by simp; omega
  have T0 := Lib.hid (show totP L0 ≤ 1048576 by omega)
  clear hpos hr0 hle
  rcases szN_cases (totP L1) r0 with hneg | ⟨hle, hpos⟩
  · have szc1 := Lib.hid (fun W hW => szMatch_any  (.slice s_1 L1.1.length e_1) (.slice s_1b L1.2.length e_1b) L1 r0 (by omega) (by omega) W hW)
    rw [hneg] at szc1
    clear hneg
    go_enter Try.func5, Try.ntmps5
    go_wp2_with fail
    refine (szc0.out _ (H0.out.below B.out)).mono ?_
    rintro e z1 ⟨rfl, hb⟩
    have K0_0 : z1.cell? ⟨w.heap.size, 0, none⟩ = some ((.slice s_0 L0.1.length e_0)) := cell_old hb (by simp [go_sem])
    have K0_1 : z1.cell? ⟨w.heap.size, 1, none⟩ = some ((.slice s_0b L0.2.length e_0b)) := cell_old hb (by simp [go_sem])
    have K1_0 : z1.cell? ⟨w.heap.size + 1, 0, none⟩ = some ((.slice s_1 L1.1.length e_1)) := cell_old hb (by simp [go_sem])
    have K1_1 : z1.cell? ⟨w.heap.size + 1, 1, none⟩ = some ((.slice s_1b L1.2.length e_1b)) := cell_old hb (by simp [go_sem])
    have BZ1 := Lib.hid (B.out.trans (hb.mono B.out.size))
    have ZB := Lib.hid (show w.heap.size + 2 ≤ z1.heap.size by have := hb.size; simp at this; omega)
    clear hb
    go_wp2_with fail
    refine (szc1.out _ (H1.out.below BZ1.out)).mono ?_
    rintro e z2 ⟨rfl, hb⟩
    replace K0_0 := cell_old hb K0_0
    replace K0_1 := cell_old hb K0_1
    replace K1_0 := cell_old hb K1_0
    replace K1_1 := cell_old hb K1_1
    have BZ2 := Lib.hid (BZ1.out.trans (hb.mono BZ1.out.size))
    replace ZB := Lib.hid (Nat.le_trans ZB.out hb.size)
    clear hb
    go_wp2
    go_ret
    exact ⟨rfl, BZ2.out⟩
  have szc1 := Lib.hid (fun W hW => szMatch_any  (.slice s_1 L1.1.length e_1) (.slice s_1b L1.2.length e_1b) L1 r0 (by omega) (by omega) W hW)
  obtain ⟨r1, hr1⟩ : ∃ r, szN (totP L1) r0 = r := ⟨_, rfl⟩
  rw [hr1] at szc1 hpos
  have r10 : 0 ≤ r1 := by omega
  have r11 : r1 ≤ 1048576 := by omega
  have r1b : decide (r1 < 0) = false := by simp; omega
  have T1 := Lib.hid (show totP L1 ≤ 1048576 by omega)
  clear hpos hr1 hle
  obtain ⟨b0, hb0⟩ : ∃ b, tmB L0 L1 = b := ⟨_, rfl⟩
  have hsum := tmOut_sum L0 L1
  obtain ⟨R, hR⟩ : ∃ R, tmOut L0 L1 = R := ⟨_, rfl⟩
  have hs := Lib.hid (fun W u1 u2 v1 v2 h h' => specTM_any L0 L1 u1 u2 v1 v2 W h h' T0.out)
  have hi := Lib.hid (fun W u1 u2 v1 v2 h h' => implTM_any L0 L1 u1 u2 v1 v2 W h h' T0.out)
  rw [hb0, hR] at hs hi
  rw [hR] at hsum
  have CTR := Lib.hid (show (1 : Int) + (sumP R : Int) ≤ 1000000000 by have := T0.out; omega)
  clear hb0 hR hsum
  have hq0 : (b0 != b0) = false := by simp
  go_enter Try.func5, Try.ntmps5
  go_wp2_with fail
  refine (szc0.out _ (H0.out.below B.out)).mono ?_
  rintro e z1 ⟨rfl, hb⟩
  have K0_0 : z1.cell? ⟨w.heap.size, 0, none⟩ = some ((.slice s_0 L0.1.length e_0)) := cell_old hb (by simp [go_sem])
  have K0_1 : z1.cell? ⟨w.heap.size, 1, none⟩ = some ((.slice s_0b L0.2.length e_0b)) := cell_old hb (by simp [go_sem])
  have K1_0 : z1.cell? ⟨w.heap.size + 1, 0, none⟩ = some ((.slice s_1 L1.1.length e_1)) := cell_old hb (by simp [go_sem])
  have K1_1 : z1.cell? ⟨w.heap.size + 1, 1, none⟩ = some ((.slice s_1b L1.2.length e_1b)) := cell_old hb (by simp [go_sem])
  have BZ1 := Lib.hid (B.out.trans (hb.mono B.out.size))
  have ZB := Lib.hid (show w.heap.size + 2 ≤ z1.heap.size by have := hb.size; simp at this; omega)
  clear hb
  go_wp2_with fail
  refine (szc1.out _ (H1.out.below BZ1.out)).mono ?_
  rintro e z2 ⟨rfl, hb⟩
  replace K0_0 := cell_old hb K0_0
  replace K0_1 := cell_old hb K0_1
  replace K1_0 := cell_old hb K1_0
  replace K1_1 := cell_old hb K1_1
  have BZ2 := Lib.hid (BZ1.out.trans (hb.mono BZ1.out.size))
  replace ZB := Lib.hid (Nat.le_trans ZB.out hb.size)
  clear hb
  have Bc := Lib.hid BZ2.out
  clear B BZ1 BZ2 szc0 szc1
  have nR0 : decide ((1 : Int) + (sumP R : Int) < 0) = false := by simp; omega
  have nR1 : ((1 : Int) + (sumP R : Int) != (1 : Int) + (sumP R : Int)) = false := by simp
  have CTL0 := Lib.hid (show (1 : Int) + (sumP L0 : Int) ≤ 1000000000 by have := T0.out; unfold totP at this; unfold sumP; omega)
  have nL00 : decide ((1 : Int) + (sumP L0 : Int) < 0) = false := by simp; omega
  have nL01 : ((1 : Int) + (sumP L0 : Int) != (1 : Int) + (sumP L0 : Int)) = false := by simp
  have CTL1 := Lib.hid (show (1 : Int) + (sumP L1 : Int) ≤ 1000000000 by have := T1.out; unfold totP at this; unfold sumP; omega)
  have nL10 : decide ((1 : Int) + (sumP L1 : Int) < 0) = false := by simp; omega
  have nL11 : ((1 : Int) + (sumP L1 : Int) != (1 : Int) + (sumP L1 : Int)) = false := by simp
  have ZQ := Lib.hid (show (1 : Int) + (sumP L0 : Int) + (sumP L1 : Int) ≤ 1000000000 by have q0 := T0.out; unfold totP at q0; have q1 := T1.out; unfold totP at q1; (try unfold sumL); (try unfold sumI); (try unfold sumP); omega)
  have ZN : decide ((1 : Int) + (sumP L0 : Int) + (sumP L1 : Int) < 0) = false := by simp; omega
  go_upto_region 8 with fail
  have M0_0 : ∀ W, Below z2.heap.size z2 W → W.cell? ⟨w.heap.size, 0, none⟩ = some ((.slice s_0 L0.1.length e_0)) := fun W hW => cell_old hW K0_0
  have M0_1 : ∀ W, Below z2.heap.size z2 W → W.cell? ⟨w.heap.size, 1, none⟩ = some ((.slice s_0b L0.2.length e_0b)) := fun W hW => cell_old hW K0_1
  have M1_0 : ∀ W, Below z2.heap.size z2 W → W.cell? ⟨w.heap.size + 1, 0, none⟩ = some ((.slice s_1 L1.1.length e_1)) := fun W hW => cell_old hW K1_0
  have M1_1 : ∀ W, Below z2.heap.size z2 W → W.cell? ⟨w.heap.size + 1, 1, none⟩ = some ((.slice s_1b L1.2.length e_1b)) := fun W hW => cell_old hW K1_1
  have HIK0_0 := Lib.hid K0_0
  have HIK0_1 := Lib.hid K0_1
  have HIK1_0 := Lib.hid K1_0
  have HIK1_1 := Lib.hid K1_1
  clear K0_0 K0_1 K1_0 K1_1
  have MA0 : Hid (∀ W, Below z2.heap.size z2 W → ReadsP W (.slice s_0 L0.1.length e_0) (.slice s_0b L0.2.length e_0b) L0) := fun W hW => H0.out.below (Bc.out.trans (hW.mono Bc.out.size))
  have MA1 : Hid (∀ W, Below z2.heap.size z2 W → ReadsP W (.slice s_1 L1.1.length e_1) (.slice s_1b L1.2.length e_1b) L1) := fun W hW => H1.out.below (Bc.out.trans (hW.mono Bc.out.size))
  go_cut [6, 7] (fun t b0_ W => b0_ = .bool b0 ∧ OutBoxP z2  R t W)
  case first =>
    go_region_held3 (fun W => Below z2.heap.size z2 W)
      (first | (refine (Below.setCell (p := ⟨_, 0, none⟩) ?_ bx.1 _).setCell (p := ⟨_, 1, none⟩) bx.1 _; (repeat (first | exact Below.refl _ _ | assumption | apply below_alloc | apply below_drewB | refine below_step ?_ hb_r | refine below_step ?_ hb_t1 | refine below_step ?_ hb_t0)); done) | ((repeat (first | exact Below.refl _ _ | assumption | apply below_alloc | apply below_drewB | refine below_step ?_ hb_r | refine below_step ?_ hb_t1 | refine below_step ?_ hb_t0)); done))
      (first | (go_at_call 21; (with_reducible refine (toMatch_any  (.slice s_0 L0.1.length e_0) (.slice s_0b L0.2.length e_0b) L0 _ (MA0.out _ (by repeat (first | exact Below.refl _ _ | assumption | apply below_alloc | apply below_drewB | refine below_step ?_ hb_t1 | refine below_step ?_ hb_t0))) T0.out).mono ?_); rintro e w_t0 ⟨v_t0, v_t0b, rfl, ho_t0, hb_t0⟩; obtain ⟨s_t0, e_t0, s_t0b, e_t0b, rfl, rfl⟩ := ho_t0.reads.form; (first | have bx := boxInP_new (c := z2) (by repeat (first | exact Below.refl _ _ | assumption | apply below_alloc | apply below_drewB | refine below_step ?_ hb_t1 | refine below_step ?_ hb_t0)) hb_t0 | have bx := boxInP_new' (c := z2) hb_t0 | have bx := BoxInP.keep bx hb_t0 | skip)) | (go_at_call 21; (with_reducible refine (toMatch_any  (.slice s_1 L1.1.length e_1) (.slice s_1b L1.2.length e_1b) L1 _ (MA1.out _ (by repeat (first | exact Below.refl _ _ | assumption | apply below_alloc | apply below_drewB | refine below_step ?_ hb_t1 | refine below_step ?_ hb_t0))) T1.out).mono ?_); rintro e w_t1 ⟨v_t1, v_t1b, rfl, ho_t1, hb_t1⟩; obtain ⟨s_t1, e_t1, s_t1b, e_t1b, rfl, rfl⟩ := ho_t1.reads.form; (first | have bx := boxInP_new (c := z2) (by repeat (first | exact Below.refl _ _ | assumption | apply below_alloc | apply below_drewB | refine below_step ?_ hb_t1 | refine below_step ?_ hb_t0)) hb_t1 | have bx := boxInP_new' (c := z2) hb_t1 | have bx := BoxInP.keep bx hb_t1 | skip)) | (go_at_call 20; (with_reducible refine (hs.out _ (.slice s_t0 L0.1.length e_t0) (.slice s_t0b L0.2.length e_t0b) (.slice s_t1 L1.1.length e_t1) (.slice s_t1b L1.2.length e_t1b) (ho_t0.reads.below (by repeat (first | exact Below.refl _ _ | assumption | apply below_alloc | apply below_drewB | refine below_step ?_ hb_t1 | refine below_step ?_ hb_t0))) (ho_t1.reads.below (by repeat (first | exact Below.refl _ _ | assumption | apply below_alloc | apply below_drewB | refine below_step ?_ hb_t1 | refine below_step ?_ hb_t0)))).mono ?_); rintro e w_r ⟨v_r, v_rb, rfl, ho_r, hb_r⟩; obtain ⟨s_r, e_r, s_rb, e_rb, rfl, rfl⟩ := ho_r.reads.form; (first | have hbm := bx.2.1 | skip); (first | have bx := boxInP_new (c := z2) (by repeat (first | exact Below.refl _ _ | assumption | apply below_alloc | apply below_drewB | refine below_step ?_ hb_t1 | refine below_step ?_ hb_t0)) hb_r | have bx := boxInP_new' (c := z2) hb_r | have bx := BoxInP.keep bx hb_r | skip); (first | (have y0 := bx.2.2.1; have y1 := bx.2.2.2.1; have g0 := bx.2.2.2.2.1; have g1 := bx.2.2.2.2.2) | skip)))
    all_goals go_wp2
    all_goals go_meet
    all_goals
      first
      | exact ⟨rfl, outBoxP_alloc  _ (by repeat (first | exact Below.refl _ _ | assumption | apply below_alloc | apply below_drewB | refine below_step ?_ hb_r | refine below_step ?_ hb_t1 | refine below_step ?_ hb_t0)) (OwnsP.mono ho_r fun g hg => Nat.le_trans (below_le (c := z2) (by repeat (first | exact Below.refl _ _ | assumption | apply below_alloc | apply below_drewB | refine below_step ?_ hb_r | refine below_step ?_ hb_t1 | refine below_step ?_ hb_t0))) hg)⟩
      | exact ⟨rfl, outBoxP_put  (by repeat (first | exact Below.refl _ _ | assumption | apply below_alloc | apply below_drewB | refine below_step ?_ hb_r | refine below_step ?_ hb_t1 | refine below_step ?_ hb_t0)) ho_r bx hbm⟩
      | exact ⟨rfl, outBoxP_put  (by repeat (first | exact Below.refl _ _ | assumption | apply below_alloc | apply below_drewB | refine below_step ?_ hb_r | refine below_step ?_ hb_t1 | refine below_step ?_ hb_t0)) ho_r bx (by simp)⟩
  case rest =>
  obtain ⟨rfl, bk_w0, s_w0, e_w0, s_w0b, e_w0b, rfl, O0, O1, ho, hbl, hbs, hb⟩ := hcut
  obtain ⟨u1, hu⟩ : ∃ W, W = wc := ⟨_, rfl⟩
  rw [← hu] at O0 O1 ho hbs hb ⊢
  clear hu wc M0_0 M0_1 M1_0 M1_1 MA0 MA1
  have K0_0 := HIK0_0.out
  have K0_1 := HIK0_1.out
  have K1_0 := HIK1_0.out
  have K1_1 := HIK1_1.out
  clear HIK0_0 HIK0_1 HIK1_0 HIK1_1
  have F_w0 := Lib.hid ho
  have ZA_w0 := Lib.hid (And.intro hbl hbs)
  clear ho hbl hbs
  replace K0_0 := cell_old hb K0_0
  replace K0_1 := cell_old hb K0_1
  replace K1_0 := cell_old hb K1_0
  replace K1_1 := cell_old hb K1_1
  have Y_u1 := Lib.hid hb.size
  replace Bc := Lib.hid (Bc.out.trans (hb.mono Bc.out.size))
  clear hb
  have K2_0 := O0
  have K2_1 := O1
  clear O0 O1
  go_wp2_with fail
  refine (toMatch_any  (.slice s_0 L0.1.length e_0) (.slice s_0b L0.2.length e_0b) L0 u1 (H0.out.below Bc.out) T0.out).mono ?_
  rintro e u2 ⟨v_x0, v_x0b, rfl, ho, hb⟩
  obtain ⟨s_x0, e_x0, s_x0b, e_x0b, rfl, rfl⟩ := ho.reads.form
  have F_x0 := Lib.hid ho.bound
  clear ho
  replace K0_0 := cell_old hb K0_0
  replace K0_1 := cell_old hb K0_1
  replace K1_0 := cell_old hb K1_0
  replace K1_1 := cell_old hb K1_1
  replace K2_0 := cell_old hb K2_0
  replace K2_1 := cell_old hb K2_1
  replace F_w0 := Lib.hid (F_w0.out.below hb)
  have Y_u2 := Lib.hid hb.size
  replace Bc := Lib.hid (Bc.out.trans (hb.mono Bc.out.size))
  clear hb
  obtain ⟨u3, hu3⟩ : ∃ W, W = u2.alloc (.cells #[(.slice s_x0 L0.1.length e_x0), (.slice s_x0b L0.2.length e_x0b)] 40) := ⟨_, rfl⟩
  have hb : Below u2.heap.size u2 u3 := by rw [hu3]; exact (Below.refl _ _).alloc (Nat.le_refl _) _
  have ZA3 := Lib.hid (show u2.heap.size + 1 ≤ u3.heap.size by rw [hu3]; simp)
  replace K0_0 := cell_old hb K0_0
  replace K0_1 := cell_old hb K0_1
  replace K1_0 := cell_old hb K1_0
  replace K1_1 := cell_old hb K1_1
  replace K2_0 := cell_old hb K2_0
  replace K2_1 := cell_old hb K2_1
  replace F_w0 := Lib.hid (F_w0.out.below hb)
  replace F_x0 := Lib.hid (F_x0.out.below hb)
  have Y_u3 := Lib.hid hb.size
  replace Bc := Lib.hid (Bc.out.trans (hb.mono Bc.out.size))
  clear hb
  have K3_0 : u3.cell? ⟨u2.heap.size, 0, none⟩ = some ((.slice s_x0 L0.1.length e_x0)) := by rw [hu3]; simp [go_sem]
  have K3_1 : u3.cell? ⟨u2.heap.size, 1, none⟩ = some ((.slice s_x0b L0.2.length e_x0b)) := by rw [hu3]; simp [go_sem]
  have HA3 := Lib.hid hu3
  clear hu3
  rw [HA3.out] at K0_0 K0_1 K1_0 K1_1 K2_0 K2_1 K3_0 K3_1
  go_wp2_with fail
  rw [← HA3.out]
  rw [← HA3.out] at K0_0 K0_1 K1_0 K1_1 K2_0 K2_1 K3_0 K3_1
  refine (toMatch_any  (.slice s_1 L1.1.length e_1) (.slice s_1b L1.2.length e_1b) L1 u3 (H1.out.below Bc.out) T1.out).mono ?_
  rintro e u4 ⟨v_x1, v_x1b, rfl, ho, hb⟩
  obtain ⟨s_x1, e_x1, s_x1b, e_x1b, rfl, rfl⟩ := ho.reads.form
  have F_x1 := Lib.hid ho.bound
  clear ho
  replace K0_0 := cell_old hb K0_0
  replace K0_1 := cell_old hb K0_1
  replace K1_0 := cell_old hb K1_0
  replace K1_1 := cell_old hb K1_1
  replace K2_0 := cell_old hb K2_0
  replace K2_1 := cell_old hb K2_1
  replace K3_0 := cell_old hb K3_0
  replace K3_1 := cell_old hb K3_1
  replace F_w0 := Lib.hid (F_w0.out.below hb)
  replace F_x0 := Lib.hid (F_x0.out.below hb)
  have Y_u4 := Lib.hid hb.size
  replace Bc := Lib.hid (Bc.out.trans (hb.mono Bc.out.size))
  clear hb
  obtain ⟨u5, hu5⟩ : ∃ W, W = u4.alloc (.cells #[(.slice s_x1 L1.1.length e_x1), (.slice s_x1b L1.2.length e_x1b)] 40) := ⟨_, rfl⟩
  have hb : Below u4.heap.size u4 u5 := by rw [hu5]; exact (Below.refl _ _).alloc (Nat.le_refl _) _
  have ZA4 := Lib.hid (show u4.heap.size + 1 ≤ u5.heap.size by rw [hu5]; simp)
  replace K0_0 := cell_old hb K0_0
  replace K0_1 := cell_old hb K0_1
  replace K1_0 := cell_old hb K1_0
  replace K1_1 := cell_old hb K1_1
  replace K2_0 := cell_old hb K2_0
  replace K2_1 := cell_old hb K2_1
  replace K3_0 := cell_old hb K3_0
  replace K3_1 := cell_old hb K3_1
  replace F_w0 := Lib.hid (F_w0.out.below hb)
  replace F_x0 := Lib.hid (F_x0.out.below hb)
  replace F_x1 := Lib.hid (F_x1.out.below hb)
  have Y_u5 := Lib.hid hb.size
  replace Bc := Lib.hid (Bc.out.trans (hb.mono Bc.out.size))
  clear hb
  have K4_0 : u5.cell? ⟨u4.heap.size, 0, none⟩ = some ((.slice s_x1 L1.1.length e_x1)) := by rw [hu5]; simp [go_sem]
  have K4_1 : u5.cell? ⟨u4.heap.size, 1, none⟩ = some ((.slice s_x1b L1.2.length e_x1b)) := by rw [hu5]; simp [go_sem]
  have HA4 := Lib.hid hu5
  clear hu5
  rw [HA4.out] at K0_0 K0_1 K1_0 K1_1 K2_0 K2_1 K3_0 K3_1 K4_0 K4_1
  go_wp2_with fail
  rw [← HA4.out]
  rw [← HA4.out] at K0_0 K0_1 K1_0 K1_1 K2_0 K2_1 K3_0 K3_1 K4_0 K4_1
  refine (hi.out u5 (.slice s_x0 L0.1.length e_x0) (.slice s_x0b L0.2.length e_x0b) (.slice s_x1 L1.1.length e_x1) (.slice s_x1b L1.2.length e_x1b) F_x0.out.reads F_x1.out.reads).mono ?_
  rintro e u6 ⟨v_g0, v_g0b, rfl, ho, hb⟩
  obtain ⟨s_g0, e_g0, s_g0b, e_g0b, rfl, rfl⟩ := ho.reads.form
  have F_g0 := Lib.hid ho.bound
  clear ho
  replace K0_0 := cell_old hb K0_0
  replace K0_1 := cell_old hb K0_1
  replace K1_0 := cell_old hb K1_0
  replace K1_1 := cell_old hb K1_1
  replace K2_0 := cell_old hb K2_0
  replace K2_1 := cell_old hb K2_1
  replace K3_0 := cell_old hb K3_0
  replace K3_1 := cell_old hb K3_1
  replace K4_0 := cell_old hb K4_0
  replace K4_1 := cell_old hb K4_1
  replace F_w0 := Lib.hid (F_w0.out.below hb)
  replace F_x0 := Lib.hid (F_x0.out.below hb)
  replace F_x1 := Lib.hid (F_x1.out.below hb)
  have Y_u6 := Lib.hid hb.size
  replace Bc := Lib.hid (Bc.out.trans (hb.mono Bc.out.size))
  clear hb
  obtain ⟨u7, hu7⟩ : ∃ W, W = u6.alloc (.cells #[(.slice s_g0 R.1.length e_g0), (.slice s_g0b R.2.length e_g0b)] 40) := ⟨_, rfl⟩
  have hb : Below u6.heap.size u6 u7 := by rw [hu7]; exact (Below.refl _ _).alloc (Nat.le_refl _) _
  have ZA5 := Lib.hid (show u6.heap.size + 1 ≤ u7.heap.size by rw [hu7]; simp)
  replace K0_0 := cell_old hb K0_0
  replace K0_1 := cell_old hb K0_1
  replace K1_0 := cell_old hb K1_0
  replace K1_1 := cell_old hb K1_1
  replace K2_0 := cell_old hb K2_0
  replace K2_1 := cell_old hb K2_1
  replace K3_0 := cell_old hb K3_0
  replace K3_1 := cell_old hb K3_1
  replace K4_0 := cell_old hb K4_0
  replace K4_1 := cell_old hb K4_1
  replace F_w0 := Lib.hid (F_w0.out.below hb)
  replace F_x0 := Lib.hid (F_x0.out.below hb)
  replace F_x1 := Lib.hid (F_x1.out.below hb)
  replace F_g0 := Lib.hid (F_g0.out.below hb)
  have Y_u7 := Lib.hid hb.size
  replace Bc := Lib.hid (Bc.out.trans (hb.mono Bc.out.size))
  clear hb
  have K5_0 : u7.cell? ⟨u6.heap.size, 0, none⟩ = some ((.slice s_g0 R.1.length e_g0)) := by rw [hu7]; simp [go_sem]
  have K5_1 : u7.cell? ⟨u6.heap.size, 1, none⟩ = some ((.slice s_g0b R.2.length e_g0b)) := by rw [hu7]; simp [go_sem]
  have HA5 := Lib.hid hu7
  clear hu7
  rw [HA5.out] at K0_0 K0_1 K1_0 K1_1 K2_0 K2_1 K3_0 K3_1 K4_0 K4_1 K5_0 K5_1
  go_wp2_with fail
  rw [← HA5.out]
  rw [← HA5.out] at K0_0 K0_1 K1_0 K1_1 K2_0 K2_1 K3_0 K3_1 K4_0 K4_1 K5_0 K5_1
  refine (eqMatch_same  (.slice s_g0 R.1.length e_g0) (.slice s_g0b R.2.length e_g0b) (.slice s_w0 R.1.length e_w0) (.slice s_w0b R.2.length e_w0b) R u7 F_g0.out.reads F_w0.out.reads).mono ?_
  rintro e u8 ⟨rfl, hb⟩
  replace K0_0 := cell_old hb K0_0
  replace K0_1 := cell_old hb K0_1
  replace K1_0 := cell_old hb K1_0
  replace K1_1 := cell_old hb K1_1
  replace K2_0 := cell_old hb K2_0
  replace K2_1 := cell_old hb K2_1
  replace K3_0 := cell_old hb K3_0
  replace K3_1 := cell_old hb K3_1
  replace K4_0 := cell_old hb K4_0
  replace K4_1 := cell_old hb K4_1
  replace K5_0 := cell_old hb K5_0
  replace K5_1 := cell_old hb K5_1
  replace F_w0 := Lib.hid (F_w0.out.below hb)
  replace F_x0 := Lib.hid (F_x0.out.below hb)
  replace F_x1 := Lib.hid (F_x1.out.below hb)
  replace F_g0 := Lib.hid (F_g0.out.below hb)
  have Y_u8 := Lib.hid hb.size
  replace Bc := Lib.hid (Bc.out.trans (hb.mono Bc.out.size))
  clear hb
  go_wp2_with fail
  have M3_0 : ∀ W, Below u8.heap.size u8 W → W.cell? ⟨u2.heap.size, 0, none⟩ = some ((.slice s_x0 L0.1.length e_x0)) := fun W hW => cell_old hW K3_0
  have M3_1 : ∀ W, Below u8.heap.size u8 W → W.cell? ⟨u2.heap.size, 1, none⟩ = some ((.slice s_x0b L0.2.length e_x0b)) := fun W hW => cell_old hW K3_1
  have M0_0 : ∀ W, Below u8.heap.size u8 W → W.cell? ⟨w.heap.size, 0, none⟩ = some ((.slice s_0 L0.1.length e_0)) := fun W hW => cell_old hW K0_0
  have M0_1 : ∀ W, Below u8.heap.size u8 W → W.cell? ⟨w.heap.size, 1, none⟩ = some ((.slice s_0b L0.2.length e_0b)) := fun W hW => cell_old hW K0_1
  have HIK0_0 := Lib.hid K0_0
  have HIK0_1 := Lib.hid K0_1
  have HIK1_0 := Lib.hid K1_0
  have HIK1_1 := Lib.hid K1_1
  have HIK2_0 := Lib.hid K2_0
  have HIK2_1 := Lib.hid K2_1
  have HIK3_0 := Lib.hid K3_0
  have HIK3_1 := Lib.hid K3_1
  have HIK4_0 := Lib.hid K4_0
  have HIK4_1 := Lib.hid K4_1
  have HIK5_0 := Lib.hid K5_0
  have HIK5_1 := Lib.hid K5_1
  clear K0_0 K0_1 K1_0 K1_1 K2_0 K2_1 K3_0 K3_1 K4_0 K4_1 K5_0 K5_1
  have MX : Hid (∀ W, Below u8.heap.size u8 W → ReadsP W (.slice s_x0 L0.1.length e_x0) (.slice s_x0b L0.2.length e_x0b) L0) := fun W hW => F_x0.out.reads.below hW
  have MA : Hid (∀ W, Below u8.heap.size u8 W → ReadsP W (.slice s_0 L0.1.length e_0) (.slice s_0b L0.2.length e_0b) L0) := fun W hW => H0.out.below (Bc.out.trans (hW.mono Bc.out.size))
  go_region_held3 (fun W => Below u8.heap.size u8 W)
    (first | exact (Below.refl _ _).drew | exact below_step (by assumption) hb7_1 | exact below_step (by assumption) hb8_1)
    (first | (go_at_call 21; refine (toMatch_any  (.slice s_0 L0.1.length e_0) (.slice s_0b L0.2.length e_0b) L0 _ (MA.out _ (by assumption)) T0.out).mono ?_; rintro e W7_1 ⟨v_z7, v_z7b, rfl, ho7, hb7_1⟩) | (go_at_call 23; refine (eqMatch_same  (.slice s_x0 L0.1.length e_x0) (.slice s_x0b L0.2.length e_x0b) _ _ L0 _ (MX.out _ (by assumption)) ho7.reads).mono ?_; rintro e W8_1 ⟨rfl, hb8_1⟩))
  have hb : Below u8.heap.size u8 W8_1 := by assumption
  clear M3_0 M3_1 M0_0 M0_1 MX MA
  have K0_0 := HIK0_0.out
  have K0_1 := HIK0_1.out
  have K1_0 := HIK1_0.out
  have K1_1 := HIK1_1.out
  have K2_0 := HIK2_0.out
  have K2_1 := HIK2_1.out
  have K3_0 := HIK3_0.out
  have K3_1 := HIK3_1.out
  have K4_0 := HIK4_0.out
  have K4_1 := HIK4_1.out
  have K5_0 := HIK5_0.out
  have K5_1 := HIK5_1.out
  clear HIK0_0 HIK0_1 HIK1_0 HIK1_1 HIK2_0 HIK2_1 HIK3_0 HIK3_1 HIK4_0 HIK4_1 HIK5_0 HIK5_1
  replace K0_0 := cell_old hb K0_0
  replace K0_1 := cell_old hb K0_1
  replace K1_0 := cell_old hb K1_0
  replace K1_1 := cell_old hb K1_1
  replace K2_0 := cell_old hb K2_0
  replace K2_1 := cell_old hb K2_1
  replace K3_0 := cell_old hb K3_0
  replace K3_1 := cell_old hb K3_1
  replace K4_0 := cell_old hb K4_0
  replace K4_1 := cell_old hb K4_1
  replace K5_0 := cell_old hb K5_0
  replace K5_1 := cell_old hb K5_1
  replace F_w0 := Lib.hid (F_w0.out.below hb)
  replace F_x0 := Lib.hid (F_x0.out.below hb)
  replace F_x1 := Lib.hid (F_x1.out.below hb)
  replace F_g0 := Lib.hid (F_g0.out.below hb)
  have Y_W8_1 := Lib.hid hb.size
  replace Bc := Lib.hid (Bc.out.trans (hb.mono Bc.out.size))
  clear hb
  go_wp2_with fail
  have M4_0 : ∀ W, Below W8_1.heap.size W8_1 W → W.cell? ⟨u4.heap.size, 0, none⟩ = some ((.slice s_x1 L1.1.length e_x1)) := fun W hW => cell_old hW K4_0
  have M4_1 : ∀ W, Below W8_1.heap.size W8_1 W → W.cell? ⟨u4.heap.size, 1, none⟩ = some ((.slice s_x1b L1.2.length e_x1b)) := fun W hW => cell_old hW K4_1
  have M1_0 : ∀ W, Below W8_1.heap.size W8_1 W → W.cell? ⟨w.heap.size + 1, 0, none⟩ = some ((.slice s_1 L1.1.length e_1)) := fun W hW => cell_old hW K1_0
  have M1_1 : ∀ W, Below W8_1.heap.size W8_1 W → W.cell? ⟨w.heap.size + 1, 1, none⟩ = some ((.slice s_1b L1.2.length e_1b)) := fun W hW => cell_old hW K1_1
  have HIK0_0 := Lib.hid K0_0
  have HIK0_1 := Lib.hid K0_1
  have HIK1_0 := Lib.hid K1_0
  have HIK1_1 := Lib.hid K1_1
  have HIK2_0 := Lib.hid K2_0
  have HIK2_1 := Lib.hid K2_1
  have HIK3_0 := Lib.hid K3_0
  have HIK3_1 := Lib.hid K3_1
  have HIK4_0 := Lib.hid K4_0
  have HIK4_1 := Lib.hid K4_1
  have HIK5_0 := Lib.hid K5_0
  have HIK5_1 := Lib.hid K5_1
  clear K0_0 K0_1 K1_0 K1_1 K2_0 K2_1 K3_0 K3_1 K4_0 K4_1 K5_0 K5_1
  have MX : Hid (∀ W, Below W8_1.heap.size W8_1 W → ReadsP W (.slice s_x1 L1.1.length e_x1) (.slice s_x1b L1.2.length e_x1b) L1) := fun W hW => F_x1.out.reads.below hW
  have MA : Hid (∀ W, Below W8_1.heap.size W8_1 W → ReadsP W (.slice s_1 L1.1.length e_1) (.slice s_1b L1.2.length e_1b) L1) := fun W hW => H1.out.below (Bc.out.trans (hW.mono Bc.out.size))
  go_region_held3 (fun W => Below W8_1.heap.size W8_1 W)
    (first | exact (Below.refl _ _).drew | exact below_step (by assumption) hb7_2 | exact below_step (by assumption) hb8_2)
    (first | (go_at_call 21; refine (toMatch_any  (.slice s_1 L1.1.length e_1) (.slice s_1b L1.2.length e_1b) L1 _ (MA.out _ (by assumption)) T1.out).mono ?_; rintro e W7_2 ⟨v_z7, v_z7b, rfl, ho7, hb7_2⟩) | (go_at_call 23; refine (eqMatch_same  (.slice s_x1 L1.1.length e_x1) (.slice s_x1b L1.2.length e_x1b) _ _ L1 _ (MX.out _ (by assumption)) ho7.reads).mono ?_; rintro e W8_2 ⟨rfl, hb8_2⟩))
  have hb : Below W8_1.heap.size W8_1 W8_2 := by assumption
  clear M4_0 M4_1 M1_0 M1_1 MX MA
  have K0_0 := HIK0_0.out
  have K0_1 := HIK0_1.out
  have K1_0 := HIK1_0.out
  have K1_1 := HIK1_1.out
  have K2_0 := HIK2_0.out
  have K2_1 := HIK2_1.out
  have K3_0 := HIK3_0.out
  have K3_1 := HIK3_1.out
  have K4_0 := HIK4_0.out
  have K4_1 := HIK4_1.out
  have K5_0 := HIK5_0.out
  have K5_1 := HIK5_1.out
  clear HIK0_0 HIK0_1 HIK1_0 HIK1_1 HIK2_0 HIK2_1 HIK3_0 HIK3_1 HIK4_0 HIK4_1 HIK5_0 HIK5_1
  replace K0_0 := cell_old hb K0_0
  replace K0_1 := cell_old hb K0_1
  replace K1_0 := cell_old hb K1_0
  replace K1_1 := cell_old hb K1_1
  replace K2_0 := cell_old hb K2_0
  replace K2_1 := cell_old hb K2_1
  replace K3_0 := cell_old hb K3_0
  replace K3_1 := cell_old hb K3_1
  replace K4_0 := cell_old hb K4_0
  replace K4_1 := cell_old hb K4_1
  replace K5_0 := cell_old hb K5_0
  replace K5_1 := cell_old hb K5_1
  replace F_w0 := Lib.hid (F_w0.out.below hb)
  replace F_x0 := Lib.hid (F_x0.out.below hb)
  replace F_x1 := Lib.hid (F_x1.out.below hb)
  replace F_g0 := Lib.hid (F_g0.out.below hb)
  have Y_W8_2 := Lib.hid hb.size
  replace Bc := Lib.hid (Bc.out.trans (hb.mono Bc.out.size))
  clear hb
  go_wp2_with fail
  refine (markMatch_any (fun g => u1.heap.size ≤ g ∧ g < u2.heap.size)  (.slice s_x0 L0.1.length e_x0) (.slice s_x0b L0.2.length e_x0b) L0 1 (by omega) CTL0.out W8_2 F_x0.out).mono ?_
  rintro e u9 ⟨rfl, ho, hc⟩
  replace K0_0 := hc.keep K0_0 (fun hS => by have := ZB.out; have := ZA_w0.out; have := Y_u1.out; have := Y_u2.out; have := ZA3.out; have := Y_u3.out; have := Y_u4.out; have := ZA4.out; have := Y_u5.out; have := Y_u6.out; have := ZA5.out; have := Y_u7.out; have := Y_u8.out; have := Y_W8_1.out; have := Y_W8_2.out; (try simp only at hS); omega)
  replace K0_1 := hc.keep K0_1 (fun hS => by have := ZB.out; have := ZA_w0.out; have := Y_u1.out; have := Y_u2.out; have := ZA3.out; have := Y_u3.out; have := Y_u4.out; have := ZA4.out; have := Y_u5.out; have := Y_u6.out; have := ZA5.out; have := Y_u7.out; have := Y_u8.out; have := Y_W8_1.out; have := Y_W8_2.out; (try simp only at hS); omega)
  replace K1_0 := hc.keep K1_0 (fun hS => by have := ZB.out; have := ZA_w0.out; have := Y_u1.out; have := Y_u2.out; have := ZA3.out; have := Y_u3.out; have := Y_u4.out; have := ZA4.out; have := Y_u5.out; have := Y_u6.out; have := ZA5.out; have := Y_u7.out; have := Y_u8.out; have := Y_W8_1.out; have := Y_W8_2.out; (try simp only at hS); omega)
  replace K1_1 := hc.keep K1_1 (fun hS => by have := ZB.out; have := ZA_w0.out; have := Y_u1.out; have := Y_u2.out; have := ZA3.out; have := Y_u3.out; have := Y_u4.out; have := ZA4.out; have := Y_u5.out; have := Y_u6.out; have := ZA5.out; have := Y_u7.out; have := Y_u8.out; have := Y_W8_1.out; have := Y_W8_2.out; (try simp only at hS); omega)
  replace K2_0 := hc.keep K2_0 (fun hS => by have := ZB.out; have := ZA_w0.out; have := Y_u1.out; have := Y_u2.out; have := ZA3.out; have := Y_u3.out; have := Y_u4.out; have := ZA4.out; have := Y_u5.out; have := Y_u6.out; have := ZA5.out; have := Y_u7.out; have := Y_u8.out; have := Y_W8_1.out; have := Y_W8_2.out; (try simp only at hS); omega)
  replace K2_1 := hc.keep K2_1 (fun hS => by have := ZB.out; have := ZA_w0.out; have := Y_u1.out; have := Y_u2.out; have := ZA3.out; have := Y_u3.out; have := Y_u4.out; have := ZA4.out; have := Y_u5.out; have := Y_u6.out; have := ZA5.out; have := Y_u7.out; have := Y_u8.out; have := Y_W8_1.out; have := Y_W8_2.out; (try simp only at hS); omega)
  replace K3_0 := hc.keep K3_0 (fun hS => by have := ZB.out; have := ZA_w0.out; have := Y_u1.out; have := Y_u2.out; have := ZA3.out; have := Y_u3.out; have := Y_u4.out; have := ZA4.out; have := Y_u5.out; have := Y_u6.out; have := ZA5.out; have := Y_u7.out; have := Y_u8.out; have := Y_W8_1.out; have := Y_W8_2.out; (try simp only at hS); omega)
  replace K3_1 := hc.keep K3_1 (fun hS => by have := ZB.out; have := ZA_w0.out; have := Y_u1.out; have := Y_u2.out; have := ZA3.out; have := Y_u3.out; have := Y_u4.out; have := ZA4.out; have := Y_u5.out; have := Y_u6.out; have := ZA5.out; have := Y_u7.out; have := Y_u8.out; have := Y_W8_1.out; have := Y_W8_2.out; (try simp only at hS); omega)
  replace K4_0 := hc.keep K4_0 (fun hS => by have := ZB.out; have := ZA_w0.out; have := Y_u1.out; have := Y_u2.out; have := ZA3.out; have := Y_u3.out; have := Y_u4.out; have := ZA4.out; have := Y_u5.out; have := Y_u6.out; have := ZA5.out; have := Y_u7.out; have := Y_u8.out; have := Y_W8_1.out; have := Y_W8_2.out; (try simp only at hS); omega)
  replace K4_1 := hc.keep K4_1 (fun hS => by have := ZB.out; have := ZA_w0.out; have := Y_u1.out; have := Y_u2.out; have := ZA3.out; have := Y_u3.out; have := Y_u4.out; have := ZA4.out; have := Y_u5.out; have := Y_u6.out; have := ZA5.out; have := Y_u7.out; have := Y_u8.out; have := Y_W8_1.out; have := Y_W8_2.out; (try simp only at hS); omega)
  replace K5_0 := hc.keep K5_0 (fun hS => by have := ZB.out; have := ZA_w0.out; have := Y_u1.out; have := Y_u2.out; have := ZA3.out; have := Y_u3.out; have := Y_u4.out; have := ZA4.out; have := Y_u5.out; have := Y_u6.out; have := ZA5.out; have := Y_u7.out; have := Y_u8.out; have := Y_W8_1.out; have := Y_W8_2.out; (try simp only at hS); omega)
  replace K5_1 := hc.keep K5_1 (fun hS => by have := ZB.out; have := ZA_w0.out; have := Y_u1.out; have := Y_u2.out; have := ZA3.out; have := Y_u3.out; have := Y_u4.out; have := ZA4.out; have := Y_u5.out; have := Y_u6.out; have := ZA5.out; have := Y_u7.out; have := Y_u8.out; have := Y_W8_1.out; have := Y_W8_2.out; (try simp only at hS); omega)
  replace F_w0 := Lib.hid (F_w0.out.chg hc (fun g h1 h2 => by have := ZB.out; have := ZA_w0.out; have := Y_u1.out; have := Y_u2.out; have := ZA3.out; have := Y_u3.out; have := Y_u4.out; have := ZA4.out; have := Y_u5.out; have := Y_u6.out; have := ZA5.out; have := Y_u7.out; have := Y_u8.out; have := Y_W8_1.out; have := Y_W8_2.out; (try simp only at h1 h2); omega))
  replace F_x1 := Lib.hid (F_x1.out.chg hc (fun g h1 h2 => by have := ZB.out; have := ZA_w0.out; have := Y_u1.out; have := Y_u2.out; have := ZA3.out; have := Y_u3.out; have := Y_u4.out; have := ZA4.out; have := Y_u5.out; have := Y_u6.out; have := ZA5.out; have := Y_u7.out; have := Y_u8.out; have := Y_W8_1.out; have := Y_W8_2.out; (try simp only at h1 h2); omega))
  replace F_g0 := Lib.hid (F_g0.out.chg hc (fun g h1 h2 => by have := ZB.out; have := ZA_w0.out; have := Y_u1.out; have := Y_u2.out; have := ZA3.out; have := Y_u3.out; have := Y_u4.out; have := ZA4.out; have := Y_u5.out; have := Y_u6.out; have := ZA5.out; have := Y_u7.out; have := Y_u8.out; have := Y_W8_1.out; have := Y_W8_2.out; (try simp only at h1 h2); omega))
  replace F_x0 := Lib.hid ho
  have Y_u9 := Lib.hid hc.size
  replace Bc := Lib.hid (Bc.out.trans (hc.below (by have := ZB.out; have := ZA_w0.out; have := Y_u1.out; have := Y_u2.out; have := ZA3.out; have := Y_u3.out; have := Y_u4.out; have := ZA4.out; have := Y_u5.out; have := Y_u6.out; have := ZA5.out; have := Y_u7.out; have := Y_u8.out; have := Y_W8_1.out; have := Y_W8_2.out; have := Y_u9.out; omega) (fun g h1 => by have := ZB.out; have := ZA_w0.out; have := Y_u1.out; have := Y_u2.out; have := ZA3.out; have := Y_u3.out; have := Y_u4.out; have := ZA4.out; have := Y_u5.out; have := Y_u6.out; have := ZA5.out; have := Y_u7.out; have := Y_u8.out; have := Y_W8_1.out; have := Y_W8_2.out; have := Y_u9.out; (try simp only at h1); omega)))
  clear ho hc
  have CQ1 := Lib.hid (show 1 + (sumP L0 : Int) + (sumP L1 : Int) ≤ 1000000000 by have := ZQ.out; omega)
  go_wp2_with fail
  refine (markMatch_any (fun g => u3.heap.size ≤ g ∧ g < u4.heap.size)  (.slice s_x1 L1.1.length e_x1) (.slice s_x1b L1.2.length e_x1b) L1 (1 + (sumP L0 : Int)) (by omega) CQ1.out u9 F_x1.out).mono ?_
  rintro e u10 ⟨rfl, ho, hc⟩
  replace K0_0 := hc.keep K0_0 (fun hS => by have := ZB.out; have := ZA_w0.out; have := Y_u1.out; have := Y_u2.out; have := ZA3.out; have := Y_u3.out; have := Y_u4.out; have := ZA4.out; have := Y_u5.out; have := Y_u6.out; have := ZA5.out; have := Y_u7.out; have := Y_u8.out; have := Y_W8_1.out; have := Y_W8_2.out; have := Y_u9.out; (try simp only at hS); omega)
  replace K0_1 := hc.keep K0_1 (fun hS => by have := ZB.out; have := ZA_w0.out; have := Y_u1.out; have := Y_u2.out; have := ZA3.out; have := Y_u3.out; have := Y_u4.out; have := ZA4.out; have := Y_u5.out; have := Y_u6.out; have := ZA5.out; have := Y_u7.out; have := Y_u8.out; have := Y_W8_1.out; have := Y_W8_2.out; have := Y_u9.out; (try simp only at hS); omega)
  replace K1_0 := hc.keep K1_0 (fun hS => by have := ZB.out; have := ZA_w0.out; have := Y_u1.out; have := Y_u2.out; have := ZA3.out; have := Y_u3.out; have := Y_u4.out; have := ZA4.out; have := Y_u5.out; have := Y_u6.out; have := ZA5.out; have := Y_u7.out; have := Y_u8.out; have := Y_W8_1.out; have := Y_W8_2.out; have := Y_u9.out; (try simp only at hS); omega)
  replace K1_1 := hc.keep K1_1 (fun hS => by have := ZB.out; have := ZA_w0.out; have := Y_u1.out; have := Y_u2.out; have := ZA3.out; have := Y_u3.out; have := Y_u4.out; have := ZA4.out; have := Y_u5.out; have := Y_u6.out; have := ZA5.out; have := Y_u7.out; have := Y_u8.out; have := Y_W8_1.out; have := Y_W8_2.out; have := Y_u9.out; (try simp only at hS); omega)
  replace K2_0 := hc.keep K2_0 (fun hS => by have := ZB.out; have := ZA_w0.out; have := Y_u1.out; have := Y_u2.out; have := ZA3.out; have := Y_u3.out; have := Y_u4.out; have := ZA4.out; have := Y_u5.out; have := Y_u6.out; have := ZA5.out; have := Y_u7.out; have := Y_u8.out; have := Y_W8_1.out; have := Y_W8_2.out; have := Y_u9.out; (try simp only at hS); omega)
  replace K2_1 := hc.keep K2_1 (fun hS => by have := ZB.out; have := ZA_w0.out; have := Y_u1.out; have := Y_u2.out; have := ZA3.out; have := Y_u3.out; have := Y_u4.out; have := ZA4.out; have := Y_u5.out; have := Y_u6.out; have := ZA5.out; have := Y_u7.out; have := Y_u8.out; have := Y_W8_1.out; have := Y_W8_2.out; have := Y_u9.out; (try simp only at hS); omega)
  replace K3_0 := hc.keep K3_0 (fun hS => by have := ZB.out; have := ZA_w0.out; have := Y_u1.out; have := Y_u2.out; have := ZA3.out; have := Y_u3.out; have := Y_u4.out; have := ZA4.out; have := Y_u5.out; have := Y_u6.out; have := ZA5.out; have := Y_u7.out; have := Y_u8.out; have := Y_W8_1.out; have := Y_W8_2.out; have := Y_u9.out; (try simp only at hS); omega)
  replace K3_1 := hc.keep K3_1 (fun hS => by have := ZB.out; have := ZA_w0.out; have := Y_u1.out; have := Y_u2.out; have := ZA3.out; have := Y_u3.out; have := Y_u4.out; have := ZA4.out; have := Y_u5.out; have := Y_u6.out; have := ZA5.out; have := Y_u7.out; have := Y_u8.out; have := Y_W8_1.out; have := Y_W8_2.out; have := Y_u9.out; (try simp only at hS); omega)
  replace K4_0 := hc.keep K4_0 (fun hS => by have := ZB.out; have := ZA_w0.out; have := Y_u1.out; have := Y_u2.out; have := ZA3.out; have := Y_u3.out; have := Y_u4.out; have := ZA4.out; have := Y_u5.out; have := Y_u6.out; have := ZA5.out; have := Y_u7.out; have := Y_u8.out; have := Y_W8_1.out; have := Y_W8_2.out; have := Y_u9.out; (try simp only at hS); omega)
  replace K4_1 := hc.keep K4_1 (fun hS => by have := ZB.out; have := ZA_w0.out; have := Y_u1.out; have := Y_u2.out; have := ZA3.out; have := Y_u3.out; have := Y_u4.out; have := ZA4.out; have := Y_u5.out; have := Y_u6.out; have := ZA5.out; have := Y_u7.out; have := Y_u8.out; have := Y_W8_1.out; have := Y_W8_2.out; have := Y_u9.out; (try simp only at hS); omega)
  replace K5_0 := hc.keep K5_0 (fun hS => by have := ZB.out; have := ZA_w0.out; have := Y_u1.out; have := Y_u2.out; have := ZA3.out; have := Y_u3.out; have := Y_u4.out; have := ZA4.out; have := Y_u5.out; have := Y_u6.out; have := ZA5.out; have := Y_u7.out; have := Y_u8.out; have := Y_W8_1.out; have := Y_W8_2.out; have := Y_u9.out; (try simp only at hS); omega)
  replace K5_1 := hc.keep K5_1 (fun hS => by have := ZB.out; have := ZA_w0.out; have := Y_u1.out; have := Y_u2.out; have := ZA3.out; have := Y_u3.out; have := Y_u4.out; have := ZA4.out; have := Y_u5.out; have := Y_u6.out; have := ZA5.out; have := Y_u7.out; have := Y_u8.out; have := Y_W8_1.out; have := Y_W8_2.out; have := Y_u9.out; (try simp only at hS); omega)
  replace F_w0 := Lib.hid (F_w0.out.chg hc (fun g h1 h2 => by have := ZB.out; have := ZA_w0.out; have := Y_u1.out; have := Y_u2.out; have := ZA3.out; have := Y_u3.out; have := Y_u4.out; have := ZA4.out; have := Y_u5.out; have := Y_u6.out; have := ZA5.out; have := Y_u7.out; have := Y_u8.out; have := Y_W8_1.out; have := Y_W8_2.out; have := Y_u9.out; (try simp only at h1 h2); omega))
  replace F_x0 := Lib.hid (F_x0.out.chg hc (fun g h1 h2 => by have := ZB.out; have := ZA_w0.out; have := Y_u1.out; have := Y_u2.out; have := ZA3.out; have := Y_u3.out; have := Y_u4.out; have := ZA4.out; have := Y_u5.out; have := Y_u6.out; have := ZA5.out; have := Y_u7.out; have := Y_u8.out; have := Y_W8_1.out; have := Y_W8_2.out; have := Y_u9.out; (try simp only at h1 h2); omega))
  replace F_g0 := Lib.hid (F_g0.out.chg hc (fun g h1 h2 => by have := ZB.out; have := ZA_w0.out; have := Y_u1.out; have := Y_u2.out; have := ZA3.out; have := Y_u3.out; have := Y_u4.out; have := ZA4.out; have := Y_u5.out; have := Y_u6.out; have := ZA5.out; have := Y_u7.out; have := Y_u8.out; have := Y_W8_1.out; have := Y_W8_2.out; have := Y_u9.out; (try simp only at h1 h2); omega))
  replace F_x1 := Lib.hid ho
  have Y_u10 := Lib.hid hc.size
  replace Bc := Lib.hid (Bc.out.trans (hc.below (by have := ZB.out; have := ZA_w0.out; have := Y_u1.out; have := Y_u2.out; have := ZA3.out; have := Y_u3.out; have := Y_u4.out; have := ZA4.out; have := Y_u5.out; have := Y_u6.out; have := ZA5.out; have := Y_u7.out; have := Y_u8.out; have := Y_W8_1.out; have := Y_W8_2.out; have := Y_u9.out; have := Y_u10.out; omega) (fun g h1 => by have := ZB.out; have := ZA_w0.out; have := Y_u1.out; have := Y_u2.out; have := ZA3.out; have := Y_u3.out; have := Y_u4.out; have := ZA4.out; have := Y_u5.out; have := Y_u6.out; have := ZA5.out; have := Y_u7.out; have := Y_u8.out; have := Y_W8_1.out; have := Y_W8_2.out; have := Y_u9.out; have := Y_u10.out; (try simp only at h1); omega)))
  clear ho hc
  go_wp2_with fail
  refine (eqMatch_same  (.slice s_g0 R.1.length e_g0) (.slice s_g0b R.2.length e_g0b) (.slice s_w0 R.1.length e_w0) (.slice s_w0b R.2.length e_w0b) R u10 F_g0.out.reads F_w0.out.reads).mono ?_
  rintro e u11 ⟨rfl, hb⟩
  replace K0_0 := cell_old hb K0_0
  replace K0_1 := cell_old hb K0_1
  replace K1_0 := cell_old hb K1_0
  replace K1_1 := cell_old hb K1_1
  replace K2_0 := cell_old hb K2_0
  replace K2_1 := cell_old hb K2_1
  replace K3_0 := cell_old hb K3_0
  replace K3_1 := cell_old hb K3_1
  replace K4_0 := cell_old hb K4_0
  replace K4_1 := cell_old hb K4_1
  replace K5_0 := cell_old hb K5_0
  replace K5_1 := cell_old hb K5_1
  replace F_w0 := Lib.hid (F_w0.out.below hb)
  replace F_x0 := Lib.hid (F_x0.out.below hb)
  replace F_x1 := Lib.hid (F_x1.out.below hb)
  replace F_g0 := Lib.hid (F_g0.out.below hb)
  have Y_u11 := Lib.hid hb.size
  replace Bc := Lib.hid (Bc.out.trans (hb.mono Bc.out.size))
  clear hb
  clear F_x0
  clear F_x1
  go_wp2_with fail
  refine (markMatch_any (fun g => u5.heap.size ≤ g ∧ g < u6.heap.size)  (.slice s_g0 R.1.length e_g0) (.slice s_g0b R.2.length e_g0b) R 1 (by omega) CTR.out u11 F_g0.out).mono ?_
  rintro e u12 ⟨rfl, ho, hc⟩
  replace K0_0 := hc.keep K0_0 (fun hS => by have := ZB.out; have := ZA_w0.out; have := Y_u1.out; have := Y_u2.out; have := ZA3.out; have := Y_u3.out; have := Y_u4.out; have := ZA4.out; have := Y_u5.out; have := Y_u6.out; have := ZA5.out; have := Y_u7.out; have := Y_u8.out; have := Y_W8_1.out; have := Y_W8_2.out; have := Y_u9.out; have := Y_u10.out; have := Y_u11.out; (try simp only at hS); omega)
  replace K0_1 := hc.keep K0_1 (fun hS => by have := ZB.out; have := ZA_w0.out; have := Y_u1.out; have := Y_u2.out; have := ZA3.out; have := Y_u3.out; have := Y_u4.out; have := ZA4.out; have := Y_u5.out; have := Y_u6.out; have := ZA5.out; have := Y_u7.out; have := Y_u8.out; have := Y_W8_1.out; have := Y_W8_2.out; have := Y_u9.out; have := Y_u10.out; have := Y_u11.out; (try simp only at hS); omega)
  replace K1_0 := hc.keep K1_0 (fun hS => by have := ZB.out; have := ZA_w0.out; have := Y_u1.out; have := Y_u2.out; have := ZA3.out; have := Y_u3.out; have := Y_u4.out; have := ZA4.out; have := Y_u5.out; have := Y_u6.out; have := ZA5.out; have := Y_u7.out; have := Y_u8.out; have := Y_W8_1.out; have := Y_W8_2.out; have := Y_u9.out; have := Y_u10.out; have := Y_u11.out; (try simp only at hS); omega)
  replace K1_1 := hc.keep K1_1 (fun hS => by have := ZB.out; have := ZA_w0.out; have := Y_u1.out; have := Y_u2.out; have := ZA3.out; have := Y_u3.out; have := Y_u4.out; have := ZA4.out; have := Y_u5.out; have := Y_u6.out; have := ZA5.out; have := Y_u7.out; have := Y_u8.out; have := Y_W8_1.out; have := Y_W8_2.out; have := Y_u9.out; have := Y_u10.out; have := Y_u11.out; (try simp only at hS); omega)
  replace K2_0 := hc.keep K2_0 (fun hS => by have := ZB.out; have := ZA_w0.out; have := Y_u1.out; have := Y_u2.out; have := ZA3.out; have := Y_u3.out; have := Y_u4.out; have := ZA4.out; have := Y_u5.out; have := Y_u6.out; have := ZA5.out; have := Y_u7.out; have := Y_u8.out; have := Y_W8_1.out; have := Y_W8_2.out; have := Y_u9.out; have := Y_u10.out; have := Y_u11.out; (try simp only at hS); omega)
  replace K2_1 := hc.keep K2_1 (fun hS => by have := ZB.out; have := ZA_w0.out; have := Y_u1.out; have := Y_u2.out; have := ZA3.out; have := Y_u3.out; have := Y_u4.out; have := ZA4.out; have := Y_u5.out; have := Y_u6.out; have := ZA5.out; have := Y_u7.out; have := Y_u8.out; have := Y_W8_1.out; have := Y_W8_2.out; have := Y_u9.out; have := Y_u10.out; have := Y_u11.out; (try simp only at hS); omega)
  replace K3_0 := hc.keep K3_0 (fun hS => by have := ZB.out; have := ZA_w0.out; have := Y_u1.out; have := Y_u2.out; have := ZA3.out; have := Y_u3.out; have := Y_u4.out; have := ZA4.out; have := Y_u5.out; have := Y_u6.out; have := ZA5.out; have := Y_u7.out; have := Y_u8.out; have := Y_W8_1.out; have := Y_W8_2.out; have := Y_u9.out; have := Y_u10.out; have := Y_u11.out; (try simp only at hS); omega)
  replace K3_1 := hc.keep K3_1 (fun hS => by have := ZB.out; have := ZA_w0.out; have := Y_u1.out; have := Y_u2.out; have := ZA3.out; have := Y_u3.out; have := Y_u4.out; have := ZA4.out; have := Y_u5.out; have := Y_u6.out; have := ZA5.out; have := Y_u7.out; have := Y_u8.out; have := Y_W8_1.out; have := Y_W8_2.out; have := Y_u9.out; have := Y_u10.out; have := Y_u11.out; (try simp only at hS); omega)
  replace K4_0 := hc.keep K4_0 (fun hS => by have := ZB.out; have := ZA_w0.out; have := Y_u1.out; have := Y_u2.out; have := ZA3.out; have := Y_u3.out; have := Y_u4.out; have := ZA4.out; have := Y_u5.out; have := Y_u6.out; have := ZA5.out; have := Y_u7.out; have := Y_u8.out; have := Y_W8_1.out; have := Y_W8_2.out; have := Y_u9.out; have := Y_u10.out; have := Y_u11.out; (try simp only at hS); omega)
  replace K4_1 := hc.keep K4_1 (fun hS => by have := ZB.out; have := ZA_w0.out; have := Y_u1.out; have := Y_u2.out; have := ZA3.out; have := Y_u3.out; have := Y_u4.out; have := ZA4.out; have := Y_u5.out; have := Y_u6.out; have := ZA5.out; have := Y_u7.out; have := Y_u8.out; have := Y_W8_1.out; have := Y_W8_2.out; have := Y_u9.out; have := Y_u10.out; have := Y_u11.out; (try simp only at hS); omega)
  replace K5_0 := hc.keep K5_0 (fun hS => by have := ZB.out; have := ZA_w0.out; have := Y_u1.out; have := Y_u2.out; have := ZA3.out; have := Y_u3.out; have := Y_u4.out; have := ZA4.out; have := Y_u5.out; have := Y_u6.out; have := ZA5.out; have := Y_u7.out; have := Y_u8.out; have := Y_W8_1.out; have := Y_W8_2.out; have := Y_u9.out; have := Y_u10.out; have := Y_u11.out; (try simp only at hS); omega)
  replace K5_1 := hc.keep K5_1 (fun hS => by have := ZB.out; have := ZA_w0.out; have := Y_u1.out; have := Y_u2.out; have := ZA3.out; have := Y_u3.out; have := Y_u4.out; have := ZA4.out; have := Y_u5.out; have := Y_u6.out; have := ZA5.out; have := Y_u7.out; have := Y_u8.out; have := Y_W8_1.out; have := Y_W8_2.out; have := Y_u9.out; have := Y_u10.out; have := Y_u11.out; (try simp only at hS); omega)
  replace F_w0 := Lib.hid (F_w0.out.chg hc (fun g h1 h2 => by have := ZB.out; have := ZA_w0.out; have := Y_u1.out; have := Y_u2.out; have := ZA3.out; have := Y_u3.out; have := Y_u4.out; have := ZA4.out; have := Y_u5.out; have := Y_u6.out; have := ZA5.out; have := Y_u7.out; have := Y_u8.out; have := Y_W8_1.out; have := Y_W8_2.out; have := Y_u9.out; have := Y_u10.out; have := Y_u11.out; (try simp only at h1 h2); omega))
  replace F_g0 := Lib.hid ho
  have Y_u12 := Lib.hid hc.size
  replace Bc := Lib.hid (Bc.out.trans (hc.below (by have := ZB.out; have := ZA_w0.out; have := Y_u1.out; have := Y_u2.out; have := ZA3.out; have := Y_u3.out; have := Y_u4.out; have := ZA4.out; have := Y_u5.out; have := Y_u6.out; have := ZA5.out; have := Y_u7.out; have := Y_u8.out; have := Y_W8_1.out; have := Y_W8_2.out; have := Y_u9.out; have := Y_u10.out; have := Y_u11.out; have := Y_u12.out; omega) (fun g h1 => by have := ZB.out; have := ZA_w0.out; have := Y_u1.out; have := Y_u2.out; have := ZA3.out; have := Y_u3.out; have := Y_u4.out; have := ZA4.out; have := Y_u5.out; have := Y_u6.out; have := ZA5.out; have := Y_u7.out; have := Y_u8.out; have := Y_W8_1.out; have := Y_W8_2.out; have := Y_u9.out; have := Y_u10.out; have := Y_u11.out; have := Y_u12.out; (try simp only at h1); omega)))
  clear ho hc
  go_wp2_with fail
  refine (heldMatch_any  (.slice s_g0 R.1.length e_g0) (.slice s_g0b R.2.length e_g0b) R 1 (by omega) CTR.out u12 F_g0.out.reads).mono ?_
  rintro e u13 ⟨rfl, hb⟩
  replace K0_0 := cell_old hb K0_0
  replace K0_1 := cell_old hb K0_1
  replace K1_0 := cell_old hb K1_0
  replace K1_1 := cell_old hb K1_1
  replace K2_0 := cell_old hb K2_0
  replace K2_1 := cell_old hb K2_1
  replace K3_0 := cell_old hb K3_0
  replace K3_1 := cell_old hb K3_1
  replace K4_0 := cell_old hb K4_0
  replace K4_1 := cell_old hb K4_1
  replace K5_0 := cell_old hb K5_0
  replace K5_1 := cell_old hb K5_1
  replace F_w0 := Lib.hid (F_w0.out.below hb)
  replace F_g0 := Lib.hid (F_g0.out.below hb)
  have Y_u13 := Lib.hid hb.size
  replace Bc := Lib.hid (Bc.out.trans (hb.mono Bc.out.size))
  clear hb
  go_upto_region 31 with fail
  have M0_0 : ∀ W, Below u13.heap.size u13 W → W.cell? ⟨w.heap.size, 0, none⟩ = some ((.slice s_0 L0.1.length e_0)) := fun W hW => cell_old hW K0_0
  have M0_1 : ∀ W, Below u13.heap.size u13 W → W.cell? ⟨w.heap.size, 1, none⟩ = some ((.slice s_0b L0.2.length e_0b)) := fun W hW => cell_old hW K0_1
  have M1_0 : ∀ W, Below u13.heap.size u13 W → W.cell? ⟨w.heap.size + 1, 0, none⟩ = some ((.slice s_1 L1.1.length e_1)) := fun W hW => cell_old hW K1_0
  have M1_1 : ∀ W, Below u13.heap.size u13 W → W.cell? ⟨w.heap.size + 1, 1, none⟩ = some ((.slice s_1b L1.2.length e_1b)) := fun W hW => cell_old hW K1_1
  have M2_0 : ∀ W, Below u13.heap.size u13 W → W.cell? ⟨bk_w0, 0, none⟩ = some ((.slice s_w0 R.1.length e_w0)) := fun W hW => cell_old hW K2_0
  have M2_1 : ∀ W, Below u13.heap.size u13 W → W.cell? ⟨bk_w0, 1, none⟩ = some ((.slice s_w0b R.2.length e_w0b)) := fun W hW => cell_old hW K2_1
  have M3_0 : ∀ W, Below u13.heap.size u13 W → W.cell? ⟨u2.heap.size, 0, none⟩ = some ((.slice s_x0 L0.1.length e_x0)) := fun W hW => cell_old hW K3_0
  have M3_1 : ∀ W, Below u13.heap.size u13 W → W.cell? ⟨u2.heap.size, 1, none⟩ = some ((.slice s_x0b L0.2.length e_x0b)) := fun W hW => cell_old hW K3_1
  have M4_0 : ∀ W, Below u13.heap.size u13 W → W.cell? ⟨u4.heap.size, 0, none⟩ = some ((.slice s_x1 L1.1.length e_x1)) := fun W hW => cell_old hW K4_0
  have M4_1 : ∀ W, Below u13.heap.size u13 W → W.cell? ⟨u4.heap.size, 1, none⟩ = some ((.slice s_x1b L1.2.length e_x1b)) := fun W hW => cell_old hW K4_1
  have M5_0 : ∀ W, Below u13.heap.size u13 W → W.cell? ⟨u6.heap.size, 0, none⟩ = some ((.slice s_g0 R.1.length e_g0)) := fun W hW => cell_old hW K5_0
  have M5_1 : ∀ W, Below u13.heap.size u13 W → W.cell? ⟨u6.heap.size, 1, none⟩ = some ((.slice s_g0b R.2.length e_g0b)) := fun W hW => cell_old hW K5_1
  have HIK0_0 := Lib.hid K0_0
  have HIK0_1 := Lib.hid K0_1
  have HIK1_0 := Lib.hid K1_0
  have HIK1_1 := Lib.hid K1_1
  have HIK2_0 := Lib.hid K2_0
  have HIK2_1 := Lib.hid K2_1
  have HIK3_0 := Lib.hid K3_0
  have HIK3_1 := Lib.hid K3_1
  have HIK4_0 := Lib.hid K4_0
  have HIK4_1 := Lib.hid K4_1
  have HIK5_0 := Lib.hid K5_0
  have HIK5_1 := Lib.hid K5_1
  clear K0_0 K0_1 K1_0 K1_1 K2_0 K2_1 K3_0 K3_1 K4_0 K4_1 K5_0 K5_1
  have MA0 : Hid (∀ W, Below u13.heap.size u13 W → ReadsP W (.slice s_0 L0.1.length e_0) (.slice s_0b L0.2.length e_0b) L0) := fun W hW => H0.out.below (Bc.out.trans (hW.mono Bc.out.size))
  have MA1 : Hid (∀ W, Below u13.heap.size u13 W → ReadsP W (.slice s_1 L1.1.length e_1) (.slice s_1b L1.2.length e_1b) L1) := fun W hW => H1.out.below (Bc.out.trans (hW.mono Bc.out.size))
  go_cut [15, 16] (fun t b0_ W => b0_ = .bool b0 ∧ OutBoxP u13  R t W)
  case first =>
    go_region_held3 (fun W => Below u13.heap.size u13 W)
      (first | (refine (Below.setCell (p := ⟨_, 0, none⟩) ?_ bx.1 _).setCell (p := ⟨_, 1, none⟩) bx.1 _; (repeat (first | exact Below.refl _ _ | assumption | apply below_alloc | apply below_drewB | refine below_step ?_ hb_r | refine below_step ?_ hb_t1 | refine below_step ?_ hb_t0)); done) | ((repeat (first | exact Below.refl _ _ | assumption | apply below_alloc | apply below_drewB | refine below_step ?_ hb_r | refine below_step ?_ hb_t1 | refine below_step ?_ hb_t0)); done))
      (first | (go_at_call 21; (with_reducible refine (toMatch_any  (.slice s_0 L0.1.length e_0) (.slice s_0b L0.2.length e_0b) L0 _ (MA0.out _ (by repeat (first | exact Below.refl _ _ | assumption | apply below_alloc | apply below_drewB | refine below_step ?_ hb_t1 | refine below_step ?_ hb_t0))) T0.out).mono ?_); rintro e w_t0 ⟨v_t0, v_t0b, rfl, ho_t0, hb_t0⟩; obtain ⟨s_t0, e_t0, s_t0b, e_t0b, rfl, rfl⟩ := ho_t0.reads.form; (first | have bx := boxInP_new (c := u13) (by repeat (first | exact Below.refl _ _ | assumption | apply below_alloc | apply below_drewB | refine below_step ?_ hb_t1 | refine below_step ?_ hb_t0)) hb_t0 | have bx := boxInP_new' (c := u13) hb_t0 | have bx := BoxInP.keep bx hb_t0 | skip)) | (go_at_call 21; (with_reducible refine (toMatch_any  (.slice s_1 L1.1.length e_1) (.slice s_1b L1.2.length e_1b) L1 _ (MA1.out _ (by repeat (first | exact Below.refl _ _ | assumption | apply below_alloc | apply below_drewB | refine below_step ?_ hb_t1 | refine below_step ?_ hb_t0))) T1.out).mono ?_); rintro e w_t1 ⟨v_t1, v_t1b, rfl, ho_t1, hb_t1⟩; obtain ⟨s_t1, e_t1, s_t1b, e_t1b, rfl, rfl⟩ := ho_t1.reads.form; (first | have bx := boxInP_new (c := u13) (by repeat (first | exact Below.refl _ _ | assumption | apply below_alloc | apply below_drewB | refine below_step ?_ hb_t1 | refine below_step ?_ hb_t0)) hb_t1 | have bx := boxInP_new' (c := u13) hb_t1 | have bx := BoxInP.keep bx hb_t1 | skip)) | (go_at_call 22; (with_reducible refine (hi.out _ (.slice s_t0 L0.1.length e_t0) (.slice s_t0b L0.2.length e_t0b) (.slice s_t1 L1.1.length e_t1) (.slice s_t1b L1.2.length e_t1b) (ho_t0.reads.below (by repeat (first | exact Below.refl _ _ | assumption | apply below_alloc | apply below_drewB | refine below_step ?_ hb_t1 | refine below_step ?_ hb_t0))) (ho_t1.reads.below (by repeat (first | exact Below.refl _ _ | assumption | apply below_alloc | apply below_drewB | refine below_step ?_ hb_t1 | refine below_step ?_ hb_t0)))).mono ?_); rintro e w_r ⟨v_r, v_rb, rfl, ho_r, hb_r⟩; obtain ⟨s_r, e_r, s_rb, e_rb, rfl, rfl⟩ := ho_r.reads.form; (first | have hbm := bx.2.1 | skip); (first | have bx := boxInP_new (c := u13) (by repeat (first | exact Below.refl _ _ | assumption | apply below_alloc | apply below_drewB | refine below_step ?_ hb_t1 | refine below_step ?_ hb_t0)) hb_r | have bx := boxInP_new' (c := u13) hb_r | have bx := BoxInP.keep bx hb_r | skip); (first | (have y0 := bx.2.2.1; have y1 := bx.2.2.2.1; have g0 := bx.2.2.2.2.1; have g1 := bx.2.2.2.2.2) | skip)))
    all_goals go_wp2
    all_goals go_meet
    all_goals
      first
      | exact ⟨rfl, outBoxP_alloc  _ (by repeat (first | exact Below.refl _ _ | assumption | apply below_alloc | apply below_drewB | refine below_step ?_ hb_r | refine below_step ?_ hb_t1 | refine below_step ?_ hb_t0)) (OwnsP.mono ho_r fun g hg => Nat.le_trans (below_le (c := u13) (by repeat (first | exact Below.refl _ _ | assumption | apply below_alloc | apply below_drewB | refine below_step ?_ hb_r | refine below_step ?_ hb_t1 | refine below_step ?_ hb_t0))) hg)⟩
      | exact ⟨rfl, outBoxP_put  (by repeat (first | exact Below.refl _ _ | assumption | apply below_alloc | apply below_drewB | refine below_step ?_ hb_r | refine below_step ?_ hb_t1 | refine below_step ?_ hb_t0)) ho_r bx hbm⟩
      | exact ⟨rfl, outBoxP_put  (by repeat (first | exact Below.refl _ _ | assumption | apply below_alloc | apply below_drewB | refine below_step ?_ hb_r | refine below_step ?_ hb_t1 | refine below_step ?_ hb_t0)) ho_r bx (by simp)⟩
  case rest =>
  obtain ⟨rfl, bk_h0, s_h0, e_h0, s_h0b, e_h0b, rfl, O0, O1, ho, hbl, hbs, hb⟩ := hcut
  obtain ⟨u14, hu⟩ : ∃ W, W = wc := ⟨_, rfl⟩
  rw [← hu] at O0 O1 ho hbs hb ⊢
  clear hu wc M0_0 M0_1 M1_0 M1_1 M2_0 M2_1 M3_0 M3_1 M4_0 M4_1 M5_0 M5_1 MA0 MA1
  have K0_0 := HIK0_0.out
  have K0_1 := HIK0_1.out
  have K1_0 := HIK1_0.out
  have K1_1 := HIK1_1.out
  have K2_0 := HIK2_0.out
  have K2_1 := HIK2_1.out
  have K3_0 := HIK3_0.out
  have K3_1 := HIK3_1.out
  have K4_0 := HIK4_0.out
  have K4_1 := HIK4_1.out
  have K5_0 := HIK5_0.out
  have K5_1 := HIK5_1.out
  clear HIK0_0 HIK0_1 HIK1_0 HIK1_1 HIK2_0 HIK2_1 HIK3_0 HIK3_1 HIK4_0 HIK4_1 HIK5_0 HIK5_1
  have F_h0 := Lib.hid ho
  have ZA_h0 := Lib.hid (And.intro hbl hbs)
  clear ho hbl hbs
  replace K0_0 := cell_old hb K0_0
  replace K0_1 := cell_old hb K0_1
  replace K1_0 := cell_old hb K1_0
  replace K1_1 := cell_old hb K1_1
  replace K2_0 := cell_old hb K2_0
  replace K2_1 := cell_old hb K2_1
  replace K3_0 := cell_old hb K3_0
  replace K3_1 := cell_old hb K3_1
  replace K4_0 := cell_old hb K4_0
  replace K4_1 := cell_old hb K4_1
  replace K5_0 := cell_old hb K5_0
  replace K5_1 := cell_old hb K5_1
  replace F_w0 := Lib.hid (F_w0.out.below hb)
  replace F_g0 := Lib.hid (F_g0.out.below hb)
  have Y_u14 := Lib.hid hb.size
  replace Bc := Lib.hid (Bc.out.trans (hb.mono Bc.out.size))
  clear hb
  have K6_0 := O0
  have K6_1 := O1
  clear O0 O1
  go_wp2_with fail
  refine (eqMatch_same  (.slice s_h0 R.1.length e_h0) (.slice s_h0b R.2.length e_h0b) (.slice s_w0 R.1.length e_w0) (.slice s_w0b R.2.length e_w0b) R u14 F_h0.out.reads F_w0.out.reads).mono ?_
  rintro e u15 ⟨rfl, hb⟩
  replace K0_0 := cell_old hb K0_0
  replace K0_1 := cell_old hb K0_1
  replace K1_0 := cell_old hb K1_0
  replace K1_1 := cell_old hb K1_1
  replace K2_0 := cell_old hb K2_0
  replace K2_1 := cell_old hb K2_1
  replace K3_0 := cell_old hb K3_0
  replace K3_1 := cell_old hb K3_1
  replace K4_0 := cell_old hb K4_0
  replace K4_1 := cell_old hb K4_1
  replace K5_0 := cell_old hb K5_0
  replace K5_1 := cell_old hb K5_1
  replace K6_0 := cell_old hb K6_0
  replace K6_1 := cell_old hb K6_1
  replace F_w0 := Lib.hid (F_w0.out.below hb)
  replace F_g0 := Lib.hid (F_g0.out.below hb)
  replace F_h0 := Lib.hid (F_h0.out.below hb)
  have Y_u15 := Lib.hid hb.size
  replace Bc := Lib.hid (Bc.out.trans (hb.mono Bc.out.size))
  clear hb
  go_wp2_with fail
  refine (heldMatch_any  (.slice s_g0 R.1.length e_g0) (.slice s_g0b R.2.length e_g0b) R 1 (by omega) CTR.out u15 F_g0.out.reads).mono ?_
  rintro e u16 ⟨rfl, hb⟩
  replace K0_0 := cell_old hb K0_0
  replace K0_1 := cell_old hb K0_1
  replace K1_0 := cell_old hb K1_0
  replace K1_1 := cell_old hb K1_1
  replace K2_0 := cell_old hb K2_0
  replace K2_1 := cell_old hb K2_1
  replace K3_0 := cell_old hb K3_0
  replace K3_1 := cell_old hb K3_1
  replace K4_0 := cell_old hb K4_0
  replace K4_1 := cell_old hb K4_1
  replace K5_0 := cell_old hb K5_0
  replace K5_1 := cell_old hb K5_1
  replace K6_0 := cell_old hb K6_0
  replace K6_1 := cell_old hb K6_1
  replace F_w0 := Lib.hid (F_w0.out.below hb)
  replace F_g0 := Lib.hid (F_g0.out.below hb)
  replace F_h0 := Lib.hid (F_h0.out.below hb)
  have Y_u16 := Lib.hid hb.size
  replace Bc := Lib.hid (Bc.out.trans (hb.mono Bc.out.size))
  clear hb
  go_wp2
  go_ret
  exact ⟨rfl, Bc.out⟩
end Go.Proofs.Ytimjlcnljefbbaa.fnExactThroughMatch
