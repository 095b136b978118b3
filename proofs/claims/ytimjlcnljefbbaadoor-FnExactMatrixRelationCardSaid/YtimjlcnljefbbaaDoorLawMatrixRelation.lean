/- The law FnExactMatrixRelation: both functions return the same, each in memory of its own, and what they are handed stays as it was. -/
import Derived.Test.YtimjlcnljefbbaaDoorLawBase
import Derived.Test.YtimjlcnljefbbaaDoorMRelF
import Derived.Test.YtimjlcnljefbbaaDoorRel
import Derived.Deep.RegionHeld3
import Derived.Deep.DeepCutAuto
namespace Go.Proofs.YtimjlcnljefbbaaDoor.fnExactMatrixRelation
open Go.RowKit Ints

set_option maxHeartbeats 8000000 in
set_option maxRecDepth 100000 in
theorem walk (a0 : Int) (_w0 : (Lit.int .i64 a0).wf = true) (c1x : Int) (v1 : Value) (L1 : List (List Int)) (w : World) (ht : Tab w) (h1 : ReadsM w v1 L1) :
    Calls Tryd.prog 3 #[.int .i64 a0, .agg #[.int .i64 c1x, v1]] w fun e w' => e = .returned (.bool true) ∧ Below w.heap.size w w' := by
  obtain ⟨s1, e1, rfl⟩ := h1.form
  have B := Lib.hid ((Below.refl w.heap.size w).alloc (Nat.le_refl _) (.cells #[.int .i64 c1x, (.slice s1 L1.length e1)] 24))
  have H1 := Lib.hid h1
  have HT := Lib.hid ht
  clear h1 ht
  rcases szN_cases (tot L1) 1048576 with hneg | ⟨hle, hpos⟩
  · have szc0 := Lib.hid (fun W hW => szMatrix_any c1x (.slice s1 L1.length e1) L1 1048576 (by omega) (by omega) W hW)
    rw [hneg] at szc0
    clear hneg
    go_enter Tryd.func3, Tryd.ntmps3
    go_wp2_with fail
    refine (szc0.out _ (H1.out.below B.out)).mono ?_
    rintro e z1 ⟨rfl, hb⟩
    have K0_0 : z1.cell? ⟨w.heap.size, 0, none⟩ = some (.int .i64 c1x) := cell_old hb (by simp [go_sem])
    have K0_1 : z1.cell? ⟨w.heap.size, 1, none⟩ = some ((.slice s1 L1.length e1)) := cell_old hb (by simp [go_sem])
    have BZ1 := Lib.hid (B.out.trans (hb.mono B.out.size))
    have ZB := Lib.hid (show w.heap.size + 1 ≤ z1.heap.size by have := hb.size; simp at this; omega)
    clear hb
    go_wp2
    go_ret
    exact ⟨rfl, BZ1.out⟩
  have szc0 := Lib.hid (fun W hW => szMatrix_any c1x (.slice s1 L1.length e1) L1 1048576 (by omega) (by omega) W hW)
  obtain ⟨r0, hr0⟩ : ∃ r, szN (tot L1) 1048576 = r := ⟨_, rfl⟩
  rw [hr0] at szc0 hpos
  have r00 : 0 ≤ r0 := by omega
  have r01 : r0 ≤ 1048576 := by omega
  have r0b : decide (r0 < 0) = false := by simp; omega
  have T1 := Lib.hid (show tot L1 ≤ 1048576 by omega)
  clear hpos hr0 hle
  obtain ⟨b0, hb0⟩ : ∃ b, mrB a0 c1x L1 = b := ⟨_, rfl⟩
  obtain ⟨dx, hdx⟩ : ∃ d, mrL a0 c1x L1 = d := ⟨_, rfl⟩
  obtain ⟨dy, hdy⟩ : ∃ d, mrR a0 c1x L1 = d := ⟨_, rfl⟩
  obtain ⟨R, hR⟩ : ∃ R, mrOut a0 c1x L1 = R := ⟨_, rfl⟩
  have CTR := Lib.hid (mrOut_ctr a0 c1x L1)
  have hs := Lib.hid (fun W v h => specMR_any a0 c1x v L1 W h)
  have hi := Lib.hid (fun W v t h => implMR_any a0 c1x v L1 W t h)
  rw [hb0, hdx, hdy, hR] at hs hi
  rw [hR] at CTR
  clear hb0 hdx hdy hR
  have hq0 : (b0 != b0) = false := by simp
  go_enter Tryd.func3, Tryd.ntmps3
  go_wp2_with fail
  refine (szc0.out _ (H1.out.below B.out)).mono ?_
  rintro e z1 ⟨rfl, hb⟩
  have K0_0 : z1.cell? ⟨w.heap.size, 0, none⟩ = some (.int .i64 c1x) := cell_old hb (by simp [go_sem])
  have K0_1 : z1.cell? ⟨w.heap.size, 1, none⟩ = some ((.slice s1 L1.length e1)) := cell_old hb (by simp [go_sem])
  have BZ1 := Lib.hid (B.out.trans (hb.mono B.out.size))
  have ZB := Lib.hid (show w.heap.size + 1 ≤ z1.heap.size by have := hb.size; simp at this; omega)
  clear hb
  have Bc := Lib.hid BZ1.out
  clear B BZ1 szc0
  have nR0 : decide ((1 : Int) + (sumL R : Int) < 0) = false := by simp; omega
  have nR1 : ((1 : Int) + (sumL R : Int) != (1 : Int) + (sumL R : Int)) = false := by simp
  have CTL1 := Lib.hid (show (1 : Int) + (sumL L1 : Int) ≤ 1000000000 by have := T1.out; unfold tot at this; unfold sumL; omega)
  have nL10 : decide ((1 : Int) + (sumL L1 : Int) < 0) = false := by simp; omega
  have nL11 : ((1 : Int) + (sumL L1 : Int) != (1 : Int) + (sumL L1 : Int)) = false := by simp
  go_wp2_with fail
  refine (toMatrix_any c1x (.slice s1 L1.length e1) L1 z1 (H1.out.below Bc.out) T1.out).mono ?_
  rintro e u1 ⟨v_t0, rfl, ho, hb⟩
  obtain ⟨s_t0, e_t0, rfl⟩ := ho.reads.form
  have F_t0 := Lib.hid ho.bound
  clear ho
  replace K0_0 := cell_old hb K0_0
  replace K0_1 := cell_old hb K0_1
  have Y_u1 := Lib.hid hb.size
  replace Bc := Lib.hid (Bc.out.trans (hb.mono Bc.out.size))
  clear hb
  go_wp2_with fail
  refine (hs.out u1 (.slice s_t0 L1.length e_t0) F_t0.out.reads).mono ?_
  rintro e u2 ⟨v_w0, rfl, ho, hb⟩
  obtain ⟨s_w0, e_w0, rfl⟩ := ho.reads.form
  have F_w0 := Lib.hid ho.bound
  clear ho
  replace K0_0 := cell_old hb K0_0
  replace K0_1 := cell_old hb K0_1
  replace F_t0 := Lib.hid (F_t0.out.below hb)
  have Y_u2 := Lib.hid hb.size
  replace Bc := Lib.hid (Bc.out.trans (hb.mono Bc.out.size))
  clear hb
  clear F_t0
  obtain ⟨u3, hu3⟩ : ∃ W, W = u2.alloc (.cells #[.int .i64 dx, .int .i64 dy, (.slice s_w0 R.length e_w0)] 27) := ⟨_, rfl⟩
  have hb : Below u2.heap.size u2 u3 := by rw [hu3]; exact (Below.refl _ _).alloc (Nat.le_refl _) _
  have ZA1 := Lib.hid (show u2.heap.size + 1 ≤ u3.heap.size by rw [hu3]; simp)
  replace K0_0 := cell_old hb K0_0
  replace K0_1 := cell_old hb K0_1
  replace F_w0 := Lib.hid (F_w0.out.below hb)
  have Y_u3 := Lib.hid hb.size
  replace Bc := Lib.hid (Bc.out.trans (hb.mono Bc.out.size))
  clear hb
  have K1_0 : u3.cell? ⟨u2.heap.size, 0, none⟩ = some (.int .i64 dx) := by rw [hu3]; simp [go_sem]
  have K1_1 : u3.cell? ⟨u2.heap.size, 1, none⟩ = some (.int .i64 dy) := by rw [hu3]; simp [go_sem]
  have K1_2 : u3.cell? ⟨u2.heap.size, 2, none⟩ = some ((.slice s_w0 R.length e_w0)) := by rw [hu3]; simp [go_sem]
  have HA1 := Lib.hid hu3
  clear hu3
  rw [HA1.out] at K0_0 K0_1 K1_0 K1_1 K1_2
  go_wp2_with fail
  rw [← HA1.out]
  rw [← HA1.out] at K0_0 K0_1 K1_0 K1_1 K1_2
  refine (toMatrix_any c1x (.slice s1 L1.length e1) L1 u3 (H1.out.below Bc.out) T1.out).mono ?_
  rintro e u4 ⟨v_x0, rfl, ho, hb⟩
  obtain ⟨s_x0, e_x0, rfl⟩ := ho.reads.form
  have F_x0 := Lib.hid ho.bound
  clear ho
  replace K0_0 := cell_old hb K0_0
  replace K0_1 := cell_old hb K0_1
  replace K1_0 := cell_old hb K1_0
  replace K1_1 := cell_old hb K1_1
  replace K1_2 := cell_old hb K1_2
  replace F_w0 := Lib.hid (F_w0.out.below hb)
  have Y_u4 := Lib.hid hb.size
  replace Bc := Lib.hid (Bc.out.trans (hb.mono Bc.out.size))
  clear hb
  obtain ⟨u5, hu5⟩ : ∃ W, W = u4.alloc (.cells #[.int .i64 c1x, (.slice s_x0 L1.length e_x0)] 30) := ⟨_, rfl⟩
  have hb : Below u4.heap.size u4 u5 := by rw [hu5]; exact (Below.refl _ _).alloc (Nat.le_refl _) _
  have ZA2 := Lib.hid (show u4.heap.size + 1 ≤ u5.heap.size by rw [hu5]; simp)
  replace K0_0 := cell_old hb K0_0
  replace K0_1 := cell_old hb K0_1
  replace K1_0 := cell_old hb K1_0
  replace K1_1 := cell_old hb K1_1
  replace K1_2 := cell_old hb K1_2
  replace F_w0 := Lib.hid (F_w0.out.below hb)
  replace F_x0 := Lib.hid (F_x0.out.below hb)
  have Y_u5 := Lib.hid hb.size
  replace Bc := Lib.hid (Bc.out.trans (hb.mono Bc.out.size))
  clear hb
  have K2_0 : u5.cell? ⟨u4.heap.size, 0, none⟩ = some (.int .i64 c1x) := by rw [hu5]; simp [go_sem]
  have K2_1 : u5.cell? ⟨u4.heap.size, 1, none⟩ = some ((.slice s_x0 L1.length e_x0)) := by rw [hu5]; simp [go_sem]
  have HA2 := Lib.hid hu5
  clear hu5
  rw [HA2.out] at K0_0 K0_1 K1_0 K1_1 K1_2 K2_0 K2_1
  go_wp2_with fail
  rw [← HA2.out]
  rw [← HA2.out] at K0_0 K0_1 K1_0 K1_1 K1_2 K2_0 K2_1
  refine (hi.out u5 (.slice s_x0 L1.length e_x0) (HT.out.below HT.out.size Bc.out) F_x0.out.reads).mono ?_
  rintro e u6 ⟨v_g0, rfl, ho, hb⟩
  obtain ⟨s_g0, e_g0, rfl⟩ := ho.reads.form
  have F_g0 := Lib.hid ho.bound
  clear ho
  replace K0_0 := cell_old hb K0_0
  replace K0_1 := cell_old hb K0_1
  replace K1_0 := cell_old hb K1_0
  replace K1_1 := cell_old hb K1_1
  replace K1_2 := cell_old hb K1_2
  replace K2_0 := cell_old hb K2_0
  replace K2_1 := cell_old hb K2_1
  replace F_w0 := Lib.hid (F_w0.out.below hb)
  replace F_x0 := Lib.hid (F_x0.out.below hb)
  have Y_u6 := Lib.hid hb.size
  replace Bc := Lib.hid (Bc.out.trans (hb.mono Bc.out.size))
  clear hb
  obtain ⟨u7, hu7⟩ : ∃ W, W = u6.alloc (.cells #[.int .i64 dx, .int .i64 dy, (.slice s_g0 R.length e_g0)] 27) := ⟨_, rfl⟩
  have hb : Below u6.heap.size u6 u7 := by rw [hu7]; exact (Below.refl _ _).alloc (Nat.le_refl _) _
  have ZA3 := Lib.hid (show u6.heap.size + 1 ≤ u7.heap.size by rw [hu7]; simp)
  replace K0_0 := cell_old hb K0_0
  replace K0_1 := cell_old hb K0_1
  replace K1_0 := cell_old hb K1_0
  replace K1_1 := cell_old hb K1_1
  replace K1_2 := cell_old hb K1_2
  replace K2_0 := cell_old hb K2_0
  replace K2_1 := cell_old hb K2_1
  replace F_w0 := Lib.hid (F_w0.out.below hb)
  replace F_x0 := Lib.hid (F_x0.out.below hb)
  replace F_g0 := Lib.hid (F_g0.out.below hb)
  have Y_u7 := Lib.hid hb.size
  replace Bc := Lib.hid (Bc.out.trans (hb.mono Bc.out.size))
  clear hb
  have K3_0 : u7.cell? ⟨u6.heap.size, 0, none⟩ = some (.int .i64 dx) := by rw [hu7]; simp [go_sem]
  have K3_1 : u7.cell? ⟨u6.heap.size, 1, none⟩ = some (.int .i64 dy) := by rw [hu7]; simp [go_sem]
  have K3_2 : u7.cell? ⟨u6.heap.size, 2, none⟩ = some ((.slice s_g0 R.length e_g0)) := by rw [hu7]; simp [go_sem]
  have HA3 := Lib.hid hu7
  clear hu7
  rw [HA3.out] at K0_0 K0_1 K1_0 K1_1 K1_2 K2_0 K2_1 K3_0 K3_1 K3_2
  go_wp2_with fail
  rw [← HA3.out]
  rw [← HA3.out] at K0_0 K0_1 K1_0 K1_1 K1_2 K2_0 K2_1 K3_0 K3_1 K3_2
  refine (eqRelation_same dx dy (.slice s_g0 R.length e_g0) (.slice s_w0 R.length e_w0) R u7 F_g0.out.reads F_w0.out.reads).mono ?_
  rintro e u8 ⟨rfl, hb⟩
  replace K0_0 := cell_old hb K0_0
  replace K0_1 := cell_old hb K0_1
  replace K1_0 := cell_old hb K1_0
  replace K1_1 := cell_old hb K1_1
  replace K1_2 := cell_old hb K1_2
  replace K2_0 := cell_old hb K2_0
  replace K2_1 := cell_old hb K2_1
  replace K3_0 := cell_old hb K3_0
  replace K3_1 := cell_old hb K3_1
  replace K3_2 := cell_old hb K3_2
  replace F_w0 := Lib.hid (F_w0.out.below hb)
  replace F_x0 := Lib.hid (F_x0.out.below hb)
  replace F_g0 := Lib.hid (F_g0.out.below hb)
  have Y_u8 := Lib.hid hb.size
  replace Bc := Lib.hid (Bc.out.trans (hb.mono Bc.out.size))
  clear hb
  go_wp2_with fail
  have M2_0 : ∀ W, Below u8.heap.size u8 W → W.cell? ⟨u4.heap.size, 0, none⟩ = some (.int .i64 c1x) := fun W hW => cell_old hW K2_0
  have M2_1 : ∀ W, Below u8.heap.size u8 W → W.cell? ⟨u4.heap.size, 1, none⟩ = some ((.slice s_x0 L1.length e_x0)) := fun W hW => cell_old hW K2_1
  have M0_0 : ∀ W, Below u8.heap.size u8 W → W.cell? ⟨w.heap.size, 0, none⟩ = some (.int .i64 c1x) := fun W hW => cell_old hW K0_0
  have M0_1 : ∀ W, Below u8.heap.size u8 W → W.cell? ⟨w.heap.size, 1, none⟩ = some ((.slice s1 L1.length e1)) := fun W hW => cell_old hW K0_1
  have HIK0_0 := Lib.hid K0_0
  have HIK0_1 := Lib.hid K0_1
  have HIK1_0 := Lib.hid K1_0
  have HIK1_1 := Lib.hid K1_1
  have HIK1_2 := Lib.hid K1_2
  have HIK2_0 := Lib.hid K2_0
  have HIK2_1 := Lib.hid K2_1
  have HIK3_0 := Lib.hid K3_0
  have HIK3_1 := Lib.hid K3_1
  have HIK3_2 := Lib.hid K3_2
  clear K0_0 K0_1 K1_0 K1_1 K1_2 K2_0 K2_1 K3_0 K3_1 K3_2
  have MX : Hid (∀ W, Below u8.heap.size u8 W → ReadsM W (.slice s_x0 L1.length e_x0) L1) := fun W hW => F_x0.out.reads.below hW
  have MA : Hid (∀ W, Below u8.heap.size u8 W → ReadsM W (.slice s1 L1.length e1) L1) := fun W hW => H1.out.below (Bc.out.trans (hW.mono Bc.out.size))
  go_region_held3 (fun W => Below u8.heap.size u8 W)
    (first | exact (Below.refl _ _).drew | exact below_step (by assumption) hb7_1 | exact below_step (by assumption) hb8_1)
    (first | (go_at_call 10; refine (toMatrix_any c1x (.slice s1 L1.length e1) L1 _ (MA.out _ (by assumption)) T1.out).mono ?_; rintro e W7_1 ⟨v7, rfl, ho7, hb7_1⟩) | (go_at_call 13; refine (eqMatrix_same c1x (.slice s_x0 L1.length e_x0) _ L1 _ (MX.out _ (by assumption)) ho7.reads).mono ?_; rintro e W8_1 ⟨rfl, hb8_1⟩))
  have hb : Below u8.heap.size u8 W8_1 := by assumption
  clear M2_0 M2_1 M0_0 M0_1 MX MA
  have K0_0 := HIK0_0.out
  have K0_1 := HIK0_1.out
  have K1_0 := HIK1_0.out
  have K1_1 := HIK1_1.out
  have K1_2 := HIK1_2.out
  have K2_0 := HIK2_0.out
  have K2_1 := HIK2_1.out
  have K3_0 := HIK3_0.out
  have K3_1 := HIK3_1.out
  have K3_2 := HIK3_2.out
  clear HIK0_0 HIK0_1 HIK1_0 HIK1_1 HIK1_2 HIK2_0 HIK2_1 HIK3_0 HIK3_1 HIK3_2
  replace K0_0 := cell_old hb K0_0
  replace K0_1 := cell_old hb K0_1
  replace K1_0 := cell_old hb K1_0
  replace K1_1 := cell_old hb K1_1
  replace K1_2 := cell_old hb K1_2
  replace K2_0 := cell_old hb K2_0
  replace K2_1 := cell_old hb K2_1
  replace K3_0 := cell_old hb K3_0
  replace K3_1 := cell_old hb K3_1
  replace K3_2 := cell_old hb K3_2
  replace F_w0 := Lib.hid (F_w0.out.below hb)
  replace F_x0 := Lib.hid (F_x0.out.below hb)
  replace F_g0 := Lib.hid (F_g0.out.below hb)
  have Y_W8_1 := Lib.hid hb.size
  replace Bc := Lib.hid (Bc.out.trans (hb.mono Bc.out.size))
  clear hb
  go_wp2_with fail
  refine (markMatrix_any (fun g => u3.heap.size ≤ g ∧ g < u4.heap.size) c1x (.slice s_x0 L1.length e_x0) L1 1 (by omega) CTL1.out W8_1 F_x0.out).mono ?_
  rintro e u9 ⟨rfl, ho, hc⟩
  replace K0_0 := hc.keep K0_0 (fun hS => by have := ZB.out; have := Y_u1.out; have := Y_u2.out; have := ZA1.out; have := Y_u3.out; have := Y_u4.out; have := ZA2.out; have := Y_u5.out; have := Y_u6.out; have := ZA3.out; have := Y_u7.out; have := Y_u8.out; have := Y_W8_1.out; (try simp only at hS); omega)
  replace K0_1 := hc.keep K0_1 (fun hS => by have := ZB.out; have := Y_u1.out; have := Y_u2.out; have := ZA1.out; have := Y_u3.out; have := Y_u4.out; have := ZA2.out; have := Y_u5.out; have := Y_u6.out; have := ZA3.out; have := Y_u7.out; have := Y_u8.out; have := Y_W8_1.out; (try simp only at hS); omega)
  replace K1_0 := hc.keep K1_0 (fun hS => by have := ZB.out; have := Y_u1.out; have := Y_u2.out; have := ZA1.out; have := Y_u3.out; have := Y_u4.out; have := ZA2.out; have := Y_u5.out; have := Y_u6.out; have := ZA3.out; have := Y_u7.out; have := Y_u8.out; have := Y_W8_1.out; (try simp only at hS); omega)
  replace K1_1 := hc.keep K1_1 (fun hS => by have := ZB.out; have := Y_u1.out; have := Y_u2.out; have := ZA1.out; have := Y_u3.out; have := Y_u4.out; have := ZA2.out; have := Y_u5.out; have := Y_u6.out; have := ZA3.out; have := Y_u7.out; have := Y_u8.out; have := Y_W8_1.out; (try simp only at hS); omega)
  replace K1_2 := hc.keep K1_2 (fun hS => by have := ZB.out; have := Y_u1.out; have := Y_u2.out; have := ZA1.out; have := Y_u3.out; have := Y_u4.out; have := ZA2.out; have := Y_u5.out; have := Y_u6.out; have := ZA3.out; have := Y_u7.out; have := Y_u8.out; have := Y_W8_1.out; (try simp only at hS); omega)
  replace K2_0 := hc.keep K2_0 (fun hS => by have := ZB.out; have := Y_u1.out; have := Y_u2.out; have := ZA1.out; have := Y_u3.out; have := Y_u4.out; have := ZA2.out; have := Y_u5.out; have := Y_u6.out; have := ZA3.out; have := Y_u7.out; have := Y_u8.out; have := Y_W8_1.out; (try simp only at hS); omega)
  replace K2_1 := hc.keep K2_1 (fun hS => by have := ZB.out; have := Y_u1.out; have := Y_u2.out; have := ZA1.out; have := Y_u3.out; have := Y_u4.out; have := ZA2.out; have := Y_u5.out; have := Y_u6.out; have := ZA3.out; have := Y_u7.out; have := Y_u8.out; have := Y_W8_1.out; (try simp only at hS); omega)
  replace K3_0 := hc.keep K3_0 (fun hS => by have := ZB.out; have := Y_u1.out; have := Y_u2.out; have := ZA1.out; have := Y_u3.out; have := Y_u4.out; have := ZA2.out; have := Y_u5.out; have := Y_u6.out; have := ZA3.out; have := Y_u7.out; have := Y_u8.out; have := Y_W8_1.out; (try simp only at hS); omega)
  replace K3_1 := hc.keep K3_1 (fun hS => by have := ZB.out; have := Y_u1.out; have := Y_u2.out; have := ZA1.out; have := Y_u3.out; have := Y_u4.out; have := ZA2.out; have := Y_u5.out; have := Y_u6.out; have := ZA3.out; have := Y_u7.out; have := Y_u8.out; have := Y_W8_1.out; (try simp only at hS); omega)
  replace K3_2 := hc.keep K3_2 (fun hS => by have := ZB.out; have := Y_u1.out; have := Y_u2.out; have := ZA1.out; have := Y_u3.out; have := Y_u4.out; have := ZA2.out; have := Y_u5.out; have := Y_u6.out; have := ZA3.out; have := Y_u7.out; have := Y_u8.out; have := Y_W8_1.out; (try simp only at hS); omega)
  replace F_w0 := Lib.hid (F_w0.out.chg hc (fun g h1 h2 => by have := ZB.out; have := Y_u1.out; have := Y_u2.out; have := ZA1.out; have := Y_u3.out; have := Y_u4.out; have := ZA2.out; have := Y_u5.out; have := Y_u6.out; have := ZA3.out; have := Y_u7.out; have := Y_u8.out; have := Y_W8_1.out; (try simp only at h1 h2); omega))
  replace F_g0 := Lib.hid (F_g0.out.chg hc (fun g h1 h2 => by have := ZB.out; have := Y_u1.out; have := Y_u2.out; have := ZA1.out; have := Y_u3.out; have := Y_u4.out; have := ZA2.out; have := Y_u5.out; have := Y_u6.out; have := ZA3.out; have := Y_u7.out; have := Y_u8.out; have := Y_W8_1.out; (try simp only at h1 h2); omega))
  replace F_x0 := Lib.hid ho
  have Y_u9 := Lib.hid hc.size
  replace Bc := Lib.hid (Bc.out.trans (hc.below (by have := ZB.out; have := Y_u1.out; have := Y_u2.out; have := ZA1.out; have := Y_u3.out; have := Y_u4.out; have := ZA2.out; have := Y_u5.out; have := Y_u6.out; have := ZA3.out; have := Y_u7.out; have := Y_u8.out; have := Y_W8_1.out; have := Y_u9.out; omega) (fun g h1 => by have := ZB.out; have := Y_u1.out; have := Y_u2.out; have := ZA1.out; have := Y_u3.out; have := Y_u4.out; have := ZA2.out; have := Y_u5.out; have := Y_u6.out; have := ZA3.out; have := Y_u7.out; have := Y_u8.out; have := Y_W8_1.out; have := Y_u9.out; (try simp only at h1); omega)))
  clear ho hc
  go_wp2_with fail
  refine (eqRelation_same dx dy (.slice s_g0 R.length e_g0) (.slice s_w0 R.length e_w0) R u9 F_g0.out.reads F_w0.out.reads).mono ?_
  rintro e u10 ⟨rfl, hb⟩
  replace K0_0 := cell_old hb K0_0
  replace K0_1 := cell_old hb K0_1
  replace K1_0 := cell_old hb K1_0
  replace K1_1 := cell_old hb K1_1
  replace K1_2 := cell_old hb K1_2
  replace K2_0 := cell_old hb K2_0
  replace K2_1 := cell_old hb K2_1
  replace K3_0 := cell_old hb K3_0
  replace K3_1 := cell_old hb K3_1
  replace K3_2 := cell_old hb K3_2
  replace F_w0 := Lib.hid (F_w0.out.below hb)
  replace F_x0 := Lib.hid (F_x0.out.below hb)
  replace F_g0 := Lib.hid (F_g0.out.below hb)
  have Y_u10 := Lib.hid hb.size
  replace Bc := Lib.hid (Bc.out.trans (hb.mono Bc.out.size))
  clear hb
  clear F_x0
  go_wp2_with fail
  refine (markRelation_any (fun g => u5.heap.size ≤ g ∧ g < u6.heap.size) dx dy (.slice s_g0 R.length e_g0) R 1 (by omega) CTR.out u10 F_g0.out).mono ?_
  rintro e u11 ⟨rfl, ho, hc⟩
  replace K0_0 := hc.keep K0_0 (fun hS => by have := ZB.out; have := Y_u1.out; have := Y_u2.out; have := ZA1.out; have := Y_u3.out; have := Y_u4.out; have := ZA2.out; have := Y_u5.out; have := Y_u6.out; have := ZA3.out; have := Y_u7.out; have := Y_u8.out; have := Y_W8_1.out; have := Y_u9.out; have := Y_u10.out; (try simp only at hS); omega)
  replace K0_1 := hc.keep K0_1 (fun hS => by have := ZB.out; have := Y_u1.out; have := Y_u2.out; have := ZA1.out; have := Y_u3.out; have := Y_u4.out; have := ZA2.out; have := Y_u5.out; have := Y_u6.out; have := ZA3.out; have := Y_u7.out; have := Y_u8.out; have := Y_W8_1.out; have := Y_u9.out; have := Y_u10.out; (try simp only at hS); omega)
  replace K1_0 := hc.keep K1_0 (fun hS => by have := ZB.out; have := Y_u1.out; have := Y_u2.out; have := ZA1.out; have := Y_u3.out; have := Y_u4.out; have := ZA2.out; have := Y_u5.out; have := Y_u6.out; have := ZA3.out; have := Y_u7.out; have := Y_u8.out; have := Y_W8_1.out; have := Y_u9.out; have := Y_u10.out; (try simp only at hS); omega)
  replace K1_1 := hc.keep K1_1 (fun hS => by have := ZB.out; have := Y_u1.out; have := Y_u2.out; have := ZA1.out; have := Y_u3.out; have := Y_u4.out; have := ZA2.out; have := Y_u5.out; have := Y_u6.out; have := ZA3.out; have := Y_u7.out; have := Y_u8.out; have := Y_W8_1.out; have := Y_u9.out; have := Y_u10.out; (try simp only at hS); omega)
  replace K1_2 := hc.keep K1_2 (fun hS => by have := ZB.out; have := Y_u1.out; have := Y_u2.out; have := ZA1.out; have := Y_u3.out; have := Y_u4.out; have := ZA2.out; have := Y_u5.out; have := Y_u6.out; have := ZA3.out; have := Y_u7.out; have := Y_u8.out; have := Y_W8_1.out; have := Y_u9.out; have := Y_u10.out; (try simp only at hS); omega)
  replace K2_0 := hc.keep K2_0 (fun hS => by have := ZB.out; have := Y_u1.out; have := Y_u2.out; have := ZA1.out; have := Y_u3.out; have := Y_u4.out; have := ZA2.out; have := Y_u5.out; have := Y_u6.out; have := ZA3.out; have := Y_u7.out; have := Y_u8.out; have := Y_W8_1.out; have := Y_u9.out; have := Y_u10.out; (try simp only at hS); omega)
  replace K2_1 := hc.keep K2_1 (fun hS => by have := ZB.out; have := Y_u1.out; have := Y_u2.out; have := ZA1.out; have := Y_u3.out; have := Y_u4.out; have := ZA2.out; have := Y_u5.out; have := Y_u6.out; have := ZA3.out; have := Y_u7.out; have := Y_u8.out; have := Y_W8_1.out; have := Y_u9.out; have := Y_u10.out; (try simp only at hS); omega)
  replace K3_0 := hc.keep K3_0 (fun hS => by have := ZB.out; have := Y_u1.out; have := Y_u2.out; have := ZA1.out; have := Y_u3.out; have := Y_u4.out; have := ZA2.out; have := Y_u5.out; have := Y_u6.out; have := ZA3.out; have := Y_u7.out; have := Y_u8.out; have := Y_W8_1.out; have := Y_u9.out; have := Y_u10.out; (try simp only at hS); omega)
  replace K3_1 := hc.keep K3_1 (fun hS => by have := ZB.out; have := Y_u1.out; have := Y_u2.out; have := ZA1.out; have := Y_u3.out; have := Y_u4.out; have := ZA2.out; have := Y_u5.out; have := Y_u6.out; have := ZA3.out; have := Y_u7.out; have := Y_u8.out; have := Y_W8_1.out; have := Y_u9.out; have := Y_u10.out; (try simp only at hS); omega)
  replace K3_2 := hc.keep K3_2 (fun hS => by have := ZB.out; have := Y_u1.out; have := Y_u2.out; have := ZA1.out; have := Y_u3.out; have := Y_u4.out; have := ZA2.out; have := Y_u5.out; have := Y_u6.out; have := ZA3.out; have := Y_u7.out; have := Y_u8.out; have := Y_W8_1.out; have := Y_u9.out; have := Y_u10.out; (try simp only at hS); omega)
  replace F_w0 := Lib.hid (F_w0.out.chg hc (fun g h1 h2 => by have := ZB.out; have := Y_u1.out; have := Y_u2.out; have := ZA1.out; have := Y_u3.out; have := Y_u4.out; have := ZA2.out; have := Y_u5.out; have := Y_u6.out; have := ZA3.out; have := Y_u7.out; have := Y_u8.out; have := Y_W8_1.out; have := Y_u9.out; have := Y_u10.out; (try simp only at h1 h2); omega))
  replace F_g0 := Lib.hid ho
  have Y_u11 := Lib.hid hc.size
  replace Bc := Lib.hid (Bc.out.trans (hc.below (by have := ZB.out; have := Y_u1.out; have := Y_u2.out; have := ZA1.out; have := Y_u3.out; have := Y_u4.out; have := ZA2.out; have := Y_u5.out; have := Y_u6.out; have := ZA3.out; have := Y_u7.out; have := Y_u8.out; have := Y_W8_1.out; have := Y_u9.out; have := Y_u10.out; have := Y_u11.out; omega) (fun g h1 => by have := ZB.out; have := Y_u1.out; have := Y_u2.out; have := ZA1.out; have := Y_u3.out; have := Y_u4.out; have := ZA2.out; have := Y_u5.out; have := Y_u6.out; have := ZA3.out; have := Y_u7.out; have := Y_u8.out; have := Y_W8_1.out; have := Y_u9.out; have := Y_u10.out; have := Y_u11.out; (try simp only at h1); omega)))
  clear ho hc
  go_wp2_with fail
  refine (heldRelation_any dx dy (.slice s_g0 R.length e_g0) R 1 (by omega) CTR.out u11 F_g0.out.reads).mono ?_
  rintro e u12 ⟨rfl, hb⟩
  replace K0_0 := cell_old hb K0_0
  replace K0_1 := cell_old hb K0_1
  replace K1_0 := cell_old hb K1_0
  replace K1_1 := cell_old hb K1_1
  replace K1_2 := cell_old hb K1_2
  replace K2_0 := cell_old hb K2_0
  replace K2_1 := cell_old hb K2_1
  replace K3_0 := cell_old hb K3_0
  replace K3_1 := cell_old hb K3_1
  replace K3_2 := cell_old hb K3_2
  replace F_w0 := Lib.hid (F_w0.out.below hb)
  replace F_g0 := Lib.hid (F_g0.out.below hb)
  have Y_u12 := Lib.hid hb.size
  replace Bc := Lib.hid (Bc.out.trans (hb.mono Bc.out.size))
  clear hb
  go_wp2_with fail
  refine (toMatrix_any c1x (.slice s1 L1.length e1) L1 u12 (H1.out.below Bc.out) T1.out).mono ?_
  rintro e u13 ⟨v_y0, rfl, ho, hb⟩
  obtain ⟨s_y0, e_y0, rfl⟩ := ho.reads.form
  have F_y0 := Lib.hid ho.bound
  clear ho
  replace K0_0 := cell_old hb K0_0
  replace K0_1 := cell_old hb K0_1
  replace K1_0 := cell_old hb K1_0
  replace K1_1 := cell_old hb K1_1
  replace K1_2 := cell_old hb K1_2
  replace K2_0 := cell_old hb K2_0
  replace K2_1 := cell_old hb K2_1
  replace K3_0 := cell_old hb K3_0
  replace K3_1 := cell_old hb K3_1
  replace K3_2 := cell_old hb K3_2
  replace F_w0 := Lib.hid (F_w0.out.below hb)
  replace F_g0 := Lib.hid (F_g0.out.below hb)
  have Y_u13 := Lib.hid hb.size
  replace Bc := Lib.hid (Bc.out.trans (hb.mono Bc.out.size))
  clear hb
  go_wp2_with fail
  refine (hi.out u13 (.slice s_y0 L1.length e_y0) (HT.out.below HT.out.size Bc.out) F_y0.out.reads).mono ?_
  rintro e u14 ⟨v_h0, rfl, ho, hb⟩
  obtain ⟨s_h0, e_h0, rfl⟩ := ho.reads.form
  have F_h0 := Lib.hid ho.bound
  clear ho
  replace K0_0 := cell_old hb K0_0
  replace K0_1 := cell_old hb K0_1
  replace K1_0 := cell_old hb K1_0
  replace K1_1 := cell_old hb K1_1
  replace K1_2 := cell_old hb K1_2
  replace K2_0 := cell_old hb K2_0
  replace K2_1 := cell_old hb K2_1
  replace K3_0 := cell_old hb K3_0
  replace K3_1 := cell_old hb K3_1
  replace K3_2 := cell_old hb K3_2
  replace F_w0 := Lib.hid (F_w0.out.below hb)
  replace F_g0 := Lib.hid (F_g0.out.below hb)
  replace F_y0 := Lib.hid (F_y0.out.below hb)
  have Y_u14 := Lib.hid hb.size
  replace Bc := Lib.hid (Bc.out.trans (hb.mono Bc.out.size))
  clear hb
  clear F_y0
  obtain ⟨u15, hu15⟩ : ∃ W, W = u14.alloc (.cells #[.int .i64 dx, .int .i64 dy, (.slice s_h0 R.length e_h0)] 27) := ⟨_, rfl⟩
  have hb : Below u14.heap.size u14 u15 := by rw [hu15]; exact (Below.refl _ _).alloc (Nat.le_refl _) _
  have ZA4 := Lib.hid (show u14.heap.size + 1 ≤ u15.heap.size by rw [hu15]; simp)
  replace K0_0 := cell_old hb K0_0
  replace K0_1 := cell_old hb K0_1
  replace K1_0 := cell_old hb K1_0
  replace K1_1 := cell_old hb K1_1
  replace K1_2 := cell_old hb K1_2
  replace K2_0 := cell_old hb K2_0
  replace K2_1 := cell_old hb K2_1
  replace K3_0 := cell_old hb K3_0
  replace K3_1 := cell_old hb K3_1
  replace K3_2 := cell_old hb K3_2
  replace F_w0 := Lib.hid (F_w0.out.below hb)
  replace F_g0 := Lib.hid (F_g0.out.below hb)
  replace F_h0 := Lib.hid (F_h0.out.below hb)
  have Y_u15 := Lib.hid hb.size
  replace Bc := Lib.hid (Bc.out.trans (hb.mono Bc.out.size))
  clear hb
  have K4_0 : u15.cell? ⟨u14.heap.size, 0, none⟩ = some (.int .i64 dx) := by rw [hu15]; simp [go_sem]
  have K4_1 : u15.cell? ⟨u14.heap.size, 1, none⟩ = some (.int .i64 dy) := by rw [hu15]; simp [go_sem]
  have K4_2 : u15.cell? ⟨u14.heap.size, 2, none⟩ = some ((.slice s_h0 R.length e_h0)) := by rw [hu15]; simp [go_sem]
  have HA4 := Lib.hid hu15
  clear hu15
  rw [HA4.out] at K0_0 K0_1 K1_0 K1_1 K1_2 K2_0 K2_1 K3_0 K3_1 K3_2 K4_0 K4_1 K4_2
  go_wp2_with fail
  rw [← HA4.out]
  rw [← HA4.out] at K0_0 K0_1 K1_0 K1_1 K1_2 K2_0 K2_1 K3_0 K3_1 K3_2 K4_0 K4_1 K4_2
  refine (eqRelation_same dx dy (.slice s_h0 R.length e_h0) (.slice s_w0 R.length e_w0) R u15 F_h0.out.reads F_w0.out.reads).mono ?_
  rintro e u16 ⟨rfl, hb⟩
  replace K0_0 := cell_old hb K0_0
  replace K0_1 := cell_old hb K0_1
  replace K1_0 := cell_old hb K1_0
  replace K1_1 := cell_old hb K1_1
  replace K1_2 := cell_old hb K1_2
  replace K2_0 := cell_old hb K2_0
  replace K2_1 := cell_old hb K2_1
  replace K3_0 := cell_old hb K3_0
  replace K3_1 := cell_old hb K3_1
  replace K3_2 := cell_old hb K3_2
  replace K4_0 := cell_old hb K4_0
  replace K4_1 := cell_old hb K4_1
  replace K4_2 := cell_old hb K4_2
  replace F_w0 := Lib.hid (F_w0.out.below hb)
  replace F_g0 := Lib.hid (F_g0.out.below hb)
  replace F_h0 := Lib.hid (F_h0.out.below hb)
  have Y_u16 := Lib.hid hb.size
  replace Bc := Lib.hid (Bc.out.trans (hb.mono Bc.out.size))
  clear hb
  go_wp2_with fail
  refine (heldRelation_any dx dy (.slice s_g0 R.length e_g0) R 1 (by omega) CTR.out u16 F_g0.out.reads).mono ?_
  rintro e u17 ⟨rfl, hb⟩
  replace K0_0 := cell_old hb K0_0
  replace K0_1 := cell_old hb K0_1
  replace K1_0 := cell_old hb K1_0
  replace K1_1 := cell_old hb K1_1
  replace K1_2 := cell_old hb K1_2
  replace K2_0 := cell_old hb K2_0
  replace K2_1 := cell_old hb K2_1
  replace K3_0 := cell_old hb K3_0
  replace K3_1 := cell_old hb K3_1
  replace K3_2 := cell_old hb K3_2
  replace K4_0 := cell_old hb K4_0
  replace K4_1 := cell_old hb K4_1
  replace K4_2 := cell_old hb K4_2
  replace F_w0 := Lib.hid (F_w0.out.below hb)
  replace F_g0 := Lib.hid (F_g0.out.below hb)
  replace F_h0 := Lib.hid (F_h0.out.below hb)
  have Y_u17 := Lib.hid hb.size
  replace Bc := Lib.hid (Bc.out.trans (hb.mono Bc.out.size))
  clear hb
  go_wp2
  go_ret
  exact ⟨rfl, Bc.out⟩
end Go.Proofs.YtimjlcnljefbbaaDoor.fnExactMatrixRelation
