/- The law FnExactSeparatorOf: both functions return the same, each in memory of its own, and what they are handed stays as it was. -/
import Derived.Test.YtimjlcnljefbbaaDoorLawBase
import Derived.Test.YtimjlcnljefbbaaDoorLawSS
import Derived.Test.YtimjlcnljefbbaaDoorLawS
import Derived.Test.YtimjlcnljefbbaaDoorSepF
import Derived.Test.YtimjlcnljefbbaaDoorSpc
import Derived.Deep.RegionHeld3
import Derived.Deep.DeepCutAuto
namespace Go.Proofs.YtimjlcnljefbbaaDoor.fnExactSeparatorOf
open Go.RowKit Ints

set_option maxHeartbeats 8000000 in
set_option maxRecDepth 100000 in
theorem walk (a0 : Int) (_w0 : (Lit.int .i64 a0).wf = true) (c1x : Int) (v1 : Value) (L1 : List (List Int)) (v2 : Value) (L2 : List Int) (w : World) (ht : Tab w) (h1 : ReadsM w v1 L1) (h2 : ReadsI w v2 L2) :
    Calls Tryd.prog 6 #[.int .i64 a0, .agg #[.int .i64 c1x, v1], v2] w fun e w' => e = .returned (.bool true) ∧ Below w.heap.size w w' := by
  obtain ⟨s1, e1, rfl⟩ := h1.form
  obtain ⟨s2, e2, rfl⟩ := h2.form
  have B := Lib.hid ((Below.refl w.heap.size w).alloc (Nat.le_refl _) (.cells #[.int .i64 c1x, (.slice s1 L1.length e1)] 40))
  have H1 := Lib.hid h1
  have H2 := Lib.hid h2
  have HT := Lib.hid ht
  clear h1 h2 ht
  rcases Nat.lt_or_ge 1048576 L2.length with hlen2 | hlen2
  · have hl2 : decide ((1048576 : Int) < (L2.length : Int)) = true := by simp; omega
    go_enter Tryd.func6, Tryd.ntmps6
    go_wp2
    go_ret
    exact ⟨rfl, B.out⟩
  have hl2 : decide ((1048576 : Int) < (L2.length : Int)) = false := by simp; omega
  have T2 := Lib.hid (show totI L2 ≤ 1048576 from hlen2)
  clear hlen2
  rcases szN_cases (tot L1) 1048576 with hneg | ⟨hle, hpos⟩
  · have szc0 := Lib.hid (fun W hW => szSpace_any c1x (.slice s1 L1.length e1) L1 1048576 (by omega) (by omega) W hW)
    rw [hneg] at szc0
    clear hneg
    go_enter Tryd.func6, Tryd.ntmps6
    go_wp2_with fail
    refine (szc0.out _ (H1.out.below B.out)).mono ?_
    rintro e z1 ⟨rfl, hb⟩
    have K0_0 : z1.cell? ⟨w.heap.size, 0, none⟩ = some (.int .i64 c1x) := cell_old hb (by simp [go_sem])
    have K0_1 : z1.cell? ⟨w.heap.size, 1, none⟩ = some ((.slice s1 L1.length e1)) := cell_old hb (by simp [go_sem])
    have BZ1 := Lib.hid (B.out.trans (hb.mono B.out.size))
    have ZB := Lib.hid (show w.heap.size + 1 ≤ z1.heap.size by have := hb.size; simp at this; omega)
    clear hb
    go_wp2
    go_ret
    exact ⟨rfl, BZ1.out⟩
  have szc0 := Lib.hid (fun W hW => szSpace_any c1x (.slice s1 L1.length e1) L1 1048576 (by omega) (by omega) W hW)
  obtain ⟨r0, hr0⟩ : ∃ r, szN (tot L1) 1048576 = r := ⟨_, rfl⟩
  rw [hr0] at szc0 hpos
  have r00 : 0 ≤ r0 := by omega
  have r01 : r0 ≤ 1048576 := by omega
  have r0b : decide (r0 < 0) = false := by simp; omega
  have T1 := Lib.hid (show tot L1 ≤ 1048576 by omega)
  clear hpos hr0 hle
  obtain ⟨b0, hb0⟩ : ∃ b, sepB a0 c1x L1 L2 = b := ⟨_, rfl⟩
  obtain ⟨R, hR⟩ : ∃ R, sepOut a0 c1x L1 L2 = R := ⟨_, rfl⟩
  have CTR := Lib.hid (sepOut_ctr a0 c1x L1 L2)
  have hs := Lib.hid (fun W v v' h h' => specSep_any a0 c1x v v' L1 L2 W h h')
  have hi := Lib.hid (fun W v v' t h h' => implSep_any a0 c1x v v' L1 L2 W t h h')
  rw [hb0, hR] at hs hi
  rw [hR] at CTR
  clear hb0 hR
  have hq0 : (b0 != b0) = false := by simp
  go_enter Tryd.func6, Tryd.ntmps6
  go_wp2_with fail
  refine (szc0.out _ (H1.out.below B.out)).mono ?_
  rintro e z1 ⟨rfl, hb⟩
  have K0_0 : z1.cell? ⟨w.heap.size, 0, none⟩ = some (.int .i64 c1x) := cell_old hb (by simp [go_sem])
  have K0_1 : z1.cell? ⟨w.heap.size, 1, none⟩ = some ((.slice s1 L1.length e1)) := cell_old hb (by simp [go_sem])
  have BZ1 := Lib.hid (B.out.trans (hb.mono B.out.size))
  have ZB := Lib.hid (show w.heap.size + 1 ≤ z1.heap.size by have := hb.size; simp at this; omega)
  clear hb
  have Bc := Lib.hid BZ1.out
  clear B BZ1 szc0
  have nR0 : decide ((1 : Int) + (sumI R : Int) < 0) = false := by simp; omega
  have nR1 : ((1 : Int) + (sumI R : Int) != (1 : Int) + (sumI R : Int)) = false := by simp
  have CTL1 := Lib.hid (show (1 : Int) + (sumL L1 : Int) ≤ 1000000000 by have := T1.out; unfold tot at this; unfold sumL; omega)
  have nL10 : decide ((1 : Int) + (sumL L1 : Int) < 0) = false := by simp; omega
  have nL11 : ((1 : Int) + (sumL L1 : Int) != (1 : Int) + (sumL L1 : Int)) = false := by simp
  have CTL2 := Lib.hid (show (1 : Int) + (sumI L2 : Int) ≤ 1000000000 by have := T2.out; unfold totI at this; unfold sumI; omega)
  have nL20 : decide ((1 : Int) + (sumI L2 : Int) < 0) = false := by simp; omega
  have nL21 : ((1 : Int) + (sumI L2 : Int) != (1 : Int) + (sumI L2 : Int)) = false := by simp
  have ZQ := Lib.hid (show (1 : Int) + (sumL L1 : Int) + (sumI L2 : Int) ≤ 1000000000 by have q1 := T1.out; unfold tot at q1; have q2 := T2.out; unfold totI at q2; (try unfold sumL); (try unfold sumI); omega)
  have ZN : decide ((1 : Int) + (sumL L1 : Int) + (sumI L2 : Int) < 0) = false := by simp; omega
  go_wp2_with fail
  refine (toSpace_any c1x (.slice s1 L1.length e1) L1 z1 (H1.out.below Bc.out) T1.out).mono ?_
  rintro e u1 ⟨v_t0, rfl, ho, hb⟩
  obtain ⟨s_t0, e_t0, rfl⟩ := ho.reads.form
  have F_t0 := Lib.hid ho.bound
  clear ho
  replace K0_0 := cell_old hb K0_0
  replace K0_1 := cell_old hb K0_1
  have Y_u1 := Lib.hid hb.size
  replace Bc := Lib.hid (Bc.out.trans (hb.mono Bc.out.size))
  clear hb
  go_wp2_with fail
  refine (toIntS_b  (.slice s2 L2.length e2) L2 u1 (H2.out.below Bc.out) T2.out).mono ?_
  rintro e u2 ⟨v_t1, rfl, ho, hb⟩
  obtain ⟨s_t1, e_t1, rfl⟩ := ho.reads.form
  have F_t1 := Lib.hid ho.bound
  clear ho
  replace K0_0 := cell_old hb K0_0
  replace K0_1 := cell_old hb K0_1
  replace F_t0 := Lib.hid (F_t0.out.below hb)
  have Y_u2 := Lib.hid hb.size
  replace Bc := Lib.hid (Bc.out.trans (hb.mono Bc.out.size))
  clear hb
  go_wp2_with fail
  refine (hs.out u2 (.slice s_t0 L1.length e_t0) (.slice s_t1 L2.length e_t1) F_t0.out.reads F_t1.out.reads).mono ?_
  rintro e u3 ⟨v_w0, rfl, ho, hb⟩
  obtain ⟨s_w0, e_w0, rfl⟩ := ho.reads.form
  have F_w0 := Lib.hid ho.bound
  clear ho
  replace K0_0 := cell_old hb K0_0
  replace K0_1 := cell_old hb K0_1
  replace F_t0 := Lib.hid (F_t0.out.below hb)
  replace F_t1 := Lib.hid (F_t1.out.below hb)
  have Y_u3 := Lib.hid hb.size
  replace Bc := Lib.hid (Bc.out.trans (hb.mono Bc.out.size))
  clear hb
  clear F_t0
  clear F_t1
  go_wp2_with fail
  refine (toSpace_any c1x (.slice s1 L1.length e1) L1 u3 (H1.out.below Bc.out) T1.out).mono ?_
  rintro e u4 ⟨v_x0, rfl, ho, hb⟩
  obtain ⟨s_x0, e_x0, rfl⟩ := ho.reads.form
  have F_x0 := Lib.hid ho.bound
  clear ho
  replace K0_0 := cell_old hb K0_0
  replace K0_1 := cell_old hb K0_1
  replace F_w0 := Lib.hid (F_w0.out.below hb)
  have Y_u4 := Lib.hid hb.size
  replace Bc := Lib.hid (Bc.out.trans (hb.mono Bc.out.size))
  clear hb
  obtain ⟨u5, hu5⟩ : ∃ W, W = u4.alloc (.cells #[.int .i64 c1x, (.slice s_x0 L1.length e_x0)] 43) := ⟨_, rfl⟩
  have hb : Below u4.heap.size u4 u5 := by rw [hu5]; exact (Below.refl _ _).alloc (Nat.le_refl _) _
  have ZA1 := Lib.hid (show u4.heap.size + 1 ≤ u5.heap.size by rw [hu5]; simp)
  replace K0_0 := cell_old hb K0_0
  replace K0_1 := cell_old hb K0_1
  replace F_w0 := Lib.hid (F_w0.out.below hb)
  replace F_x0 := Lib.hid (F_x0.out.below hb)
  have Y_u5 := Lib.hid hb.size
  replace Bc := Lib.hid (Bc.out.trans (hb.mono Bc.out.size))
  clear hb
  have K1_0 : u5.cell? ⟨u4.heap.size, 0, none⟩ = some (.int .i64 c1x) := by rw [hu5]; simp [go_sem]
  have K1_1 : u5.cell? ⟨u4.heap.size, 1, none⟩ = some ((.slice s_x0 L1.length e_x0)) := by rw [hu5]; simp [go_sem]
  have HA1 := Lib.hid hu5
  clear hu5
  rw [HA1.out] at K0_0 K0_1 K1_0 K1_1
  go_wp2_with fail
  rw [← HA1.out]
  rw [← HA1.out] at K0_0 K0_1 K1_0 K1_1
  refine (toIntS_b  (.slice s2 L2.length e2) L2 u5 (H2.out.below Bc.out) T2.out).mono ?_
  rintro e u6 ⟨v_x1, rfl, ho, hb⟩
  obtain ⟨s_x1, e_x1, rfl⟩ := ho.reads.form
  have F_x1 := Lib.hid ho.bound
  clear ho
  replace K0_0 := cell_old hb K0_0
  replace K0_1 := cell_old hb K0_1
  replace K1_0 := cell_old hb K1_0
  replace K1_1 := cell_old hb K1_1
  replace F_w0 := Lib.hid (F_w0.out.below hb)
  replace F_x0 := Lib.hid (F_x0.out.below hb)
  have Y_u6 := Lib.hid hb.size
  replace Bc := Lib.hid (Bc.out.trans (hb.mono Bc.out.size))
  clear hb
  go_wp2_with fail
  refine (hi.out u6 (.slice s_x0 L1.length e_x0) (.slice s_x1 L2.length e_x1) (HT.out.below HT.out.size Bc.out) F_x0.out.reads F_x1.out.reads).mono ?_
  rintro e u7 ⟨v_g0, rfl, ho, hb⟩
  obtain ⟨s_g0, e_g0, rfl⟩ := ho.reads.form
  have F_g0 := Lib.hid ho.bound
  clear ho
  replace K0_0 := cell_old hb K0_0
  replace K0_1 := cell_old hb K0_1
  replace K1_0 := cell_old hb K1_0
  replace K1_1 := cell_old hb K1_1
  replace F_w0 := Lib.hid (F_w0.out.below hb)
  replace F_x0 := Lib.hid (F_x0.out.below hb)
  replace F_x1 := Lib.hid (F_x1.out.below hb)
  have Y_u7 := Lib.hid hb.size
  replace Bc := Lib.hid (Bc.out.trans (hb.mono Bc.out.size))
  clear hb
  go_wp2_with fail
  refine (eqIntS_same  (.slice s_g0 R.length e_g0) (.slice s_w0 R.length e_w0) R u7 F_g0.out.reads F_w0.out.reads).mono ?_
  rintro e u8 ⟨rfl, hb⟩
  replace K0_0 := cell_old hb K0_0
  replace K0_1 := cell_old hb K0_1
  replace K1_0 := cell_old hb K1_0
  replace K1_1 := cell_old hb K1_1
  replace F_w0 := Lib.hid (F_w0.out.below hb)
  replace F_x0 := Lib.hid (F_x0.out.below hb)
  replace F_x1 := Lib.hid (F_x1.out.below hb)
  replace F_g0 := Lib.hid (F_g0.out.below hb)
  have Y_u8 := Lib.hid hb.size
  replace Bc := Lib.hid (Bc.out.trans (hb.mono Bc.out.size))
  clear hb
  go_wp2_with fail
  have M1_0 : ∀ W, Below u8.heap.size u8 W → W.cell? ⟨u4.heap.size, 0, none⟩ = some (.int .i64 c1x) := fun W hW => cell_old hW K1_0
  have M1_1 : ∀ W, Below u8.heap.size u8 W → W.cell? ⟨u4.heap.size, 1, none⟩ = some ((.slice s_x0 L1.length e_x0)) := fun W hW => cell_old hW K1_1
  have M0_0 : ∀ W, Below u8.heap.size u8 W → W.cell? ⟨w.heap.size, 0, none⟩ = some (.int .i64 c1x) := fun W hW => cell_old hW K0_0
  have M0_1 : ∀ W, Below u8.heap.size u8 W → W.cell? ⟨w.heap.size, 1, none⟩ = some ((.slice s1 L1.length e1)) := fun W hW => cell_old hW K0_1
  have HIK0_0 := Lib.hid K0_0
  have HIK0_1 := Lib.hid K0_1
  have HIK1_0 := Lib.hid K1_0
  have HIK1_1 := Lib.hid K1_1
  clear K0_0 K0_1 K1_0 K1_1
  have MX : Hid (∀ W, Below u8.heap.size u8 W → ReadsM W (.slice s_x0 L1.length e_x0) L1) := fun W hW => F_x0.out.reads.below hW
  have MA : Hid (∀ W, Below u8.heap.size u8 W → ReadsM W (.slice s1 L1.length e1) L1) := fun W hW => H1.out.below (Bc.out.trans (hW.mono Bc.out.size))
  go_region_held3 (fun W => Below u8.heap.size u8 W)
    (first | exact (Below.refl _ _).drew | exact below_step (by assumption) hb7_1 | exact below_step (by assumption) hb8_1)
    (first | (go_at_call 22; refine (toSpace_any c1x (.slice s1 L1.length e1) L1 _ (MA.out _ (by assumption)) T1.out).mono ?_; rintro e W7_1 ⟨v7, rfl, ho7, hb7_1⟩) | (go_at_call 25; refine (eqSpace_same c1x (.slice s_x0 L1.length e_x0) _ L1 _ (MX.out _ (by assumption)) ho7.reads).mono ?_; rintro e W8_1 ⟨rfl, hb8_1⟩))
  have hb : Below u8.heap.size u8 W8_1 := by assumption
  clear M1_0 M1_1 M0_0 M0_1 MX MA
  have K0_0 := HIK0_0.out
  have K0_1 := HIK0_1.out
  have K1_0 := HIK1_0.out
  have K1_1 := HIK1_1.out
  clear HIK0_0 HIK0_1 HIK1_0 HIK1_1
  replace K0_0 := cell_old hb K0_0
  replace K0_1 := cell_old hb K0_1
  replace K1_0 := cell_old hb K1_0
  replace K1_1 := cell_old hb K1_1
  replace F_w0 := Lib.hid (F_w0.out.below hb)
  replace F_x0 := Lib.hid (F_x0.out.below hb)
  replace F_x1 := Lib.hid (F_x1.out.below hb)
  replace F_g0 := Lib.hid (F_g0.out.below hb)
  have Y_W8_1 := Lib.hid hb.size
  replace Bc := Lib.hid (Bc.out.trans (hb.mono Bc.out.size))
  clear hb
  go_wp2_with fail
  refine (toIntS_b  (.slice s2 L2.length e2) L2 W8_1 (H2.out.below Bc.out) T2.out).mono ?_
  rintro e u9 ⟨v_c2, rfl, ho, hb⟩
  obtain ⟨s_c2, e_c2, rfl⟩ := ho.reads.form
  have F_c2 := Lib.hid ho.bound
  clear ho
  replace K0_0 := cell_old hb K0_0
  replace K0_1 := cell_old hb K0_1
  replace K1_0 := cell_old hb K1_0
  replace K1_1 := cell_old hb K1_1
  replace F_w0 := Lib.hid (F_w0.out.below hb)
  replace F_x0 := Lib.hid (F_x0.out.below hb)
  replace F_x1 := Lib.hid (F_x1.out.below hb)
  replace F_g0 := Lib.hid (F_g0.out.below hb)
  have Y_u9 := Lib.hid hb.size
  replace Bc := Lib.hid (Bc.out.trans (hb.mono Bc.out.size))
  clear hb
  go_wp2_with fail
  refine (eqIntS_same  (.slice s_x1 L2.length e_x1) (.slice s_c2 L2.length e_c2) L2 u9 F_x1.out.reads F_c2.out.reads).mono ?_
  rintro e u10 ⟨rfl, hb⟩
  replace K0_0 := cell_old hb K0_0
  replace K0_1 := cell_old hb K0_1
  replace K1_0 := cell_old hb K1_0
  replace K1_1 := cell_old hb K1_1
  replace F_w0 := Lib.hid (F_w0.out.below hb)
  replace F_x0 := Lib.hid (F_x0.out.below hb)
  replace F_x1 := Lib.hid (F_x1.out.below hb)
  replace F_g0 := Lib.hid (F_g0.out.below hb)
  replace F_c2 := Lib.hid (F_c2.out.below hb)
  have Y_u10 := Lib.hid hb.size
  replace Bc := Lib.hid (Bc.out.trans (hb.mono Bc.out.size))
  clear hb
  clear F_c2
  go_wp2_with fail
  refine (markSpace_any (fun g => u3.heap.size ≤ g ∧ g < u4.heap.size) c1x (.slice s_x0 L1.length e_x0) L1 1 (by omega) CTL1.out u10 F_x0.out).mono ?_
  rintro e u11 ⟨rfl, ho, hc⟩
  replace K0_0 := hc.keep K0_0 (fun hS => by have := ZB.out; have := Y_u1.out; have := Y_u2.out; have := Y_u3.out; have := Y_u4.out; have := ZA1.out; have := Y_u5.out; have := Y_u6.out; have := Y_u7.out; have := Y_u8.out; have := Y_W8_1.out; have := Y_u9.out; have := Y_u10.out; (try simp only at hS); omega)
  replace K0_1 := hc.keep K0_1 (fun hS => by have := ZB.out; have := Y_u1.out; have := Y_u2.out; have := Y_u3.out; have := Y_u4.out; have := ZA1.out; have := Y_u5.out; have := Y_u6.out; have := Y_u7.out; have := Y_u8.out; have := Y_W8_1.out; have := Y_u9.out; have := Y_u10.out; (try simp only at hS); omega)
  replace K1_0 := hc.keep K1_0 (fun hS => by have := ZB.out; have := Y_u1.out; have := Y_u2.out; have := Y_u3.out; have := Y_u4.out; have := ZA1.out; have := Y_u5.out; have := Y_u6.out; have := Y_u7.out; have := Y_u8.out; have := Y_W8_1.out; have := Y_u9.out; have := Y_u10.out; (try simp only at hS); omega)
  replace K1_1 := hc.keep K1_1 (fun hS => by have := ZB.out; have := Y_u1.out; have := Y_u2.out; have := Y_u3.out; have := Y_u4.out; have := ZA1.out; have := Y_u5.out; have := Y_u6.out; have := Y_u7.out; have := Y_u8.out; have := Y_W8_1.out; have := Y_u9.out; have := Y_u10.out; (try simp only at hS); omega)
  replace F_w0 := Lib.hid (F_w0.out.chg hc (fun g h1 h2 => by have := ZB.out; have := Y_u1.out; have := Y_u2.out; have := Y_u3.out; have := Y_u4.out; have := ZA1.out; have := Y_u5.out; have := Y_u6.out; have := Y_u7.out; have := Y_u8.out; have := Y_W8_1.out; have := Y_u9.out; have := Y_u10.out; (try simp only at h1 h2); omega))
  replace F_x1 := Lib.hid (F_x1.out.chg hc (fun g h1 h2 => by have := ZB.out; have := Y_u1.out; have := Y_u2.out; have := Y_u3.out; have := Y_u4.out; have := ZA1.out; have := Y_u5.out; have := Y_u6.out; have := Y_u7.out; have := Y_u8.out; have := Y_W8_1.out; have := Y_u9.out; have := Y_u10.out; (try simp only at h1 h2); omega))
  replace F_g0 := Lib.hid (F_g0.out.chg hc (fun g h1 h2 => by have := ZB.out; have := Y_u1.out; have := Y_u2.out; have := Y_u3.out; have := Y_u4.out; have := ZA1.out; have := Y_u5.out; have := Y_u6.out; have := Y_u7.out; have := Y_u8.out; have := Y_W8_1.out; have := Y_u9.out; have := Y_u10.out; (try simp only at h1 h2); omega))
  replace F_x0 := Lib.hid ho
  have Y_u11 := Lib.hid hc.size
  replace Bc := Lib.hid (Bc.out.trans (hc.below (by have := ZB.out; have := Y_u1.out; have := Y_u2.out; have := Y_u3.out; have := Y_u4.out; have := ZA1.out; have := Y_u5.out; have := Y_u6.out; have := Y_u7.out; have := Y_u8.out; have := Y_W8_1.out; have := Y_u9.out; have := Y_u10.out; have := Y_u11.out; omega) (fun g h1 => by have := ZB.out; have := Y_u1.out; have := Y_u2.out; have := Y_u3.out; have := Y_u4.out; have := ZA1.out; have := Y_u5.out; have := Y_u6.out; have := Y_u7.out; have := Y_u8.out; have := Y_W8_1.out; have := Y_u9.out; have := Y_u10.out; have := Y_u11.out; (try simp only at h1); omega)))
  clear ho hc
  have CQ1 := Lib.hid (show 1 + (sumL L1 : Int) + (sumI L2 : Int) ≤ 1000000000 by have := ZQ.out; omega)
  go_wp2_with fail
  refine (markIntS_b (fun g => u5.heap.size ≤ g ∧ g < u6.heap.size)  (.slice s_x1 L2.length e_x1) L2 (1 + (sumL L1 : Int)) (by omega) CQ1.out u11 F_x1.out).mono ?_
  rintro e u12 ⟨rfl, ho, hc⟩
  replace K0_0 := hc.keep K0_0 (fun hS => by have := ZB.out; have := Y_u1.out; have := Y_u2.out; have := Y_u3.out; have := Y_u4.out; have := ZA1.out; have := Y_u5.out; have := Y_u6.out; have := Y_u7.out; have := Y_u8.out; have := Y_W8_1.out; have := Y_u9.out; have := Y_u10.out; have := Y_u11.out; (try simp only at hS); omega)
  replace K0_1 := hc.keep K0_1 (fun hS => by have := ZB.out; have := Y_u1.out; have := Y_u2.out; have := Y_u3.out; have := Y_u4.out; have := ZA1.out; have := Y_u5.out; have := Y_u6.out; have := Y_u7.out; have := Y_u8.out; have := Y_W8_1.out; have := Y_u9.out; have := Y_u10.out; have := Y_u11.out; (try simp only at hS); omega)
  replace K1_0 := hc.keep K1_0 (fun hS => by have := ZB.out; have := Y_u1.out; have := Y_u2.out; have := Y_u3.out; have := Y_u4.out; have := ZA1.out; have := Y_u5.out; have := Y_u6.out; have := Y_u7.out; have := Y_u8.out; have := Y_W8_1.out; have := Y_u9.out; have := Y_u10.out; have := Y_u11.out; (try simp only at hS); omega)
  replace K1_1 := hc.keep K1_1 (fun hS => by have := ZB.out; have := Y_u1.out; have := Y_u2.out; have := Y_u3.out; have := Y_u4.out; have := ZA1.out; have := Y_u5.out; have := Y_u6.out; have := Y_u7.out; have := Y_u8.out; have := Y_W8_1.out; have := Y_u9.out; have := Y_u10.out; have := Y_u11.out; (try simp only at hS); omega)
  replace F_w0 := Lib.hid (F_w0.out.chg hc (fun g h1 h2 => by have := ZB.out; have := Y_u1.out; have := Y_u2.out; have := Y_u3.out; have := Y_u4.out; have := ZA1.out; have := Y_u5.out; have := Y_u6.out; have := Y_u7.out; have := Y_u8.out; have := Y_W8_1.out; have := Y_u9.out; have := Y_u10.out; have := Y_u11.out; (try simp only at h1 h2); omega))
  replace F_x0 := Lib.hid (F_x0.out.chg hc (fun g h1 h2 => by have := ZB.out; have := Y_u1.out; have := Y_u2.out; have := Y_u3.out; have := Y_u4.out; have := ZA1.out; have := Y_u5.out; have := Y_u6.out; have := Y_u7.out; have := Y_u8.out; have := Y_W8_1.out; have := Y_u9.out; have := Y_u10.out; have := Y_u11.out; (try simp only at h1 h2); omega))
  replace F_g0 := Lib.hid (F_g0.out.chg hc (fun g h1 h2 => by have := ZB.out; have := Y_u1.out; have := Y_u2.out; have := Y_u3.out; have := Y_u4.out; have := ZA1.out; have := Y_u5.out; have := Y_u6.out; have := Y_u7.out; have := Y_u8.out; have := Y_W8_1.out; have := Y_u9.out; have := Y_u10.out; have := Y_u11.out; (try simp only at h1 h2); omega))
  replace F_x1 := Lib.hid ho
  have Y_u12 := Lib.hid hc.size
  replace Bc := Lib.hid (Bc.out.trans (hc.below (by have := ZB.out; have := Y_u1.out; have := Y_u2.out; have := Y_u3.out; have := Y_u4.out; have := ZA1.out; have := Y_u5.out; have := Y_u6.out; have := Y_u7.out; have := Y_u8.out; have := Y_W8_1.out; have := Y_u9.out; have := Y_u10.out; have := Y_u11.out; have := Y_u12.out; omega) (fun g h1 => by have := ZB.out; have := Y_u1.out; have := Y_u2.out; have := Y_u3.out; have := Y_u4.out; have := ZA1.out; have := Y_u5.out; have := Y_u6.out; have := Y_u7.out; have := Y_u8.out; have := Y_W8_1.out; have := Y_u9.out; have := Y_u10.out; have := Y_u11.out; have := Y_u12.out; (try simp only at h1); omega)))
  clear ho hc
  go_wp2_with fail
  refine (eqIntS_same  (.slice s_g0 R.length e_g0) (.slice s_w0 R.length e_w0) R u12 F_g0.out.reads F_w0.out.reads).mono ?_
  rintro e u13 ⟨rfl, hb⟩
  replace K0_0 := cell_old hb K0_0
  replace K0_1 := cell_old hb K0_1
  replace K1_0 := cell_old hb K1_0
  replace K1_1 := cell_old hb K1_1
  replace F_w0 := Lib.hid (F_w0.out.below hb)
  replace F_x0 := Lib.hid (F_x0.out.below hb)
  replace F_x1 := Lib.hid (F_x1.out.below hb)
  replace F_g0 := Lib.hid (F_g0.out.below hb)
  have Y_u13 := Lib.hid hb.size
  replace Bc := Lib.hid (Bc.out.trans (hb.mono Bc.out.size))
  clear hb
  clear F_x0
  clear F_x1
  go_wp2_with fail
  refine (markIntS_b (fun g => u6.heap.size ≤ g ∧ g < u7.heap.size)  (.slice s_g0 R.length e_g0) R 1 (by omega) CTR.out u13 F_g0.out).mono ?_
  rintro e u14 ⟨rfl, ho, hc⟩
  replace K0_0 := hc.keep K0_0 (fun hS => by have := ZB.out; have := Y_u1.out; have := Y_u2.out; have := Y_u3.out; have := Y_u4.out; have := ZA1.out; have := Y_u5.out; have := Y_u6.out; have := Y_u7.out; have := Y_u8.out; have := Y_W8_1.out; have := Y_u9.out; have := Y_u10.out; have := Y_u11.out; have := Y_u12.out; have := Y_u13.out; (try simp only at hS); omega)
  replace K0_1 := hc.keep K0_1 (fun hS => by have := ZB.out; have := Y_u1.out; have := Y_u2.out; have := Y_u3.out; have := Y_u4.out; have := ZA1.out; have := Y_u5.out; have := Y_u6.out; have := Y_u7.out; have := Y_u8.out; have := Y_W8_1.out; have := Y_u9.out; have := Y_u10.out; have := Y_u11.out; have := Y_u12.out; have := Y_u13.out; (try simp only at hS); omega)
  replace K1_0 := hc.keep K1_0 (fun hS => by have := ZB.out; have := Y_u1.out; have := Y_u2.out; have := Y_u3.out; have := Y_u4.out; have := ZA1.out; have := Y_u5.out; have := Y_u6.out; have := Y_u7.out; have := Y_u8.out; have := Y_W8_1.out; have := Y_u9.out; have := Y_u10.out; have := Y_u11.out; have := Y_u12.out; have := Y_u13.out; (try simp only at hS); omega)
  replace K1_1 := hc.keep K1_1 (fun hS => by have := ZB.out; have := Y_u1.out; have := Y_u2.out; have := Y_u3.out; have := Y_u4.out; have := ZA1.out; have := Y_u5.out; have := Y_u6.out; have := Y_u7.out; have := Y_u8.out; have := Y_W8_1.out; have := Y_u9.out; have := Y_u10.out; have := Y_u11.out; have := Y_u12.out; have := Y_u13.out; (try simp only at hS); omega)
  replace F_w0 := Lib.hid (F_w0.out.chg hc (fun g h1 h2 => by have := ZB.out; have := Y_u1.out; have := Y_u2.out; have := Y_u3.out; have := Y_u4.out; have := ZA1.out; have := Y_u5.out; have := Y_u6.out; have := Y_u7.out; have := Y_u8.out; have := Y_W8_1.out; have := Y_u9.out; have := Y_u10.out; have := Y_u11.out; have := Y_u12.out; have := Y_u13.out; (try simp only at h1 h2); omega))
  replace F_g0 := Lib.hid ho
  have Y_u14 := Lib.hid hc.size
  replace Bc := Lib.hid (Bc.out.trans (hc.below (by have := ZB.out; have := Y_u1.out; have := Y_u2.out; have := Y_u3.out; have := Y_u4.out; have := ZA1.out; have := Y_u5.out; have := Y_u6.out; have := Y_u7.out; have := Y_u8.out; have := Y_W8_1.out; have := Y_u9.out; have := Y_u10.out; have := Y_u11.out; have := Y_u12.out; have := Y_u13.out; have := Y_u14.out; omega) (fun g h1 => by have := ZB.out; have := Y_u1.out; have := Y_u2.out; have := Y_u3.out; have := Y_u4.out; have := ZA1.out; have := Y_u5.out; have := Y_u6.out; have := Y_u7.out; have := Y_u8.out; have := Y_W8_1.out; have := Y_u9.out; have := Y_u10.out; have := Y_u11.out; have := Y_u12.out; have := Y_u13.out; have := Y_u14.out; (try simp only at h1); omega)))
  clear ho hc
  go_wp2_with fail
  refine (heldIntS_b  (.slice s_g0 R.length e_g0) R 1 (by omega) CTR.out u14 F_g0.out.reads).mono ?_
  rintro e u15 ⟨rfl, hb⟩
  replace K0_0 := cell_old hb K0_0
  replace K0_1 := cell_old hb K0_1
  replace K1_0 := cell_old hb K1_0
  replace K1_1 := cell_old hb K1_1
  replace F_w0 := Lib.hid (F_w0.out.below hb)
  replace F_g0 := Lib.hid (F_g0.out.below hb)
  have Y_u15 := Lib.hid hb.size
  replace Bc := Lib.hid (Bc.out.trans (hb.mono Bc.out.size))
  clear hb
  go_wp2_with fail
  refine (toSpace_any c1x (.slice s1 L1.length e1) L1 u15 (H1.out.below Bc.out) T1.out).mono ?_
  rintro e u16 ⟨v_y0, rfl, ho, hb⟩
  obtain ⟨s_y0, e_y0, rfl⟩ := ho.reads.form
  have F_y0 := Lib.hid ho.bound
  clear ho
  replace K0_0 := cell_old hb K0_0
  replace K0_1 := cell_old hb K0_1
  replace K1_0 := cell_old hb K1_0
  replace K1_1 := cell_old hb K1_1
  replace F_w0 := Lib.hid (F_w0.out.below hb)
  replace F_g0 := Lib.hid (F_g0.out.below hb)
  have Y_u16 := Lib.hid hb.size
  replace Bc := Lib.hid (Bc.out.trans (hb.mono Bc.out.size))
  clear hb
  go_wp2_with fail
  refine (toIntS_b  (.slice s2 L2.length e2) L2 u16 (H2.out.below Bc.out) T2.out).mono ?_
  rintro e u17 ⟨v_y1, rfl, ho, hb⟩
  obtain ⟨s_y1, e_y1, rfl⟩ := ho.reads.form
  have F_y1 := Lib.hid ho.bound
  clear ho
  replace K0_0 := cell_old hb K0_0
  replace K0_1 := cell_old hb K0_1
  replace K1_0 := cell_old hb K1_0
  replace K1_1 := cell_old hb K1_1
  replace F_w0 := Lib.hid (F_w0.out.below hb)
  replace F_g0 := Lib.hid (F_g0.out.below hb)
  replace F_y0 := Lib.hid (F_y0.out.below hb)
  have Y_u17 := Lib.hid hb.size
  replace Bc := Lib.hid (Bc.out.trans (hb.mono Bc.out.size))
  clear hb
  go_wp2_with fail
  refine (hi.out u17 (.slice s_y0 L1.length e_y0) (.slice s_y1 L2.length e_y1) (HT.out.below HT.out.size Bc.out) F_y0.out.reads F_y1.out.reads).mono ?_
  rintro e u18 ⟨v_h0, rfl, ho, hb⟩
  obtain ⟨s_h0, e_h0, rfl⟩ := ho.reads.form
  have F_h0 := Lib.hid ho.bound
  clear ho
  replace K0_0 := cell_old hb K0_0
  replace K0_1 := cell_old hb K0_1
  replace K1_0 := cell_old hb K1_0
  replace K1_1 := cell_old hb K1_1
  replace F_w0 := Lib.hid (F_w0.out.below hb)
  replace F_g0 := Lib.hid (F_g0.out.below hb)
  replace F_y0 := Lib.hid (F_y0.out.below hb)
  replace F_y1 := Lib.hid (F_y1.out.below hb)
  have Y_u18 := Lib.hid hb.size
  replace Bc := Lib.hid (Bc.out.trans (hb.mono Bc.out.size))
  clear hb
  clear F_y0
  clear F_y1
  go_wp2_with fail
  refine (eqIntS_same  (.slice s_h0 R.length e_h0) (.slice s_w0 R.length e_w0) R u18 F_h0.out.reads F_w0.out.reads).mono ?_
  rintro e u19 ⟨rfl, hb⟩
  replace K0_0 := cell_old hb K0_0
  replace K0_1 := cell_old hb K0_1
  replace K1_0 := cell_old hb K1_0
  replace K1_1 := cell_old hb K1_1
  replace F_w0 := Lib.hid (F_w0.out.below hb)
  replace F_g0 := Lib.hid (F_g0.out.below hb)
  replace F_h0 := Lib.hid (F_h0.out.below hb)
  have Y_u19 := Lib.hid hb.size
  replace Bc := Lib.hid (Bc.out.trans (hb.mono Bc.out.size))
  clear hb
  go_wp2_with fail
  refine (heldIntS_b  (.slice s_g0 R.length e_g0) R 1 (by omega) CTR.out u19 F_g0.out.reads).mono ?_
  rintro e u20 ⟨rfl, hb⟩
  replace K0_0 := cell_old hb K0_0
  replace K0_1 := cell_old hb K0_1
  replace K1_0 := cell_old hb K1_0
  replace K1_1 := cell_old hb K1_1
  replace F_w0 := Lib.hid (F_w0.out.below hb)
  replace F_g0 := Lib.hid (F_g0.out.below hb)
  replace F_h0 := Lib.hid (F_h0.out.below hb)
  have Y_u20 := Lib.hid hb.size
  replace Bc := Lib.hid (Bc.out.trans (hb.mono Bc.out.size))
  clear hb
  go_wp2
  go_ret
  exact ⟨rfl, Bc.out⟩
end Go.Proofs.YtimjlcnljefbbaaDoor.fnExactSeparatorOf
