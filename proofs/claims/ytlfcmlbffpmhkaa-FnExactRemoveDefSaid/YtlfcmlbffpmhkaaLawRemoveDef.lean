/- The law FnExactRemoveDef: both functions return the same, each in memory of its own, and what they are handed stays as it was. -/
import Derived.Test.YtlfcmlbffpmhkaaLibBase
import Derived.Test.YtlfcmlbffpmhkaaRemS
import Derived.Test.YtlfcmlbffpmhkaaLawD
import Derived.Deep.RegionHeld3
import Derived.Deep.DeepCutAuto
namespace Go.Proofs.Ytlfcmlbffpmhkaa.fnExactRemoveDef
open Go.RowKit Ints

set_option maxHeartbeats 8000000 in
set_option maxRecDepth 100000 in
theorem walk (v0 : Value) (L0 : List DefL) (s1 : ByteArray) (w1 : s1.size ≤ maxLen) (w : World) (h0 : InD w v0 L0) :
    Calls Try.prog 7 #[v0, .string s1] w fun e w' => e = .returned (.bool true) ∧ Below w.heap.size w w' := by
  obtain ⟨s_0, e_0, rfl⟩ := h0.form
  have B := Lib.hid (Below.refl w.heap.size w)
  have H0 := Lib.hid h0
  clear h0
  unfold maxLen at w1
  rcases Nat.lt_or_ge 1048576 s1.size with hlen1 | hlen1
  · have hl1 : decide ((1048576 : Int) < (s1.size : Int)) = true := by simp; omega
    go_enter Try.func7, Try.ntmps7
    go_wp2
    go_ret
    exact ⟨rfl, B.out⟩
  have hl1 : decide ((1048576 : Int) < (s1.size : Int)) = false := by simp; omega
  have T1 := Lib.hid (show s1.size ≤ 1048576 from hlen1)
  clear hlen1
  rcases szN_cases (totD L0) 1048576 with hneg | ⟨hle, hpos⟩
  · have szc0 := Lib.hid (fun W hW => szDefS_b  (.slice s_0 L0.length e_0) L0 1048576 (by omega) (by omega) W hW)
    rw [hneg] at szc0
    clear hneg
    go_enter Try.func7, Try.ntmps7
    go_wp2_with fail
    refine (szc0.out _ (H0.out.below B.out)).mono ?_
    rintro e z1 ⟨rfl, hb⟩
    have BZ1 := Lib.hid (B.out.trans (hb.mono B.out.size))
    have ZB := Lib.hid hb.size
    clear hb
    go_wp2
    go_ret
    exact ⟨rfl, BZ1.out⟩
  have szc0 := Lib.hid (fun W hW => szDefS_b  (.slice s_0 L0.length e_0) L0 1048576 (by omega) (by omega) W hW)
  obtain ⟨r0, hr0⟩ : ∃ r, szN (totD L0) 1048576 = r := ⟨_, rfl⟩
  rw [hr0] at szc0 hpos
  have r00 : 0 ≤ r0 := by omega
  have r01 : r0 ≤ 1048576 := by omega
  have r0b : decide (r0 < 0) = false := by simp; omega
  have T0 := Lib.hid (show totD L0 ≤ 1048576 by omega)
  clear hpos hr0 hle
  obtain ⟨b0, hb0⟩ : ∃ b, remB L0 s1 = b := ⟨_, rfl⟩
  obtain ⟨R, hR⟩ : ∃ R, remR L0 s1 = R := ⟨_, rfl⟩
  have CTR := Lib.hid (remR_ctr L0 s1 T0.out)
  have hs := Lib.hid (fun W v h => specRD_any v L0 s1 T0.out W h)
  have hi := Lib.hid (fun W v h => implRD_any v L0 s1 T0.out W h)
  rw [hb0, hR] at hs hi
  rw [hR] at CTR
  clear hb0 hR
  have hq0 : (b0 != b0) = false := by simp
  go_enter Try.func7, Try.ntmps7
  go_wp2_with fail
  refine (szc0.out _ (H0.out.below B.out)).mono ?_
  rintro e z1 ⟨rfl, hb⟩
  have BZ1 := Lib.hid (B.out.trans (hb.mono B.out.size))
  have ZB := Lib.hid hb.size
  clear hb
  have Bc := Lib.hid BZ1.out
  clear B BZ1 szc0
  have nR0 : decide ((1 : Int) + (sumDS R : Int) < 0) = false := by simp; omega
  have nR1 : ((1 : Int) + (sumDS R : Int) != (1 : Int) + (sumDS R : Int)) = false := by simp
  have CTL0 := Lib.hid (show (1 : Int) + (sumDS L0 : Int) ≤ 1000000000 by have h1 := T0.out; have h2 := sumDS_tot L0; omega)
  have nL00 : decide ((1 : Int) + (sumDS L0 : Int) < 0) = false := by simp; omega
  have nL01 : ((1 : Int) + (sumDS L0 : Int) != (1 : Int) + (sumDS L0 : Int)) = false := by simp
  go_wp2_with fail
  refine (toDefS_b  (.slice s_0 L0.length e_0) L0 z1 (H0.out.below Bc.out) T0.out).mono ?_
  rintro e u1 ⟨v_t0, rfl, ho, hb⟩
  obtain ⟨s_t0, e_t0, rfl⟩ := ho.reads.form
  have F_t0 := Lib.hid ho.bound
  clear ho
  have Y_u1 := Lib.hid hb.size
  replace Bc := Lib.hid (Bc.out.trans (hb.mono Bc.out.size))
  clear hb
  go_wp2_with fail
  refine (hs.out u1 (.slice s_t0 L0.length e_t0) F_t0.out.reads).mono ?_
  rintro e u2 ⟨v_w0, rfl, ho, hb⟩
  obtain ⟨s_w0, e_w0, rfl⟩ := ho.reads.form
  have F_w0 := Lib.hid ho.bound
  clear ho
  replace F_t0 := Lib.hid (F_t0.out.below hb)
  have Y_u2 := Lib.hid hb.size
  replace Bc := Lib.hid (Bc.out.trans (hb.mono Bc.out.size))
  clear hb
  clear F_t0
  go_wp2_with fail
  refine (toDefS_b  (.slice s_0 L0.length e_0) L0 u2 (H0.out.below Bc.out) T0.out).mono ?_
  rintro e u3 ⟨v_x0, rfl, ho, hb⟩
  obtain ⟨s_x0, e_x0, rfl⟩ := ho.reads.form
  have F_x0 := Lib.hid ho.bound
  clear ho
  replace F_w0 := Lib.hid (F_w0.out.below hb)
  have Y_u3 := Lib.hid hb.size
  replace Bc := Lib.hid (Bc.out.trans (hb.mono Bc.out.size))
  clear hb
  go_wp2_with fail
  refine (hi.out u3 (.slice s_x0 L0.length e_x0) F_x0.out.reads).mono ?_
  rintro e u4 ⟨v_g0, rfl, ho, hb⟩
  obtain ⟨s_g0, e_g0, rfl⟩ := ho.reads.form
  have F_g0 := Lib.hid ho.bound
  clear ho
  replace F_w0 := Lib.hid (F_w0.out.below hb)
  replace F_x0 := Lib.hid (F_x0.out.below hb)
  have Y_u4 := Lib.hid hb.size
  replace Bc := Lib.hid (Bc.out.trans (hb.mono Bc.out.size))
  clear hb
  go_wp2_with fail
  refine (eqDefS_same  (.slice s_g0 R.length e_g0) (.slice s_w0 R.length e_w0) R u4 F_g0.out.reads F_w0.out.reads).mono ?_
  rintro e u5 ⟨rfl, hb⟩
  replace F_w0 := Lib.hid (F_w0.out.below hb)
  replace F_x0 := Lib.hid (F_x0.out.below hb)
  replace F_g0 := Lib.hid (F_g0.out.below hb)
  have Y_u5 := Lib.hid hb.size
  replace Bc := Lib.hid (Bc.out.trans (hb.mono Bc.out.size))
  clear hb
  go_wp2_with fail
  refine (toDefS_b  (.slice s_0 L0.length e_0) L0 u5 (H0.out.below Bc.out) T0.out).mono ?_
  rintro e u6 ⟨v_c0, rfl, ho, hb⟩
  obtain ⟨s_c0, e_c0, rfl⟩ := ho.reads.form
  have F_c0 := Lib.hid ho.bound
  clear ho
  replace F_w0 := Lib.hid (F_w0.out.below hb)
  replace F_x0 := Lib.hid (F_x0.out.below hb)
  replace F_g0 := Lib.hid (F_g0.out.below hb)
  have Y_u6 := Lib.hid hb.size
  replace Bc := Lib.hid (Bc.out.trans (hb.mono Bc.out.size))
  clear hb
  go_wp2_with fail
  refine (eqDefS_same  (.slice s_x0 L0.length e_x0) (.slice s_c0 L0.length e_c0) L0 u6 F_x0.out.reads F_c0.out.reads).mono ?_
  rintro e u7 ⟨rfl, hb⟩
  replace F_w0 := Lib.hid (F_w0.out.below hb)
  replace F_x0 := Lib.hid (F_x0.out.below hb)
  replace F_g0 := Lib.hid (F_g0.out.below hb)
  replace F_c0 := Lib.hid (F_c0.out.below hb)
  have Y_u7 := Lib.hid hb.size
  replace Bc := Lib.hid (Bc.out.trans (hb.mono Bc.out.size))
  clear hb
  clear F_c0
  go_wp2_with fail
  refine (markDefS_any (fun g => u2.heap.size ≤ g ∧ g < u3.heap.size)  (.slice s_x0 L0.length e_x0) L0 1 (by omega) CTL0.out u7 F_x0.out).mono ?_
  rintro e u8 ⟨rfl, ho, hc⟩
  replace F_w0 := Lib.hid (F_w0.out.chg hc (fun g h1 h2 => by have := ZB.out; have := Y_u1.out; have := Y_u2.out; have := Y_u3.out; have := Y_u4.out; have := Y_u5.out; have := Y_u6.out; have := Y_u7.out; (try simp only at h1 h2); omega))
  replace F_g0 := Lib.hid (F_g0.out.chg hc (fun g h1 h2 => by have := ZB.out; have := Y_u1.out; have := Y_u2.out; have := Y_u3.out; have := Y_u4.out; have := Y_u5.out; have := Y_u6.out; have := Y_u7.out; (try simp only at h1 h2); omega))
  replace F_x0 := Lib.hid ho
  have Y_u8 := Lib.hid hc.size
  replace Bc := Lib.hid (Bc.out.trans (hc.below (by have := ZB.out; have := Y_u1.out; have := Y_u2.out; have := Y_u3.out; have := Y_u4.out; have := Y_u5.out; have := Y_u6.out; have := Y_u7.out; have := Y_u8.out; omega) (fun g h1 => by have := ZB.out; have := Y_u1.out; have := Y_u2.out; have := Y_u3.out; have := Y_u4.out; have := Y_u5.out; have := Y_u6.out; have := Y_u7.out; have := Y_u8.out; (try simp only at h1); omega)))
  clear ho hc
  go_wp2_with fail
  refine (eqDefS_same  (.slice s_g0 R.length e_g0) (.slice s_w0 R.length e_w0) R u8 F_g0.out.reads F_w0.out.reads).mono ?_
  rintro e u9 ⟨rfl, hb⟩
  replace F_w0 := Lib.hid (F_w0.out.below hb)
  replace F_x0 := Lib.hid (F_x0.out.below hb)
  replace F_g0 := Lib.hid (F_g0.out.below hb)
  have Y_u9 := Lib.hid hb.size
  replace Bc := Lib.hid (Bc.out.trans (hb.mono Bc.out.size))
  clear hb
  clear F_x0
  go_wp2_with fail
  refine (markDefS_any (fun g => u3.heap.size ≤ g ∧ g < u4.heap.size)  (.slice s_g0 R.length e_g0) R 1 (by omega) CTR.out u9 F_g0.out).mono ?_
  rintro e u10 ⟨rfl, ho, hc⟩
  replace F_w0 := Lib.hid (F_w0.out.chg hc (fun g h1 h2 => by have := ZB.out; have := Y_u1.out; have := Y_u2.out; have := Y_u3.out; have := Y_u4.out; have := Y_u5.out; have := Y_u6.out; have := Y_u7.out; have := Y_u8.out; have := Y_u9.out; (try simp only at h1 h2); omega))
  replace F_g0 := Lib.hid ho
  have Y_u10 := Lib.hid hc.size
  replace Bc := Lib.hid (Bc.out.trans (hc.below (by have := ZB.out; have := Y_u1.out; have := Y_u2.out; have := Y_u3.out; have := Y_u4.out; have := Y_u5.out; have := Y_u6.out; have := Y_u7.out; have := Y_u8.out; have := Y_u9.out; have := Y_u10.out; omega) (fun g h1 => by have := ZB.out; have := Y_u1.out; have := Y_u2.out; have := Y_u3.out; have := Y_u4.out; have := Y_u5.out; have := Y_u6.out; have := Y_u7.out; have := Y_u8.out; have := Y_u9.out; have := Y_u10.out; (try simp only at h1); omega)))
  clear ho hc
  go_wp2_with fail
  refine (heldDefS_any  (.slice s_g0 R.length e_g0) R 1 (by omega) CTR.out u10 F_g0.out.reads).mono ?_
  rintro e u11 ⟨rfl, hb⟩
  replace F_w0 := Lib.hid (F_w0.out.below hb)
  replace F_g0 := Lib.hid (F_g0.out.below hb)
  have Y_u11 := Lib.hid hb.size
  replace Bc := Lib.hid (Bc.out.trans (hb.mono Bc.out.size))
  clear hb
  go_wp2_with fail
  refine (toDefS_b  (.slice s_0 L0.length e_0) L0 u11 (H0.out.below Bc.out) T0.out).mono ?_
  rintro e u12 ⟨v_y0, rfl, ho, hb⟩
  obtain ⟨s_y0, e_y0, rfl⟩ := ho.reads.form
  have F_y0 := Lib.hid ho.bound
  clear ho
  replace F_w0 := Lib.hid (F_w0.out.below hb)
  replace F_g0 := Lib.hid (F_g0.out.below hb)
  have Y_u12 := Lib.hid hb.size
  replace Bc := Lib.hid (Bc.out.trans (hb.mono Bc.out.size))
  clear hb
  go_wp2_with fail
  refine (hi.out u12 (.slice s_y0 L0.length e_y0) F_y0.out.reads).mono ?_
  rintro e u13 ⟨v_h0, rfl, ho, hb⟩
  obtain ⟨s_h0, e_h0, rfl⟩ := ho.reads.form
  have F_h0 := Lib.hid ho.bound
  clear ho
  replace F_w0 := Lib.hid (F_w0.out.below hb)
  replace F_g0 := Lib.hid (F_g0.out.below hb)
  replace F_y0 := Lib.hid (F_y0.out.below hb)
  have Y_u13 := Lib.hid hb.size
  replace Bc := Lib.hid (Bc.out.trans (hb.mono Bc.out.size))
  clear hb
  clear F_y0
  go_wp2_with fail
  refine (eqDefS_same  (.slice s_h0 R.length e_h0) (.slice s_w0 R.length e_w0) R u13 F_h0.out.reads F_w0.out.reads).mono ?_
  rintro e u14 ⟨rfl, hb⟩
  replace F_w0 := Lib.hid (F_w0.out.below hb)
  replace F_g0 := Lib.hid (F_g0.out.below hb)
  replace F_h0 := Lib.hid (F_h0.out.below hb)
  have Y_u14 := Lib.hid hb.size
  replace Bc := Lib.hid (Bc.out.trans (hb.mono Bc.out.size))
  clear hb
  go_wp2_with fail
  refine (heldDefS_any  (.slice s_g0 R.length e_g0) R 1 (by omega) CTR.out u14 F_g0.out.reads).mono ?_
  rintro e u15 ⟨rfl, hb⟩
  replace F_w0 := Lib.hid (F_w0.out.below hb)
  replace F_g0 := Lib.hid (F_g0.out.below hb)
  replace F_h0 := Lib.hid (F_h0.out.below hb)
  have Y_u15 := Lib.hid hb.size
  replace Bc := Lib.hid (Bc.out.trans (hb.mono Bc.out.size))
  clear hb
  go_wp2
  go_ret
  exact ⟨rfl, Bc.out⟩
end Go.Proofs.Ytlfcmlbffpmhkaa.fnExactRemoveDef
