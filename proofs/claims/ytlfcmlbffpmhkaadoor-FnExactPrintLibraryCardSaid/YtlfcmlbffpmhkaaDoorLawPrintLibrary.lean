/- The law FnExactPrintLibrary: both functions return the same, each in memory of its own, and what they are handed stays as it was. -/
import Derived.Test.YtlfcmlbffpmhkaaDoorLibBase
import Derived.Test.YtlfcmlbffpmhkaaDoorPrG
import Derived.Test.YtlfcmlbffpmhkaaDoorOpenD
import Derived.Test.YtlfcmlbffpmhkaaDoorNodeE
import Derived.Deep.RegionHeld3
import Derived.Deep.DeepCutAuto
namespace Go.Proofs.YtlfcmlbffpmhkaaDoor.fnExactPrintLibrary
open Go.RowKit Ints

set_option maxHeartbeats 8000000 in
set_option maxRecDepth 100000 in
theorem walk (v0 : Value) (L0 : List DefL) (w : World) (h0 : InD w v0 L0) :
    Calls Tryd.prog 6 #[v0] w fun e w' => e = .returned (.bool true) ∧ Below w.heap.size w w' := by
  obtain ⟨s_0, e_0, rfl⟩ := h0.form
  have B := Lib.hid (Below.refl w.heap.size w)
  have H0 := Lib.hid h0
  clear h0
  rcases szN_cases (totD L0) 1048576 with hneg | ⟨hle, hpos⟩
  · have szc0 := Lib.hid (fun W hW => szDefS_b  (.slice s_0 L0.length e_0) L0 1048576 (by omega) (by omega) W hW)
    rw [hneg] at szc0
    clear hneg
    go_enter Tryd.func6, Tryd.ntmps6
    go_wp2_with fail
    refine (szc0.out _ (H0.out.below B.out)).mono ?_
    rintro e z1 ⟨rfl, hb⟩
    have BZ1 := Lib.hid (B.out.trans (hb.mono B.out.size))
    have ZB := Lib.hid hb.size
    clear hb
    go_wp2
    go_ret
    exact ⟨rfl, BZ1.out⟩
  have szc0 := Lib.hid (fun W hW => szDefS_b  (.slice s_0 L0.length e_0) L0 1048576 (by omega) (by omega) W hW)
  obtain ⟨r0, hr0⟩ : ∃ r, szN (totD L0) 1048576 = r := ⟨_, rfl⟩
  rw [hr0] at szc0 hpos
  have r00 : 0 ≤ r0 := by omega
  have r01 : r0 ≤ 1048576 := by omega
  have r0b : decide (r0 < 0) = false := by simp; omega
  have T0 := Lib.hid (show totD L0 ≤ 1048576 by omega)
  clear hpos hr0 hle
  obtain ⟨b0, hb0⟩ : ∃ b, lxP L0 = b := ⟨_, rfl⟩
  obtain ⟨b1, hb1⟩ : ∃ b, libB L0 = b := ⟨_, rfl⟩
  have hs := Lib.hid (fun W v h => specPL_any v L0 W h)
  have hi := Lib.hid (fun W v h => implPL_any v L0 (by have := T0.out; omega) W h)
  rw [hb0, hb1] at hs hi
  clear hb0 hb1
  have hq0 : (b0.toList != b0.toList) = false := by simp
  have hq1 : (b1 != b1) = false := by simp
  go_enter Tryd.func6, Tryd.ntmps6
  go_wp2_with fail
  refine (szc0.out _ (H0.out.below B.out)).mono ?_
  rintro e z1 ⟨rfl, hb⟩
  have BZ1 := Lib.hid (B.out.trans (hb.mono B.out.size))
  have ZB := Lib.hid hb.size
  clear hb
  have Bc := Lib.hid BZ1.out
  clear B BZ1 szc0
  go_wp2_with fail
  refine (toDefS_b  (.slice s_0 L0.length e_0) L0 z1 (H0.out.below Bc.out) T0.out).mono ?_
  rintro e u1 ⟨v_t0, rfl, ho, hb⟩
  obtain ⟨s_t0, e_t0, rfl⟩ := ho.reads.form
  have F_t0 := Lib.hid ho.bound
  clear ho
  have Y_u1 := Lib.hid hb.size
  replace Bc := Lib.hid (Bc.out.trans (hb.mono Bc.out.size))
  clear hb
  go_wp2_with fail
  refine (hs.out u1 (.slice s_t0 L0.length e_t0) F_t0.out.reads).mono ?_
  rintro e u2 ⟨rfl, hb⟩
  replace F_t0 := Lib.hid (F_t0.out.below hb)
  have Y_u2 := Lib.hid hb.size
  replace Bc := Lib.hid (Bc.out.trans (hb.mono Bc.out.size))
  clear hb
  clear F_t0
  go_wp2_with fail
  refine (toDefS_b  (.slice s_0 L0.length e_0) L0 u2 (H0.out.below Bc.out) T0.out).mono ?_
  rintro e u3 ⟨v_x0, rfl, ho, hb⟩
  obtain ⟨s_x0, e_x0, rfl⟩ := ho.reads.form
  have F_x0 := Lib.hid ho.bound
  clear ho
  have Y_u3 := Lib.hid hb.size
  replace Bc := Lib.hid (Bc.out.trans (hb.mono Bc.out.size))
  clear hb
  go_wp2_with fail
  refine (hi.out u3 (.slice s_x0 L0.length e_x0) F_x0.out.reads).mono ?_
  rintro e u4 ⟨rfl, hb⟩
  replace F_x0 := Lib.hid (F_x0.out.below hb)
  have Y_u4 := Lib.hid hb.size
  replace Bc := Lib.hid (Bc.out.trans (hb.mono Bc.out.size))
  clear hb
  go_wp2_with fail
  refine (toDefS_b  (.slice s_0 L0.length e_0) L0 u4 (H0.out.below Bc.out) T0.out).mono ?_
  rintro e u5 ⟨v_c0, rfl, ho, hb⟩
  obtain ⟨s_c0, e_c0, rfl⟩ := ho.reads.form
  have F_c0 := Lib.hid ho.bound
  clear ho
  replace F_x0 := Lib.hid (F_x0.out.below hb)
  have Y_u5 := Lib.hid hb.size
  replace Bc := Lib.hid (Bc.out.trans (hb.mono Bc.out.size))
  clear hb
  go_wp2_with fail
  refine (eqDefS_same  (.slice s_x0 L0.length e_x0) (.slice s_c0 L0.length e_c0) L0 u5 F_x0.out.reads F_c0.out.reads).mono ?_
  rintro e u6 ⟨rfl, hb⟩
  replace F_x0 := Lib.hid (F_x0.out.below hb)
  replace F_c0 := Lib.hid (F_c0.out.below hb)
  have Y_u6 := Lib.hid hb.size
  replace Bc := Lib.hid (Bc.out.trans (hb.mono Bc.out.size))
  clear hb
  clear F_c0
  go_wp2
  go_ret
  exact ⟨rfl, Bc.out⟩
end Go.Proofs.YtlfcmlbffpmhkaaDoor.fnExactPrintLibrary
