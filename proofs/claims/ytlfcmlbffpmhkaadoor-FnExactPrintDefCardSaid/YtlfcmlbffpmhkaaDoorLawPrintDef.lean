/- The law FnExactPrintDef: both functions return the same, each in memory of its own, and what they are handed stays as it was. -/
import Derived.Test.YtlfcmlbffpmhkaaDoorLibBase
import Derived.Test.YtlfcmlbffpmhkaaDoorPrG
import Derived.Test.YtlfcmlbffpmhkaaDoorAddD
import Derived.Test.YtlfcmlbffpmhkaaDoorLawD
import Derived.Deep.RegionHeld3
import Derived.Deep.DeepCutAuto
namespace Go.Proofs.YtlfcmlbffpmhkaaDoor
open Go.RowKit
namespace Ints

/-- What the functions return. -/
def dxP (ds : List DefL) (d : DefL) : ByteArray := if addB ds d = true then defX d else ByteArray.empty
theorem add_at {ds : List DefL} {d : DefL} (h : addB ds d = true) : libB ds = true ∧ d.name.size ≤ 8 ∧ typeOf ds d.body = some (d.inp, d.out) := by
  unfold addB at h
  rw [Bool.and_eq_true] at h
  have h2 := def_at h.2 ds.length (by simp)
  have e1 : dAt (ds ++ [d]) ds.length = d := by simp [dAt]
  have e2 : (ds ++ [d]).take ds.length = ds := by simp
  rw [e1, e2] at h2
  exact ⟨h.1, h2.1, h2.2⟩

set_option maxRecDepth 100000 in
set_option maxHeartbeats 2000000 in
theorem specPD_any (vd vb : Value) (ds : List DefL) (d : DefL) (hbd : totD ds ≤ 1048576) (hbn : cellsD d ≤ 1048576) (w : World) (hd : ReadsD w vd ds) (h : ReadsN w vb d.body) :
    Calls Tryd.prog 18 #[vd, .agg #[.string d.name, .int .i64 d.inp, .int .i64 d.out, vb]] w (StrOut w (dxP ds d) (addB ds d)) := by
  obtain ⟨w0, hw0⟩ : ∃ W, W = w.alloc (.cells #[.string d.name, .int .i64 d.inp, .int .i64 d.out, vb] 44) := ⟨_, rfl⟩
  have hB : Below w.heap.size w w0 := by rw [hw0]; exact below_alloc (Below.refl _ _)
  have HB := Lib.hid hB
  have HA := Lib.hid (specAD_any vd vb ds d hbd hbn w0 (hd.below hB) (h.below hB))
  have HD := Lib.hid (fun (ha : addB ds d = true) W (hW : Below w.heap.size w W) => match add_at ha with | ⟨hl, hn, hty⟩ => sxDef_any d ds _ hl hty (by omega) vb W (h.below hW))
  obtain ⟨a, cap, rfl⟩ := h.form
  obtain ⟨ad, capd, rfl⟩ := hd.form
  have hX0 : w0.cell? ⟨w.heap.size, 0, none⟩ = some (.string d.name) ∧ w0.cell? ⟨w.heap.size, 1, none⟩ = some (.int .i64 d.inp) ∧ w0.cell? ⟨w.heap.size, 2, none⟩ = some (.int .i64 d.out) ∧ w0.cell? ⟨w.heap.size, 3, none⟩ = some (.slice a d.body.length cap) := by rw [hw0]; refine ⟨?_, ?_, ?_, ?_⟩ <;> simp [go_sem]
  have HX := Lib.hid (show ∀ W, Below w0.heap.size w0 W → W.cell? ⟨w.heap.size, 0, none⟩ = some (.string d.name) ∧ W.cell? ⟨w.heap.size, 1, none⟩ = some (.int .i64 d.inp) ∧ W.cell? ⟨w.heap.size, 2, none⟩ = some (.int .i64 d.out) ∧ W.cell? ⟨w.heap.size, 3, none⟩ = some (.slice a d.body.length cap) from fun W hW => ⟨cell_old hW hX0.1, cell_old hW hX0.2.1, cell_old hW hX0.2.2.1, cell_old hW hX0.2.2.2⟩)
  have HW := Lib.hid hw0
  clear h hd hw0 hB hX0
  cases ho : addB ds d with
  | false =>
    have e : dxP ds d = ByteArray.empty := by unfold dxP; rw [ho]; rfl
    rw [e]
    rw [ho] at HA
    clear e ho HD
    go_enter Tryd.func18, Tryd.ntmps18
    go_wp2_with fail
    rw [← HW.out]
    refine HA.out.mono ?_
    rintro e w1 ⟨v1, rfl, ho1, hb⟩
    obtain ⟨a1, c1, rfl⟩ := ho1.reads.form
    have HB1 := Lib.hid (below_step HB.out hb)
    clear hb ho1
    go_wp2
    refine bodyPost_ret (v := .tuple #[.string ByteArray.empty, .bool false]) (by simp [results, Tryd.results18, go_sem]; rfl) rfl ?_
    exact ⟨rfl, HB1.out⟩
  | true =>
    have e : dxP ds d = defX d := by unfold dxP; rw [ho]; rfl
    rw [e]
    have hs2 := Lib.hid (HD.out ho)
    rw [ho] at HA
    obtain ⟨R, hR⟩ : ∃ R, defX d = R := ⟨_, rfl⟩
    rw [hR] at hs2 ⊢
    clear e ho HD hR
    go_enter Tryd.func18, Tryd.ntmps18
    go_wp2_with fail
    rw [← HW.out]
    refine HA.out.mono ?_
    rintro e w1 ⟨v1, rfl, ho1, hb⟩
    obtain ⟨a1, c1, rfl⟩ := ho1.reads.form
    have HB1 := Lib.hid (below_step HB.out hb)
    obtain ⟨z0, z1, z2, z3⟩ := HX.out w1 hb
    clear hb ho1
    go_wp2_with fail
    refine (hs2.out w1 HB1.out).mono ?_
    rintro e w2 ⟨rfl, hb⟩
    have HB2 := Lib.hid (below_step HB1.out hb)
    clear hb
    go_wp2
    refine bodyPost_ret (v := .tuple #[.string R, .bool true]) (by simp [results, Tryd.results18, go_sem]) rfl ?_
    exact ⟨rfl, HB2.out⟩

set_option maxRecDepth 100000 in
set_option maxHeartbeats 2000000 in
theorem implPD_any (vd vb : Value) (ds : List DefL) (d : DefL) (hbd : totD ds ≤ 1048576) (hbn : cellsD d ≤ 1048576) (w : World) (hd : ReadsD w vd ds) (h : ReadsN w vb d.body) :
    Calls Tryd.prog 20 #[vd, .agg #[.string d.name, .int .i64 d.inp, .int .i64 d.out, vb]] w (StrOut w (dxP ds d) (addB ds d)) := by
  obtain ⟨w0, hw0⟩ : ∃ W, W = w.alloc (.cells #[.string d.name, .int .i64 d.inp, .int .i64 d.out, vb] 44) := ⟨_, rfl⟩
  have hB : Below w.heap.size w w0 := by rw [hw0]; exact below_alloc (Below.refl _ _)
  have HB := Lib.hid hB
  have HA := Lib.hid (implAD_any vd vb ds d hbd hbn w0 (hd.below hB) (h.below hB))
  have HD := Lib.hid (fun (ha : addB ds d = true) W (hW : Below w.heap.size w W) => match add_at ha with | ⟨hl, hn, hty⟩ => defText_any d ds _ hl hty (by omega) vb W (h.below hW))
  obtain ⟨a, cap, rfl⟩ := h.form
  obtain ⟨ad, capd, rfl⟩ := hd.form
  have hX0 : w0.cell? ⟨w.heap.size, 0, none⟩ = some (.string d.name) ∧ w0.cell? ⟨w.heap.size, 1, none⟩ = some (.int .i64 d.inp) ∧ w0.cell? ⟨w.heap.size, 2, none⟩ = some (.int .i64 d.out) ∧ w0.cell? ⟨w.heap.size, 3, none⟩ = some (.slice a d.body.length cap) := by rw [hw0]; refine ⟨?_, ?_, ?_, ?_⟩ <;> simp [go_sem]
  have HX := Lib.hid (show ∀ W, Below w0.heap.size w0 W → W.cell? ⟨w.heap.size, 0, none⟩ = some (.string d.name) ∧ W.cell? ⟨w.heap.size, 1, none⟩ = some (.int .i64 d.inp) ∧ W.cell? ⟨w.heap.size, 2, none⟩ = some (.int .i64 d.out) ∧ W.cell? ⟨w.heap.size, 3, none⟩ = some (.slice a d.body.length cap) from fun W hW => ⟨cell_old hW hX0.1, cell_old hW hX0.2.1, cell_old hW hX0.2.2.1, cell_old hW hX0.2.2.2⟩)
  have HW := Lib.hid hw0
  clear h hd hw0 hB hX0
  cases ho : addB ds d with
  | false =>
    have e : dxP ds d = ByteArray.empty := by unfold dxP; rw [ho]; rfl
    rw [e]
    rw [ho] at HA
    clear e ho HD
    go_enter Tryd.func20, Tryd.ntmps20
    go_wp2_with fail
    rw [← HW.out]
    refine HA.out.mono ?_
    rintro e w1 ⟨v1, rfl, ho1, hb⟩
    obtain ⟨a1, c1, rfl⟩ := ho1.reads.form
    have HB1 := Lib.hid (below_step HB.out hb)
    clear hb ho1
    go_wp2
    refine bodyPost_ret (v := .tuple #[.string ByteArray.empty, .bool false]) (by simp [results, Tryd.results20, go_sem]; rfl) rfl ?_
    exact ⟨rfl, HB1.out⟩
  | true =>
    have e : dxP ds d = defX d := by unfold dxP; rw [ho]; rfl
    rw [e]
    have hs2 := Lib.hid (HD.out ho)
    rw [ho] at HA
    obtain ⟨R, hR⟩ : ∃ R, defX d = R := ⟨_, rfl⟩
    rw [hR] at hs2 ⊢
    clear e ho HD hR
    go_enter Tryd.func20, Tryd.ntmps20
    go_wp2_with fail
    rw [← HW.out]
    refine HA.out.mono ?_
    rintro e w1 ⟨v1, rfl, ho1, hb⟩
    obtain ⟨a1, c1, rfl⟩ := ho1.reads.form
    have HB1 := Lib.hid (below_step HB.out hb)
    obtain ⟨z0, z1, z2, z3⟩ := HX.out w1 hb
    clear hb ho1
    go_wp2_with fail
    refine (hs2.out w1 HB1.out).mono ?_
    rintro e w2 ⟨rfl, hb⟩
    have HB2 := Lib.hid (below_step HB1.out hb)
    clear hb
    go_wp2
    refine bodyPost_ret (v := .tuple #[.string R, .bool true]) (by simp [results, Tryd.results20, go_sem]) rfl ?_
    exact ⟨rfl, HB2.out⟩

end Ints
end Go.Proofs.YtlfcmlbffpmhkaaDoor

namespace Go.Proofs.YtlfcmlbffpmhkaaDoor.fnExactPrintDef
open Go.RowKit Ints

set_option maxHeartbeats 8000000 in
set_option maxRecDepth 100000 in
theorem walk (v0 : Value) (L0 : List DefL) (v1 : Value) (L1 : DefL) (w : World) (h0 : InD w v0 L0) (h1 : InB w v1 L1) :
    Calls Tryd.prog 5 #[v0, .agg #[.string L1.name, .int .i64 L1.inp, .int .i64 L1.out, v1]] w fun e w' => e = .returned (.bool true) ∧ Below w.heap.size w w' := by
  obtain ⟨s_0, e_0, rfl⟩ := h0.form
  obtain ⟨s_1, e_1, rfl⟩ := h1.form
  have B := Lib.hid ((Below.refl w.heap.size w).alloc (Nat.le_refl _) (.cells #[.string L1.name, .int .i64 L1.inp, .int .i64 L1.out, (.slice s_1 L1.body.length e_1)] 40))
  have H0 := Lib.hid h0
  have H1 := Lib.hid h1
  clear h0 h1
  rcases szN_cases (totD L0) 1048576 with hneg | ⟨hle, hpos⟩
  · have szc0 := Lib.hid (fun W hW => szDefS_b  (.slice s_0 L0.length e_0) L0 1048576 (by omega) (by omega) W hW)
    rw [hneg] at szc0
    clear hneg
    go_enter Tryd.func5, Tryd.ntmps5
    go_wp2_with fail
    refine (szc0.out _ (H0.out.below B.out)).mono ?_
    rintro e z1 ⟨rfl, hb⟩
    have K0_0 : z1.cell? ⟨w.heap.size, 0, none⟩ = some (.string L1.name) := cell_old hb (by simp [go_sem])
    have K0_1 : z1.cell? ⟨w.heap.size, 1, none⟩ = some (.int .i64 L1.inp) := cell_old hb (by simp [go_sem])
    have K0_2 : z1.cell? ⟨w.heap.size, 2, none⟩ = some (.int .i64 L1.out) := cell_old hb (by simp [go_sem])
    have K0_3 : z1.cell? ⟨w.heap.size, 3, none⟩ = some ((.slice s_1 L1.body.length e_1)) := cell_old hb (by simp [go_sem])
    have BZ1 := Lib.hid (B.out.trans (hb.mono B.out.size))
    have ZB := Lib.hid (show w.heap.size + 1 ≤ z1.heap.size by have := hb.size; simp at this; omega)
    clear hb
    go_wp2
    go_ret
    exact ⟨rfl, BZ1.out⟩
  have szc0 := Lib.hid (fun W hW => szDefS_b  (.slice s_0 L0.length e_0) L0 1048576 (by omega) (by omega) W hW)
  obtain ⟨r0, hr0⟩ : ∃ r, szN (totD L0) 1048576 = r := ⟨_, rfl⟩
  rw [hr0] at szc0 hpos
  have r00 : 0 ≤ r0 := by omega
  have r01 : r0 ≤ 1048576 := by omega
  have r0b : decide (r0 < 0) = false := by simp; omega
  have T0 := Lib.hid (show totD L0 ≤ 1048576 by omega)
  clear hpos hr0 hle
  rcases szN_cases (totB L1) r0 with hneg | ⟨hle, hpos⟩
  · have szc1 := Lib.hid (fun W hW => szDef_b  (.slice s_1 L1.body.length e_1) L1 r0 (by omega) (by omega) W hW)
    rw [hneg] at szc1
    clear hneg
    go_enter Tryd.func5, Tryd.ntmps5
    go_wp2_with fail
    refine (szc0.out _ (H0.out.below B.out)).mono ?_
    rintro e z1 ⟨rfl, hb⟩
    have K0_0 : z1.cell? ⟨w.heap.size, 0, none⟩ = some (.string L1.name) := cell_old hb (by simp [go_sem])
    have K0_1 : z1.cell? ⟨w.heap.size, 1, none⟩ = some (.int .i64 L1.inp) := cell_old hb (by simp [go_sem])
    have K0_2 : z1.cell? ⟨w.heap.size, 2, none⟩ = some (.int .i64 L1.out) := cell_old hb (by simp [go_sem])
    have K0_3 : z1.cell? ⟨w.heap.size, 3, none⟩ = some ((.slice s_1 L1.body.length e_1)) := cell_old hb (by simp [go_sem])
    have BZ1 := Lib.hid (B.out.trans (hb.mono B.out.size))
    have ZB := Lib.hid (show w.heap.size + 1 ≤ z1.heap.size by have := hb.size; simp at this; omega)
    clear hb
    go_wp2_with fail
    refine (szc1.out _ (H1.out.below BZ1.out)).mono ?_
    rintro e z2 ⟨rfl, hb⟩
    replace K0_0 := cell_old hb K0_0
    replace K0_1 := cell_old hb K0_1
    replace K0_2 := cell_old hb K0_2
    replace K0_3 := cell_old hb K0_3
    have BZ2 := Lib.hid (BZ1.out.trans (hb.mono BZ1.out.size))
    replace ZB := Lib.hid (Nat.le_trans ZB.out hb.size)
    clear hb
    go_wp2
    go_ret
    exact ⟨rfl, BZ2.out⟩
  have szc1 := Lib.hid (fun W hW => szDef_b  (.slice s_1 L1.body.length e_1) L1 r0 (by omega) (by omega) W hW)
  obtain ⟨r1, hr1⟩ : ∃ r, szN (totB L1) r0 = r := ⟨_, rfl⟩
  rw [hr1] at szc1 hpos
  have r10 : 0 ≤ r1 := by omega
  have r11 : r1 ≤ 1048576 := by omega
  have r1b : decide (r1 < 0) = false := by simp; omega
  have T1 := Lib.hid (show totB L1 ≤ 1048576 by omega)
  clear hpos hr1 hle
  obtain ⟨b0, hb0⟩ : ∃ b, dxP L0 L1 = b := ⟨_, rfl⟩
  obtain ⟨b1, hb1⟩ : ∃ b, addB L0 L1 = b := ⟨_, rfl⟩
  have hs := Lib.hid (fun W v u h h' => specPD_any v u L0 L1 T0.out T1.out W h h')
  have hi := Lib.hid (fun W v u h h' => implPD_any v u L0 L1 T0.out T1.out W h h')
  rw [hb0, hb1] at hs hi
  clear hb0 hb1
  have hq0 : (b0.toList != b0.toList) = false := by simp
  have hq1 : (b1 != b1) = false := by simp
  go_enter Tryd.func5, Tryd.ntmps5
  go_wp2_with fail
  refine (szc0.out _ (H0.out.below B.out)).mono ?_
  rintro e z1 ⟨rfl, hb⟩
  have K0_0 : z1.cell? ⟨w.heap.size, 0, none⟩ = some (.string L1.name) := cell_old hb (by simp [go_sem])
  have K0_1 : z1.cell? ⟨w.heap.size, 1, none⟩ = some (.int .i64 L1.inp) := cell_old hb (by simp [go_sem])
  have K0_2 : z1.cell? ⟨w.heap.size, 2, none⟩ = some (.int .i64 L1.out) := cell_old hb (by simp [go_sem])
  have K0_3 : z1.cell? ⟨w.heap.size, 3, none⟩ = some ((.slice s_1 L1.body.length e_1)) := cell_old hb (by simp [go_sem])
  have BZ1 := Lib.hid (B.out.trans (hb.mono B.out.size))
  have ZB := Lib.hid (show w.heap.size + 1 ≤ z1.heap.size by have := hb.size; simp at this; omega)
  clear hb
  go_wp2_with fail
  refine (szc1.out _ (H1.out.below BZ1.out)).mono ?_
  rintro e z2 ⟨rfl, hb⟩
  replace K0_0 := cell_old hb K0_0
  replace K0_1 := cell_old hb K0_1
  replace K0_2 := cell_old hb K0_2
  replace K0_3 := cell_old hb K0_3
  have BZ2 := Lib.hid (BZ1.out.trans (hb.mono BZ1.out.size))
  replace ZB := Lib.hid (Nat.le_trans ZB.out hb.size)
  clear hb
  have Bc := Lib.hid BZ2.out
  clear B BZ1 BZ2 szc0 szc1
  go_upto_region 8 with fail
  have M0_0 : ∀ W, Below z2.heap.size z2 W → W.cell? ⟨w.heap.size, 0, none⟩ = some (.string L1.name) := fun W hW => cell_old hW K0_0
  have M0_1 : ∀ W, Below z2.heap.size z2 W → W.cell? ⟨w.heap.size, 1, none⟩ = some (.int .i64 L1.inp) := fun W hW => cell_old hW K0_1
  have M0_2 : ∀ W, Below z2.heap.size z2 W → W.cell? ⟨w.heap.size, 2, none⟩ = some (.int .i64 L1.out) := fun W hW => cell_old hW K0_2
  have M0_3 : ∀ W, Below z2.heap.size z2 W → W.cell? ⟨w.heap.size, 3, none⟩ = some ((.slice s_1 L1.body.length e_1)) := fun W hW => cell_old hW K0_3
  have HIK0_0 := Lib.hid K0_0
  have HIK0_1 := Lib.hid K0_1
  have HIK0_2 := Lib.hid K0_2
  have HIK0_3 := Lib.hid K0_3
  clear K0_0 K0_1 K0_2 K0_3
  have MA0 : Hid (∀ W, Below z2.heap.size z2 W → InD W (.slice s_0 L0.length e_0) L0) := fun W hW => H0.out.below (Bc.out.trans (hW.mono Bc.out.size))
  have MA1 : Hid (∀ W, Below z2.heap.size z2 W → InB W (.slice s_1 L1.body.length e_1) L1) := fun W hW => H1.out.below (Bc.out.trans (hW.mono Bc.out.size))
  go_region_held3 (fun W => Below z2.heap.size z2 W)
    (first | ((repeat (first | exact Below.refl _ _ | assumption | apply below_alloc | apply below_drewB | refine below_step ?_ hb_r | refine below_step ?_ hb_t1 | refine below_step ?_ hb_t0)); done))
    (first
      | (go_at_call 10; (with_reducible refine (toDefS_b  (.slice s_0 L0.length e_0) L0 _ (MA0.out _ (by repeat (first | exact Below.refl _ _ | assumption | apply below_alloc | apply below_drewB | refine below_step ?_ hb_t1 | refine below_step ?_ hb_t0))) T0.out).mono ?_); rintro e w_t0 ⟨v_t0, rfl, ho_t0, hb_t0⟩; obtain ⟨s_t0, e_t0, rfl⟩ := ho_t0.reads.form)
      | (go_at_call 19; (with_reducible refine (toDef_b  (.slice s_1 L1.body.length e_1) L1 _ (MA1.out _ (by repeat (first | exact Below.refl _ _ | assumption | apply below_alloc | apply below_drewB | refine below_step ?_ hb_t1 | refine below_step ?_ hb_t0))) T1.out).mono ?_); rintro e w_t1 ⟨v_t1, rfl, ho_t1, hb_t1⟩; obtain ⟨s_t1, e_t1, rfl⟩ := ho_t1.reads.form)
      | (go_at_call 18; (with_reducible refine (hs.out _ (.slice s_t0 L0.length e_t0) (.slice s_t1 L1.body.length e_t1) (ho_t0.reads.below (by repeat (first | exact Below.refl _ _ | assumption | apply below_alloc | apply below_drewB | refine below_step ?_ hb_t1 | refine below_step ?_ hb_t0))) (ho_t1.reads.below (by repeat (first | exact Below.refl _ _ | assumption | apply below_alloc | apply below_drewB | refine below_step ?_ hb_t1 | refine below_step ?_ hb_t0)))).mono ?_); rintro e u1 ⟨rfl, hb_r⟩))
  have hb : Below z2.heap.size z2 u1 := (by repeat (first | exact Below.refl _ _ | assumption | apply below_alloc | apply below_drewB | refine below_step ?_ hb_r | refine below_step ?_ hb_t1 | refine below_step ?_ hb_t0))
  clear hb_r hb_t0 ho_t0 hb_t1 ho_t1 M0_0 M0_1 M0_2 M0_3 MA0 MA1
  have K0_0 := HIK0_0.out
  have K0_1 := HIK0_1.out
  have K0_2 := HIK0_2.out
  have K0_3 := HIK0_3.out
  clear HIK0_0 HIK0_1 HIK0_2 HIK0_3
  replace K0_0 := cell_old hb K0_0
  replace K0_1 := cell_old hb K0_1
  replace K0_2 := cell_old hb K0_2
  replace K0_3 := cell_old hb K0_3
  have Y_u1 := Lib.hid hb.size
  replace Bc := Lib.hid (Bc.out.trans (hb.mono Bc.out.size))
  clear hb
  go_wp2_with fail
  refine (toDefS_b  (.slice s_0 L0.length e_0) L0 u1 (H0.out.below Bc.out) T0.out).mono ?_
  rintro e u2 ⟨v_x0, rfl, ho, hb⟩
  obtain ⟨s_x0, e_x0, rfl⟩ := ho.reads.form
  have F_x0 := Lib.hid ho.bound
  clear ho
  replace K0_0 := cell_old hb K0_0
  replace K0_1 := cell_old hb K0_1
  replace K0_2 := cell_old hb K0_2
  replace K0_3 := cell_old hb K0_3
  have Y_u2 := Lib.hid hb.size
  replace Bc := Lib.hid (Bc.out.trans (hb.mono Bc.out.size))
  clear hb
  go_wp2_with fail
  refine (toDef_b  (.slice s_1 L1.body.length e_1) L1 u2 (H1.out.below Bc.out) T1.out).mono ?_
  rintro e u3 ⟨v_x1, rfl, ho, hb⟩
  obtain ⟨s_x1, e_x1, rfl⟩ := ho.reads.form
  have F_x1 := Lib.hid ho.bound
  clear ho
  replace K0_0 := cell_old hb K0_0
  replace K0_1 := cell_old hb K0_1
  replace K0_2 := cell_old hb K0_2
  replace K0_3 := cell_old hb K0_3
  replace F_x0 := Lib.hid (F_x0.out.below hb)
  have Y_u3 := Lib.hid hb.size
  replace Bc := Lib.hid (Bc.out.trans (hb.mono Bc.out.size))
  clear hb
  obtain ⟨u4, hu4⟩ : ∃ W, W = u3.alloc (.cells #[.string L1.name, .int .i64 L1.inp, .int .i64 L1.out, (.slice s_x1 L1.body.length e_x1)] 44) := ⟨_, rfl⟩
  have hb : Below u3.heap.size u3 u4 := by rw [hu4]; exact (Below.refl _ _).alloc (Nat.le_refl _) _
  have ZA1 := Lib.hid (show u3.heap.size + 1 ≤ u4.heap.size by rw [hu4]; simp)
  replace K0_0 := cell_old hb K0_0
  replace K0_1 := cell_old hb K0_1
  replace K0_2 := cell_old hb K0_2
  replace K0_3 := cell_old hb K0_3
  replace F_x0 := Lib.hid (F_x0.out.below hb)
  replace F_x1 := Lib.hid (F_x1.out.below hb)
  have Y_u4 := Lib.hid hb.size
  replace Bc := Lib.hid (Bc.out.trans (hb.mono Bc.out.size))
  clear hb
  have K1_0 : u4.cell? ⟨u3.heap.size, 0, none⟩ = some (.string L1.name) := by rw [hu4]; simp [go_sem]
  have K1_1 : u4.cell? ⟨u3.heap.size, 1, none⟩ = some (.int .i64 L1.inp) := by rw [hu4]; simp [go_sem]
  have K1_2 : u4.cell? ⟨u3.heap.size, 2, none⟩ = some (.int .i64 L1.out) := by rw [hu4]; simp [go_sem]
  have K1_3 : u4.cell? ⟨u3.heap.size, 3, none⟩ = some ((.slice s_x1 L1.body.length e_x1)) := by rw [hu4]; simp [go_sem]
  have HA1 := Lib.hid hu4
  clear hu4
  rw [HA1.out] at K0_0 K0_1 K0_2 K0_3 K1_0 K1_1 K1_2 K1_3
  go_wp2_with fail
  rw [← HA1.out]
  rw [← HA1.out] at K0_0 K0_1 K0_2 K0_3 K1_0 K1_1 K1_2 K1_3
  refine (hi.out u4 (.slice s_x0 L0.length e_x0) (.slice s_x1 L1.body.length e_x1) F_x0.out.reads F_x1.out.reads).mono ?_
  rintro e u5 ⟨rfl, hb⟩
  replace K0_0 := cell_old hb K0_0
  replace K0_1 := cell_old hb K0_1
  replace K0_2 := cell_old hb K0_2
  replace K0_3 := cell_old hb K0_3
  replace K1_0 := cell_old hb K1_0
  replace K1_1 := cell_old hb K1_1
  replace K1_2 := cell_old hb K1_2
  replace K1_3 := cell_old hb K1_3
  replace F_x0 := Lib.hid (F_x0.out.below hb)
  replace F_x1 := Lib.hid (F_x1.out.below hb)
  have Y_u5 := Lib.hid hb.size
  replace Bc := Lib.hid (Bc.out.trans (hb.mono Bc.out.size))
  clear hb
  go_wp2_with fail
  refine (toDefS_b  (.slice s_0 L0.length e_0) L0 u5 (H0.out.below Bc.out) T0.out).mono ?_
  rintro e u6 ⟨v_c0, rfl, ho, hb⟩
  obtain ⟨s_c0, e_c0, rfl⟩ := ho.reads.form
  have F_c0 := Lib.hid ho.bound
  clear ho
  replace K0_0 := cell_old hb K0_0
  replace K0_1 := cell_old hb K0_1
  replace K0_2 := cell_old hb K0_2
  replace K0_3 := cell_old hb K0_3
  replace K1_0 := cell_old hb K1_0
  replace K1_1 := cell_old hb K1_1
  replace K1_2 := cell_old hb K1_2
  replace K1_3 := cell_old hb K1_3
  replace F_x0 := Lib.hid (F_x0.out.below hb)
  replace F_x1 := Lib.hid (F_x1.out.below hb)
  have Y_u6 := Lib.hid hb.size
  replace Bc := Lib.hid (Bc.out.trans (hb.mono Bc.out.size))
  clear hb
  go_wp2_with fail
  refine (eqDefS_same  (.slice s_x0 L0.length e_x0) (.slice s_c0 L0.length e_c0) L0 u6 F_x0.out.reads F_c0.out.reads).mono ?_
  rintro e u7 ⟨rfl, hb⟩
  replace K0_0 := cell_old hb K0_0
  replace K0_1 := cell_old hb K0_1
  replace K0_2 := cell_old hb K0_2
  replace K0_3 := cell_old hb K0_3
  replace K1_0 := cell_old hb K1_0
  replace K1_1 := cell_old hb K1_1
  replace K1_2 := cell_old hb K1_2
  replace K1_3 := cell_old hb K1_3
  replace F_x0 := Lib.hid (F_x0.out.below hb)
  replace F_x1 := Lib.hid (F_x1.out.below hb)
  replace F_c0 := Lib.hid (F_c0.out.below hb)
  have Y_u7 := Lib.hid hb.size
  replace Bc := Lib.hid (Bc.out.trans (hb.mono Bc.out.size))
  clear hb
  clear F_c0
  go_wp2_with fail
  have M1_0 : ∀ W, Below u7.heap.size u7 W → W.cell? ⟨u3.heap.size, 0, none⟩ = some (.string L1.name) := fun W hW => cell_old hW K1_0
  have M1_1 : ∀ W, Below u7.heap.size u7 W → W.cell? ⟨u3.heap.size, 1, none⟩ = some (.int .i64 L1.inp) := fun W hW => cell_old hW K1_1
  have M1_2 : ∀ W, Below u7.heap.size u7 W → W.cell? ⟨u3.heap.size, 2, none⟩ = some (.int .i64 L1.out) := fun W hW => cell_old hW K1_2
  have M1_3 : ∀ W, Below u7.heap.size u7 W → W.cell? ⟨u3.heap.size, 3, none⟩ = some ((.slice s_x1 L1.body.length e_x1)) := fun W hW => cell_old hW K1_3
  have M0_0 : ∀ W, Below u7.heap.size u7 W → W.cell? ⟨w.heap.size, 0, none⟩ = some (.string L1.name) := fun W hW => cell_old hW K0_0
  have M0_1 : ∀ W, Below u7.heap.size u7 W → W.cell? ⟨w.heap.size, 1, none⟩ = some (.int .i64 L1.inp) := fun W hW => cell_old hW K0_1
  have M0_2 : ∀ W, Below u7.heap.size u7 W → W.cell? ⟨w.heap.size, 2, none⟩ = some (.int .i64 L1.out) := fun W hW => cell_old hW K0_2
  have M0_3 : ∀ W, Below u7.heap.size u7 W → W.cell? ⟨w.heap.size, 3, none⟩ = some ((.slice s_1 L1.body.length e_1)) := fun W hW => cell_old hW K0_3
  have HIK0_0 := Lib.hid K0_0
  have HIK0_1 := Lib.hid K0_1
  have HIK0_2 := Lib.hid K0_2
  have HIK0_3 := Lib.hid K0_3
  have HIK1_0 := Lib.hid K1_0
  have HIK1_1 := Lib.hid K1_1
  have HIK1_2 := Lib.hid K1_2
  have HIK1_3 := Lib.hid K1_3
  clear K0_0 K0_1 K0_2 K0_3 K1_0 K1_1 K1_2 K1_3
  have MX : Hid (∀ W, Below u7.heap.size u7 W → ReadsB W (.slice s_x1 L1.body.length e_x1) L1) := fun W hW => F_x1.out.reads.below hW
  have MA : Hid (∀ W, Below u7.heap.size u7 W → InB W (.slice s_1 L1.body.length e_1) L1) := fun W hW => H1.out.below (Bc.out.trans (hW.mono Bc.out.size))
  go_region_held3 (fun W => Below u7.heap.size u7 W)
    (first | exact (Below.refl _ _).drew | exact below_step (by assumption) hb7_1 | exact below_step (by assumption) hb8_1)
    (first | (go_at_call 19; refine (toDef_b  (.slice s_1 L1.body.length e_1) L1 _ (MA.out _ (by assumption)) T1.out).mono ?_; rintro e W7_1 ⟨v_z7, rfl, ho7, hb7_1⟩) | (go_at_call 21; refine (eqDef_b  (.slice s_x1 L1.body.length e_x1) _ L1 _ (MX.out _ (by assumption)) ho7.reads).mono ?_; rintro e W8_1 ⟨rfl, hb8_1⟩))
  have hb : Below u7.heap.size u7 W8_1 := by assumption
  clear M1_0 M1_1 M1_2 M1_3 M0_0 M0_1 M0_2 M0_3 MX MA
  have K0_0 := HIK0_0.out
  have K0_1 := HIK0_1.out
  have K0_2 := HIK0_2.out
  have K0_3 := HIK0_3.out
  have K1_0 := HIK1_0.out
  have K1_1 := HIK1_1.out
  have K1_2 := HIK1_2.out
  have K1_3 := HIK1_3.out
  clear HIK0_0 HIK0_1 HIK0_2 HIK0_3 HIK1_0 HIK1_1 HIK1_2 HIK1_3
  replace K0_0 := cell_old hb K0_0
  replace K0_1 := cell_old hb K0_1
  replace K0_2 := cell_old hb K0_2
  replace K0_3 := cell_old hb K0_3
  replace K1_0 := cell_old hb K1_0
  replace K1_1 := cell_old hb K1_1
  replace K1_2 := cell_old hb K1_2
  replace K1_3 := cell_old hb K1_3
  replace F_x0 := Lib.hid (F_x0.out.below hb)
  replace F_x1 := Lib.hid (F_x1.out.below hb)
  have Y_W8_1 := Lib.hid hb.size
  replace Bc := Lib.hid (Bc.out.trans (hb.mono Bc.out.size))
  clear hb
  go_wp2
  go_ret
  exact ⟨rfl, Bc.out⟩
end Go.Proofs.YtlfcmlbffpmhkaaDoor.fnExactPrintDef
