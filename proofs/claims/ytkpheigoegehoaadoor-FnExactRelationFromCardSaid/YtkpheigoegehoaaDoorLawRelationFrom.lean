/- The law FnExactRelationFrom: both functions return the same, each in memory of its own, and what they are handed stays as it was. -/
import Derived.Test.YtkpheigoegehoaaDoorLawBase
import Derived.Test.YtkpheigoegehoaaDoorLawSS
import Derived.Test.YtkpheigoegehoaaDoorRelF
import Derived.Test.YtkpheigoegehoaaDoorRel
import Derived.Deep.RegionHeld3
import Derived.Deep.DeepCutAuto
namespace Go.Proofs.YtkpheigoegehoaaDoor.fnExactRelationFrom
open Go.RowKit Ints

set_option maxHeartbeats 8000000 in
set_option maxRecDepth 100000 in
theorem walk (a0 : Int) (_w0 : (Lit.int .i64 a0).wf = true) (a1 : Int) (_w1 : (Lit.int .i64 a1).wf = true) (a2 : Int) (_w2 : (Lit.int .i64 a2).wf = true) (v3 : Value) (L3 : List (List Int)) (w : World) (ht : Tab w) (h3 : ReadsM w v3 L3) :
    Calls Tryd.prog 8 #[.int .i64 a0, .int .i64 a1, .int .i64 a2, v3] w fun e w' => e = .returned (.bool true) ∧ Below w.heap.size w w' := by
  obtain ⟨s3, e3, rfl⟩ := h3.form
  have B := Lib.hid (Below.refl w.heap.size w)
  have H3 := Lib.hid h3
  have HT := Lib.hid ht
  clear h3 ht
  rcases szN_cases (tot L3) 1048576 with hneg | ⟨hle, hpos⟩
  · have szc0 := Lib.hid (fun W hW => szIntSS_b  (.slice s3 L3.length e3) L3 1048576 (by omega) (by omega) W hW)
    rw [hneg] at szc0
    clear hneg
    go_enter Tryd.func8, Tryd.ntmps8
    go_wp2_with fail
    refine (szc0.out _ (H3.out.below B.out)).mono ?_
    rintro e z1 ⟨rfl, hb⟩
    have BZ1 := Lib.hid (B.out.trans (hb.mono B.out.size))
    have ZB := Lib.hid hb.size
    clear hb
    go_wp2
    go_ret
    exact ⟨rfl, BZ1.out⟩
  have szc0 := Lib.hid (fun W hW => szIntSS_b  (.slice s3 L3.length e3) L3 1048576 (by omega) (by omega) W hW)
  obtain ⟨r0, hr0⟩ : ∃ r, szN (tot L3) 1048576 = r := ⟨_, rfl⟩
  rw [hr0] at szc0 hpos
  have r00 : 0 ≤ r0 := by omega
  have r01 : r0 ≤ 1048576 := by omega
  have r0b : decide (r0 < 0) = false := by simp; omega
  have T3 := Lib.hid (show tot L3 ≤ 1048576 by omega)
  clear hpos hr0 hle
  obtain ⟨b0, hb0⟩ : ∃ b, fitRel a0 a1 a2 L3 = b := ⟨_, rfl⟩
  obtain ⟨dx, hdx⟩ : ∃ d, relL a0 a1 a2 L3 = d := ⟨_, rfl⟩
  obtain ⟨dy, hdy⟩ : ∃ d, relR a0 a1 a2 L3 = d := ⟨_, rfl⟩
  obtain ⟨R, hR⟩ : ∃ R, relOut a0 a1 a2 L3 = R := ⟨_, rfl⟩
  have CTR := Lib.hid (relOut_ctr a0 a1 a2 L3)
  have hs := Lib.hid (fun W v h => specRel_any a0 a1 a2 _w1 v L3 W h)
  have hi := Lib.hid (fun W v t h => implRel_any a0 a1 a2 _w1 v L3 W t h)
  rw [hb0, hdx, hdy, hR] at hs hi
  rw [hR] at CTR
  clear hb0 hdx hdy hR
  have hq0 : (b0 != b0) = false := by simp
  go_enter Tryd.func8, Tryd.ntmps8
  go_wp2_with fail
  refine (szc0.out _ (H3.out.below B.out)).mono ?_
  rintro e z1 ⟨rfl, hb⟩
  have BZ1 := Lib.hid (B.out.trans (hb.mono B.out.size))
  have ZB := Lib.hid hb.size
  clear hb
  have Bc := Lib.hid BZ1.out
  clear B BZ1 szc0
  obtain ⟨ctR, hctR⟩ : ∃ c, sumL R = c := ⟨_, rfl⟩
  have nR0 : decide ((1 : Int) + (sumL R : Int) < 0) = false := by simp; omega
  have nR1 : ((1 : Int) + (sumL R : Int) != (1 : Int) + (sumL R : Int)) = false := by simp
  clear hctR
  have CTL3 := Lib.hid (show (1 : Int) + (sumL L3 : Int) ≤ 1000000000 by have := T3.out; unfold tot at this; unfold sumL; omega)
  obtain ⟨ctL3, hctL3⟩ : ∃ c, sumL L3 = c := ⟨_, rfl⟩
  have nL30 : decide ((1 : Int) + (sumL L3 : Int) < 0) = false := by simp; omega
  have nL31 : ((1 : Int) + (sumL L3 : Int) != (1 : Int) + (sumL L3 : Int)) = false := by simp
  clear hctL3
  go_wp2_with fail
  refine (toIntSS_any  (.slice s3 L3.length e3) L3 z1 (H3.out.below Bc.out) T3.out).mono ?_
  rintro e u1 ⟨v_t0, rfl, ho, hb⟩
  obtain ⟨s_t0, e_t0, rfl⟩ := ho.reads.form
  have F_t0 := Lib.hid ho.bound
  clear ho
  have Y_u1 := Lib.hid hb.size
  replace Bc := Lib.hid (Bc.out.trans (hb.mono Bc.out.size))
  clear hb
  go_wp2_with fail
  refine (hs.out u1 (.slice s_t0 L3.length e_t0) F_t0.out.reads).mono ?_
  rintro e u2 ⟨v_w0, rfl, ho, hb⟩
  obtain ⟨s_w0, e_w0, rfl⟩ := ho.reads.form
  have F_w0 := Lib.hid ho.bound
  clear ho
  replace F_t0 := Lib.hid (F_t0.out.below hb)
  have Y_u2 := Lib.hid hb.size
  replace Bc := Lib.hid (Bc.out.trans (hb.mono Bc.out.size))
  clear hb
  clear F_t0
  obtain ⟨u3, hu3⟩ : ∃ W, W = u2.alloc (.cells #[.int .i64 dx, .int .i64 dy, (.slice s_w0 R.length e_w0)] 27) := ⟨_, rfl⟩
  have hb : Below u2.heap.size u2 u3 := by rw [hu3]; exact (Below.refl _ _).alloc (Nat.le_refl _) _
  have ZA0 := Lib.hid (show u2.heap.size + 1 ≤ u3.heap.size by rw [hu3]; simp)
  replace F_w0 := Lib.hid (F_w0.out.below hb)
  have Y_u3 := Lib.hid hb.size
  replace Bc := Lib.hid (Bc.out.trans (hb.mono Bc.out.size))
  clear hb
  have K0_0 : u3.cell? ⟨u2.heap.size, 0, none⟩ = some (.int .i64 dx) := by rw [hu3]; simp [go_sem]
  have K0_1 : u3.cell? ⟨u2.heap.size, 1, none⟩ = some (.int .i64 dy) := by rw [hu3]; simp [go_sem]
  have K0_2 : u3.cell? ⟨u2.heap.size, 2, none⟩ = some ((.slice s_w0 R.length e_w0)) := by rw [hu3]; simp [go_sem]
  have HA0 := Lib.hid hu3
  clear hu3
  rw [HA0.out] at K0_0 K0_1 K0_2
  go_wp2_with fail
  rw [← HA0.out]
  rw [← HA0.out] at K0_0 K0_1 K0_2
  refine (toIntSS_any  (.slice s3 L3.length e3) L3 u3 (H3.out.below Bc.out) T3.out).mono ?_
  rintro e u4 ⟨v_x0, rfl, ho, hb⟩
  obtain ⟨s_x0, e_x0, rfl⟩ := ho.reads.form
  have F_x0 := Lib.hid ho.bound
  clear ho
  replace K0_0 := cell_old hb K0_0
  replace K0_1 := cell_old hb K0_1
  replace K0_2 := cell_old hb K0_2
  replace F_w0 := Lib.hid (F_w0.out.below hb)
  have Y_u4 := Lib.hid hb.size
  replace Bc := Lib.hid (Bc.out.trans (hb.mono Bc.out.size))
  clear hb
  go_wp2_with fail
  refine (hi.out u4 (.slice s_x0 L3.length e_x0) (HT.out.below HT.out.size Bc.out) F_x0.out.reads).mono ?_
  rintro e u5 ⟨v_g0, rfl, ho, hb⟩
  obtain ⟨s_g0, e_g0, rfl⟩ := ho.reads.form
  have F_g0 := Lib.hid ho.bound
  clear ho
  replace K0_0 := cell_old hb K0_0
  replace K0_1 := cell_old hb K0_1
  replace K0_2 := cell_old hb K0_2
  replace F_w0 := Lib.hid (F_w0.out.below hb)
  replace F_x0 := Lib.hid (F_x0.out.below hb)
  have Y_u5 := Lib.hid hb.size
  replace Bc := Lib.hid (Bc.out.trans (hb.mono Bc.out.size))
  clear hb
  obtain ⟨u6, hu6⟩ : ∃ W, W = u5.alloc (.cells #[.int .i64 dx, .int .i64 dy, (.slice s_g0 R.length e_g0)] 27) := ⟨_, rfl⟩
  have hb : Below u5.heap.size u5 u6 := by rw [hu6]; exact (Below.refl _ _).alloc (Nat.le_refl _) _
  have ZA1 := Lib.hid (show u5.heap.size + 1 ≤ u6.heap.size by rw [hu6]; simp)
  replace K0_0 := cell_old hb K0_0
  replace K0_1 := cell_old hb K0_1
  replace K0_2 := cell_old hb K0_2
  replace F_w0 := Lib.hid (F_w0.out.below hb)
  replace F_x0 := Lib.hid (F_x0.out.below hb)
  replace F_g0 := Lib.hid (F_g0.out.below hb)
  have Y_u6 := Lib.hid hb.size
  replace Bc := Lib.hid (Bc.out.trans (hb.mono Bc.out.size))
  clear hb
  have K1_0 : u6.cell? ⟨u5.heap.size, 0, none⟩ = some (.int .i64 dx) := by rw [hu6]; simp [go_sem]
  have K1_1 : u6.cell? ⟨u5.heap.size, 1, none⟩ = some (.int .i64 dy) := by rw [hu6]; simp [go_sem]
  have K1_2 : u6.cell? ⟨u5.heap.size, 2, none⟩ = some ((.slice s_g0 R.length e_g0)) := by rw [hu6]; simp [go_sem]
  have HA1 := Lib.hid hu6
  clear hu6
  rw [HA1.out] at K0_0 K0_1 K0_2 K1_0 K1_1 K1_2
  go_wp2_with fail
  rw [← HA1.out]
  rw [← HA1.out] at K0_0 K0_1 K0_2 K1_0 K1_1 K1_2
  refine (eqRelation_same dx dy (.slice s_g0 R.length e_g0) (.slice s_w0 R.length e_w0) R u6 F_g0.out.reads F_w0.out.reads).mono ?_
  rintro e u7 ⟨rfl, hb⟩
  replace K0_0 := cell_old hb K0_0
  replace K0_1 := cell_old hb K0_1
  replace K0_2 := cell_old hb K0_2
  replace K1_0 := cell_old hb K1_0
  replace K1_1 := cell_old hb K1_1
  replace K1_2 := cell_old hb K1_2
  replace F_w0 := Lib.hid (F_w0.out.below hb)
  replace F_x0 := Lib.hid (F_x0.out.below hb)
  replace F_g0 := Lib.hid (F_g0.out.below hb)
  have Y_u7 := Lib.hid hb.size
  replace Bc := Lib.hid (Bc.out.trans (hb.mono Bc.out.size))
  clear hb
  go_wp2_with fail
  refine (toIntSS_any  (.slice s3 L3.length e3) L3 u7 (H3.out.below Bc.out) T3.out).mono ?_
  rintro e u8 ⟨v_c3, rfl, ho, hb⟩
  obtain ⟨s_c3, e_c3, rfl⟩ := ho.reads.form
  have F_c3 := Lib.hid ho.bound
  clear ho
  replace K0_0 := cell_old hb K0_0
  replace K0_1 := cell_old hb K0_1
  replace K0_2 := cell_old hb K0_2
  replace K1_0 := cell_old hb K1_0
  replace K1_1 := cell_old hb K1_1
  replace K1_2 := cell_old hb K1_2
  replace F_w0 := Lib.hid (F_w0.out.below hb)
  replace F_x0 := Lib.hid (F_x0.out.below hb)
  replace F_g0 := Lib.hid (F_g0.out.below hb)
  have Y_u8 := Lib.hid hb.size
  replace Bc := Lib.hid (Bc.out.trans (hb.mono Bc.out.size))
  clear hb
  go_wp2_with fail
  refine (eqIntSS_same  (.slice s_x0 L3.length e_x0) (.slice s_c3 L3.length e_c3) L3 u8 F_x0.out.reads F_c3.out.reads).mono ?_
  rintro e u9 ⟨rfl, hb⟩
  replace K0_0 := cell_old hb K0_0
  replace K0_1 := cell_old hb K0_1
  replace K0_2 := cell_old hb K0_2
  replace K1_0 := cell_old hb K1_0
  replace K1_1 := cell_old hb K1_1
  replace K1_2 := cell_old hb K1_2
  replace F_w0 := Lib.hid (F_w0.out.below hb)
  replace F_x0 := Lib.hid (F_x0.out.below hb)
  replace F_g0 := Lib.hid (F_g0.out.below hb)
  replace F_c3 := Lib.hid (F_c3.out.below hb)
  have Y_u9 := Lib.hid hb.size
  replace Bc := Lib.hid (Bc.out.trans (hb.mono Bc.out.size))
  clear hb
  clear F_c3
  go_wp2_with fail
  refine (markIntSS_any (fun g => u3.heap.size ≤ g ∧ g < u4.heap.size)  (.slice s_x0 L3.length e_x0) L3 1 (by omega) CTL3.out u9 F_x0.out).mono ?_
  rintro e u10 ⟨rfl, ho, hc⟩
  replace K0_0 := hc.keep K0_0 (fun hS => by have := ZB.out; have := Y_u1.out; have := Y_u2.out; have := ZA0.out; have := Y_u3.out; have := Y_u4.out; have := Y_u5.out; have := ZA1.out; have := Y_u6.out; have := Y_u7.out; have := Y_u8.out; have := Y_u9.out; (try simp only at hS); omega)
  replace K0_1 := hc.keep K0_1 (fun hS => by have := ZB.out; have := Y_u1.out; have := Y_u2.out; have := ZA0.out; have := Y_u3.out; have := Y_u4.out; have := Y_u5.out; have := ZA1.out; have := Y_u6.out; have := Y_u7.out; have := Y_u8.out; have := Y_u9.out; (try simp only at hS); omega)
  replace K0_2 := hc.keep K0_2 (fun hS => by have := ZB.out; have := Y_u1.out; have := Y_u2.out; have := ZA0.out; have := Y_u3.out; have := Y_u4.out; have := Y_u5.out; have := ZA1.out; have := Y_u6.out; have := Y_u7.out; have := Y_u8.out; have := Y_u9.out; (try simp only at hS); omega)
  replace K1_0 := hc.keep K1_0 (fun hS => by have := ZB.out; have := Y_u1.out; have := Y_u2.out; have := ZA0.out; have := Y_u3.out; have := Y_u4.out; have := Y_u5.out; have := ZA1.out; have := Y_u6.out; have := Y_u7.out; have := Y_u8.out; have := Y_u9.out; (try simp only at hS); omega)
  replace K1_1 := hc.keep K1_1 (fun hS => by have := ZB.out; have := Y_u1.out; have := Y_u2.out; have := ZA0.out; have := Y_u3.out; have := Y_u4.out; have := Y_u5.out; have := ZA1.out; have := Y_u6.out; have := Y_u7.out; have := Y_u8.out; have := Y_u9.out; (try simp only at hS); omega)
  replace K1_2 := hc.keep K1_2 (fun hS => by have := ZB.out; have := Y_u1.out; have := Y_u2.out; have := ZA0.out; have := Y_u3.out; have := Y_u4.out; have := Y_u5.out; have := ZA1.out; have := Y_u6.out; have := Y_u7.out; have := Y_u8.out; have := Y_u9.out; (try simp only at hS); omega)
  replace F_w0 := Lib.hid (F_w0.out.chg hc (fun g h1 h2 => by have := ZB.out; have := Y_u1.out; have := Y_u2.out; have := ZA0.out; have := Y_u3.out; have := Y_u4.out; have := Y_u5.out; have := ZA1.out; have := Y_u6.out; have := Y_u7.out; have := Y_u8.out; have := Y_u9.out; (try simp only at h1 h2); omega))
  replace F_g0 := Lib.hid (F_g0.out.chg hc (fun g h1 h2 => by have := ZB.out; have := Y_u1.out; have := Y_u2.out; have := ZA0.out; have := Y_u3.out; have := Y_u4.out; have := Y_u5.out; have := ZA1.out; have := Y_u6.out; have := Y_u7.out; have := Y_u8.out; have := Y_u9.out; (try simp only at h1 h2); omega))
  replace F_x0 := Lib.hid ho
  have Y_u10 := Lib.hid hc.size
  replace Bc := Lib.hid (Bc.out.trans (hc.below (by have := ZB.out; have := Y_u1.out; have := Y_u2.out; have := ZA0.out; have := Y_u3.out; have := Y_u4.out; have := Y_u5.out; have := ZA1.out; have := Y_u6.out; have := Y_u7.out; have := Y_u8.out; have := Y_u9.out; have := Y_u10.out; omega) (fun g h1 => by have := ZB.out; have := Y_u1.out; have := Y_u2.out; have := ZA0.out; have := Y_u3.out; have := Y_u4.out; have := Y_u5.out; have := ZA1.out; have := Y_u6.out; have := Y_u7.out; have := Y_u8.out; have := Y_u9.out; have := Y_u10.out; (try simp only at h1); omega)))
  clear ho hc
  go_wp2_with fail
  refine (eqRelation_same dx dy (.slice s_g0 R.length e_g0) (.slice s_w0 R.length e_w0) R u10 F_g0.out.reads F_w0.out.reads).mono ?_
  rintro e u11 ⟨rfl, hb⟩
  replace K0_0 := cell_old hb K0_0
  replace K0_1 := cell_old hb K0_1
  replace K0_2 := cell_old hb K0_2
  replace K1_0 := cell_old hb K1_0
  replace K1_1 := cell_old hb K1_1
  replace K1_2 := cell_old hb K1_2
  replace F_w0 := Lib.hid (F_w0.out.below hb)
  replace F_x0 := Lib.hid (F_x0.out.below hb)
  replace F_g0 := Lib.hid (F_g0.out.below hb)
  have Y_u11 := Lib.hid hb.size
  replace Bc := Lib.hid (Bc.out.trans (hb.mono Bc.out.size))
  clear hb
  clear F_x0
  go_wp2_with fail
  refine (markRelation_any (fun g => u4.heap.size ≤ g ∧ g < u5.heap.size) dx dy (.slice s_g0 R.length e_g0) R 1 (by omega) CTR.out u11 F_g0.out).mono ?_
  rintro e u12 ⟨rfl, ho, hc⟩
  replace K0_0 := hc.keep K0_0 (fun hS => by have := ZB.out; have := Y_u1.out; have := Y_u2.out; have := ZA0.out; have := Y_u3.out; have := Y_u4.out; have := Y_u5.out; have := ZA1.out; have := Y_u6.out; have := Y_u7.out; have := Y_u8.out; have := Y_u9.out; have := Y_u10.out; have := Y_u11.out; (try simp only at hS); omega)
  replace K0_1 := hc.keep K0_1 (fun hS => by have := ZB.out; have := Y_u1.out; have := Y_u2.out; have := ZA0.out; have := Y_u3.out; have := Y_u4.out; have := Y_u5.out; have := ZA1.out; have := Y_u6.out; have := Y_u7.out; have := Y_u8.out; have := Y_u9.out; have := Y_u10.out; have := Y_u11.out; (try simp only at hS); omega)
  replace K0_2 := hc.keep K0_2 (fun hS => by have := ZB.out; have := Y_u1.out; have := Y_u2.out; have := ZA0.out; have := Y_u3.out; have := Y_u4.out; have := Y_u5.out; have := ZA1.out; have := Y_u6.out; have := Y_u7.out; have := Y_u8.out; have := Y_u9.out; have := Y_u10.out; have := Y_u11.out; (try simp only at hS); omega)
  replace K1_0 := hc.keep K1_0 (fun hS => by have := ZB.out; have := Y_u1.out; have := Y_u2.out; have := ZA0.out; have := Y_u3.out; have := Y_u4.out; have := Y_u5.out; have := ZA1.out; have := Y_u6.out; have := Y_u7.out; have := Y_u8.out; have := Y_u9.out; have := Y_u10.out; have := Y_u11.out; (try simp only at hS); omega)
  replace K1_1 := hc.keep K1_1 (fun hS => by have := ZB.out; have := Y_u1.out; have := Y_u2.out; have := ZA0.out; have := Y_u3.out; have := Y_u4.out; have := Y_u5.out; have := ZA1.out; have := Y_u6.out; have := Y_u7.out; have := Y_u8.out; have := Y_u9.out; have := Y_u10.out; have := Y_u11.out; (try simp only at hS); omega)
  replace K1_2 := hc.keep K1_2 (fun hS => by have := ZB.out; have := Y_u1.out; have := Y_u2.out; have := ZA0.out; have := Y_u3.out; have := Y_u4.out; have := Y_u5.out; have := ZA1.out; have := Y_u6.out; have := Y_u7.out; have := Y_u8.out; have := Y_u9.out; have := Y_u10.out; have := Y_u11.out; (try simp only at hS); omega)
  replace F_w0 := Lib.hid (F_w0.out.chg hc (fun g h1 h2 => by have := ZB.out; have := Y_u1.out; have := Y_u2.out; have := ZA0.out; have := Y_u3.out; have := Y_u4.out; have := Y_u5.out; have := ZA1.out; have := Y_u6.out; have := Y_u7.out; have := Y_u8.out; have := Y_u9.out; have := Y_u10.out; have := Y_u11.out; (try simp only at h1 h2); omega))
  replace F_g0 := Lib.hid ho
  have Y_u12 := Lib.hid hc.size
  replace Bc := Lib.hid (Bc.out.trans (hc.below (by have := ZB.out; have := Y_u1.out; have := Y_u2.out; have := ZA0.out; have := Y_u3.out; have := Y_u4.out; have := Y_u5.out; have := ZA1.out; have := Y_u6.out; have := Y_u7.out; have := Y_u8.out; have := Y_u9.out; have := Y_u10.out; have := Y_u11.out; have := Y_u12.out; omega) (fun g h1 => by have := ZB.out; have := Y_u1.out; have := Y_u2.out; have := ZA0.out; have := Y_u3.out; have := Y_u4.out; have := Y_u5.out; have := ZA1.out; have := Y_u6.out; have := Y_u7.out; have := Y_u8.out; have := Y_u9.out; have := Y_u10.out; have := Y_u11.out; have := Y_u12.out; (try simp only at h1); omega)))
  clear ho hc
  go_wp2_with fail
  refine (heldRelation_any dx dy (.slice s_g0 R.length e_g0) R 1 (by omega) CTR.out u12 F_g0.out.reads).mono ?_
  rintro e u13 ⟨rfl, hb⟩
  replace K0_0 := cell_old hb K0_0
  replace K0_1 := cell_old hb K0_1
  replace K0_2 := cell_old hb K0_2
  replace K1_0 := cell_old hb K1_0
  replace K1_1 := cell_old hb K1_1
  replace K1_2 := cell_old hb K1_2
  replace F_w0 := Lib.hid (F_w0.out.below hb)
  replace F_g0 := Lib.hid (F_g0.out.below hb)
  have Y_u13 := Lib.hid hb.size
  replace Bc := Lib.hid (Bc.out.trans (hb.mono Bc.out.size))
  clear hb
  go_wp2_with fail
  refine (toIntSS_any  (.slice s3 L3.length e3) L3 u13 (H3.out.below Bc.out) T3.out).mono ?_
  rintro e u14 ⟨v_y0, rfl, ho, hb⟩
  obtain ⟨s_y0, e_y0, rfl⟩ := ho.reads.form
  have F_y0 := Lib.hid ho.bound
  clear ho
  replace K0_0 := cell_old hb K0_0
  replace K0_1 := cell_old hb K0_1
  replace K0_2 := cell_old hb K0_2
  replace K1_0 := cell_old hb K1_0
  replace K1_1 := cell_old hb K1_1
  replace K1_2 := cell_old hb K1_2
  replace F_w0 := Lib.hid (F_w0.out.below hb)
  replace F_g0 := Lib.hid (F_g0.out.below hb)
  have Y_u14 := Lib.hid hb.size
  replace Bc := Lib.hid (Bc.out.trans (hb.mono Bc.out.size))
  clear hb
  go_wp2_with fail
  refine (hi.out u14 (.slice s_y0 L3.length e_y0) (HT.out.below HT.out.size Bc.out) F_y0.out.reads).mono ?_
  rintro e u15 ⟨v_h0, rfl, ho, hb⟩
  obtain ⟨s_h0, e_h0, rfl⟩ := ho.reads.form
  have F_h0 := Lib.hid ho.bound
  clear ho
  replace K0_0 := cell_old hb K0_0
  replace K0_1 := cell_old hb K0_1
  replace K0_2 := cell_old hb K0_2
  replace K1_0 := cell_old hb K1_0
  replace K1_1 := cell_old hb K1_1
  replace K1_2 := cell_old hb K1_2
  replace F_w0 := Lib.hid (F_w0.out.below hb)
  replace F_g0 := Lib.hid (F_g0.out.below hb)
  replace F_y0 := Lib.hid (F_y0.out.below hb)
  have Y_u15 := Lib.hid hb.size
  replace Bc := Lib.hid (Bc.out.trans (hb.mono Bc.out.size))
  clear hb
  clear F_y0
  obtain ⟨u16, hu16⟩ : ∃ W, W = u15.alloc (.cells #[.int .i64 dx, .int .i64 dy, (.slice s_h0 R.length e_h0)] 27) := ⟨_, rfl⟩
  have hb : Below u15.heap.size u15 u16 := by rw [hu16]; exact (Below.refl _ _).alloc (Nat.le_refl _) _
  have ZA2 := Lib.hid (show u15.heap.size + 1 ≤ u16.heap.size by rw [hu16]; simp)
  replace K0_0 := cell_old hb K0_0
  replace K0_1 := cell_old hb K0_1
  replace K0_2 := cell_old hb K0_2
  replace K1_0 := cell_old hb K1_0
  replace K1_1 := cell_old hb K1_1
  replace K1_2 := cell_old hb K1_2
  replace F_w0 := Lib.hid (F_w0.out.below hb)
  replace F_g0 := Lib.hid (F_g0.out.below hb)
  replace F_h0 := Lib.hid (F_h0.out.below hb)
  have Y_u16 := Lib.hid hb.size
  replace Bc := Lib.hid (Bc.out.trans (hb.mono Bc.out.size))
  clear hb
  have K2_0 : u16.cell? ⟨u15.heap.size, 0, none⟩ = some (.int .i64 dx) := by rw [hu16]; simp [go_sem]
  have K2_1 : u16.cell? ⟨u15.heap.size, 1, none⟩ = some (.int .i64 dy) := by rw [hu16]; simp [go_sem]
  have K2_2 : u16.cell? ⟨u15.heap.size, 2, none⟩ = some ((.slice s_h0 R.length e_h0)) := by rw [hu16]; simp [go_sem]
  have HA2 := Lib.hid hu16
  clear hu16
  rw [HA2.out] at K0_0 K0_1 K0_2 K1_0 K1_1 K1_2 K2_0 K2_1 K2_2
  go_wp2_with fail
  rw [← HA2.out]
  rw [← HA2.out] at K0_0 K0_1 K0_2 K1_0 K1_1 K1_2 K2_0 K2_1 K2_2
  refine (eqRelation_same dx dy (.slice s_h0 R.length e_h0) (.slice s_w0 R.length e_w0) R u16 F_h0.out.reads F_w0.out.reads).mono ?_
  rintro e u17 ⟨rfl, hb⟩
  replace K0_0 := cell_old hb K0_0
  replace K0_1 := cell_old hb K0_1
  replace K0_2 := cell_old hb K0_2
  replace K1_0 := cell_old hb K1_0
  replace K1_1 := cell_old hb K1_1
  replace K1_2 := cell_old hb K1_2
  replace K2_0 := cell_old hb K2_0
  replace K2_1 := cell_old hb K2_1
  replace K2_2 := cell_old hb K2_2
  replace F_w0 := Lib.hid (F_w0.out.below hb)
  replace F_g0 := Lib.hid (F_g0.out.below hb)
  replace F_h0 := Lib.hid (F_h0.out.below hb)
  have Y_u17 := Lib.hid hb.size
  replace Bc := Lib.hid (Bc.out.trans (hb.mono Bc.out.size))
  clear hb
  go_wp2_with fail
  refine (heldRelation_any dx dy (.slice s_g0 R.length e_g0) R 1 (by omega) CTR.out u17 F_g0.out.reads).mono ?_
  rintro e u18 ⟨rfl, hb⟩
  replace K0_0 := cell_old hb K0_0
  replace K0_1 := cell_old hb K0_1
  replace K0_2 := cell_old hb K0_2
  replace K1_0 := cell_old hb K1_0
  replace K1_1 := cell_old hb K1_1
  replace K1_2 := cell_old hb K1_2
  replace K2_0 := cell_old hb K2_0
  replace K2_1 := cell_old hb K2_1
  replace K2_2 := cell_old hb K2_2
  replace F_w0 := Lib.hid (F_w0.out.below hb)
  replace F_g0 := Lib.hid (F_g0.out.below hb)
  replace F_h0 := Lib.hid (F_h0.out.below hb)
  have Y_u18 := Lib.hid hb.size
  replace Bc := Lib.hid (Bc.out.trans (hb.mono Bc.out.size))
  clear hb
  go_wp2
  go_ret
  exact ⟨rfl, Bc.out⟩
end Go.Proofs.YtkpheigoegehoaaDoor.fnExactRelationFrom
