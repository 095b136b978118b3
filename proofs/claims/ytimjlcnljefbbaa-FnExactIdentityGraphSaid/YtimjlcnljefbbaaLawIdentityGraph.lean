/- The law FnExactIdentityGraph: both functions return the same, each in memory of its own, and what they are handed stays as it was. -/
import Derived.Test.YtimjlcnljefbbaaLawBase
import Derived.Test.YtimjlcnljefbbaaIdGF
import Derived.Deep.RegionHeld3
import Derived.Deep.DeepCutAuto
namespace Go.Proofs.Ytimjlcnljefbbaa.fnExactIdentityGraph
open Go.RowKit Ints

set_option maxHeartbeats 8000000 in
set_option maxRecDepth 100000 in
theorem walk (a0 : Int) (_w0 : (Lit.int .i64 a0).wf = true) (w : World)  :
    Calls Try.prog 6 #[.int .i64 a0] w fun e w' => e = .returned (.bool true) ∧ Below w.heap.size w w' := by
  have B := Lib.hid (Below.refl w.heap.size w)
  obtain ⟨b0, hb0⟩ : ∃ b, igB a0 = b := ⟨_, rfl⟩
  obtain ⟨dx, hdx⟩ : ∃ d, igN a0 = d := ⟨_, rfl⟩
  obtain ⟨R, hR⟩ : ∃ R, igOut a0 = R := ⟨_, rfl⟩
  have CTR := Lib.hid (igOut_ctr a0)
  have hs := Lib.hid (fun W => specIG_any a0 W)
  have hi := Lib.hid (fun W => implIG_any a0 W)
  rw [hb0, hdx, hR] at hs hi
  rw [hR] at CTR
  clear hb0 hdx hR
  have hq0 : (b0 != b0) = false := by simp
  go_enter Try.func6, Try.ntmps6
  have Bc := Lib.hid (Below.refl w.heap.size w)
  clear B
  have nR0 : decide ((1 : Int) + (sumP R : Int) < 0) = false := by simp; omega
  have nR1 : ((1 : Int) + (sumP R : Int) != (1 : Int) + (sumP R : Int)) = false := by simp
  go_wp2_with fail
  refine (hs.out w  ).mono ?_
  rintro e u1 ⟨v_w0, v_w0b, rfl, ho, hb⟩
  obtain ⟨s_w0, e_w0, s_w0b, e_w0b, rfl, rfl⟩ := ho.reads.form
  have F_w0 := Lib.hid ho.bound
  clear ho
  have Y_u1 := Lib.hid hb.size
  replace Bc := Lib.hid (Bc.out.trans (hb.mono Bc.out.size))
  clear hb
  obtain ⟨u2, hu2⟩ : ∃ W, W = u1.alloc (.cells #[.int .i64 dx, .slice none 0 0, (.slice s_w0 R.1.length e_w0), (.slice s_w0b R.2.length e_w0b)] 49) := ⟨_, rfl⟩
  have hb : Below u1.heap.size u1 u2 := by rw [hu2]; exact (Below.refl _ _).alloc (Nat.le_refl _) _
  have ZA0 := Lib.hid (show u1.heap.size + 1 ≤ u2.heap.size by rw [hu2]; simp)
  replace F_w0 := Lib.hid (F_w0.out.below hb)
  have Y_u2 := Lib.hid hb.size
  replace Bc := Lib.hid (Bc.out.trans (hb.mono Bc.out.size))
  clear hb
  have K0_0 : u2.cell? ⟨u1.heap.size, 0, none⟩ = some (.int .i64 dx) := by rw [hu2]; simp [go_sem]
  have K0_1 : u2.cell? ⟨u1.heap.size, 1, none⟩ = some (.slice none 0 0) := by rw [hu2]; simp [go_sem]
  have K0_2 : u2.cell? ⟨u1.heap.size, 2, none⟩ = some ((.slice s_w0 R.1.length e_w0)) := by rw [hu2]; simp [go_sem]
  have K0_3 : u2.cell? ⟨u1.heap.size, 3, none⟩ = some ((.slice s_w0b R.2.length e_w0b)) := by rw [hu2]; simp [go_sem]
  have HA0 := Lib.hid hu2
  clear hu2
  rw [HA0.out] at K0_0 K0_1 K0_2 K0_3
  go_wp2_with fail
  rw [← HA0.out]
  rw [← HA0.out] at K0_0 K0_1 K0_2 K0_3
  refine (hi.out u2  ).mono ?_
  rintro e u3 ⟨v_g0, v_g0b, rfl, ho, hb⟩
  obtain ⟨s_g0, e_g0, s_g0b, e_g0b, rfl, rfl⟩ := ho.reads.form
  have F_g0 := Lib.hid ho.bound
  clear ho
  replace K0_0 := cell_old hb K0_0
  replace K0_1 := cell_old hb K0_1
  replace K0_2 := cell_old hb K0_2
  replace K0_3 := cell_old hb K0_3
  replace F_w0 := Lib.hid (F_w0.out.below hb)
  have Y_u3 := Lib.hid hb.size
  replace Bc := Lib.hid (Bc.out.trans (hb.mono Bc.out.size))
  clear hb
  obtain ⟨u4, hu4⟩ : ∃ W, W = u3.alloc (.cells #[.int .i64 dx, .slice none 0 0, (.slice s_g0 R.1.length e_g0), (.slice s_g0b R.2.length e_g0b)] 49) := ⟨_, rfl⟩
  have hb : Below u3.heap.size u3 u4 := by rw [hu4]; exact (Below.refl _ _).alloc (Nat.le_refl _) _
  have ZA1 := Lib.hid (show u3.heap.size + 1 ≤ u4.heap.size by rw [hu4]; simp)
  replace K0_0 := cell_old hb K0_0
  replace K0_1 := cell_old hb K0_1
  replace K0_2 := cell_old hb K0_2
  replace K0_3 := cell_old hb K0_3
  replace F_w0 := Lib.hid (F_w0.out.below hb)
  replace F_g0 := Lib.hid (F_g0.out.below hb)
  have Y_u4 := Lib.hid hb.size
  replace Bc := Lib.hid (Bc.out.trans (hb.mono Bc.out.size))
  clear hb
  have K1_0 : u4.cell? ⟨u3.heap.size, 0, none⟩ = some (.int .i64 dx) := by rw [hu4]; simp [go_sem]
  have K1_1 : u4.cell? ⟨u3.heap.size, 1, none⟩ = some (.slice none 0 0) := by rw [hu4]; simp [go_sem]
  have K1_2 : u4.cell? ⟨u3.heap.size, 2, none⟩ = some ((.slice s_g0 R.1.length e_g0)) := by rw [hu4]; simp [go_sem]
  have K1_3 : u4.cell? ⟨u3.heap.size, 3, none⟩ = some ((.slice s_g0b R.2.length e_g0b)) := by rw [hu4]; simp [go_sem]
  have HA1 := Lib.hid hu4
  clear hu4
  rw [HA1.out] at K0_0 K0_1 K0_2 K0_3 K1_0 K1_1 K1_2 K1_3
  go_wp2_with fail
  rw [← HA1.out]
  rw [← HA1.out] at K0_0 K0_1 K0_2 K0_3 K1_0 K1_1 K1_2 K1_3
  refine (eqGraphR_same dx (.slice s_g0 R.1.length e_g0) (.slice s_g0b R.2.length e_g0b) (.slice s_w0 R.1.length e_w0) (.slice s_w0b R.2.length e_w0b) R u4 F_g0.out.reads F_w0.out.reads).mono ?_
  rintro e u5 ⟨rfl, hb⟩
  replace K0_0 := cell_old hb K0_0
  replace K0_1 := cell_old hb K0_1
  replace K0_2 := cell_old hb K0_2
  replace K0_3 := cell_old hb K0_3
  replace K1_0 := cell_old hb K1_0
  replace K1_1 := cell_old hb K1_1
  replace K1_2 := cell_old hb K1_2
  replace K1_3 := cell_old hb K1_3
  replace F_w0 := Lib.hid (F_w0.out.below hb)
  replace F_g0 := Lib.hid (F_g0.out.below hb)
  have Y_u5 := Lib.hid hb.size
  replace Bc := Lib.hid (Bc.out.trans (hb.mono Bc.out.size))
  clear hb
  go_wp2_with fail
  refine (markGraphR_any (fun g => u2.heap.size ≤ g ∧ g < u3.heap.size) dx (.slice s_g0 R.1.length e_g0) (.slice s_g0b R.2.length e_g0b) R 1 (by omega) CTR.out u5 F_g0.out).mono ?_
  rintro e u6 ⟨rfl, ho, hc⟩
  replace K0_0 := hc.keep K0_0 (fun hS => by have := Y_u1.out; have := ZA0.out; have := Y_u2.out; have := Y_u3.out; have := ZA1.out; have := Y_u4.out; have := Y_u5.out; (try simp only at hS); omega)
  replace K0_1 := hc.keep K0_1 (fun hS => by have := Y_u1.out; have := ZA0.out; have := Y_u2.out; have := Y_u3.out; have := ZA1.out; have := Y_u4.out; have := Y_u5.out; (try simp only at hS); omega)
  replace K0_2 := hc.keep K0_2 (fun hS => by have := Y_u1.out; have := ZA0.out; have := Y_u2.out; have := Y_u3.out; have := ZA1.out; have := Y_u4.out; have := Y_u5.out; (try simp only at hS); omega)
  replace K0_3 := hc.keep K0_3 (fun hS => by have := Y_u1.out; have := ZA0.out; have := Y_u2.out; have := Y_u3.out; have := ZA1.out; have := Y_u4.out; have := Y_u5.out; (try simp only at hS); omega)
  replace K1_0 := hc.keep K1_0 (fun hS => by have := Y_u1.out; have := ZA0.out; have := Y_u2.out; have := Y_u3.out; have := ZA1.out; have := Y_u4.out; have := Y_u5.out; (try simp only at hS); omega)
  replace K1_1 := hc.keep K1_1 (fun hS => by have := Y_u1.out; have := ZA0.out; have := Y_u2.out; have := Y_u3.out; have := ZA1.out; have := Y_u4.out; have := Y_u5.out; (try simp only at hS); omega)
  replace K1_2 := hc.keep K1_2 (fun hS => by have := Y_u1.out; have := ZA0.out; have := Y_u2.out; have := Y_u3.out; have := ZA1.out; have := Y_u4.out; have := Y_u5.out; (try simp only at hS); omega)
  replace K1_3 := hc.keep K1_3 (fun hS => by have := Y_u1.out; have := ZA0.out; have := Y_u2.out; have := Y_u3.out; have := ZA1.out; have := Y_u4.out; have := Y_u5.out; (try simp only at hS); omega)
  replace F_w0 := Lib.hid (F_w0.out.chg hc (fun g h1 h2 => by have := Y_u1.out; have := ZA0.out; have := Y_u2.out; have := Y_u3.out; have := ZA1.out; have := Y_u4.out; have := Y_u5.out; (try simp only at h1 h2); omega))
  replace F_g0 := Lib.hid ho
  have Y_u6 := Lib.hid hc.size
  replace Bc := Lib.hid (Bc.out.trans (hc.below (by have := Y_u1.out; have := ZA0.out; have := Y_u2.out; have := Y_u3.out; have := ZA1.out; have := Y_u4.out; have := Y_u5.out; have := Y_u6.out; omega) (fun g h1 => by have := Y_u1.out; have := ZA0.out; have := Y_u2.out; have := Y_u3.out; have := ZA1.out; have := Y_u4.out; have := Y_u5.out; have := Y_u6.out; (try simp only at h1); omega)))
  clear ho hc
  go_wp2_with fail
  refine (heldGraphR_any dx (.slice s_g0 R.1.length e_g0) (.slice s_g0b R.2.length e_g0b) R 1 (by omega) CTR.out u6 F_g0.out.reads).mono ?_
  rintro e u7 ⟨rfl, hb⟩
  replace K0_0 := cell_old hb K0_0
  replace K0_1 := cell_old hb K0_1
  replace K0_2 := cell_old hb K0_2
  replace K0_3 := cell_old hb K0_3
  replace K1_0 := cell_old hb K1_0
  replace K1_1 := cell_old hb K1_1
  replace K1_2 := cell_old hb K1_2
  replace K1_3 := cell_old hb K1_3
  replace F_w0 := Lib.hid (F_w0.out.below hb)
  replace F_g0 := Lib.hid (F_g0.out.below hb)
  have Y_u7 := Lib.hid hb.size
  replace Bc := Lib.hid (Bc.out.trans (hb.mono Bc.out.size))
  clear hb
  go_wp2_with fail
  refine (hi.out u7  ).mono ?_
  rintro e u8 ⟨v_h0, v_h0b, rfl, ho, hb⟩
  obtain ⟨s_h0, e_h0, s_h0b, e_h0b, rfl, rfl⟩ := ho.reads.form
  have F_h0 := Lib.hid ho.bound
  clear ho
  replace K0_0 := cell_old hb K0_0
  replace K0_1 := cell_old hb K0_1
  replace K0_2 := cell_old hb K0_2
  replace K0_3 := cell_old hb K0_3
  replace K1_0 := cell_old hb K1_0
  replace K1_1 := cell_old hb K1_1
  replace K1_2 := cell_old hb K1_2
  replace K1_3 := cell_old hb K1_3
  replace F_w0 := Lib.hid (F_w0.out.below hb)
  replace F_g0 := Lib.hid (F_g0.out.below hb)
  have Y_u8 := Lib.hid hb.size
  replace Bc := Lib.hid (Bc.out.trans (hb.mono Bc.out.size))
  clear hb
  obtain ⟨u9, hu9⟩ : ∃ W, W = u8.alloc (.cells #[.int .i64 dx, .slice none 0 0, (.slice s_h0 R.1.length e_h0), (.slice s_h0b R.2.length e_h0b)] 49) := ⟨_, rfl⟩
  have hb : Below u8.heap.size u8 u9 := by rw [hu9]; exact (Below.refl _ _).alloc (Nat.le_refl _) _
  have ZA2 := Lib.hid (show u8.heap.size + 1 ≤ u9.heap.size by rw [hu9]; simp)
  replace K0_0 := cell_old hb K0_0
  replace K0_1 := cell_old hb K0_1
  replace K0_2 := cell_old hb K0_2
  replace K0_3 := cell_old hb K0_3
  replace K1_0 := cell_old hb K1_0
  replace K1_1 := cell_old hb K1_1
  replace K1_2 := cell_old hb K1_2
  replace K1_3 := cell_old hb K1_3
  replace F_w0 := Lib.hid (F_w0.out.below hb)
  replace F_g0 := Lib.hid (F_g0.out.below hb)
  replace F_h0 := Lib.hid (F_h0.out.below hb)
  have Y_u9 := Lib.hid hb.size
  replace Bc := Lib.hid (Bc.out.trans (hb.mono Bc.out.size))
  clear hb
  have K2_0 : u9.cell? ⟨u8.heap.size, 0, none⟩ = some (.int .i64 dx) := by rw [hu9]; simp [go_sem]
  have K2_1 : u9.cell? ⟨u8.heap.size, 1, none⟩ = some (.slice none 0 0) := by rw [hu9]; simp [go_sem]
  have K2_2 : u9.cell? ⟨u8.heap.size, 2, none⟩ = some ((.slice s_h0 R.1.length e_h0)) := by rw [hu9]; simp [go_sem]
  have K2_3 : u9.cell? ⟨u8.heap.size, 3, none⟩ = some ((.slice s_h0b R.2.length e_h0b)) := by rw [hu9]; simp [go_sem]
  have HA2 := Lib.hid hu9
  clear hu9
  rw [HA2.out] at K0_0 K0_1 K0_2 K0_3 K1_0 K1_1 K1_2 K1_3 K2_0 K2_1 K2_2 K2_3
  go_wp2_with fail
  rw [← HA2.out]
  rw [← HA2.out] at K0_0 K0_1 K0_2 K0_3 K1_0 K1_1 K1_2 K1_3 K2_0 K2_1 K2_2 K2_3
  refine (eqGraphR_same dx (.slice s_h0 R.1.length e_h0) (.slice s_h0b R.2.length e_h0b) (.slice s_w0 R.1.length e_w0) (.slice s_w0b R.2.length e_w0b) R u9 F_h0.out.reads F_w0.out.reads).mono ?_
  rintro e u10 ⟨rfl, hb⟩
  replace K0_0 := cell_old hb K0_0
  replace K0_1 := cell_old hb K0_1
  replace K0_2 := cell_old hb K0_2
  replace K0_3 := cell_old hb K0_3
  replace K1_0 := cell_old hb K1_0
  replace K1_1 := cell_old hb K1_1
  replace K1_2 := cell_old hb K1_2
  replace K1_3 := cell_old hb K1_3
  replace K2_0 := cell_old hb K2_0
  replace K2_1 := cell_old hb K2_1
  replace K2_2 := cell_old hb K2_2
  replace K2_3 := cell_old hb K2_3
  replace F_w0 := Lib.hid (F_w0.out.below hb)
  replace F_g0 := Lib.hid (F_g0.out.below hb)
  replace F_h0 := Lib.hid (F_h0.out.below hb)
  have Y_u10 := Lib.hid hb.size
  replace Bc := Lib.hid (Bc.out.trans (hb.mono Bc.out.size))
  clear hb
  go_wp2_with fail
  refine (heldGraphR_any dx (.slice s_g0 R.1.length e_g0) (.slice s_g0b R.2.length e_g0b) R 1 (by omega) CTR.out u10 F_g0.out.reads).mono ?_
  rintro e u11 ⟨rfl, hb⟩
  replace K0_0 := cell_old hb K0_0
  replace K0_1 := cell_old hb K0_1
  replace K0_2 := cell_old hb K0_2
  replace K0_3 := cell_old hb K0_3
  replace K1_0 := cell_old hb K1_0
  replace K1_1 := cell_old hb K1_1
  replace K1_2 := cell_old hb K1_2
  replace K1_3 := cell_old hb K1_3
  replace K2_0 := cell_old hb K2_0
  replace K2_1 := cell_old hb K2_1
  replace K2_2 := cell_old hb K2_2
  replace K2_3 := cell_old hb K2_3
  replace F_w0 := Lib.hid (F_w0.out.below hb)
  replace F_g0 := Lib.hid (F_g0.out.below hb)
  replace F_h0 := Lib.hid (F_h0.out.below hb)
  have Y_u11 := Lib.hid hb.size
  replace Bc := Lib.hid (Bc.out.trans (hb.mono Bc.out.size))
  clear hb
  go_wp2
  go_ret
  exact ⟨rfl, Bc.out⟩
end Go.Proofs.Ytimjlcnljefbbaa.fnExactIdentityGraph
