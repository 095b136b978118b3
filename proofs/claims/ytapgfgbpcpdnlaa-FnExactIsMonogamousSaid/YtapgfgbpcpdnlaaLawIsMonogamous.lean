/- The law FnExactIsMonogamous: both functions return the same, each in memory of its own, and what they are handed stays as it was. -/
import Derived.Test.YtapgfgbpcpdnlaaLawBase
import Derived.Test.YtapgfgbpcpdnlaaMonoF
import Derived.Test.YtapgfgbpcpdnlaaGraphE
import Derived.Deep.RegionHeld3
import Derived.Deep.DeepCutAuto
namespace Go.Proofs.Ytapgfgbpcpdnlaa.fnExactIsMonogamous
open Go.RowKit Ints

set_option maxHeartbeats 8000000 in
set_option maxRecDepth 100000 in
theorem walk (c0x : Int) (v0 v0b v0c : Value) (L0 : GraphL) (w : World) (h0 : ReadsG w v0 v0b v0c L0) :
    Calls Try.prog 3 #[.agg #[.int .i64 c0x, v0, v0b, v0c]] w fun e w' => e = .returned (.bool true) ∧ Below w.heap.size w w' := by
  obtain ⟨s_0, e_0, s_0b, e_0b, s_0c, e_0c, rfl, rfl, rfl⟩ := h0.form
  have B := Lib.hid ((Below.refl w.heap.size w).alloc (Nat.le_refl _) (.cells #[.int .i64 c0x, (.slice s_0 L0.edges.length e_0), (.slice s_0b L0.ins.length e_0b), (.slice s_0c L0.outs.length e_0c)] 25))
  have H0 := Lib.hid h0
  clear h0
  rcases szN_cases (totG L0) 1048576 with hneg | ⟨hle, hpos⟩
  · have szc0 := Lib.hid (fun W hW => szGraph_any c0x (.slice s_0 L0.edges.length e_0) (.slice s_0b L0.ins.length e_0b) (.slice s_0c L0.outs.length e_0c) L0 1048576 (by omega) (by omega) W hW)
    rw [hneg] at szc0
    clear hneg
    go_enter Try.func3, Try.ntmps3
    go_wp2_with fail
    refine (szc0.out _ (H0.out.below B.out)).mono ?_
    rintro e z1 ⟨rfl, hb⟩
    have K0_0 : z1.cell? ⟨w.heap.size, 0, none⟩ = some (.int .i64 c0x) := cell_old hb (by simp [go_sem])
    have K0_1 : z1.cell? ⟨w.heap.size, 1, none⟩ = some ((.slice s_0 L0.edges.length e_0)) := cell_old hb (by simp [go_sem])
    have K0_2 : z1.cell? ⟨w.heap.size, 2, none⟩ = some ((.slice s_0b L0.ins.length e_0b)) := cell_old hb (by simp [go_sem])
    have K0_3 : z1.cell? ⟨w.heap.size, 3, none⟩ = some ((.slice s_0c L0.outs.length e_0c)) := cell_old hb (by simp [go_sem])
    have BZ1 := Lib.hid (B.out.trans (hb.mono B.out.size))
    have ZB := Lib.hid (show w.heap.size + 1 ≤ z1.heap.size by have := hb.size; simp at this; omega)
    clear hb
    go_wp2
    go_ret
    exact ⟨rfl, BZ1.out⟩
  have szc0 := Lib.hid (fun W hW => szGraph_any c0x (.slice s_0 L0.edges.length e_0) (.slice s_0b L0.ins.length e_0b) (.slice s_0c L0.outs.length e_0c) L0 1048576 (by omega) (by omega) W hW)
  obtain ⟨r0, hr0⟩ : ∃ r, szN (totG L0) 1048576 = r := ⟨_, rfl⟩
  rw [hr0] at szc0 hpos
  have r00 : 0 ≤ r0 := by omega
  have r01 : r0 ≤ 1048576 := by omega
  have r0b : decide (r0 < 0) = false := by simp; omega
  have T0 := Lib.hid (show totG L0 ≤ 1048576 by omega)
  clear hpos hr0 hle
  obtain ⟨b0, hb0⟩ : ∃ b, moB c0x L0 = b := ⟨_, rfl⟩
  have hs := Lib.hid (fun W v1 v2 v3 h => specMono_any c0x v1 v2 v3 L0 W h T0.out)
  have hi := Lib.hid (fun W v1 v2 v3 h => implMono_any c0x v1 v2 v3 L0 W h)
  rw [hb0] at hs hi
  clear hb0
  have hq0 : (b0 != b0) = false := by simp
  go_enter Try.func3, Try.ntmps3
  go_wp2_with fail
  refine (szc0.out _ (H0.out.below B.out)).mono ?_
  rintro e z1 ⟨rfl, hb⟩
  have K0_0 : z1.cell? ⟨w.heap.size, 0, none⟩ = some (.int .i64 c0x) := cell_old hb (by simp [go_sem])
  have K0_1 : z1.cell? ⟨w.heap.size, 1, none⟩ = some ((.slice s_0 L0.edges.length e_0)) := cell_old hb (by simp [go_sem])
  have K0_2 : z1.cell? ⟨w.heap.size, 2, none⟩ = some ((.slice s_0b L0.ins.length e_0b)) := cell_old hb (by simp [go_sem])
  have K0_3 : z1.cell? ⟨w.heap.size, 3, none⟩ = some ((.slice s_0c L0.outs.length e_0c)) := cell_old hb (by simp [go_sem])
  have BZ1 := Lib.hid (B.out.trans (hb.mono B.out.size))
  have ZB := Lib.hid (show w.heap.size + 1 ≤ z1.heap.size by have := hb.size; simp at this; omega)
  clear hb
  have Bc := Lib.hid BZ1.out
  clear B BZ1 szc0
  go_wp2_with fail
  refine (toGraph_any c0x (.slice s_0 L0.edges.length e_0) (.slice s_0b L0.ins.length e_0b) (.slice s_0c L0.outs.length e_0c) L0 z1 (H0.out.below Bc.out) T0.out).mono ?_
  rintro e u1 ⟨v_t0, v_t0b, v_t0c, rfl, ho, hb⟩
  obtain ⟨s_t0, e_t0, s_t0b, e_t0b, s_t0c, e_t0c, rfl, rfl, rfl⟩ := ho.reads.form
  have F_t0 := Lib.hid ho.bound
  clear ho
  replace K0_0 := cell_old hb K0_0
  replace K0_1 := cell_old hb K0_1
  replace K0_2 := cell_old hb K0_2
  replace K0_3 := cell_old hb K0_3
  have Y_u1 := Lib.hid hb.size
  replace Bc := Lib.hid (Bc.out.trans (hb.mono Bc.out.size))
  clear hb
  go_wp2_with fail
  refine (hs.out u1 (.slice s_t0 L0.edges.length e_t0) (.slice s_t0b L0.ins.length e_t0b) (.slice s_t0c L0.outs.length e_t0c) F_t0.out.reads).mono ?_
  rintro e u2 ⟨rfl, hb⟩
  replace K0_0 := cell_old hb K0_0
  replace K0_1 := cell_old hb K0_1
  replace K0_2 := cell_old hb K0_2
  replace K0_3 := cell_old hb K0_3
  replace F_t0 := Lib.hid (F_t0.out.below hb)
  have Y_u2 := Lib.hid hb.size
  replace Bc := Lib.hid (Bc.out.trans (hb.mono Bc.out.size))
  clear hb
  clear F_t0
  go_wp2_with fail
  refine (toGraph_any c0x (.slice s_0 L0.edges.length e_0) (.slice s_0b L0.ins.length e_0b) (.slice s_0c L0.outs.length e_0c) L0 u2 (H0.out.below Bc.out) T0.out).mono ?_
  rintro e u3 ⟨v_x0, v_x0b, v_x0c, rfl, ho, hb⟩
  obtain ⟨s_x0, e_x0, s_x0b, e_x0b, s_x0c, e_x0c, rfl, rfl, rfl⟩ := ho.reads.form
  have F_x0 := Lib.hid ho.bound
  clear ho
  replace K0_0 := cell_old hb K0_0
  replace K0_1 := cell_old hb K0_1
  replace K0_2 := cell_old hb K0_2
  replace K0_3 := cell_old hb K0_3
  have Y_u3 := Lib.hid hb.size
  replace Bc := Lib.hid (Bc.out.trans (hb.mono Bc.out.size))
  clear hb
  obtain ⟨u4, hu4⟩ : ∃ W, W = u3.alloc (.cells #[.int .i64 c0x, (.slice s_x0 L0.edges.length e_x0), (.slice s_x0b L0.ins.length e_x0b), (.slice s_x0c L0.outs.length e_x0c)] 30) := ⟨_, rfl⟩
  have hb : Below u3.heap.size u3 u4 := by rw [hu4]; exact (Below.refl _ _).alloc (Nat.le_refl _) _
  have ZA1 := Lib.hid (show u3.heap.size + 1 ≤ u4.heap.size by rw [hu4]; simp)
  replace K0_0 := cell_old hb K0_0
  replace K0_1 := cell_old hb K0_1
  replace K0_2 := cell_old hb K0_2
  replace K0_3 := cell_old hb K0_3
  replace F_x0 := Lib.hid (F_x0.out.below hb)
  have Y_u4 := Lib.hid hb.size
  replace Bc := Lib.hid (Bc.out.trans (hb.mono Bc.out.size))
  clear hb
  have K1_0 : u4.cell? ⟨u3.heap.size, 0, none⟩ = some (.int .i64 c0x) := by rw [hu4]; simp [go_sem]
  have K1_1 : u4.cell? ⟨u3.heap.size, 1, none⟩ = some ((.slice s_x0 L0.edges.length e_x0)) := by rw [hu4]; simp [go_sem]
  have K1_2 : u4.cell? ⟨u3.heap.size, 2, none⟩ = some ((.slice s_x0b L0.ins.length e_x0b)) := by rw [hu4]; simp [go_sem]
  have K1_3 : u4.cell? ⟨u3.heap.size, 3, none⟩ = some ((.slice s_x0c L0.outs.length e_x0c)) := by rw [hu4]; simp [go_sem]
  have HA1 := Lib.hid hu4
  clear hu4
  rw [HA1.out] at K0_0 K0_1 K0_2 K0_3 K1_0 K1_1 K1_2 K1_3
  go_wp2_with fail
  rw [← HA1.out]
  rw [← HA1.out] at K0_0 K0_1 K0_2 K0_3 K1_0 K1_1 K1_2 K1_3
  refine (hi.out u4 (.slice s_x0 L0.edges.length e_x0) (.slice s_x0b L0.ins.length e_x0b) (.slice s_x0c L0.outs.length e_x0c) F_x0.out.reads).mono ?_
  rintro e u5 ⟨rfl, hb⟩
  replace K0_0 := cell_old hb K0_0
  replace K0_1 := cell_old hb K0_1
  replace K0_2 := cell_old hb K0_2
  replace K0_3 := cell_old hb K0_3
  replace K1_0 := cell_old hb K1_0
  replace K1_1 := cell_old hb K1_1
  replace K1_2 := cell_old hb K1_2
  replace K1_3 := cell_old hb K1_3
  replace F_x0 := Lib.hid (F_x0.out.below hb)
  have Y_u5 := Lib.hid hb.size
  replace Bc := Lib.hid (Bc.out.trans (hb.mono Bc.out.size))
  clear hb
  go_wp2_with fail
  have M1_0 : ∀ W, Below u5.heap.size u5 W → W.cell? ⟨u3.heap.size, 0, none⟩ = some (.int .i64 c0x) := fun W hW => cell_old hW K1_0
  have M1_1 : ∀ W, Below u5.heap.size u5 W → W.cell? ⟨u3.heap.size, 1, none⟩ = some ((.slice s_x0 L0.edges.length e_x0)) := fun W hW => cell_old hW K1_1
  have M1_2 : ∀ W, Below u5.heap.size u5 W → W.cell? ⟨u3.heap.size, 2, none⟩ = some ((.slice s_x0b L0.ins.length e_x0b)) := fun W hW => cell_old hW K1_2
  have M1_3 : ∀ W, Below u5.heap.size u5 W → W.cell? ⟨u3.heap.size, 3, none⟩ = some ((.slice s_x0c L0.outs.length e_x0c)) := fun W hW => cell_old hW K1_3
  have M0_0 : ∀ W, Below u5.heap.size u5 W → W.cell? ⟨w.heap.size, 0, none⟩ = some (.int .i64 c0x) := fun W hW => cell_old hW K0_0
  have M0_1 : ∀ W, Below u5.heap.size u5 W → W.cell? ⟨w.heap.size, 1, none⟩ = some ((.slice s_0 L0.edges.length e_0)) := fun W hW => cell_old hW K0_1
  have M0_2 : ∀ W, Below u5.heap.size u5 W → W.cell? ⟨w.heap.size, 2, none⟩ = some ((.slice s_0b L0.ins.length e_0b)) := fun W hW => cell_old hW K0_2
  have M0_3 : ∀ W, Below u5.heap.size u5 W → W.cell? ⟨w.heap.size, 3, none⟩ = some ((.slice s_0c L0.outs.length e_0c)) := fun W hW => cell_old hW K0_3
  have HIK0_0 := Lib.hid K0_0
  have HIK0_1 := Lib.hid K0_1
  have HIK0_2 := Lib.hid K0_2
  have HIK0_3 := Lib.hid K0_3
  have HIK1_0 := Lib.hid K1_0
  have HIK1_1 := Lib.hid K1_1
  have HIK1_2 := Lib.hid K1_2
  have HIK1_3 := Lib.hid K1_3
  clear K0_0 K0_1 K0_2 K0_3 K1_0 K1_1 K1_2 K1_3
  have MX : Hid (∀ W, Below u5.heap.size u5 W → ReadsG W (.slice s_x0 L0.edges.length e_x0) (.slice s_x0b L0.ins.length e_x0b) (.slice s_x0c L0.outs.length e_x0c) L0) := fun W hW => F_x0.out.reads.below hW
  have MA : Hid (∀ W, Below u5.heap.size u5 W → ReadsG W (.slice s_0 L0.edges.length e_0) (.slice s_0b L0.ins.length e_0b) (.slice s_0c L0.outs.length e_0c) L0) := fun W hW => H0.out.below (Bc.out.trans (hW.mono Bc.out.size))
  go_region_held3 (fun W => Below u5.heap.size u5 W)
    (first | exact (Below.refl _ _).drew | exact below_step (by assumption) hb7_1 | exact below_step (by assumption) hb8_1)
    (first | (go_at_call 6; refine (toGraph_any c0x (.slice s_0 L0.edges.length e_0) (.slice s_0b L0.ins.length e_0b) (.slice s_0c L0.outs.length e_0c) L0 _ (MA.out _ (by assumption)) T0.out).mono ?_; rintro e W7_1 ⟨v_z7, v_z7b, v_z7c, rfl, ho7, hb7_1⟩) | (go_at_call 8; refine (eqGraph_same c0x (.slice s_x0 L0.edges.length e_x0) (.slice s_x0b L0.ins.length e_x0b) (.slice s_x0c L0.outs.length e_x0c) _ _ _ L0 _ (MX.out _ (by assumption)) ho7.reads).mono ?_; rintro e W8_1 ⟨rfl, hb8_1⟩))
  have hb : Below u5.heap.size u5 W8_1 := by assumption
  clear M1_0 M1_1 M1_2 M1_3 M0_0 M0_1 M0_2 M0_3 MX MA
  have K0_0 := HIK0_0.out
  have K0_1 := HIK0_1.out
  have K0_2 := HIK0_2.out
  have K0_3 := HIK0_3.out
  have K1_0 := HIK1_0.out
  have K1_1 := HIK1_1.out
  have K1_2 := HIK1_2.out
  have K1_3 := HIK1_3.out
  clear HIK0_0 HIK0_1 HIK0_2 HIK0_3 HIK1_0 HIK1_1 HIK1_2 HIK1_3
  replace K0_0 := cell_old hb K0_0
  replace K0_1 := cell_old hb K0_1
  replace K0_2 := cell_old hb K0_2
  replace K0_3 := cell_old hb K0_3
  replace K1_0 := cell_old hb K1_0
  replace K1_1 := cell_old hb K1_1
  replace K1_2 := cell_old hb K1_2
  replace K1_3 := cell_old hb K1_3
  replace F_x0 := Lib.hid (F_x0.out.below hb)
  have Y_W8_1 := Lib.hid hb.size
  replace Bc := Lib.hid (Bc.out.trans (hb.mono Bc.out.size))
  clear hb
  go_wp2
  go_ret
  exact ⟨rfl, Bc.out⟩
end Go.Proofs.Ytapgfgbpcpdnlaa.fnExactIsMonogamous
