/- Printing: the leaves' texts of both sides. -/
import Derived.Test.YtlfcmlbffpmhkaaDoorPrA
import Derived.Deep.RegionHeld3
namespace Go.Proofs.YtlfcmlbffpmhkaaDoor
open Go.RowKit
namespace Ints

/-- What a leaf of a valid term is, for printing. -/
def leafR (n : NodeL) : Prop := n.kind = 17 ∨ 1 ≤ n.kind ∧ n.kind ≤ 14 ∧ ((n.kind = 1 ∨ n.kind = 7 ∨ n.kind = 13) → 0 ≤ n.value ∧ n.value < 100)
theorem leafR_of {ds : List DefL} {n : NodeL} (h : wireOf ds n ≠ none) : leafR n := by
  rcases leaf_of h with h2 | ⟨h17, _⟩
  · exact .inr (leaf_rng h2)
  · exact .inl h17

set_option maxRecDepth 100000 in
set_option maxHeartbeats 2000000 in
theorem leafText_any (n : NodeL) (hr : leafR n) (w : World) : Calls Tryd.prog 48 #[.agg #[.int .i64 n.kind, .int .i64 n.value, .string n.name]] w fun e w' => e = .returned (.string (leafS n)) ∧ Below w.heap.size w w' := by
  obtain ⟨k, v, s⟩ := n
  unfold leafR at hr
  dsimp only at hr ⊢
  obtain ⟨w0, hw0⟩ : ∃ W, W = w.alloc (.cells #[.int .i64 k, .int .i64 v, .string s] 73) := ⟨_, rfl⟩
  have hB : Below w.heap.size w w0 := by rw [hw0]; exact below_alloc (Below.refl _ _)
  have HB := Lib.hid hB
  have HW := Lib.hid hw0
  have c0 : w0.cell? ⟨w.heap.size, 0, none⟩ = some (.int .i64 k) := by rw [hw0]; simp [go_sem]
  have c1 : w0.cell? ⟨w.heap.size, 1, none⟩ = some (.int .i64 v) := by rw [hw0]; simp [go_sem]
  have c2 : w0.cell? ⟨w.heap.size, 2, none⟩ = some (.string s) := by rw [hw0]; simp [go_sem]
  clear hB
  by_cases h17 : k = 17
  · subst h17
    have e : Hid (leafS ⟨17, v, s⟩ = s) := by show _ = _; unfold leafS; rw [if_pos rfl]
    rw [hw0] at c0 c1 c2
    clear hr hw0
    go_enter Tryd.func48, Tryd.ntmps48
    go_wp2
    go_ret
    rw [← HW.out]
    exact ⟨by rw [e.out]; rfl, HB.out⟩
  · obtain ⟨h1, h14, hv⟩ := hr.resolve_left h17
    have b17 : (k == 17) = false := by simpa using h17
    obtain ⟨m, rfl⟩ := Int.eq_ofNat_of_zero_le (show 0 ≤ k by omega)
    have Z0 : ∀ W, Below w0.heap.size w0 W → W.cell? ⟨w.heap.size, 0, none⟩ = some (.int .i64 (m : Int)) := fun W hW => cell_old hW c0
    have hk0 : 0 ≤ (m : Int) := by omega
    have hk15 : (m : Int) < 15 := by omega
    have hkw := Lib.hid (fun W => kindWords_any W)
    have hkx := Lib.hid (kwS_size (m : Int))
    have HKD : Hid (kwS (m : Int) = sAt kwords m) := Lib.hid rfl
    obtain ⟨kw, hkwe⟩ : ∃ x, sAt kwords m = x := ⟨_, rfl⟩
    rw [HKD.out, hkwe] at hkx
    have HKW : Hid (∀ W V, ReadsS W V kwords → ∃ a cap, V = .slice a 15 cap ∧ ∃ g off, a = some ⟨g, off, none⟩ ∧ W.cell? ⟨g, off + m, none⟩ = some (.string kw)) := by
      refine Lib.hid fun W V h => ?_
      obtain ⟨a, cap, rfl, _, hc⟩ := open_readsS h
      obtain ⟨g, off, rfl, _, hx⟩ := hc m (by show m < 15; omega)
      exact ⟨_, _, rfl, g, off, rfl, by rw [← hkwe]; exact hx⟩
    have hks : kw.size ≤ 9 := hkx.out
    by_cases hval : (m : Int) = 1 ∨ (m : Int) = 7 ∨ (m : Int) = 13
    · obtain ⟨hv0, hv1⟩ := hv hval
      have hit := Lib.hid (fun W => itoa_any v hv0 hv1 W)
      have e : Hid (leafS ⟨(m : Int), v, s⟩ = kw ++ ⟨#[32]⟩ ++ decS v) := by
        show _ = _
        unfold leafS
        rw [if_neg h17, if_pos hval, HKD.out, hkwe, ByteArray.append_assoc]
      have hds := decS_size v
      obtain ⟨dv, hdv⟩ : ∃ x, decS v = x := ⟨_, rfl⟩
      rw [hdv] at hit e hds
      have hn1 : ¬ (9223372036854775807 < kw.size + 1) := by omega
      have hn2 : ¬ (9223372036854775807 < kw.size + 1 + dv.size) := by omega
      have Z1 : ∀ W, Below w0.heap.size w0 W → W.cell? ⟨w.heap.size, 1, none⟩ = some (.int .i64 v) := fun W hW => cell_old hW c1
      rw [hw0] at c0 c1 c2
      clear hdv hkx hkwe hv hv0 hv1 hr hw0 h17
      have c0' : w0.cell? ⟨w.heap.size, 0, none⟩ = some (.int .i64 (m : Int)) := Z0 w0 (Below.refl _ _)
      have c1' : w0.cell? ⟨w.heap.size, 1, none⟩ = some (.int .i64 v) := Z1 w0 (Below.refl _ _)
      by_cases hm1 : (m : Int) = 1
      · have b1 : ((m : Int) == 1) = true := by simpa using hm1
        clear hm1 hval
        go_enter Tryd.func48, Tryd.ntmps48
        go_upto_region 4 with fail
        rw [← HW.out]
        go_region_law (first | (go_simp; (with_reducible refine (hkw.out _).mono ?_); rintro e w_1 ⟨v_1, rfl, hr_1, hb_1⟩; obtain ⟨a_1, cp_1, rfl, g_1, o_1, rfl, z_1⟩ := HKW.out _ _ hr_1; have bb_1 := below_step (w := w0) (w1 := w0.drew) (Below.refl _ _).drew hb_1; have x_1 := Z0 w_1 bb_1; have y_1 := Z1 w_1 bb_1) | (go_simp; (with_reducible refine (hit.out _).mono ?_); rintro e w_2 ⟨rfl, rfl⟩))
        all_goals
          go_wp2
          go_ret
          exact ⟨by rw [e.out]; rfl, below_step HB.out bb_1⟩
      · have b1 : ((m : Int) == 1) = false := by simpa using hm1
        have hhv := Lib.hid (fun W => hasV_any (m : Int) W)
        have ed : decide ((m : Int) = 7 ∨ (m : Int) = 13) = true := by simp; omega
        rw [ed] at hhv
        clear hm1 hval ed
        go_enter Tryd.func48, Tryd.ntmps48
        go_upto_region 4 with (go_at_call 69; ((with_reducible refine (hhv.out _).mono ?_); rintro e w' ⟨rfl, rfl⟩))
        rw [← HW.out]
        go_region_law (first | (go_simp; (with_reducible refine (hkw.out _).mono ?_); rintro e w_1 ⟨v_1, rfl, hr_1, hb_1⟩; obtain ⟨a_1, cp_1, rfl, g_1, o_1, rfl, z_1⟩ := HKW.out _ _ hr_1; have bb_1 := below_step (w := w0) (w1 := w0.drew) (Below.refl _ _).drew hb_1; have x_1 := Z0 w_1 bb_1; have y_1 := Z1 w_1 bb_1) | (go_simp; (with_reducible refine (hit.out _).mono ?_); rintro e w_2 ⟨rfl, rfl⟩))
        all_goals
          go_wp2
          go_ret
          exact ⟨by rw [e.out]; rfl, below_step HB.out bb_1⟩
    · have b1 : ((m : Int) == 1) = false := by simp; omega
      have c0' : w0.cell? ⟨w.heap.size, 0, none⟩ = some (.int .i64 (m : Int)) := Z0 w0 (Below.refl _ _)
      have hhv := Lib.hid (fun W => hasV_any (m : Int) W)
      have ed : decide ((m : Int) = 7 ∨ (m : Int) = 13) = false := by simp; omega
      rw [ed] at hhv
      have e : Hid (leafS ⟨(m : Int), v, s⟩ = kw) := by
        show _ = _
        unfold leafS
        rw [if_neg h17, if_neg hval, HKD.out, hkwe]
      rw [hw0] at c0 c1 c2
      clear ed hval hkx hkwe hv hr hw0 h17
      go_enter Tryd.func48, Tryd.ntmps48
      go_upto_region 5 with (go_at_call 69; ((with_reducible refine (hhv.out _).mono ?_); rintro e w' ⟨rfl, rfl⟩))
      rw [← HW.out]
      go_region_law (first | (go_simp; (with_reducible refine (hkw.out _).mono ?_); rintro e w_1 ⟨v_1, rfl, hr_1, hb_1⟩; obtain ⟨a_1, cp_1, rfl, g_1, o_1, rfl, z_1⟩ := HKW.out _ _ hr_1; have bb_1 := below_step (w := w0) (w1 := w0.drew) (Below.refl _ _).drew hb_1; have x_1 := Z0 w_1 bb_1))
      all_goals
        go_wp2
        go_ret
        exact ⟨by rw [e.out]; rfl, below_step HB.out bb_1⟩

end Ints
end Go.Proofs.YtlfcmlbffpmhkaaDoor
