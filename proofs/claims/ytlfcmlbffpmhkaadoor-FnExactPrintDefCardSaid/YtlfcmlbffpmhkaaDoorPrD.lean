/- Printing: the reference's texts of leaves. -/
import Derived.Test.YtlfcmlbffpmhkaaDoorPrB
import Derived.Test.YtlfcmlbffpmhkaaDoorMark
namespace Go.Proofs.YtlfcmlbffpmhkaaDoor
open Go.RowKit
namespace Ints

theorem run_byte_at (W : World) (g : Nat) (x : Int) (h : W.heap[g]? = some (.cells #[.int .u8 x] 5 (0, 0))) : (convert 119 9 (.slice (some ⟨g, 0, none⟩) 1 1)).run Tryd.prog W = .ok (.string ⟨#[UInt8.ofNat x.toNat]⟩) W := by
  rw [run_convert_bytes_string _ _ _ 5 _ _ _ Tryd.underlying119 Tryd.underlying5 Tryd.underlying9]
  rw [run_bytesToString _ ⟨g, 0, none⟩ 1 1 [x]]
  · rfl
  · refine run_loadCells_list (P := Tryd.prog) _ _ [.int .u8 x] (fun j y hj => ?_)
    have hj0 : j = 0 := by
      have := (List.getElem?_eq_some_iff.1 hj).1
      simp at this
      omega
    subst hj0
    simp only [List.getElem?_cons_zero, Option.some.injEq] at hj
    subst hj
    rw [show (⟨g, 0, none⟩ : Addr).add 0 = ⟨g, 0, none⟩ from rfl, cell_of_row W g 0 #[.int .u8 x] 5 (0, 0) h]
    rfl

set_option maxRecDepth 100000 in
set_option maxHeartbeats 1000000 in
theorem l1Num_one (m : Nat) (h : m < 10) (w : World) : Calls Tryd.prog 64 #[.int .i64 (m : Int)] w fun e w' => e = .returned (.string (dg1 m)) ∧ Below w.heap.size w w' := by
  have hcv := run_byte_string
  have hw1 : IntKind.i64.wrap (48 + (m : Int)) = 48 + (m : Int) := IntWalk.i64_in _ (by omega)
  have hw2 : IntKind.u8.wrap (48 + (m : Int)) = 48 + (m : Int) := by unfold IntKind.wrap; simp [IntKind.bits, IntKind.signed]; omega
  have htn : (48 + (m : Int)).toNat = 48 + m := by omega
  have hlt : (m : Int) < 10 := by omega
  have HE : Hid ((⟨#[48 + UInt8.ofNat m]⟩ : ByteArray) = dg1 m) := Lib.hid rfl
  have HB := Lib.hid (below_alloc (o := .cells #[.int .u8 (48 + (m : Int))] 5) (Below.refl w.heap.size w))
  go_enter Tryd.func64, Tryd.ntmps64
  go_wp2
  go_ret
  exact ⟨by rw [← HE.out]; rfl, HB.out⟩

set_option maxRecDepth 100000 in
set_option maxHeartbeats 2000000 in
theorem l1Num_any (v : Int) (h0 : 0 ≤ v) (h : v < 100) (w : World) : Calls Tryd.prog 64 #[.int .i64 v] w fun e w' => e = .returned (.string (decS v)) ∧ Below w.heap.size w w' := by
  obtain ⟨m, rfl⟩ := Int.eq_ofNat_of_zero_le h0
  by_cases h10 : m < 10
  · have e : decS (m : Int) = dg1 m := by unfold decS; rw [if_pos (by omega)]; rfl
    rw [e]
    exact l1Num_one m h10 w
  · have e : Hid (decS (m : Int) = dg1 (m / 10) ++ dg1 (m % 10)) := by show _ = _; unfold decS; rw [if_neg (by omega)]; rfl
    have hone := Lib.hid (fun W => l1Num_one (m / 10) (by omega) W)
    have hge : ¬ (m : Int) < 10 := by omega
    have hmod : (m : Int).tmod 10 = ((m % 10 : Nat) : Int) := by rw [Int.tmod_eq_emod_of_nonneg (by omega)]; omega
    have hdiv : (m : Int).tdiv 10 = ((m / 10 : Nat) : Int) := by rw [Int.tdiv_eq_ediv_of_nonneg (by omega)]; omega
    have hr10 : m % 10 < 10 := Nat.mod_lt _ (by omega)
    obtain ⟨r, hr⟩ : ∃ r, m % 10 = r := ⟨_, rfl⟩
    obtain ⟨q, hq⟩ : ∃ q, m / 10 = q := ⟨_, rfl⟩
    rw [hr] at hmod e hr10
    rw [hq] at hdiv e hone
    have hwr : IntKind.i64.wrap (r : Int) = (r : Int) := IntWalk.i64_in _ (by omega)
    have hwq : IntKind.i64.wrap (q : Int) = (q : Int) := IntWalk.i64_in _ (by omega)
    have hw1 : IntKind.i64.wrap (48 + (r : Int)) = 48 + (r : Int) := IntWalk.i64_in _ (by omega)
    have hw2 : IntKind.u8.wrap (48 + (r : Int)) = 48 + (r : Int) := by unfold IntKind.wrap; simp [IntKind.bits, IntKind.signed]; omega
    have htn : (48 + (r : Int)).toNat = 48 + r := by omega
    have hsz : (dg1 q).size = 1 := rfl
    have HE : Hid ((⟨#[48 + UInt8.ofNat r]⟩ : ByteArray) = dg1 r) := Lib.hid rfl
    obtain ⟨dq, hdq⟩ : ∃ x, dg1 q = x := ⟨_, rfl⟩
    rw [hdq] at e hone hsz
    have hn1 : ¬ (9223372036854775807 < dq.size + 1) := by omega
    have hcv := run_byte_string
    have hcvd := fun W => run_byte_at (W.alloc (.cells #[.int .u8 (48 + (r : Int))] 5)).drew W.heap.size (48 + (r : Int)) (heap_alloc_new W _)
    have HBA := Lib.hid (fun W => below_alloc (o := .cells #[.int .u8 (48 + (r : Int))] 5) (Below.refl W.heap.size W))
    clear hr hq hdq h0 h h10
    go_enter Tryd.func64, Tryd.ntmps64
    go_upto_region 3 with fail
    go_region_law (first
      | (go_simp; (with_reducible refine (hone.out _).mono ?_); rintro e w_1 ⟨rfl, hb_1⟩; (first | (have hcv1 := run_byte_at w_1 w.heap.size (48 + (r : Int)) (block_old (show (w.alloc (.cells #[.int .u8 (48 + (r : Int))] 5)).drew.heap[w.heap.size]? = some (.cells #[.int .u8 (48 + (r : Int))] 5 (0, 0)) from heap_alloc_new w _) hb_1)) | skip)))
    all_goals
      go_wp2
      go_ret
      refine ⟨by rw [e.out, ← HE.out]; rfl, ?_⟩
      first
        | exact below_alloc (below_step (Below.refl _ _).drew hb_1)
        | exact below_step (HBA.out w).drew hb_1
        | exact below_step (Below.refl _ _).drew hb_1

set_option maxRecDepth 100000 in
set_option maxHeartbeats 2000000 in
theorem sxWord_any (n : NodeL) (hr : leafR n) (w : World) : Calls Tryd.prog 41 #[.agg #[.int .i64 n.kind, .int .i64 n.value, .string n.name]] w fun e w' => e = .returned (.string (leafS n)) ∧ Below w.heap.size w w' := by
  obtain ⟨k, v, s⟩ := n
  unfold leafR at hr
  dsimp only at hr ⊢
  obtain ⟨w0, hw0⟩ : ∃ W, W = w.alloc (.cells #[.int .i64 k, .int .i64 v, .string s] 73) := ⟨_, rfl⟩
  have hB : Below w.heap.size w w0 := by rw [hw0]; exact below_alloc (Below.refl _ _)
  have HB := Lib.hid hB
  have HW := Lib.hid hw0
  have c0 : w0.cell? ⟨w.heap.size, 0, none⟩ = some (.int .i64 k) := by rw [hw0]; simp [go_sem]
  have c1 : w0.cell? ⟨w.heap.size, 1, none⟩ = some (.int .i64 v) := by rw [hw0]; simp [go_sem]
  have c2 : w0.cell? ⟨w.heap.size, 2, none⟩ = some (.string s) := by rw [hw0]; simp [go_sem]
  clear hB
  by_cases h17 : k = 17
  · subst h17
    have e : Hid (leafS ⟨17, v, s⟩ = s) := by show _ = _; unfold leafS; rw [if_pos rfl]
    rw [hw0] at c0 c1 c2
    clear hr hw0
    go_enter Tryd.func41, Tryd.ntmps41
    go_wp2
    go_ret
    rw [← HW.out]
    exact ⟨by rw [e.out]; rfl, HB.out⟩
  · obtain ⟨h1, h14, hv⟩ := hr.resolve_left h17
    have b17 : (k == 17) = false := by simpa using h17
    obtain ⟨m, hm⟩ := Int.eq_ofNat_of_zero_le (show 0 ≤ k - 1 by omega)
    obtain rfl : k = (m : Int) + 1 := by omega
    have Z0 : ∀ W, Below w0.heap.size w0 W → W.cell? ⟨w.heap.size, 0, none⟩ = some (.int .i64 ((m : Int) + 1)) := fun W hW => cell_old hW c0
    have Z1 : ∀ W, Below w0.heap.size w0 W → W.cell? ⟨w.heap.size, 1, none⟩ = some (.int .i64 v) := fun W hW => cell_old hW c1
    have hk0 : 0 ≤ (m : Int) := by omega
    have hk14 : (m : Int) < 14 := by omega
    have hws : IntKind.i64.wrap ((m : Int) + 1 - 1) = (m : Int) := by rw [show (m : Int) + 1 - 1 = (m : Int) by omega]; exact IntWalk.i64_in _ (by omega)
    have hws2 : IntKind.i64.wrap (m : Int) = (m : Int) := IntWalk.i64_in _ (by omega)
    have hkw := Lib.hid (fun W => lbReserved_any W)
    have hkx := Lib.hid (kwS_size ((m : Int) + 1))
    have HKD : Hid (kwS ((m : Int) + 1) = sAt resW m) := Lib.hid rfl
    obtain ⟨kw, hkwe⟩ : ∃ x, sAt resW m = x := ⟨_, rfl⟩
    rw [HKD.out, hkwe] at hkx
    have HKW : Hid (∀ W V, ReadsS W V resW → ∃ a cap, V = .slice a 14 cap ∧ ∃ g off, a = some ⟨g, off, none⟩ ∧ W.cell? ⟨g, off + m, none⟩ = some (.string kw)) := by
      refine Lib.hid fun W V h => ?_
      obtain ⟨a, cap, rfl, _, hc⟩ := open_readsS h
      obtain ⟨g, off, rfl, _, hx⟩ := hc m (by show m < 14; omega)
      exact ⟨_, _, rfl, g, off, rfl, by rw [← hkwe]; exact hx⟩
    have hks : kw.size ≤ 9 := hkx.out
    have c0' : w0.cell? ⟨w.heap.size, 0, none⟩ = some (.int .i64 ((m : Int) + 1)) := Z0 w0 (Below.refl _ _)
    by_cases hval : (m : Int) + 1 = 1 ∨ (m : Int) + 1 = 7 ∨ (m : Int) + 1 = 13
    · obtain ⟨hv0, hv1⟩ := hv hval
      have hit := Lib.hid (fun W => l1Num_any v hv0 hv1 W)
      have e : Hid (leafS ⟨(m : Int) + 1, v, s⟩ = kw ++ (⟨#[32]⟩ ++ decS v)) := by
        show _ = _
        unfold leafS
        rw [if_neg h17, if_pos hval, HKD.out, hkwe]
      have hds := decS_size v
      obtain ⟨dv, hdv⟩ : ∃ x, decS v = x := ⟨_, rfl⟩
      rw [hdv] at hit e hds
      rw [hw0] at c0 c1 c2
      have hm3 : m = 0 ∨ m = 6 ∨ m = 12 := by omega
      clear hdv hkx hkwe hv hv0 hv1 hr hw0 h17 hval
      rcases hm3 with hm0 | hm0 | hm0
      · have b1 : ((m : Int) + 1 == 1) = true := by subst hm0; rfl
        have b7 : ((m : Int) + 1 == 7) = false := by subst hm0; rfl
        have b13 : ((m : Int) + 1 == 13) = false := by subst hm0; rfl
        have b1' : decide (m = 0) = true := by subst hm0; rfl
        clear hm0
        go_enter Tryd.func41, Tryd.ntmps41
        go_upto_region 3 with fail
        rw [← HW.out]
        go_region_law (first | (go_simp; (with_reducible refine (hkw.out _).mono ?_); rintro e w_1 ⟨v_1, rfl, hr_1, hb_1⟩; obtain ⟨a_1, cp_1, rfl, g_1, o_1, rfl, z_1⟩ := HKW.out _ _ hr_1; have bb_1 := below_step (w := w0) (w1 := w0.drew) (Below.refl _ _).drew hb_1; have x_1 := Z0 w_1 bb_1; have y_1 := Z1 w_1 bb_1))
        all_goals
          clear hkw
          go_wp2_with fail
          refine (hit.out _).mono ?_
          rintro e w2 ⟨rfl, hb2⟩
          have bb2 := below_step bb_1 hb2
          go_wp2
          go_ret
          exact ⟨by rw [e.out]; rfl, below_step HB.out bb2⟩
      · have b1 : ((m : Int) + 1 == 1) = false := by subst hm0; rfl
        have b7 : ((m : Int) + 1 == 7) = true := by subst hm0; rfl
        have b13 : ((m : Int) + 1 == 13) = false := by subst hm0; rfl
        have b1' : decide (m = 0) = false := by subst hm0; rfl
        clear hm0
        go_enter Tryd.func41, Tryd.ntmps41
        go_upto_region 3 with fail
        rw [← HW.out]
        go_region_law (first | (go_simp; (with_reducible refine (hkw.out _).mono ?_); rintro e w_1 ⟨v_1, rfl, hr_1, hb_1⟩; obtain ⟨a_1, cp_1, rfl, g_1, o_1, rfl, z_1⟩ := HKW.out _ _ hr_1; have bb_1 := below_step (w := w0) (w1 := w0.drew) (Below.refl _ _).drew hb_1; have x_1 := Z0 w_1 bb_1; have y_1 := Z1 w_1 bb_1))
        all_goals
          clear hkw
          go_wp2_with fail
          refine (hit.out _).mono ?_
          rintro e w2 ⟨rfl, hb2⟩
          have bb2 := below_step bb_1 hb2
          go_wp2
          go_ret
          exact ⟨by rw [e.out]; rfl, below_step HB.out bb2⟩
      · have b1 : ((m : Int) + 1 == 1) = false := by subst hm0; rfl
        have b7 : ((m : Int) + 1 == 7) = false := by subst hm0; rfl
        have b13 : ((m : Int) + 1 == 13) = true := by subst hm0; rfl
        have b1' : decide (m = 0) = false := by subst hm0; rfl
        clear hm0
        go_enter Tryd.func41, Tryd.ntmps41
        go_upto_region 3 with fail
        rw [← HW.out]
        go_region_law (first | (go_simp; (with_reducible refine (hkw.out _).mono ?_); rintro e w_1 ⟨v_1, rfl, hr_1, hb_1⟩; obtain ⟨a_1, cp_1, rfl, g_1, o_1, rfl, z_1⟩ := HKW.out _ _ hr_1; have bb_1 := below_step (w := w0) (w1 := w0.drew) (Below.refl _ _).drew hb_1; have x_1 := Z0 w_1 bb_1; have y_1 := Z1 w_1 bb_1))
        all_goals
          clear hkw
          go_wp2_with fail
          refine (hit.out _).mono ?_
          rintro e w2 ⟨rfl, hb2⟩
          have bb2 := below_step bb_1 hb2
          go_wp2
          go_ret
          exact ⟨by rw [e.out]; rfl, below_step HB.out bb2⟩
    · have e : Hid (leafS ⟨(m : Int) + 1, v, s⟩ = kw) := by
        show _ = _
        unfold leafS
        rw [if_neg h17, if_neg hval, HKD.out, hkwe]
      have b1 : ((m : Int) + 1 == 1) = false := by simp; omega
      have b7 : ((m : Int) + 1 == 7) = false := by simp; omega
      have b13 : ((m : Int) + 1 == 13) = false := by simp; omega
      rw [hw0] at c0 c1 c2
      clear hkx hkwe hv hr hw0 h17 hval
      go_enter Tryd.func41, Tryd.ntmps41
      go_upto_region 3 with fail
      rw [← HW.out]
      go_region_law (first | (go_simp; (with_reducible refine (hkw.out _).mono ?_); rintro e w_1 ⟨v_1, rfl, hr_1, hb_1⟩; obtain ⟨a_1, cp_1, rfl, g_1, o_1, rfl, z_1⟩ := HKW.out _ _ hr_1; have bb_1 := below_step (w := w0) (w1 := w0.drew) (Below.refl _ _).drew hb_1; have x_1 := Z0 w_1 bb_1; have y_1 := Z1 w_1 bb_1))
      all_goals
        go_wp2
        go_ret
        exact ⟨by rw [e.out]; rfl, below_step HB.out bb_1⟩

end Ints
end Go.Proofs.YtlfcmlbffpmhkaaDoor
