/- The laws' own helpers over graphs without edges; the numbers from 0 on. -/
import Derived.Test.YtimjlcnljefbbaaPair
import Derived.Test.YtimjlcnljefbbaaRowFn
namespace Go.Proofs.Ytimjlcnljefbbaa
open Go.RowKit
namespace Ints

set_option maxHeartbeats 1000000 in
theorem eqEdgeS_nil (w : World) : Calls Try.prog 58 #[.slice none 0 0, .slice none 0 0] w fun e w' => e = .returned (.bool true) ∧ w = w' := by
  go_enter Try.func58, Try.ntmps58
  go_wp2
  go_loopw [5] (fun i wr => i = .int .i64 0 ∧ w = wr) (fun _ _ => 1)
  case atStart => exact ⟨rfl, rfl⟩
  case round =>
    obtain ⟨rfl, rfl⟩ := hrel
    go_wp2
    go_ret
    exact ⟨rfl, rfl⟩
set_option maxHeartbeats 1000000 in
theorem markEdgeS_nil (k : Int) (w : World) : Calls Try.prog 59 #[.slice none 0 0, .int .i64 k] w fun e w' => e = .returned (.int .i64 k) ∧ w = w' := by
  go_enter Try.func59, Try.ntmps59
  go_wp2
  go_loopw [1, 5] (fun q i wr => q = .int .i64 k ∧ i = .int .i64 0 ∧ w = wr) (fun _ _ _ => 1)
  case atStart => exact ⟨rfl, rfl, rfl⟩
  case round =>
    obtain ⟨rfl, rfl, rfl⟩ := hrel
    go_wp2
    go_ret
    exact ⟨rfl, rfl⟩
set_option maxHeartbeats 1000000 in
theorem heldEdgeS_nil (k : Int) (w : World) : Calls Try.prog 60 #[.slice none 0 0, .int .i64 k] w fun e w' => e = .returned (.int .i64 k) ∧ w = w' := by
  go_enter Try.func60, Try.ntmps60
  go_wp2
  go_loopw [1, 5] (fun q i wr => q = .int .i64 k ∧ i = .int .i64 0 ∧ w = wr) (fun _ _ _ => 1)
  case atStart => exact ⟨rfl, rfl, rfl⟩
  case round =>
    obtain ⟨rfl, rfl, rfl⟩ := hrel
    go_wp2
    go_ret
    exact ⟨rfl, rfl⟩

set_option maxHeartbeats 1000000 in
theorem eqGraphR_same (c : Int) (v1 v2 u1 u2 : Value) (L : List Int × List Int) (w : World) (ha : ReadsP w v1 v2 L) (hb : ReadsP w u1 u2 L) :
    Calls Try.prog 28 #[.agg #[.int .i64 c, .slice none 0 0, v1, v2], .agg #[.int .i64 c, .slice none 0 0, u1, u2]] w fun e w' => e = .returned (.bool true) ∧ Below w.heap.size w w' := by
  obtain ⟨w0, hw0⟩ : ∃ W, W = (w.alloc (.cells #[.int .i64 c, .slice none 0 0, v1, v2] 49)).alloc (.cells #[.int .i64 c, .slice none 0 0, u1, u2] 49) := ⟨_, rfl⟩
  have hB : Below w.heap.size w w0 := by rw [hw0]; exact ((Below.refl w.heap.size w).alloc (Nat.le_refl _) _).alloc (by simp) _
  have hc0 := Lib.hid (fun W => eqEdgeS_nil W)
  have hc1 := Lib.hid (fun W (hW : Below w.heap.size w W) => eqIntS_any v1 u1 L.1.length L.1.length L.1 L.1 W (ha.1.below hW) (hb.1.below hW))
  have hc2 := Lib.hid (fun W (hW : Below w.heap.size w W) => eqIntS_any v2 u2 L.2.length L.2.length L.2 L.2 W (ha.2.below hW) (hb.2.below hW))
  simp only [beq_self_eq_true] at hc1 hc2
  have x2 : w0.cell? ⟨w.heap.size, 2, none⟩ = some v1 := by rw [hw0]; simp [go_sem]
  have x3 : w0.cell? ⟨w.heap.size, 3, none⟩ = some v2 := by rw [hw0]; simp [go_sem]
  have y2 : w0.cell? ⟨w.heap.size + 1, 2, none⟩ = some u1 := by rw [hw0]; simp [go_sem]
  have y3 : w0.cell? ⟨w.heap.size + 1, 3, none⟩ = some u2 := by rw [hw0]; simp [go_sem]
  have HB := Lib.hid hB
  have HW := Lib.hid hw0
  have HX := Lib.hid (And.intro x3 y3)
  have hcc : (c != c) = false := by simp
  clear ha hb hB hw0 x3 y3
  go_enter Try.func28, Try.ntmps28
  go_wp2_with fail
  rw [← HW.out]
  refine (hc0.out _).mono ?_
  rintro e w' ⟨rfl, rfl⟩
  go_wp2_with fail
  refine (hc1.out _ HB.out).mono ?_
  rintro e w1 ⟨rfl, hq⟩
  have HB1 := Lib.hid (HB.out.trans (hq.below w.heap.size))
  have e1 : w1.cell? ⟨w.heap.size, 3, none⟩ = some v2 := (hq.cell _).trans HX.out.1
  have e2 : w1.cell? ⟨w.heap.size + 1, 3, none⟩ = some u2 := (hq.cell _).trans HX.out.2
  clear hq x2 y2
  go_wp2_with fail
  refine (hc2.out _ HB1.out).mono ?_
  rintro e w2 ⟨rfl, hq⟩
  have HB2 := Lib.hid (HB1.out.trans (hq.below w.heap.size))
  clear hq
  go_wp2
  go_ret
  exact ⟨rfl, HB2.out⟩

set_option maxHeartbeats 1000000 in
theorem markGraphR_any (S : Nat → Prop) (c : Int) (v1 v2 : Value) (L : List Int × List Int) (k : Int) (hk : 0 ≤ k) (hb : k + sumP L ≤ 1000000000) (w : World) (h : OwnsP S w v1 v2 L) :
    Calls Try.prog 29 #[.agg #[.int .i64 c, .slice none 0 0, v1, v2], .int .i64 k] w fun e w' => e = .returned (.int .i64 (k + sumP L)) ∧ OwnsP S w' v1 v2 (marksP k L) ∧ Chg S w w' := by
  have hB := Lib.hid ((Below.refl w.heap.size w).alloc (Nat.le_refl _) (.cells #[.int .i64 c, .slice none 0 0, v1, v2] 49))
  obtain ⟨w0, hw0⟩ : ∃ W, W = w.alloc (.cells #[.int .i64 c, .slice none 0 0, v1, v2] 49) := ⟨_, rfl⟩
  rw [← hw0] at hB
  have h0 := h.below hB.out
  have hsum : k + (sumP L : Int) = k + L.1.length + L.2.length := by unfold sumP; omega
  rw [hsum] at hb ⊢
  have hc0 := Lib.hid (fun W => markEdgeS_nil k W)
  have hc1 := Lib.hid (markIntS_any v1 L.1.length L.1 k hk (by omega) w0 h0.1.1)
  have hc2 := Lib.hid (fun W hW => markIntS_any v2 L.2.length L.2 (k + L.1.length) (by omega) (by omega) W hW)
  have H0 := Lib.hid h0
  have x2 : w0.cell? ⟨w.heap.size, 2, none⟩ = some v1 := by rw [hw0]; simp [go_sem]
  have x3 : w0.cell? ⟨w.heap.size, 3, none⟩ = some v2 := by rw [hw0]; simp [go_sem]
  have hlt : Hid (∀ g, v1.ownBlock = some g ∧ 0 < L.1.length → g < w.heap.size) := Lib.hid fun g hg => h.1.1.reads.lt g (ofL_ne.2 (List.length_pos_iff.1 hg.2)) hg.1
  have HW := Lib.hid hw0
  have HX := Lib.hid x3
  clear h h0 hb hsum hw0 x3
  go_enter Try.func29, Try.ntmps29
  go_wp2_with fail
  rw [← HW.out]
  refine (hc0.out _).mono ?_
  rintro e w' ⟨rfl, rfl⟩
  go_wp2_with fail
  refine hc1.out.mono ?_
  rintro e w1 ⟨rfl, o1, c1⟩
  have x1 := c1.keep HX.out (fun e => by have := hlt.out _ e; simp only at this; omega)
  have hv2 := Lib.hid (H0.out.2.1.1.chg c1 fun g hx hg e => H0.out.2.2 (List.length_pos_iff.1 e.2) (ofL_ne.1 hx) (by rw [hg, e.1]))
  have O1 := Lib.hid o1
  have C1 := Lib.hid c1
  clear o1 c1 x2
  go_wp2_with fail
  refine (hc2.out w1 hv2.out).mono ?_
  rintro e w2 ⟨rfl, o2, c2⟩
  have hm := markP_step H0.out O1.out C1.out o2 c2
  have hfin := Lib.hid (And.intro hm.1 ((Below.chg hB.out S).trans_new hm.2 fun _ _ h => h))
  clear hm o2 c2 x1
  go_wp2
  go_ret
  exact ⟨rfl, hfin.out.1, hfin.out.2⟩

set_option maxHeartbeats 1000000 in
theorem heldGraphR_any (c : Int) (v1 v2 : Value) (L : List Int × List Int) (k : Int) (hk : 0 ≤ k) (hb : k + sumP L ≤ 1000000000) (w : World) (h : ReadsP w v1 v2 (marksP k L)) :
    Calls Try.prog 30 #[.agg #[.int .i64 c, .slice none 0 0, v1, v2], .int .i64 k] w fun e w' => e = .returned (.int .i64 (k + sumP L)) ∧ Below w.heap.size w w' := by
  have hB := Lib.hid ((Below.refl w.heap.size w).alloc (Nat.le_refl _) (.cells #[.int .i64 c, .slice none 0 0, v1, v2] 49))
  have hsum : k + (sumP L : Int) = k + L.1.length + L.2.length := by unfold sumP; omega
  rw [hsum] at hb ⊢
  have hc0 := Lib.hid (fun W => heldEdgeS_nil k W)
  have hk0 : decide (k < 0) = false := by simp; omega
  have hc2 := Lib.hid (heldIntS_any v2 L.2.length (k + L.1.length) (by omega) (by omega) (w.alloc (.cells #[.int .i64 c, .slice none 0 0, v1, v2] 49)) (by have := h.2.below hB.out; unfold ReadsI marksP marksI at this; simp only [marks_length] at this; exact this))
  have hc1 : Hid (Calls Try.prog 55 #[v1, .int .i64 k] (w.alloc (.cells #[.int .i64 c, .slice none 0 0, v1, v2] 49)) fun e w' => e = .returned (.int .i64 (k + L.1.length)) ∧ w.alloc (.cells #[.int .i64 c, .slice none 0 0, v1, v2] 49) = w') :=
    heldIntS_any v1 L.1.length k hk (by omega) _ (by have := h.1.below hB.out; unfold ReadsI marksP marksI at this; simp only [marks_length] at this; exact this)
  obtain ⟨t, ht⟩ : ∃ t, k + (L.1.length : Int) = t := ⟨_, rfl⟩
  rw [ht] at hc1 hc2 ⊢
  have hb1 : decide (t < 0) = false := by simp; omega
  obtain ⟨t2, ht2⟩ : ∃ x, t + (L.2.length : Int) = x := ⟨_, rfl⟩
  rw [ht2] at hc2 ⊢
  have hb2 : decide (t2 < 0) = false := by simp; omega
  clear h hb hsum ht ht2
  go_enter Try.func30, Try.ntmps30
  go_wp2_with fail
  refine (hc0.out _).mono ?_
  rintro e w' ⟨rfl, rfl⟩
  go_wp2_with fail
  refine hc1.out.mono ?_
  rintro e w' ⟨rfl, rfl⟩
  go_wp2_with fail
  refine hc2.out.mono ?_
  rintro e w' ⟨rfl, rfl⟩
  go_wp2
  go_ret
  exact ⟨rfl, hB.out⟩

end Ints
end Go.Proofs.Ytimjlcnljefbbaa
