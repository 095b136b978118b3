/- The laws' own helpers over spaces: measuring, copying, comparing, marking, looking after the marks. The laws' own helpers over spaces: measuring, copying, comparing, marking, looking after the marks. -/
import Derived.Test.YtimjlcnljefbbaaDoorRowsB
namespace Go.Proofs.YtimjlcnljefbbaaDoor
open Go.RowKit
namespace Ints

set_option maxHeartbeats 1000000 in
theorem eqSpace_any (ca cb : Int) (va vb : Value) (La Lb : List (List Int)) (w : World) (ha : ReadsM w va La) (hb : ReadsM w vb Lb) :
    Calls Tryd.prog 25 #[.agg #[.int .i64 ca, va], .agg #[.int .i64 cb, vb]] w fun e w' => e = .returned (.bool (ca == cb && La == Lb)) ∧ Below w.heap.size w w' := by
  have hB := Lib.hid (((Below.refl w.heap.size w).alloc (Nat.le_refl _) (.cells #[.int .i64 ca, va] 43)).alloc (by simp) (.cells #[.int .i64 cb, vb] 43))
  have hcall := Lib.hid (eqIntSS_any va vb La Lb _ (ha.below hB.out) (hb.below hB.out))
  obtain ⟨r, hr⟩ : ∃ r, (La == Lb) = r := ⟨_, rfl⟩
  rw [hr] at hcall ⊢
  clear ha hb hr
  by_cases hc : ca = cb
  · have h1 : (ca != cb) = false := by simpa using hc
    have h2 := Lib.hid (show (ca == cb && r) = r by simp [hc])
    rw [h2.out]
    clear hc
    cases r with
    | true =>
      go_enter Tryd.func25, Tryd.ntmps25
      go_wp2_with (go_at_call 46; ((with_reducible refine (hcall.out).mono ?_); rintro e w' ⟨rfl, hq⟩))
      go_ret
      exact ⟨rfl, hB.out.trans (hq.below _)⟩
    | false =>
      go_enter Tryd.func25, Tryd.ntmps25
      go_wp2_with (go_at_call 46; ((with_reducible refine (hcall.out).mono ?_); rintro e w' ⟨rfl, hq⟩))
      go_ret
      exact ⟨rfl, hB.out.trans (hq.below _)⟩
  · have h1 : (ca != cb) = true := by simpa using hc
    have h2 := Lib.hid (show (ca == cb && r) = false by simp [hc])
    rw [h2.out]
    clear hc
    go_enter Tryd.func25, Tryd.ntmps25
    go_wp2
    go_ret
    exact ⟨rfl, hB.out⟩

theorem eqSpace_same (c : Int) (va vb : Value) (L : List (List Int)) (w : World) (ha : ReadsM w va L) (hb : ReadsM w vb L) :
    Calls Tryd.prog 25 #[.agg #[.int .i64 c, va], .agg #[.int .i64 c, vb]] w fun e w' => e = .returned (.bool true) ∧ Below w.heap.size w w' := by
  have h := eqSpace_any c c va vb L L w ha hb
  simpa using h

set_option maxHeartbeats 1000000 in
theorem markSpace_any (S : Nat → Prop) (c : Int) (v : Value) (L : List (List Int)) (k : Int) (hk : 0 ≤ k) (hb : k + sumL L ≤ 1000000000) (w : World) (h : OwnsM S w v L) :
    Calls Tryd.prog 27 #[.agg #[.int .i64 c, v], .int .i64 k] w fun e w' => e = .returned (.int .i64 (k + sumL L)) ∧ OwnsM S w' v (marksL k L) ∧ Chg S w w' := by
  have hB := Lib.hid ((Below.refl w.heap.size w).alloc (Nat.le_refl _) (.cells #[.int .i64 c, v] 43))
  have hcall := Lib.hid (markIntSS_any S v L k hk hb _ (h.below hB.out))
  obtain ⟨t, ht⟩ : ∃ t, k + (sumL L : Int) = t := ⟨_, rfl⟩
  rw [ht] at hcall ⊢
  clear h hb ht
  go_enter Tryd.func27, Tryd.ntmps27
  go_wp2_with (go_at_call 47; ((with_reducible refine (hcall.out).mono ?_); rintro e w' ⟨rfl, ho, hc⟩))
  go_ret
  exact ⟨rfl, ho, (Below.chg hB.out S).trans_new hc fun _ _ h => h⟩

set_option maxHeartbeats 1000000 in
theorem heldSpace_any (c : Int) (v : Value) (L : List (List Int)) (k : Int) (hk : 0 ≤ k) (hb : k + sumL L ≤ 1000000000) (w : World) (h : ReadsM w v (marksL k L)) :
    Calls Tryd.prog 29 #[.agg #[.int .i64 c, v], .int .i64 k] w fun e w' => e = .returned (.int .i64 (k + sumL L)) ∧ Below w.heap.size w w' := by
  have hB := Lib.hid ((Below.refl w.heap.size w).alloc (Nat.le_refl _) (.cells #[.int .i64 c, v] 43))
  have hcall := Lib.hid (heldIntSS_any v L k hk hb _ (h.below hB.out))
  obtain ⟨t, ht⟩ : ∃ t, k + (sumL L : Int) = t := ⟨_, rfl⟩
  have ht0 : 0 ≤ t := by omega
  rw [ht] at hcall ⊢
  have hbn : decide (t < 0) = false := by simp; omega
  clear h hb ht
  go_enter Tryd.func29, Tryd.ntmps29
  go_wp2_with (go_at_call 48; ((with_reducible refine (hcall.out).mono ?_); rintro e w' ⟨rfl, rfl⟩))
  go_ret
  exact ⟨rfl, hB.out⟩

end Ints
end Go.Proofs.YtimjlcnljefbbaaDoor

namespace Go.Proofs.YtimjlcnljefbbaaDoor
open Go.RowKit
namespace Ints

set_option maxHeartbeats 1000000 in
theorem szSpace_any (c : Int) (v : Value) (L : List (List Int)) (left : Int) (h0 : 0 ≤ left) (hl : left ≤ 1048576) (w : World) (h : ReadsM w v L) :
    Calls Tryd.prog 20 #[.agg #[.int .i64 c, v], .int .i64 left] w fun e w' => e = .returned (.int .i64 (szN (tot L) left)) ∧ Below w.heap.size w w' := by
  have hb := Lib.hid ((Below.refl w.heap.size w).alloc (Nat.le_refl _) (.cells #[.int .i64 c, v] 40))
  have hcall := Lib.hid (szIntSS_any v L left h0 hl _ (h.below hb.out))
  obtain ⟨r, hr⟩ : ∃ r, szN (tot L) left = r := ⟨_, rfl⟩
  rw [hr] at hcall ⊢
  have hr' := Lib.hid hr
  clear h hr
  by_cases hneg : r < 0
  · have hbn : decide (r < 0) = true := by simpa using hneg
    have hm1 : Hid (r = -1) := by
      show _ = _
      have := hr'.out
      unfold szN at this
      split at this <;> omega
    clear hneg
    go_enter Tryd.func20, Tryd.ntmps20
    go_wp2_with (go_at_call 38; ((with_reducible refine (hcall.out).mono ?_); rintro e w' ⟨rfl, rfl⟩))
    go_ret
    exact ⟨ret_int hm1.out.symm, hb.out⟩
  · have hbn : decide (r < 0) = false := by simpa using hneg
    clear hneg
    go_enter Tryd.func20, Tryd.ntmps20
    go_wp2_with (go_at_call 38; ((with_reducible refine (hcall.out).mono ?_); rintro e w' ⟨rfl, rfl⟩))
    go_ret
    exact ⟨rfl, hb.out⟩

set_option maxHeartbeats 2000000 in
theorem toSpace_any (c : Int) (v : Value) (L : List (List Int)) (w : World) (h : ReadsM w v L) (hs : tot L ≤ 1048576) :
    Calls Tryd.prog 22 #[.agg #[.int .i64 c, v]] w (NewMat w c L) := by
  have hb := Lib.hid ((((Below.refl w.heap.size w).alloc (Nat.le_refl _) (.cells #[.int .i64 c, v] 40)).alloc (by simp) (.cells #[.int .i64 0, .slice none 0 0] 43)).alloc (by simp; omega) (.cells #[.int .i64 c, .slice none 0 0] 43))
  have hcall := Lib.hid (toIntSS_any v L _ (h.below hb.out) hs)
  clear h hs
  go_enter Tryd.func22, Tryd.ntmps22
  go_wp2_with fail
  refine hcall.out.mono ?_
  rintro e w1 ⟨v1, rfl, ho1, hb1⟩
  obtain ⟨a1, cap1, rfl⟩ := (ho1.reads).form
  have c0 : w1.cell? ⟨w.heap.size + 2, 0, none⟩ = some (.int .i64 c) := cell_old hb1 (by simp [go_sem])
  have c1 : w1.cell? ⟨w.heap.size + 2, 1, none⟩ = some (.slice none 0 0) := cell_old hb1 (by simp [go_sem])
  have c2 : w1.cell? ⟨w.heap.size + 1, 0, none⟩ = some (.int .i64 0) := cell_old hb1 (by simp [go_sem])
  have c3 : w1.cell? ⟨w.heap.size + 1, 1, none⟩ = some (.slice none 0 0) := cell_old hb1 (by simp [go_sem])
  have f0 : w1.frozen? ⟨w.heap.size + 2, 1, none⟩ = false := frozen_old hb1 (by simp) (by simp [go_sem])
  have f1 : w1.frozen? ⟨w.heap.size + 1, 0, none⟩ = false := frozen_old hb1 (by simp) (by simp [go_sem])
  have f2 : w1.frozen? ⟨w.heap.size + 1, 1, none⟩ = false := frozen_old hb1 (by simp) (by simp [go_sem])
  have ho1' := Lib.hid ho1
  have hb1' := Lib.hid hb1
  clear ho1 hb1
  go_wp2
  refine bodyPost_ret (v := .agg #[.int .i64 c, .slice a1 L.length cap1]) (by simp [results, Tryd.results22, go_sem, c2, c3]) rfl ?_
  have hch : Chg (fun g => g < w.heap.size + 3 ∧ w.heap.size ≤ g) w1 (((w1.setCell ⟨w.heap.size + 1 + 1, 1, none⟩ (.slice a1 L.length cap1)).setCell ⟨w.heap.size + 1, 0, none⟩ (.int .i64 c)).setCell ⟨w.heap.size + 1, 1, none⟩ (.slice a1 L.length cap1)) :=
    (((Chg.refl _ w1).setCell (p := ⟨w.heap.size + 1 + 1, 1, none⟩) (fun _ => by simp; omega) _).setCell (p := ⟨w.heap.size + 1, 0, none⟩) (fun _ => by simp) _).setCell (p := ⟨w.heap.size + 1, 1, none⟩) (fun _ => by simp) _
  refine ⟨_, rfl, (ho1'.out.chg hch ?_).mono ?_, ?_⟩
  · intro g hg
    simp at hg
    omega
  · intro g hg
    simp at hg
    omega
  · exact (hb.out.trans (hb1'.out.mono hb.out.size)).trans (hch.below (Nat.le_trans hb.out.size hb1'.out.size) fun g hg => hg.2)

end Ints
end Go.Proofs.YtimjlcnljefbbaaDoor
