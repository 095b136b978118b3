/- The laws' own helpers over relations: measuring, copying, comparing, marking, looking after the marks. The laws' own helpers over relations: measuring, copying, comparing, marking, looking after the marks. -/
import Derived.Test.YtimjlcnljefbbaaRowsB
namespace Go.Proofs.Ytimjlcnljefbbaa
open Go.RowKit
namespace Ints

/-- A relation (a struct of two numbers and a list of lists) in new memory. -/
def NewRel (w : World) (c d : Int) (L : List (List Int)) (e : Ending) (w' : World) : Prop :=
  ∃ v, e = .returned (.agg #[.int .i64 c, .int .i64 d, v]) ∧ OwnsM (w.heap.size ≤ ·) w' v L ∧ Below w.heap.size w w'

set_option maxHeartbeats 1000000 in
theorem eqRelation_any (ca cb da db : Int) (va vb : Value) (La Lb : List (List Int)) (w : World) (ha : ReadsM w va La) (hb : ReadsM w vb Lb) :
    Calls Try.prog 16 #[.agg #[.int .i64 ca, .int .i64 da, va], .agg #[.int .i64 cb, .int .i64 db, vb]] w fun e w' => e = .returned (.bool (ca == cb && da == db && La == Lb)) ∧ Below w.heap.size w w' := by
  have hB := Lib.hid (((Below.refl w.heap.size w).alloc (Nat.le_refl _) (.cells #[.int .i64 ca, .int .i64 da, va] 31)).alloc (by simp) (.cells #[.int .i64 cb, .int .i64 db, vb] 31))
  have hcall := Lib.hid (eqIntSS_any va vb La Lb _ (ha.below hB.out) (hb.below hB.out))
  obtain ⟨r, hr⟩ : ∃ r, (La == Lb) = r := ⟨_, rfl⟩
  rw [hr] at hcall ⊢
  clear ha hb hr
  by_cases hc : ca = cb
  · have h1 : (ca != cb) = false := by simpa using hc
    by_cases hd : da = db
    · have h1d : (da != db) = false := by simpa using hd
      have h2 := Lib.hid (show (ca == cb && da == db && r) = r by simp [hc, hd])
      rw [h2.out]
      clear hc hd
      cases r with
      | true =>
        go_enter Try.func16, Try.ntmps16
        go_wp2_with (go_at_call 43; ((with_reducible refine (hcall.out).mono ?_); rintro e w' ⟨rfl, hq⟩))
        go_ret
        exact ⟨rfl, hB.out.trans (hq.below _)⟩
      | false =>
        go_enter Try.func16, Try.ntmps16
        go_wp2_with (go_at_call 43; ((with_reducible refine (hcall.out).mono ?_); rintro e w' ⟨rfl, hq⟩))
        go_ret
        exact ⟨rfl, hB.out.trans (hq.below _)⟩
    · have h1d : (da != db) = true := by simpa using hd
      have h2 := Lib.hid (show (ca == cb && da == db && r) = false by simp [hd])
      rw [h2.out]
      clear hc hd
      go_enter Try.func16, Try.ntmps16
      go_wp2
      go_ret
      exact ⟨rfl, hB.out⟩
  · have h1 : (ca != cb) = true := by simpa using hc
    have h2 := Lib.hid (show (ca == cb && da == db && r) = false by simp [hc])
    rw [h2.out]
    clear hc
    go_enter Try.func16, Try.ntmps16
    go_wp2
    go_ret
    exact ⟨rfl, hB.out⟩
theorem eqRelation_same (c d : Int) (va vb : Value) (L : List (List Int)) (w : World) (ha : ReadsM w va L) (hb : ReadsM w vb L) :
    Calls Try.prog 16 #[.agg #[.int .i64 c, .int .i64 d, va], .agg #[.int .i64 c, .int .i64 d, vb]] w fun e w' => e = .returned (.bool true) ∧ Below w.heap.size w w' := by
  have h := eqRelation_any c c d d va vb L L w ha hb
  simpa using h

set_option maxHeartbeats 1000000 in
theorem markRelation_any (S : Nat → Prop) (c d : Int) (v : Value) (L : List (List Int)) (k : Int) (hk : 0 ≤ k) (hb : k + sumL L ≤ 1000000000) (w : World) (h : OwnsM S w v L) :
    Calls Try.prog 17 #[.agg #[.int .i64 c, .int .i64 d, v], .int .i64 k] w fun e w' => e = .returned (.int .i64 (k + sumL L)) ∧ OwnsM S w' v (marksL k L) ∧ Chg S w w' := by
  have hB := Lib.hid ((Below.refl w.heap.size w).alloc (Nat.le_refl _) (.cells #[.int .i64 c, .int .i64 d, v] 31))
  have hcall := Lib.hid (markIntSS_any S v L k hk hb _ (h.below hB.out))
  obtain ⟨t, ht⟩ : ∃ t, k + (sumL L : Int) = t := ⟨_, rfl⟩
  rw [ht] at hcall ⊢
  clear h hb ht
  go_enter Try.func17, Try.ntmps17
  go_wp2_with (go_at_call 44; ((with_reducible refine (hcall.out).mono ?_); rintro e w' ⟨rfl, ho, hc⟩))
  go_ret
  exact ⟨rfl, ho, (Below.chg hB.out S).trans_new hc fun _ _ h => h⟩

set_option maxHeartbeats 1000000 in
theorem heldRelation_any (c d : Int) (v : Value) (L : List (List Int)) (k : Int) (hk : 0 ≤ k) (hb : k + sumL L ≤ 1000000000) (w : World) (h : ReadsM w v (marksL k L)) :
    Calls Try.prog 18 #[.agg #[.int .i64 c, .int .i64 d, v], .int .i64 k] w fun e w' => e = .returned (.int .i64 (k + sumL L)) ∧ Below w.heap.size w w' := by
  have hB := Lib.hid ((Below.refl w.heap.size w).alloc (Nat.le_refl _) (.cells #[.int .i64 c, .int .i64 d, v] 31))
  have hcall := Lib.hid (heldIntSS_any v L k hk hb _ (h.below hB.out))
  obtain ⟨t, ht⟩ : ∃ t, k + (sumL L : Int) = t := ⟨_, rfl⟩
  have ht0 : 0 ≤ t := by omega
  rw [ht] at hcall ⊢
  have hbn : decide (t < 0) = false := by simp; omega
  clear h hb ht
  go_enter Try.func18, Try.ntmps18
  go_wp2_with (go_at_call 45; ((with_reducible refine (hcall.out).mono ?_); rintro e w' ⟨rfl, rfl⟩))
  go_ret
  exact ⟨rfl, hB.out⟩

end Ints
end Go.Proofs.Ytimjlcnljefbbaa
