/- Valid relations: the program's test and the reference's. -/
import Derived.Test.YtkpheigoegehoaaDoorSpGood
import Derived.Test.YtkpheigoegehoaaDoorRelF
import Derived.IntWalk
namespace Go.Proofs.YtkpheigoegehoaaDoor
open Go.RowKit
namespace Ints
open Fld (tab_alloc)

set_option maxHeartbeats 1000000 in
theorem fitsR_any (l r : Int) (w : World) :
    Calls Tryd.prog 75 #[.int .i64 l, .int .i64 r] w fun e w' => e = .returned (.bool (fitsB l r)) ∧ w = w' := by
  have hc1 := Lib.hid (fun W => within_any l 0 24 W)
  have hc2 := Lib.hid (fun W => within_any r 0 24 W)
  obtain ⟨b1, hb1⟩ : ∃ b, Fld.inR l 0 24 = b := ⟨_, rfl⟩
  obtain ⟨b2, hb2⟩ : ∃ b, Fld.inR r 0 24 = b := ⟨_, rfl⟩
  rw [hb1] at hc1
  rw [hb2] at hc2
  have hno : ∀ {x y z : Int}, Fld.inR x y z = false → ¬ (y ≤ x ∧ x ≤ z) := fun {x y z} h e => by
    have := h
    unfold Fld.inR at this
    simp at this
    omega
  have hmk : ∀ {x y z : Int}, ¬ (y ≤ x ∧ x ≤ z) → Fld.inR x y z = false := fun {x y z} h => by
    unfold Fld.inR
    simp
    omega
  have hyes : ∀ {x y z : Int}, (y ≤ x ∧ x ≤ z) → Fld.inR x y z = true := fun {x y z} h => by
    unfold Fld.inR
    simp
    omega
  cases b1 with
  | false =>
    have e0 : fitsB l r = false := by simp [fitsB, hb1]
    rw [e0]
    clear hb1 hb2 e0 hno hmk hyes
    go_enter Tryd.func75, Tryd.ntmps75
    go_wp2_with (go_at_call 91; ((with_reducible refine (hc1.out _).mono ?_); rintro e w' ⟨rfl, rfl⟩))
    go_ret
    exact ⟨rfl, rfl⟩
  | true =>
    obtain ⟨q1, q2⟩ := inR_parts hb1
    cases b2 with
    | false =>
      have e0 : fitsB l r = false := by
        unfold fitsB
        rw [hmk (x := r) (z := 24 - l) (fun e => hno hb2 ⟨e.1, by omega⟩), Bool.and_false]
      rw [e0]
      clear hb1 hb2 e0 hno hmk hyes
      go_enter Tryd.func75, Tryd.ntmps75
      go_wp2_with (first | (go_at_call 91; ((with_reducible refine (hc1.out _).mono ?_); rintro e w' ⟨rfl, rfl⟩)) | (go_at_call 91; ((with_reducible refine (hc2.out _).mono ?_); rintro e w' ⟨rfl, rfl⟩)))
      go_ret
      exact ⟨rfl, rfl⟩
    | true =>
      obtain ⟨q3, q4⟩ := inR_parts hb2
      obtain ⟨a, rfl⟩ : ∃ a : Nat, l = a := ⟨l.toNat, by omega⟩
      obtain ⟨b, rfl⟩ : ∃ b : Nat, r = b := ⟨r.toNat, by omega⟩
      have hw : IntKind.i64.wrap ((a : Int) + (b : Int)) = (a : Int) + (b : Int) := IntWalk.i64_in _ (by omega)
      by_cases hs : a + b ≤ 24
      · have e0 : fitsB (a : Int) (b : Int) = true := by
          unfold fitsB
          rw [hb1, hyes (x := (b : Int)) ⟨q3, by omega⟩]
          rfl
        have hd1 : decide ((a : Int) + (b : Int) ≤ 24) = true := by simp; omega
        have hd2 : (a : Int) + (b : Int) ≤ 24 := by omega
        rw [e0]
        clear hb1 hb2 e0 hno hmk hyes
        go_enter Tryd.func75, Tryd.ntmps75
        go_wp2_with (first | (go_at_call 91; ((with_reducible refine (hc1.out _).mono ?_); rintro e w' ⟨rfl, rfl⟩)) | (go_at_call 91; ((with_reducible refine (hc2.out _).mono ?_); rintro e w' ⟨rfl, rfl⟩)))
        go_ret
        exact ⟨rfl, rfl⟩
      · have e0 : fitsB (a : Int) (b : Int) = false := by
          unfold fitsB
          rw [hmk (x := (b : Int)) (z := 24 - (a : Int)) (fun e => hs (by omega)), Bool.and_false]
        have hd1 : decide ((a : Int) + (b : Int) ≤ 24) = false := by simp; omega
        have hd2 : ¬ (a : Int) + (b : Int) ≤ 24 := by omega
        rw [e0]
        clear hb1 hb2 e0 hno hmk hyes
        go_enter Tryd.func75, Tryd.ntmps75
        go_wp2_with (first | (go_at_call 91; ((with_reducible refine (hc1.out _).mono ?_); rintro e w' ⟨rfl, rfl⟩)) | (go_at_call 91; ((with_reducible refine (hc2.out _).mono ?_); rintro e w' ⟨rfl, rfl⟩)))
        go_ret
        exact ⟨rfl, rfl⟩


def rlB (p l r : Int) (L : List (List Int)) : Bool := Fld.goodB p && fitsB l r && redB p (l + r) L

set_option maxHeartbeats 2000000 in
set_option maxRecDepth 100000 in
theorem isRelation_any (p l r : Int) (v : Value) (L : List (List Int)) (w : World) (ht : Tab w) (h : ReadsM w v L) :
    Calls Tryd.prog 99 #[.int .i64 p, .agg #[.int .i64 l, .int .i64 r, v]] w fun e w' => e = .returned (.bool (rlB p l r L)) ∧ Below w.heap.size w w' := by
  obtain ⟨w0, hw0⟩ : ∃ W, W = w.alloc (.cells #[.int .i64 l, .int .i64 r, v] 27) := ⟨_, rfl⟩
  have hB : Below w.heap.size w w0 := by rw [hw0]; exact (Below.refl _ _).alloc (Nat.le_refl _) _
  have x0 : w0.cell? ⟨w.heap.size, 0, none⟩ = some (.int .i64 l) := by rw [hw0]; simp [go_sem]
  have x1 : w0.cell? ⟨w.heap.size, 1, none⟩ = some (.int .i64 r) := by rw [hw0]; simp [go_sem]
  have x2 : w0.cell? ⟨w.heap.size, 2, none⟩ = some v := by rw [hw0]; simp [go_sem]
  have htB := Lib.hid (show Tab w0 from ht.below ht.size hB)
  have hc1 := Lib.hid (Fld.isField_any p w0 htB.out)
  have hc2 := Lib.hid (fun W => fitsR_any l r W)
  have HV := Lib.hid (h.below hB)
  obtain ⟨av, cv, rfl⟩ := h.form
  obtain ⟨b1, hb1⟩ : ∃ b, Fld.goodB p = b := ⟨_, rfl⟩
  obtain ⟨b2, hb2⟩ : ∃ b, fitsB l r = b := ⟨_, rfl⟩
  rw [hb1] at hc1
  rw [hb2] at hc2
  have HW := Lib.hid hw0
  have HB := Lib.hid hB
  clear hw0 hB h ht
  cases b1 with
  | false =>
    have e0 : rlB p l r L = false := by simp [rlB, hb1]
    rw [e0]
    clear e0 hb1 hb2
    go_enter Tryd.func99, Tryd.ntmps99
    go_wp2_with fail
    rw [← HW.out]
    go_wp2_with (go_at_call 90; ((with_reducible refine (hc1.out).mono ?_); rintro e w' ⟨rfl, rfl⟩))
    go_ret
    exact ⟨rfl, HB.out⟩
  | true =>
    cases b2 with
    | false =>
      have e0 : rlB p l r L = false := by simp [rlB, hb2]
      rw [e0]
      clear e0 hb1 hb2
      go_enter Tryd.func99, Tryd.ntmps99
      go_wp2_with fail
      rw [← HW.out]
      go_wp2_with (first | (go_at_call 90; ((with_reducible refine (hc1.out).mono ?_); rintro e w' ⟨rfl, rfl⟩)) | (go_at_call 75; ((with_reducible refine (hc2.out _).mono ?_); rintro e w' ⟨rfl, rfl⟩)))
      go_ret
      exact ⟨rfl, HB.out⟩
    | true =>
      have e0 : rlB p l r L = redB p (l + r) L := by simp [rlB, hb1, hb2]
      rw [e0]
      obtain ⟨a, b, rfl, rfl, hab⟩ := fits_nats hb2
      have hcall := Lib.hid (isReduced_any p hb1 (a + b) hab _ L w0 HV.out)
      have hw : IntKind.i64.wrap ((a : Int) + (b : Int)) = ((a + b : Nat) : Int) := by rw [IntWalk.i64_in _ (by omega)]; omega
      rw [show (a : Int) + (b : Int) = ((a + b : Nat) : Int) by omega]
      obtain ⟨res, hr⟩ : ∃ r, redB p ((a + b : Nat) : Int) L = r := ⟨_, rfl⟩
      rw [hr] at hcall ⊢
      obtain ⟨s, hs⟩ : ∃ s, ((a + b : Nat) : Int) = s := ⟨_, rfl⟩
      rw [hs] at hcall hw
      clear e0 hb1 hb2 hr hs
      go_enter Tryd.func99, Tryd.ntmps99
      go_wp2_with fail
      rw [← HW.out]
      go_wp2_with (first | (go_at_call 90; ((with_reducible refine (hc1.out).mono ?_); rintro e w' ⟨rfl, rfl⟩)) | (go_at_call 75; ((with_reducible refine (hc2.out _).mono ?_); rintro e w' ⟨rfl, rfl⟩)) | (go_at_call 137; ((with_reducible refine (hcall.out).mono ?_); rintro e w' ⟨rfl, hq⟩)))
      go_ret
      exact ⟨rfl, HB.out.trans (hq.mono HB.out.size)⟩

set_option maxHeartbeats 2000000 in
set_option maxRecDepth 100000 in
theorem rlGood_any (p l r : Int) (v : Value) (L : List (List Int)) (w : World) (h : ReadsM w v L) :
    Calls Tryd.prog 98 #[.int .i64 p, .agg #[.int .i64 l, .int .i64 r, v]] w fun e w' => e = .returned (.bool (rlB p l r L)) ∧ Below w.heap.size w w' := by
  obtain ⟨w0, hw0⟩ : ∃ W, W = w.alloc (.cells #[.int .i64 l, .int .i64 r, v] 27) := ⟨_, rfl⟩
  have hB : Below w.heap.size w w0 := by rw [hw0]; exact (Below.refl _ _).alloc (Nat.le_refl _) _
  have x0 : w0.cell? ⟨w.heap.size, 0, none⟩ = some (.int .i64 l) := by rw [hw0]; simp [go_sem]
  have x1 : w0.cell? ⟨w.heap.size, 1, none⟩ = some (.int .i64 r) := by rw [hw0]; simp [go_sem]
  have x2 : w0.cell? ⟨w.heap.size, 2, none⟩ = some v := by rw [hw0]; simp [go_sem]
  have hc1 := Lib.hid (fun W => Fld.l1In_any l 0 24 W)
  have hc2 := Lib.hid (fun W => Fld.l1In_any r 0 (24 - l) W)
  have HV := Lib.hid (h.below hB)
  obtain ⟨av, cv, rfl⟩ := h.form
  obtain ⟨b1, hb1⟩ : ∃ b, Fld.inR l 0 24 = b := ⟨_, rfl⟩
  obtain ⟨b2, hb2⟩ : ∃ b, Fld.inR r 0 (24 - l) = b := ⟨_, rfl⟩
  rw [hb1] at hc1
  rw [hb2] at hc2
  have HW := Lib.hid hw0
  have HB := Lib.hid hB
  clear hw0 hB h
  cases b1 with
  | false =>
    have e0 : rlB p l r L = false := by simp [rlB, fitsB, hb1]
    rw [e0]
    clear e0 hb1 hb2
    go_enter Tryd.func98, Tryd.ntmps98
    go_wp2_with fail
    rw [← HW.out]
    go_wp2_with (go_at_call 87; ((with_reducible refine (hc1.out _).mono ?_); rintro e w' ⟨rfl, rfl⟩))
    go_ret
    exact ⟨rfl, HB.out⟩
  | true =>
    obtain ⟨y1, y2⟩ := inR_parts hb1
    have hw1 : IntKind.i64.wrap (24 - l) = 24 - l := IntWalk.i64_in _ (by omega)
    cases b2 with
    | false =>
      have e0 : rlB p l r L = false := by simp [rlB, fitsB, hb2]
      rw [e0]
      clear e0 hb1 hb2
      go_enter Tryd.func98, Tryd.ntmps98
      go_wp2_with fail
      rw [← HW.out]
      go_wp2_with (first | (go_at_call 87; ((with_reducible refine (hc1.out _).mono ?_); rintro e w' ⟨rfl, rfl⟩)) | (go_at_call 87; ((with_reducible refine (hc2.out _).mono ?_); rintro e w' ⟨rfl, rfl⟩)))
      go_ret
      exact ⟨rfl, HB.out⟩
    | true =>
      have hfb : fitsB l r = true := by simp [fitsB, hb1, hb2]
      obtain ⟨a, b, rfl, rfl, hab⟩ := fits_nats hfb
      have hin : Fld.inR ((a + b : Nat) : Int) 0 24 = true := by unfold Fld.inR; simp; omega
      have e0 : rlB p a b L = spB p ((a + b : Nat) : Int) L := by
        have : (a : Int) + (b : Int) = ((a + b : Nat) : Int) := by omega
        unfold rlB spB
        rw [hfb, hin, this]
      rw [e0]
      have hcall := Lib.hid (spGood_any p ((a + b : Nat) : Int) _ L w0 HV.out)
      have hw : IntKind.i64.wrap ((a : Int) + (b : Int)) = ((a + b : Nat) : Int) := by rw [IntWalk.i64_in _ (by omega)]; omega
      obtain ⟨res, hr⟩ : ∃ r, spB p ((a + b : Nat) : Int) L = r := ⟨_, rfl⟩
      rw [hr] at hcall ⊢
      obtain ⟨s, hs⟩ : ∃ s, ((a + b : Nat) : Int) = s := ⟨_, rfl⟩
      rw [hs] at hcall hw
      clear e0 hb1 hb2 hr hs hfb hin
      go_enter Tryd.func98, Tryd.ntmps98
      go_wp2_with fail
      rw [← HW.out]
      go_wp2_with (first | (go_at_call 87; ((with_reducible refine (hc1.out _).mono ?_); rintro e w' ⟨rfl, rfl⟩)) | (go_at_call 87; ((with_reducible refine (hc2.out _).mono ?_); rintro e w' ⟨rfl, rfl⟩)) | (go_at_call 94; ((with_reducible refine (hcall.out).mono ?_); rintro e w' ⟨rfl, hq⟩)))
      go_ret
      exact ⟨rfl, HB.out.trans (hq.mono HB.out.size)⟩

set_option maxHeartbeats 1000000 in
theorem specIsRelation_any (p l r : Int) (v : Value) (L : List (List Int)) (w : World) (h : ReadsM w v L) :
    Calls Tryd.prog 48 #[.int .i64 p, .agg #[.int .i64 l, .int .i64 r, v]] w fun e w' => e = .returned (.bool (rlB p l r L)) ∧ Below w.heap.size w w' := by
  have hB := Lib.hid ((Below.refl w.heap.size w).alloc (Nat.le_refl _) (.cells #[.int .i64 l, .int .i64 r, v] 27))
  have hcall := Lib.hid (rlGood_any p l r v L _ (h.below hB.out))
  obtain ⟨a, cap, rfl⟩ := h.form
  obtain ⟨res, hr⟩ : ∃ x, rlB p l r L = x := ⟨_, rfl⟩
  rw [hr] at hcall ⊢
  clear h hr
  go_enter Tryd.func48, Tryd.ntmps48
  go_wp2_with (go_at_call 98; ((with_reducible refine (hcall.out).mono ?_); rintro e w' ⟨rfl, hq⟩))
  go_ret
  exact ⟨rfl, hB.out.trans (hq.mono hB.out.size)⟩

set_option maxHeartbeats 1000000 in
theorem implIsRelation_any (p l r : Int) (v : Value) (L : List (List Int)) (w : World) (ht : Tab w) (h : ReadsM w v L) :
    Calls Tryd.prog 50 #[.int .i64 p, .agg #[.int .i64 l, .int .i64 r, v]] w fun e w' => e = .returned (.bool (rlB p l r L)) ∧ Below w.heap.size w w' := by
  have hB := Lib.hid ((Below.refl w.heap.size w).alloc (Nat.le_refl _) (.cells #[.int .i64 l, .int .i64 r, v] 27))
  have hcall := Lib.hid (isRelation_any p l r v L _ (tab_alloc ht _) (h.below hB.out))
  obtain ⟨a, cap, rfl⟩ := h.form
  obtain ⟨res, hr⟩ : ∃ x, rlB p l r L = x := ⟨_, rfl⟩
  rw [hr] at hcall ⊢
  clear h hr ht
  go_enter Tryd.func50, Tryd.ntmps50
  go_wp2_with (go_at_call 99; ((with_reducible refine (hcall.out).mono ?_); rintro e w' ⟨rfl, hq⟩))
  go_ret
  exact ⟨rfl, hB.out.trans (hq.mono hB.out.size)⟩

end Ints
end Go.Proofs.YtkpheigoegehoaaDoor
