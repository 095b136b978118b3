/- Valid spaces: the program's test and the reference's. -/
import Derived.Test.YtimjlcnljefbbaaDoorIsReduced
import Derived.Test.YtimjlcnljefbbaaDoorSpReduce
import Derived.Test.YtimjlcnljefbbaaDoorSpPred
import Derived.BigQuiet
namespace Go.Proofs.YtimjlcnljefbbaaDoor
open Go.RowKit
namespace Ints
open Fld (tab_alloc)

def spB (p c : Int) (L : List (List Int)) : Bool := Fld.goodB p && Fld.inR c 0 24 && redB p c L
theorem spB_parts {p c : Int} {L : List (List Int)} (h : spB p c L = true) : ∃ n : Nat, c = n ∧ n ≤ 24 ∧ L.length ≤ n ∧ Fld.goodB p = true ∧ ElemsT p L.length n L ∧ reducedL p n L = L := by
  simp only [spB, redB, Bool.and_eq_true, decide_eq_true_eq, beq_iff_eq] at h
  obtain ⟨⟨h1, h2⟩, ⟨h3, h4⟩, h5⟩ := h
  obtain ⟨q1, q2⟩ := inR_parts h2
  exact ⟨c.toNat, by omega, by omega, by omega, h1, rows_elems h4 q1, h5⟩

set_option maxHeartbeats 2000000 in
set_option maxRecDepth 100000 in
theorem isSpace_any (p c : Int) (v : Value) (L : List (List Int)) (w : World) (ht : Tab w) (h : ReadsM w v L) :
    Calls Tryd.prog 56 #[.int .i64 p, .agg #[.int .i64 c, v]] w fun e w' => e = .returned (.bool (spB p c L)) ∧ Below w.heap.size w w' := by
  obtain ⟨w0, hw0⟩ : ∃ W, W = w.alloc (.cells #[.int .i64 c, v] 43) := ⟨_, rfl⟩
  have hB : Below w.heap.size w w0 := by rw [hw0]; exact (Below.refl _ _).alloc (Nat.le_refl _) _
  have x0 : w0.cell? ⟨w.heap.size, 0, none⟩ = some (.int .i64 c) := by rw [hw0]; simp [go_sem]
  have x1 : w0.cell? ⟨w.heap.size, 1, none⟩ = some v := by rw [hw0]; simp [go_sem]
  have htB := Lib.hid (show Tab w0 from ht.below ht.size hB)
  have hc1 := Lib.hid (Fld.isField_any p w0 htB.out)
  have hc2 := Lib.hid (fun W => within_any c 0 24 W)
  have HV := Lib.hid (h.below hB)
  obtain ⟨av, cv, rfl⟩ := h.form
  obtain ⟨b1, hb1⟩ : ∃ b, Fld.goodB p = b := ⟨_, rfl⟩
  obtain ⟨b2, hb2⟩ : ∃ b, Fld.inR c 0 24 = b := ⟨_, rfl⟩
  rw [hb1] at hc1
  rw [hb2] at hc2
  have HW := Lib.hid hw0
  have HB := Lib.hid hB
  clear hw0 hB h ht
  cases b1 with
  | false =>
    have e0 : spB p c L = false := by simp [spB, hb1]
    rw [e0]
    clear e0 hb1 hb2
    go_enter Tryd.func56, Tryd.ntmps56
    go_wp2_with fail
    rw [← HW.out]
    go_wp2_with (go_at_call 78; ((with_reducible refine (hc1.out).mono ?_); rintro e w' ⟨rfl, rfl⟩))
    go_ret
    exact ⟨rfl, HB.out⟩
  | true =>
    cases b2 with
    | false =>
      have e0 : spB p c L = false := by simp [spB, hb2]
      rw [e0]
      clear e0 hb1 hb2
      go_enter Tryd.func56, Tryd.ntmps56
      go_wp2_with fail
      rw [← HW.out]
      go_wp2_with (first | (go_at_call 78; ((with_reducible refine (hc1.out).mono ?_); rintro e w' ⟨rfl, rfl⟩)) | (go_at_call 57; ((with_reducible refine (hc2.out _).mono ?_); rintro e w' ⟨rfl, rfl⟩)))
      go_ret
      exact ⟨rfl, HB.out⟩
    | true =>
      have e0 : spB p c L = redB p c L := by simp [spB, hb1, hb2]
      rw [e0]
      obtain ⟨q1, q2⟩ := inR_parts hb2
      obtain ⟨n, rfl⟩ : ∃ n : Nat, c = n := ⟨c.toNat, by omega⟩
      have hcall := Lib.hid (isReduced_any p hb1 n (by omega) _ L w0 HV.out)
      obtain ⟨r, hr⟩ : ∃ r, redB p n L = r := ⟨_, rfl⟩
      rw [hr] at hcall ⊢
      clear e0 hb1 hb2 hr q1 q2
      go_enter Tryd.func56, Tryd.ntmps56
      go_wp2_with fail
      rw [← HW.out]
      go_wp2_with (first | (go_at_call 78; ((with_reducible refine (hc1.out).mono ?_); rintro e w' ⟨rfl, rfl⟩)) | (go_at_call 57; ((with_reducible refine (hc2.out _).mono ?_); rintro e w' ⟨rfl, rfl⟩)) | (go_at_call 91; ((with_reducible refine (hcall.out).mono ?_); rintro e w' ⟨rfl, hq⟩)))
      go_ret
      exact ⟨rfl, HB.out.trans (hq.mono HB.out.size)⟩

theorem quiet_same {P : Program} {f : FuncId} {args : Array Value} {w : World} {v : Value} (h : Calls P f args w fun e w' => e = .returned v ∧ w = w') : Calls P f args w fun e w' => e = .returned v ∧ Quiet w w' :=
  h.mono fun e w' h => ⟨h.1, by rw [← h.2]; exact Quiet.refl _⟩

set_option maxHeartbeats 2000000 in
set_option maxRecDepth 100000 in
theorem spGood_any (p c : Int) (v : Value) (L : List (List Int)) (w : World) (h : ReadsM w v L) :
    Calls Tryd.prog 53 #[.int .i64 p, .agg #[.int .i64 c, v]] w fun e w' => e = .returned (.bool (spB p c L)) ∧ Below w.heap.size w w' := by
  obtain ⟨w0, hw0⟩ : ∃ W, W = w.alloc (.cells #[.int .i64 c, v] 43) := ⟨_, rfl⟩
  have hB : Below w.heap.size w w0 := by rw [hw0]; exact (Below.refl _ _).alloc (Nat.le_refl _) _
  have X0 : ∀ W, Below w0.heap.size w0 W → W.cell? ⟨w.heap.size, 0, none⟩ = some (.int .i64 c) := fun W hW => cell_old hW (by rw [hw0]; simp [go_sem])
  have X1 : ∀ W, Below w0.heap.size w0 W → W.cell? ⟨w.heap.size, 1, none⟩ = some v := fun W hW => cell_old hW (by rw [hw0]; simp [go_sem])
  have x0 := X0 w0 (Below.refl _ _)
  have x1 := X1 w0 (Below.refl _ _)
  have hc1 := Lib.hid (fun W => quiet_same (Fld.fdGood_any p W))
  have hc2 := Lib.hid (fun W => quiet_same (Fld.l1In_any c 0 24 W))
  have HV := Lib.hid (h.below hB)
  obtain ⟨av, cv, rfl⟩ := h.form
  obtain ⟨b1, hb1⟩ : ∃ b, Fld.goodB p = b := ⟨_, rfl⟩
  obtain ⟨b2, hb2⟩ : ∃ b, Fld.inR c 0 24 = b := ⟨_, rfl⟩
  rw [hb1] at hc1
  rw [hb2] at hc2
  have HW := Lib.hid hw0
  have HB := Lib.hid hB
  clear hw0 hB h
  cases b1 with
  | false =>
    have e0 : spB p c L = false := by simp [spB, hb1]
    rw [e0]
    clear e0 hb1 hb2
    go_enter Tryd.func53, Tryd.ntmps53
    go_wp2_with fail
    rw [← HW.out]
    go_quiet (first | (go_at_call 75; exact Calls.quiet_of (hc1.out _)))
    go_wp2
    go_ret
    exact ⟨rfl, Below.drewN' HB.out _⟩
  | true =>
    cases b2 with
    | false =>
      have e0 : spB p c L = false := by simp [spB, hb2]
      rw [e0]
      clear e0 hb1 hb2
      go_enter Tryd.func53, Tryd.ntmps53
      go_wp2_with fail
      rw [← HW.out]
      go_quiet (first | (go_at_call 75; exact Calls.quiet_of (hc1.out _)) | (go_at_call 76; exact Calls.quiet_of (hc2.out _)))
      go_wp2
      go_ret
      exact ⟨rfl, Below.drewN' HB.out _⟩
    | true =>
      obtain ⟨q1, q2⟩ := inR_parts hb2
      obtain ⟨n, rfl⟩ : ∃ n : Nat, c = n := ⟨c.toNat, by omega⟩
      obtain ⟨h2, h97⟩ := Fld.good_bounds hb1
      have hc4 := Lib.hid (fun W (hW : Below w0.heap.size w0 W) => spRows_any p n h2 h97 _ L W (HV.out.below hW))
      obtain ⟨m, hmm⟩ : ∃ m, L.length = m := ⟨_, rfl⟩
      by_cases hlen : m ≤ n
      · have hd1 : decide ((m : Int) ≤ (n : Int)) = true := by simp; omega
        have hd2 : (m : Int) ≤ (n : Int) := by omega
        obtain ⟨b4, hb4⟩ : ∃ b, rowsB p n L = b := ⟨_, rfl⟩
        rw [hb4] at hc4
        cases b4 with
        | false =>
          have e0 : spB p n L = false := by simp [spB, redB, hb4]
          have hc5 := Lib.hid (fun W hW => quiet_same (hc4.out W hW))
          rw [e0]
          rw [hmm] at X1 x1 hc4 hc5 HW ⊢
          clear e0 hb1 hb2 hb4 hmm HV
          go_enter Tryd.func53, Tryd.ntmps53
          go_wp2_with fail
          rw [← HW.out]
          go_quiet (first | (go_at_call 75; exact Calls.quiet_of (hc1.out _)) | (go_at_call 76; exact Calls.quiet_of (hc2.out _)) | (go_at_call 88; exact Calls.quiet_of (hc5.out _ (Below.drewN' (Below.refl _ _) _))))
          go_wp2
          go_ret
          exact ⟨rfl, Below.drewN' HB.out _⟩
        | true =>
          have hM := rows_elems hb4 (by omega)
          rw [show ((n : Nat) : Int).toNat = n by omega] at hM
          have e0 : spB p n L = (reducedL p n L == L) := by simp [spB, redB, hb1, hb2, hb4, show (L.length : Int) ≤ n by omega]
          rw [e0]
          have hred := Lib.hid (fun W (hW : Below w0.heap.size w0 W) => spReduce_any p hb1 _ n (by omega) (by omega) _ L W hM (HV.out.below hW))
          have hsame := Lib.hid (fun W (hW : Below w0.heap.size w0 W) u (hu : ReadsM W u (reducedL p n L)) => spSame_any u _ (reducedL p n L) L W hu (HV.out.below hW))
          obtain ⟨R, hR⟩ : ∃ R, reducedL p n L = R := ⟨_, rfl⟩
          rw [hR] at hred hsame ⊢
          obtain ⟨res, hres⟩ : ∃ r, (R == L) = r := ⟨_, rfl⟩
          rw [hres] at hsame ⊢
          rw [hmm] at X1 x1 hc4 hred hsame HW ⊢
          have hf1 := Lib.hid (fun W => Fld.fdGood_any p W)
          have hf2 := Lib.hid (fun W => Fld.l1In_any n 0 24 W)
          rw [hb1] at hf1
          rw [hb2] at hf2
          clear e0 hb1 hb2 hb4 hmm HV hM hR hres hc1 hc2 x0 x1
          go_enter Tryd.func53, Tryd.ntmps53
          go_wp2_with fail
          rw [← HW.out]
          go_upto_region 1 with fail
          go_region_held3 (fun W => Below w0.heap.size w0 W)
            (first | ((repeat (first | exact Below.refl _ _ | assumption | apply below_drewB | refine below_step ?_ hb_2 | refine below_step ?_ hb_1)); done))
            (first
              | (go_at_call 75; (with_reducible refine (hf1.out _).mono ?_); rintro e w' ⟨rfl, rfl⟩)
              | (go_at_call 76; (with_reducible refine (hf2.out _).mono ?_); rintro e w' ⟨rfl, rfl⟩)
              | (go_at_call 88; (with_reducible refine (hc4.out _ (by repeat (first | exact Below.refl _ _ | assumption | apply below_drewB))).mono ?_); rintro e w' ⟨rfl, rfl⟩)
              | (go_at_call 90; (with_reducible refine (hred.out _ (by repeat (first | exact Below.refl _ _ | assumption | apply below_drewB))).mono ?_); rintro e w_1 ⟨v_1, rfl, ho_1, hb_1⟩; obtain ⟨a_1, c_1, rfl⟩ := ho_1.reads.form)
              | (go_at_call 89; (with_reducible refine (hsame.out _ (by repeat (first | exact Below.refl _ _ | assumption | apply below_drewB | refine below_step ?_ hb_1)) _ ho_1.reads).mono ?_); rintro e w_2 ⟨rfl, hq_2⟩; have hb_2 := hq_2.below w_1.heap.size))
          have hB1 : Below w0.heap.size w0 w_1 := below_step (below_drewB (Below.refl _ _)) hb_1
          have hfin := Lib.hid (HB.out.trans ((below_step hB1 hb_2).mono HB.out.size))
          clear ho_1 hb_1 hb_2 hq_2 hB1
          go_wp2
          go_ret
          exact ⟨rfl, hfin.out⟩
      · have hd1 : decide ((m : Int) ≤ (n : Int)) = false := by simp; omega
        have hd2 : ¬ (m : Int) ≤ (n : Int) := by omega
        have hd3 : ¬ m ≤ n := by omega
        have e0 : spB p n L = false := by simp [spB, redB, show ¬ (L.length : Int) ≤ n by omega]
        rw [e0]
        rw [hmm] at X1 x1 HW ⊢
        clear e0 hb1 hb2 hmm HV hc4
        go_enter Tryd.func53, Tryd.ntmps53
        go_wp2_with fail
        rw [← HW.out]
        go_quiet (first | (go_at_call 75; exact Calls.quiet_of (hc1.out _)) | (go_at_call 76; exact Calls.quiet_of (hc2.out _)))
        go_wp2
        go_ret
        exact ⟨rfl, Below.drewN' HB.out _⟩

end Ints
end Go.Proofs.YtimjlcnljefbbaaDoor
