/- InverseOf, both walks in one text (a claim has at most 60 texts). -/
import Derived.Test.YtnpjkcmhfpmgmaaDoorMxReduce
import Derived.Test.YtnpjkcmhfpmgmaaDoorRedMore
import Derived.Test.YtnpjkcmhfpmgmaaDoorDetPlain
import Derived.Test.YtnpjkcmhfpmgmaaDoorPredSpec
import Derived.Test.YtnpjkcmhfpmgmaaDoorPredImpl
import Derived.Test.YtnpjkcmhfpmgmaaDoorLawBase
import Derived.Test.YtnpjkcmhfpmgmaaDoorClones
import Derived.Test.YtnpjkcmhfpmgmaaDoorMatAt
import Derived.Test.YtnpjkcmhfpmgmaaDoorReduction
import Derived.Deep.RegionHeld3
import Derived.Deep.DeepCutAuto
namespace Go.Proofs.YtnpjkcmhfpmgmaaDoor
open Go.RowKit
namespace Ints
open Fld (tab_alloc)

theorem ctr_elems {p : Int} {r c : Nat} {L : List (List Int)} (h : ElemsT p r c L) (hr : r ≤ 1000) (hc : c ≤ 1000) : (1 : Int) + (sumL L : Int) ≤ 1000000000 := by
  have h1 := sum_le_mul List.length c L (fun l hl => by
    obtain ⟨i, hi, rfl⟩ := List.getElem_of_mem hl
    have := (h.2 i (by rw [← h.1]; exact hi)).1
    rw [show lAt L i = L[i] by simp [lAt, hi]] at this
    omega)
  have h2 : r * c ≤ 1000 * 1000 := Nat.mul_le_mul hr hc
  rw [h.1] at h1
  unfold sumL
  omega

set_option maxHeartbeats 1000000 in
theorem mxSquare_any (p c : Int) (v : Value) (L : List (List Int)) (w : World) (h : ReadsM w v L) :
    Calls Tryd.prog 54 #[.int .i64 p, .agg #[.int .i64 c, v]] w fun e w' => e = .returned (.bool (matB p c L && decide ((L.length : Int) = c))) ∧ Below w.heap.size w w' := by
  have hB := Lib.hid ((Below.refl w.heap.size w).alloc (Nat.le_refl _) (.cells #[.int .i64 c, v] 26))
  have hcall := Lib.hid (mxGood_any p c v L _ (h.below hB.out))
  obtain ⟨a, cap, rfl⟩ := h.form
  obtain ⟨r, hr⟩ : ∃ r, matB p c L = r := ⟨_, rfl⟩
  obtain ⟨b, hb⟩ : ∃ b, decide ((L.length : Int) = c) = b := ⟨_, rfl⟩
  rw [hr] at hcall ⊢
  rw [hb]
  have hb2 : ((L.length : Int) == c) = b := by rw [← hb]; rfl
  clear h hr hb
  cases r with
  | false =>
    go_enter Tryd.func54, Tryd.ntmps54
    go_wp2_with (go_at_call 45; ((with_reducible refine (hcall.out).mono ?_); rintro e w' ⟨rfl, hq⟩))
    go_ret
    exact ⟨rfl, hB.out.trans (hq.mono hB.out.size)⟩
  | true =>
    go_enter Tryd.func54, Tryd.ntmps54
    go_wp2_with fail
    refine hcall.out.mono ?_
    rintro e w1 ⟨rfl, hq⟩
    have c0 : w1.cell? ⟨w.heap.size, 0, none⟩ = some (.int .i64 c) := cell_old hq (by simp [go_sem])
    have c1 : w1.cell? ⟨w.heap.size, 1, none⟩ = some (.slice a L.length cap) := cell_old hq (by simp [go_sem])
    have HQ := Lib.hid hq
    clear hq
    go_wp2
    go_ret
    exact ⟨rfl, hB.out.trans (HQ.out.mono hB.out.size)⟩

set_option maxHeartbeats 1000000 in
theorem isSquare_any (c : Int) (v : Value) (L : List (List Int)) (w : World) (h : ReadsM w v L) :
    Calls Tryd.prog 57 #[.agg #[.int .i64 c, v]] w fun e w' => e = .returned (.bool (decide ((L.length : Int) = c))) ∧ Below w.heap.size w w' := by
  have hB := Lib.hid ((Below.refl w.heap.size w).alloc (Nat.le_refl _) (.cells #[.int .i64 c, v] 26))
  obtain ⟨a, cap, rfl⟩ := h.form
  obtain ⟨b, hb⟩ : ∃ b, decide ((L.length : Int) = c) = b := ⟨_, rfl⟩
  rw [hb]
  have hb2 : ((L.length : Int) == c) = b := by rw [← hb]; rfl
  clear h hb
  go_enter Tryd.func57, Tryd.ntmps57
  go_wp2
  go_ret
  exact ⟨rfl, hB.out⟩


theorem detN_rank (p : Int) (n c : Nat) (M : List (List Int)) : (Lin.detN p ⟨⟨M, idT n, 0⟩, 1⟩ c).s.r = (redM p c M).r := by
  rw [Lin.detN_s]
  exact (redN_M (s := ⟨M, idT n, 0⟩) (s' := ⟨M, M.map fun _ => [], 0⟩) rfl rfl c).2

set_option maxHeartbeats 1000000 in
theorem mxRank_any (p : Int) (hg : Fld.goodB p = true) (n c : Nat) (hn : n ≤ 1000) (hc : c ≤ 1000) (v : Value) (M : List (List Int)) (w : World) (hM : ElemsT p n c M) (hv : ReadsM w v M) :
    Calls Tryd.prog 67 #[.int .i64 p, .agg #[.int .i64 c, v]] w fun e w' => e = .returned (.int .i64 (redM p c M).r) ∧ Below w.heap.size w w' := by
  have hB := Lib.hid ((Below.refl w.heap.size w).alloc (Nat.le_refl _) (.cells #[.int .i64 c, v] 26))
  have hcall := Lib.hid (mxReduce_any p hg n c hn hc v M _ hM (hv.below hB.out))
  have e1 := detN_rank p n c M
  obtain ⟨r, hr⟩ : ∃ r, (redM p c M).r = r := ⟨_, rfl⟩
  rw [hr] at e1 ⊢
  have HE := Lib.hid e1
  clear hg hM hv e1 hr
  go_enter Tryd.func67, Tryd.ntmps67
  go_wp2_with fail
  refine hcall.out.mono ?_
  rintro e w1 ⟨v8, v9, m, rfl, h8, h9, hb1⟩
  rw [HE.out]
  obtain ⟨a8, c8, rfl⟩ := h8.reads.form
  obtain ⟨a9, c9, rfl⟩ := h9.reads.form
  have HB1 := Lib.hid (hB.out.trans (hb1.mono hB.out.size))
  have hs := HB1.out.size
  clear h8 h9 hb1 hcall
  go_wp2
  go_ret
  exact ⟨rfl, (HB1.out.alloc hs _).alloc (by simp; omega) _⟩




def sqB (p c : Int) (L : List (List Int)) : Bool := matB p c L && decide ((L.length : Int) = c)
def invB (p c : Int) (L : List (List Int)) : Bool := sqB p c L && !decide ((redM p c.toNat L).r < c.toNat)
def invOut (p c : Int) (L : List (List Int)) : List (List Int) := if invB p c L then (redI p c.toNat L).T else []
def invCols (p c : Int) (L : List (List Int)) : Int := if invB p c L then c else 0
theorem sq_parts {p c : Int} {L : List (List Int)} (h : sqB p c L = true) : ∃ n : Nat, c = n ∧ n ≤ 24 ∧ L.length = n ∧ Fld.goodB p = true ∧ ElemsT p n n L := by
  simp only [sqB, Bool.and_eq_true, decide_eq_true_eq] at h
  obtain ⟨h1, h2⟩ := h
  obtain ⟨n, e1, hn, hl, hp, hA⟩ := mat_nats h1
  have hl2 : L.length = n := by omega
  rw [hl2] at hA
  exact ⟨n, e1, hn, hl2, (mat_parts h1).1, hA⟩
theorem redI_ok {p : Int} {n c : Nat} {M : List (List Int)} (hg : Fld.goodB p = true) (hM : ElemsT p n c M) : RedOk p n c n (redI p c M) := by
  have hp := (Fld.good_bounds hg).1
  unfold redI
  rw [hM.1]
  exact redN_ok hp ⟨hM, elems_id hp n, Nat.zero_le _⟩ c
theorem invOut_ctr (p c : Int) (L : List (List Int)) : (1 : Int) + (sumL (invOut p c L) : Int) ≤ 1000000000 := by
  unfold invOut
  split
  · rename_i h
    simp only [invB, Bool.and_eq_true] at h
    obtain ⟨n, rfl, hn, hl, hg, hA⟩ := sq_parts h.1
    simp only [Int.toNat_natCast]
    exact ctr_elems (redI_ok hg hA).2.1 (by omega) (by omega)
  · exact ctr_nil
theorem detN_redI (p : Int) (n c : Nat) (M : List (List Int)) (hl : M.length = n) : (Lin.detN p ⟨⟨M, idT n, 0⟩, 1⟩ c).s = redI p c M := by
  rw [Lin.detN_s, redI, hl]

theorem invB_false_sq {p c : Int} {L : List (List Int)} (h : sqB p c L = false) : invB p c L = false := by simp [invB, h]
theorem inv_none {p c : Int} {L : List (List Int)} (h : invB p c L = false) : invOut p c L = [] ∧ invCols p c L = 0 := by simp [invOut, invCols, h]
theorem inv_some {p : Int} {n : Nat} {L : List (List Int)} (h : invB p n L = true) : invOut p n L = (redI p n L).T ∧ invCols p n L = n := by simp [invOut, invCols, h]
theorem invB_of {p : Int} {n : Nat} {L : List (List Int)} (h : sqB p n L = true) : invB p n L = !decide (((redI p n L).r : Int) < n) := by
  rw [invB, h, (redI_M p n L).2]
  simp




set_option maxHeartbeats 8000000 in
set_option maxRecDepth 100000 in
theorem implInv_any (p c : Int) (u : Value) (A : List (List Int)) (w : World) (ht : Tab w) (hu : ReadsM w u A) :
    Calls Tryd.prog 33 #[.int .i64 p, .agg #[.int .i64 c, u]] w (OptMat w (invB p c A) (invCols p c A) (invOut p c A)) := by
  obtain ⟨ua, uc, rfl⟩ := hu.form
  obtain ⟨w0, hw0⟩ : ∃ W, W = ((w.alloc (.cells #[.int .i64 c, .slice ua A.length uc] 26)).alloc (.cells #[.int .i64 0, .slice none 0 0] 26)) := ⟨_, rfl⟩
  have hB : Below w.heap.size w w0 := by rw [hw0]; exact (((Below.refl w.heap.size w).alloc (by simp) (.cells #[.int .i64 c, .slice ua A.length uc] 26)).alloc (by simp) (.cells #[.int .i64 0, .slice none 0 0] 26))
  have hs0 : w0.heap.size = w.heap.size + 2 := by rw [hw0]; simp
  have X0_0 : ∀ W, Below w0.heap.size w0 W → W.cell? ⟨w.heap.size, 0, none⟩ = some (.int .i64 c) := fun W hW => cell_old hW (by rw [hw0]; simp [go_sem])
  have X0_1 : ∀ W, Below w0.heap.size w0 W → W.cell? ⟨w.heap.size, 1, none⟩ = some (.slice ua A.length uc) := fun W hW => cell_old hW (by rw [hw0]; simp [go_sem])
  have Q0 : ∀ W, Below w0.heap.size w0 W → W.cell? ⟨w.heap.size + 1, 0, none⟩ = some (.int .i64 0) := fun W hW => cell_old hW (by rw [hw0]; simp [go_sem])
  have G0 : ∀ W, Below w0.heap.size w0 W → W.frozen? ⟨w.heap.size + 1, 0, none⟩ = false := fun W hW => frozen_old hW (by show w.heap.size + 1 < _; omega) (by rw [hw0]; simp [go_sem])
  have Q1 : ∀ W, Below w0.heap.size w0 W → W.cell? ⟨w.heap.size + 1, 1, none⟩ = some (.slice none 0 0) := fun W hW => cell_old hW (by rw [hw0]; simp [go_sem])
  have G1 : ∀ W, Below w0.heap.size w0 W → W.frozen? ⟨w.heap.size + 1, 1, none⟩ = false := fun W hW => frozen_old hW (by show w.heap.size + 1 < _; omega) (by rw [hw0]; simp [go_sem])
  have HW := Lib.hid hw0
  have HB := Lib.hid hB
  have HS := Lib.hid hs0
  have HU := Lib.hid (hu.below hB)
  have htB : Hid (Tab w0) := ht.below ht.size hB
  obtain ⟨b1, hb1⟩ : ∃ b, (matB p c A) = b := ⟨_, rfl⟩
  have Cb1 := Lib.hid (fun W (hW : Below w0.heap.size w0 W) => isMatrix_any p c _ A W (htB.out.below htB.out.size hW) (HU.out.below hW))
  rw [hb1] at Cb1
  obtain ⟨b2, hb2⟩ : ∃ b, (decide ((A.length : Int) = c)) = b := ⟨_, rfl⟩
  have Cb2 := Lib.hid (fun W (hW : Below w0.heap.size w0 W) => isSquare_any c _ A W (HU.out.below hW))
  rw [hb2] at Cb2
  clear hw0 hB hs0 hu ht
  cases b1 with
  | false =>
    have e0 : invB p c A = false := invB_false_sq (by simp [sqB, hb1])
    rw [e0, (inv_none e0).1, (inv_none e0).2]
    clear e0 hb1 hb2
    go_enter Tryd.func33, Tryd.ntmps33
    go_wp2_with fail
    rw [← HW.out]
    refine (Cb1.out w0 (Below.refl _ _)).mono ?_
    rintro e w1 ⟨rfl, hb1⟩
    have B1 : Below w0.heap.size w0 w1 := hb1
    clear hb1
    have q0 := Q0 _ B1
    have q1 := Q1 _ B1
    have g0 := G0 _ B1
    have g1 := G1 _ B1
    go_wp2
    refine bodyPost_ret (v := .tuple #[.agg #[.int .i64 0, .slice none 0 0], .bool false]) (by simp [results, Tryd.results33, go_sem, q0, q1]) rfl ?_
    exact optMat_none (HB.out.trans (B1.mono HB.out.size)) (by omega)
  | true =>
    cases b2 with
    | false =>
      have e0 : invB p c A = false := invB_false_sq (by simp [sqB, hb2])
      rw [e0, (inv_none e0).1, (inv_none e0).2]
      clear e0 hb1 hb2
      go_enter Tryd.func33, Tryd.ntmps33
      go_wp2_with fail
      rw [← HW.out]
      refine (Cb1.out w0 (Below.refl _ _)).mono ?_
      rintro e w1 ⟨rfl, hb1⟩
      have B1 : Below w0.heap.size w0 w1 := hb1
      clear hb1
      go_wp2_with fail
      refine (Cb2.out w1 B1).mono ?_
      rintro e w2 ⟨rfl, hb2⟩
      have B2 : Below w0.heap.size w0 w2 := below_step B1 hb2
      clear hb2
      have q0 := Q0 _ B2
      have q1 := Q1 _ B2
      have g0 := G0 _ B2
      have g1 := G1 _ B2
      go_wp2
      refine bodyPost_ret (v := .tuple #[.agg #[.int .i64 0, .slice none 0 0], .bool false]) (by simp [results, Tryd.results33, go_sem, q0, q1]) rfl ?_
      exact optMat_none (HB.out.trans (B2.mono HB.out.size)) (by omega)
    | true =>
      have hsq : sqB p c A = true := by simp [sqB, hb1, hb2]
      obtain ⟨n, rfl, hn, hl, hg, hA⟩ := sq_parts hsq
      have eb := invB_of hsq
      have hlr : ((redI p n A).T).length = n := (redI_ok hg hA).2.1.1
      have hrd : redI p n A = redN p ⟨A, idT n, 0⟩ n := by rw [redI, hl]
      have hcl := Lib.hid (fun W (hW : Below w0.heap.size w0 W) => clones_any (.slice ua n uc) A W (hl ▸ HU.out.below hW) (by
        have h1 := sum_le_mul List.length n A (fun l hl' => by
          obtain ⟨i, hi, rfl⟩ := List.getElem_of_mem hl'
          have := (hA.2 i (by omega)).1
          rw [show lAt A i = A[i] by simp [lAt, hi]] at this
          omega)
        have h3 : A.length * n ≤ 24 * 24 := Nat.mul_le_mul (by omega) hn
        unfold tot
        omega))
      have hid := Lib.hid (fun W => identityRows_any n (by omega) W)
      have hred := Lib.hid (fun (S S' : Nat → Prop) (hSS : ∀ g, S g → ¬ S' g) (vA vT : Value) (W : World) (h1 : OwnsM S W vA A) (h2 : OwnsM S' W vT (idT n)) => reduction_any S S' hSS p hg n n n (by omega) (by omega) vA vT A (idT n) W hA (elems_id (Fld.good_bounds hg).1 n) h1 h2)
      obtain ⟨r, hr⟩ : ∃ r, (redI p n A).r = r := ⟨_, rfl⟩
      obtain ⟨R, hR⟩ : ∃ R, (redI p n A).T = R := ⟨_, rfl⟩
      have hbr : Hid (invB p n A = true → invOut p n A = R ∧ invCols p n A = n) := fun h => by rw [← hR]; exact inv_some h
      rw [hR] at hlr
      rw [← hrd, hR, hr] at hred
      rw [hr] at eb
      have HL := Lib.hid hl
      have HLR := Lib.hid hlr
      have HN := Lib.hid hn
      rw [hl] at X0_1
      have hlt : ∃ b, decide ((r : Int) < n) = b := ⟨_, rfl⟩
      obtain ⟨b3, hb3⟩ := hlt
      rw [hb3] at eb
      clear hR hrd hr hlr hA hg hsq hb1 hb2 hl
      have HEB := Lib.hid eb
      clear eb
      go_enter Tryd.func33, Tryd.ntmps33
      go_wp2_with fail
      rw [← HW.out]
      rw [HL.out]
      rw [HL.out] at Cb1 Cb2
      refine (Cb1.out w0 (Below.refl _ _)).mono ?_
      rintro e w1 ⟨rfl, hb1⟩
      have B1 : Below w0.heap.size w0 w1 := hb1
      clear hb1
      go_wp2_with fail
      refine (Cb2.out w1 B1).mono ?_
      rintro e w2 ⟨rfl, hb2⟩
      have B2 := Lib.hid (below_step B1 hb2)
      clear hb2 B1 Cb1 Cb2
      have M0 : ∀ W, Below w2.heap.size w2 W → W.cell? ⟨w.heap.size, 0, none⟩ = some (.int .i64 n) := fun W hW => X0_0 W (below_step B2.out hW)
      have M1 : ∀ W, Below w2.heap.size w2 W → W.cell? ⟨w.heap.size, 1, none⟩ = some (.slice ua n uc) := fun W hW => X0_1 W (below_step B2.out hW)
      have HX0 := Lib.hid X0_0
      have HQ0 := Lib.hid Q0
      have HQ1 := Lib.hid Q1
      have HG0 := Lib.hid G0
      have HG1 := Lib.hid G1
      clear X0_0 X0_1 Q0 Q1 G0 G1
      go_upto_region 3 with fail
      go_region_held3 (fun W => Below w2.heap.size w2 W)
        (first | ((repeat (first | exact Below.refl _ _ | assumption | apply below_drewB | refine below_step ?_ hb_2 | refine below_step ?_ hb_1)); done))
        (first
          | (go_at_call 49; (with_reducible refine (hcl.out _ (below_step B2.out (by repeat (first | exact Below.refl _ _ | assumption | apply below_drewB)))).mono ?_); rintro e w_1 ⟨v_1, rfl, ho_1, hb_1⟩)
          | (go_at_call 59; (with_reducible refine (hid.out _).mono ?_); rintro e w_2 ⟨v_2, rfl, ho_2, hb_2⟩))
      obtain ⟨a1, c1, rfl⟩ := ho_1.reads.form
      obtain ⟨a2, c2, rfl⟩ := ho_2.reads.form
      rw [HL.out] at ho_1 ⊢
      rw [show (idT n).length = n by rw [idT, tabT_length]] at ho_2 ⊢
      have hB1 : Below w2.heap.size w2 w_1 := below_step (below_drewB (Below.refl _ _)) hb_1
      have hB2 : Below w2.heap.size w2 w_2 := below_step hB1 hb_2
      have hs1 := hB1.size
      have hs2 := hb_2.size
      have O1 : OwnsM (fun g => w2.heap.size ≤ g ∧ g < w_1.heap.size) w_2 (.slice a1 n c1) A := (ho_1.bound.below hb_2).mono fun g hg => hg
      have O2 : OwnsM (fun g => w_1.heap.size ≤ g) w_2 (.slice a2 n c2) (idT n) := ho_2
      have hcall : Hid (∀ W, Below w_2.heap.size w_2 W → Calls Tryd.prog 66 #[.int .i64 p, .slice a1 n c1, .int .i64 n, .slice a2 n c2] W fun e w' => e = .returned (.int .i64 r) ∧ OwnsM (w_1.heap.size ≤ ·) w' (.slice a2 n c2) R ∧ Below w2.heap.size w2 w') := fun W hW =>
        (hred.out _ _ (fun g h h' => by omega) _ _ W (O1.below hW) (O2.below hW)).mono fun e w' ⟨q1, q2, q3, q4⟩ => ⟨q1, q3, (below_step hB2 hW).trans (q4.below (by have := hW.size; omega) fun g hg => by omega)⟩
      have HB2 := Lib.hid hB2
      have HS1 := Lib.hid hs1
      clear hcl hid hred ho_1 ho_2 hb_1 hb_2 hB1 hB2 hs1 hs2 O1 O2
      have hbm := HB2.out
      have HBR := Lib.hid hbr
      cases b3 with
      | true =>
        have hb4 : decide (r < n) = true := by simpa using hb3
        go_upto_region 4 with fail
        go_region_held3 (fun W => Below w2.heap.size w2 W)
          (first | ((repeat (first | exact Below.refl _ _ | assumption | apply below_drewB)); done))
          (first | (go_at_call 66; (with_reducible refine (hcall.out _ (by repeat (first | exact Below.refl _ _ | assumption | apply below_drewB))).mono ?_); rintro e w_3 ⟨rfl, ho_3, hb_3⟩))
        have e0 : invB p n A = false := HEB.out
        have B3 := Lib.hid (B2.out.trans (hb_3.mono B2.out.size))
        have q0 := HQ0.out _ B3.out
        have q1 := HQ1.out _ B3.out
        have g0 := HG0.out _ B3.out
        have g1 := HG1.out _ B3.out
        clear hbm
        go_wp2
        refine bodyPost_ret (v := .tuple #[.agg #[.int .i64 0, .slice none 0 0], .bool false]) (by simp [results, Tryd.results33, go_sem, q0, q1]) rfl ?_
        rw [e0, (inv_none e0).1, (inv_none e0).2]
        exact optMat_none (HB.out.trans (B3.out.mono HB.out.size)) (by omega)
      | false =>
        have hb4 : decide (r < n) = false := by simpa using hb3
        go_upto_region 4 with fail
        go_region_held3 (fun W => Below w2.heap.size w2 W)
          (first | ((repeat (first | exact Below.refl _ _ | assumption | apply below_drewB)); done))
          (first | (go_at_call 66; (with_reducible refine (hcall.out _ (by repeat (first | exact Below.refl _ _ | assumption | apply below_drewB))).mono ?_); rintro e w_3 ⟨rfl, ho_3, hb_3⟩))
        have e0 : invB p n A = true := HEB.out
        have B3 := Lib.hid (B2.out.trans (hb_3.mono B2.out.size))
        have q0 := HQ0.out _ B3.out
        have q1 := HQ1.out _ B3.out
        have g0 := HG0.out _ B3.out
        have g1 := HG1.out _ B3.out
        have m0 := HX0.out _ B3.out
        have hbw := HB.out.trans (B3.out.mono HB.out.size)
        have hfin : Hid (OptMat w true n R (.returned (.tuple #[.agg #[.int .i64 n, .slice a2 n c2], .bool true])) ((w_3.setCell ⟨w.heap.size + 1, 0, none⟩ (.int .i64 n)).setCell ⟨w.heap.size + 1, 1, none⟩ (.slice a2 n c2))) :=
          ⟨_, rfl, (ho_3.chg (matAt_chg2 w_3 (w.heap.size + 1) (.int .i64 n) (.slice a2 n c2)) fun g hg e => by have h1 := HS1.out; have h2 := B2.out.size; have h3 := HS.out; omega).mono fun g hg => by have h1 := HS1.out; have h2 := B2.out.size; have h3 := HS.out; omega, hbw.trans ((matAt_chg2 w_3 (w.heap.size + 1) (.int .i64 n) (.slice a2 n c2)).below hbw.size fun g hg => by omega)⟩
        clear hbm ho_3 hbw
        go_wp2
        refine bodyPost_ret (v := .tuple #[.agg #[.int .i64 n, .slice a2 n c2], .bool true]) (by simp [results, Tryd.results33, go_sem, q0, q1]) rfl ?_
        rw [e0, (HBR.out.out e0).1, (HBR.out.out e0).2]
        exact hfin.out




set_option maxHeartbeats 4000000 in
theorem specInv_any (p c : Int) (u : Value) (A : List (List Int)) (w : World) (hu : ReadsM w u A) :
    Calls Tryd.prog 32 #[.int .i64 p, .agg #[.int .i64 c, u]] w (OptMat w (invB p c A) (invCols p c A) (invOut p c A)) := by
  obtain ⟨ua, uc, rfl⟩ := hu.form
  obtain ⟨w0, hw0⟩ : ∃ W, W = ((w.alloc (.cells #[.int .i64 c, .slice ua A.length uc] 26)).alloc (.cells #[.int .i64 0, .slice none 0 0] 26)) := ⟨_, rfl⟩
  have hB : Below w.heap.size w w0 := by rw [hw0]; exact ((Below.refl w.heap.size w).alloc (by simp) _).alloc (by simp) _
  have hs0 : w0.heap.size = w.heap.size + 2 := by rw [hw0]; simp
  have X0 : ∀ W, Below w0.heap.size w0 W → W.cell? ⟨w.heap.size, 0, none⟩ = some (.int .i64 c) := fun W hW => cell_old hW (by rw [hw0]; simp [go_sem])
  have X1 : ∀ W, Below w0.heap.size w0 W → W.cell? ⟨w.heap.size, 1, none⟩ = some (.slice ua A.length uc) := fun W hW => cell_old hW (by rw [hw0]; simp [go_sem])
  have hQ := matAt_nil (W := w0) (b := w.heap.size + 1) (by rw [hw0]; simp [go_sem]) (by rw [hw0]; simp [go_sem]) (by rw [hw0]; simp [go_sem]) (by rw [hw0]; simp [go_sem])
  have hsq := Lib.hid (fun W (hW : Below w0.heap.size w0 W) => mxSquare_any p c (.slice ua A.length uc) A W ((hu.below hB).below hW))
  have hQ0 : ∀ W, Below w0.heap.size w0 W → W.cell? ⟨w.heap.size + 1, 0, none⟩ = some (.int .i64 0) := fun W hW => (hQ.below hW).1
  have hQ1 : ∀ W, Below w0.heap.size w0 W → W.cell? ⟨w.heap.size + 1, 1, none⟩ = some (.slice none 0 0) := fun W hW => (hQ.below hW).2.1
  have hG0 : ∀ W, Below w0.heap.size w0 W → W.frozen? ⟨w.heap.size + 1, 0, none⟩ = false := fun W hW => (hQ.below hW).2.2.1
  have hG1 : ∀ W, Below w0.heap.size w0 W → W.frozen? ⟨w.heap.size + 1, 1, none⟩ = false := fun W hW => (hQ.below hW).2.2.2.1
  have HQ0 := Lib.hid hQ0
  have HQ1 := Lib.hid hQ1
  have HG0 := Lib.hid hG0
  have HG1 := Lib.hid hG1
  have HU := Lib.hid (hu.below hB)
  have HB := Lib.hid hB
  have HS := Lib.hid hs0
  have HW := Lib.hid hw0
  obtain ⟨b1, hb1⟩ : ∃ b, sqB p c A = b := ⟨_, rfl⟩
  rw [show (matB p c A && decide ((A.length : Int) = c)) = b1 from hb1] at hsq
  clear hu hB hw0 hs0 hQ hQ0 hQ1 hG0 hG1
  cases b1 with
  | false =>
    have e0 := Lib.hid (invB_false_sq hb1)
    clear hb1
    go_enter Tryd.func32, Tryd.ntmps32
    go_wp2_with fail
    rw [← HW.out]
    go_upto_region 1 with fail
    have x0 := X0 w0 (Below.refl _ _)
    have x1 := X1 w0 (Below.refl _ _)
    have x0d := X0 w0.drew (below_drewB (Below.refl _ _))
    have x1d := X1 w0.drew (below_drewB (Below.refl _ _))
    go_cut [21] (fun t W => t = .bool true ∧ Below w0.heap.size w0 W)
    case first =>
      first
        | (go_region_with ((go_at_call 54; (with_reducible refine (hsq.out _ (by repeat (first | exact Below.refl _ _ | assumption | apply below_drewB))).mono ?_); rintro e w_1 ⟨rfl, hb_1⟩; have hbb : Below w0.heap.size w0 w_1 := (by repeat (first | exact Below.refl _ _ | assumption | apply below_drewB | refine below_step ?_ hb_1)); have y0 := X0 _ hbb; have y1 := X1 _ hbb)))
        | fail "region"
      all_goals go_wp2
      all_goals go_meet
      all_goals exact ⟨rfl, by repeat (first | exact Below.refl _ _ | assumption | apply below_drewB | refine below_step ?_ hb_1)⟩
    case rest =>
    obtain ⟨rfl, hb⟩ := hcut
    have q0 := HQ0.out _ hb
    have q1 := HQ1.out _ hb
    have g0 := HG0.out _ hb
    have g1 := HG1.out _ hb
    go_wp2
    refine bodyPost_ret (v := .tuple #[.agg #[.int .i64 0, .slice none 0 0], .bool false]) (by simp [results, Tryd.results32, go_sem, q0, q1]) rfl ?_
    rw [e0.out, (inv_none e0.out).1, (inv_none e0.out).2]
    exact optMat_none (HB.out.trans (hb.mono HB.out.size)) (by omega)
  | true =>
    obtain ⟨n, rfl, hn, hl, hg, hA⟩ := sq_parts hb1
    have eb := invB_of hb1
    have hlr : ((redI p n A).T).length = n := (redI_ok hg hA).2.1.1
    have hrk := Lib.hid (fun W (hW : Below w0.heap.size w0 W) => mxRank_any p hg n n (by omega) (by omega) (.slice ua n uc) A W hA (hl ▸ HU.out.below hW))
    have hrd := Lib.hid (fun W (hW : Below w0.heap.size w0 W) => mxReduce_any p hg n n (by omega) (by omega) (.slice ua n uc) A W hA (hl ▸ HU.out.below hW))
    have e2 := detN_redI p n n A hl
    obtain ⟨r, hr⟩ : ∃ r, (redI p n A).r = r := ⟨_, rfl⟩
    obtain ⟨R, hR⟩ : ∃ R, (redI p n A).T = R := ⟨_, rfl⟩
    have hbr : Hid (invB p n A = true → invOut p n A = R ∧ invCols p n A = n) := Lib.hid fun h => by rw [← hR]; exact inv_some h
    rw [← (redI_M p n A).2, hr] at hrk
    rw [hr] at eb
    rw [hR] at hlr
    have hrd2 : Hid (∀ W, Below w0.heap.size w0 W → Calls Tryd.prog 64 #[.int .i64 p, .agg #[.int .i64 n, .slice ua n uc]] W fun e w' => ∃ (s8 s9 : Option Addr) (n8 k8 k9 : Nat) (d : Int), e = .returned (.tuple #[.agg #[.int .i64 n, .slice s8 n8 k8], .agg #[.int .i64 n, .slice s9 n k9], .int .i64 r, .int .i64 d]) ∧ OwnsM (W.heap.size ≤ ·) w' (.slice s9 n k9) R ∧ Below W.heap.size W w') := Lib.hid fun W hW => (hrd.out W hW).mono fun e w' ⟨v8, v9, m, q1, q2, q3, q4⟩ => by
      rw [e2] at q1 q2 q3
      rw [hr] at q1
      rw [hR] at q3
      obtain ⟨s8, k8, rfl⟩ := q2.reads.form
      obtain ⟨s9, k9, rfl⟩ := q3.reads.form
      rw [hlr] at q1 q3
      exact ⟨s8, s9, _, k8, k9, _, q1, q3.mono fun g hg => hg.1, q4⟩
    have HL := Lib.hid hl
    have HLR := Lib.hid hlr
    rw [hl] at X1
    obtain ⟨b3, hb3⟩ : ∃ b, decide ((r : Int) < n) = b := ⟨_, rfl⟩
    rw [hb3] at eb
    have HEB := Lib.hid eb
    rw [hl] at hsq
    clear hR hr hlr hA hg hb1 hl eb e2 hrd
    cases b3 with
    | true =>
      have hb4 : decide (r < n) = true := by simpa using hb3
      go_enter Tryd.func32, Tryd.ntmps32
      go_wp2_with fail
      rw [HL.out]
      rw [HL.out] at HW
      rw [← HW.out]
      go_upto_region 1 with fail
      go_region_held3 (fun W => Below w0.heap.size w0 W)
        (first | ((repeat (first | exact Below.refl _ _ | assumption | apply below_drewB | refine below_step ?_ hb_2 | refine below_step ?_ hb_1)); done))
        (first
          | (go_at_call 54; (with_reducible refine (hsq.out _ (by repeat (first | exact Below.refl _ _ | assumption | apply below_drewB))).mono ?_); rintro e w_1 ⟨rfl, hb_1⟩)
          | (go_at_call 67; (with_reducible refine (hrk.out _ (by repeat (first | exact Below.refl _ _ | assumption | apply below_drewB | refine below_step ?_ hb_1))).mono ?_); rintro e w_2 ⟨rfl, hb_2⟩))
      have hb : Below w0.heap.size w0 w_2 := by first | assumption | exact below_step (below_step (below_drewB (Below.refl _ _)) hb_1) hb_2
      have q0 := HQ0.out _ hb
      have q1 := HQ1.out _ hb
      have g0 := HG0.out _ hb
      have g1 := HG1.out _ hb
      have e0 : invB p n A = false := HEB.out
      go_wp2
      refine bodyPost_ret (v := .tuple #[.agg #[.int .i64 0, .slice none 0 0], .bool false]) (by simp [results, Tryd.results32, go_sem, q0, q1]) rfl ?_
      rw [e0, (inv_none e0).1, (inv_none e0).2]
      exact optMat_none (HB.out.trans (hb.mono HB.out.size)) (by omega)
    | false =>
      have hb4 : decide (r < n) = false := by simpa using hb3
      go_enter Tryd.func32, Tryd.ntmps32
      go_wp2_with fail
      rw [HL.out]
      rw [HL.out] at HW
      rw [← HW.out]
      go_upto_region 1 with fail
      go_region_held3 (fun W => Below w0.heap.size w0 W)
        (first | ((repeat (first | exact Below.refl _ _ | assumption | apply below_drewB | refine below_step ?_ hb_2 | refine below_step ?_ hb_1)); done))
        (first
          | (go_at_call 54; (with_reducible refine (hsq.out _ (by repeat (first | exact Below.refl _ _ | assumption | apply below_drewB))).mono ?_); rintro e w_1 ⟨rfl, hb_1⟩)
          | (go_at_call 67; (with_reducible refine (hrk.out _ (by repeat (first | exact Below.refl _ _ | assumption | apply below_drewB | refine below_step ?_ hb_1))).mono ?_); rintro e w_2 ⟨rfl, hb_2⟩))
      have hb : Below w0.heap.size w0 w_2 := by first | assumption | exact below_step (below_step (below_drewB (Below.refl _ _)) hb_1) hb_2
      have HB2 := Lib.hid hb
      have HS2 := Lib.hid hb.size
      have x0 := X0 _ hb
      have x1 := X1 _ hb
      have e0 : Hid (invB p n A = true) := HEB.out
      clear hb_1 hb_2 hb
      go_wp2_with fail
      refine (hrd2.out w_2 HB2.out).mono ?_
      rintro e w_3 ⟨s8, s9, n8, k8, k9, d, rfl, ho_3, hb_3⟩
      have hb34 : Below w_3.heap.size w_3 ((w_3.alloc (.cells #[.int .i64 n, .slice s8 n8 k8] 26)).alloc (.cells #[.int .i64 n, .slice s9 n k9] 26)) := ((Below.refl _ _).alloc (Nat.le_refl _) _).alloc (by simp) _
      have ho_4 := ho_3.below hb34
      have B4 := Lib.hid (below_step (below_step HB2.out hb_3) hb34)
      have q0 := HQ0.out _ B4.out
      have q1 := HQ1.out _ B4.out
      have g0 := HG0.out _ B4.out
      have g1 := HG1.out _ B4.out
      have hbw := HB.out.trans (B4.out.mono HB.out.size)
      have hsz := HB2.out.size
      have hws := HB.out.size
      have hs0 := HS.out
      have hfin : Hid (OptMat w true n R (.returned (.tuple #[.agg #[.int .i64 n, .slice s9 n k9], .bool true])) ((((w_3.alloc (.cells #[.int .i64 n, .slice s8 n8 k8] 26)).alloc (.cells #[.int .i64 n, .slice s9 n k9] 26)).setCell ⟨w.heap.size + 1, 0, none⟩ (.int .i64 n)).setCell ⟨w.heap.size + 1, 1, none⟩ (.slice s9 n k9))) :=
        ⟨_, rfl, (ho_4.chg (matAt_chg2 _ (w.heap.size + 1) (.int .i64 n) (.slice s9 n k9)) fun g hg e => by omega).mono fun g hg => by omega, hbw.trans ((matAt_chg2 _ (w.heap.size + 1) (.int .i64 n) (.slice s9 n k9)).below hbw.size fun g hg => by omega)⟩
      clear ho_3 hb_3 hb34 ho_4 x0 x1 X0 X1 hbw hsz hws hs0
      go_wp2
      refine bodyPost_ret (v := .tuple #[.agg #[.int .i64 n, .slice s9 n k9], .bool true]) (by simp [results, Tryd.results32, go_sem, q0, q1]) rfl ?_
      rw [e0.out, (hbr.out e0.out).1, (hbr.out e0.out).2]
      exact hfin.out


end Ints
end Go.Proofs.YtnpjkcmhfpmgmaaDoor
