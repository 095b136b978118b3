/- MatrixPower, the program's. (Printed by wip/gen_pow.py.) -/
import Derived.Test.YtnpjkcmhfpmgmaaDoorPowSpec
import Derived.Test.YtnpjkcmhfpmgmaaDoorClones
import Derived.Deep.RegionHeld3
import Derived.Deep.DeepCutAuto
namespace Go.Proofs.YtnpjkcmhfpmgmaaDoor
open Go.RowKit
namespace Ints

set_option maxHeartbeats 8000000 in
theorem implPower_any (p c m : Int) (u : Value) (A : List (List Int)) (w : World) (ht : Tab w) (hu : ReadsM w u A) :
    Calls Tryd.prog 22 #[.int .i64 p, .agg #[.int .i64 c, u], .int .i64 m] w (OptMat w (powB p c m A) (powCols p c m A) (powOut p c m A)) := by
  obtain ⟨ua, uc, rfl⟩ := hu.form
  obtain ⟨w0, hw0⟩ : ∃ W, W = ((w.alloc (.cells #[.int .i64 c, .slice ua A.length uc] 26)).alloc (.cells #[.int .i64 0, .slice none 0 0] 26)) := ⟨_, rfl⟩
  have hB : Below w.heap.size w w0 := by rw [hw0]; exact (((Below.refl w.heap.size w).alloc (by simp) (.cells #[.int .i64 c, .slice ua A.length uc] 26)).alloc (by simp) (.cells #[.int .i64 0, .slice none 0 0] 26))
  have hs0 : w0.heap.size = w.heap.size + 2 := by rw [hw0]; simp
  have X0_0 : ∀ W, Below w0.heap.size w0 W → W.cell? ⟨w.heap.size, 0, none⟩ = some (.int .i64 c) := fun W hW => cell_old hW (by rw [hw0]; simp [go_sem])
  have X0_1 : ∀ W, Below w0.heap.size w0 W → W.cell? ⟨w.heap.size, 1, none⟩ = some (.slice ua A.length uc) := fun W hW => cell_old hW (by rw [hw0]; simp [go_sem])
  have Q0 : ∀ W, Below w0.heap.size w0 W → W.cell? ⟨w.heap.size + 1, 0, none⟩ = some (.int .i64 0) := fun W hW => cell_old hW (by rw [hw0]; simp [go_sem])
  have G0 : ∀ W, Below w0.heap.size w0 W → W.frozen? ⟨w.heap.size + 1, 0, none⟩ = false := fun W hW => frozen_old hW (by show w.heap.size + 1 < _; omega) (by rw [hw0]; simp [go_sem])
  have Q1 : ∀ W, Below w0.heap.size w0 W → W.cell? ⟨w.heap.size + 1, 1, none⟩ = some (.slice none 0 0) := fun W hW => cell_old hW (by rw [hw0]; simp [go_sem])
  have G1 : ∀ W, Below w0.heap.size w0 W → W.frozen? ⟨w.heap.size + 1, 1, none⟩ = false := fun W hW => frozen_old hW (by show w.heap.size + 1 < _; omega) (by rw [hw0]; simp [go_sem])
  have HW := Lib.hid hw0
  have HB := Lib.hid hB
  have HS := Lib.hid hs0
  have HU := Lib.hid (hu.below hB)
  have HU0 := Lib.hid hu
  have htB : Hid (Tab w0) := ht.below ht.size hB
  obtain ⟨b1, hb1⟩ : ∃ b, (matB p c A) = b := ⟨_, rfl⟩
  have Cb1 := Lib.hid (fun W (hW : Below w0.heap.size w0 W) => isMatrix_any p c _ A W (htB.out.below htB.out.size hW) (HU.out.below hW))
  rw [hb1] at Cb1
  obtain ⟨b2, hb2⟩ : ∃ b, (decide ((A.length : Int) = c)) = b := ⟨_, rfl⟩
  have Cb2 := Lib.hid (fun W (hW : Below w0.heap.size w0 W) => isSquare_any c _ A W (HU.out.below hW))
  rw [hb2] at Cb2
  obtain ⟨b3, hb3⟩ : ∃ b, (Fld.inR m 0 1000) = b := ⟨_, rfl⟩
  have Cb3 := Lib.hid (fun W (hW : Below w0.heap.size w0 W) => within_any m 0 1000 W)
  rw [hb3] at Cb3
  clear hw0 hB hs0 hu ht
  cases b1 with
  | false =>
    have e0 : powB p c m A = false := by simp [powB, hb1]
    have e1 : powOut p c m A = [] := by simp [powOut, e0]
    have e2 : powCols p c m A = 0 := by simp [powCols, e0]
    rw [e0, e1, e2]
    clear e0 e1 e2
    clear hb1 hb2 hb3
    go_enter Tryd.func22, Tryd.ntmps22
    go_wp2_with fail
    rw [← HW.out]
    refine (Cb1.out w0 (Below.refl _ _)).mono ?_
    rintro e w1 ⟨rfl, hb1⟩
    have B1 : Below w0.heap.size w0 w1 := hb1
    clear hb1
    go_wp2
    refine bodyPost_ret (v := .tuple #[.agg #[.int .i64 0, .slice none 0 0], .bool false]) (by simp [results, Tryd.results22, go_sem, Q0 _ B1, Q1 _ B1]) rfl ?_
    exact optMat_none (HB.out.trans (B1.mono HB.out.size)) (by omega)
  | true =>
    cases b2 with
    | false =>
      have e0 : powB p c m A = false := by simp [powB, hb1, hb2]
      have e1 : powOut p c m A = [] := by simp [powOut, e0]
      have e2 : powCols p c m A = 0 := by simp [powCols, e0]
      rw [e0, e1, e2]
      clear e0 e1 e2
      clear hb1 hb2 hb3
      go_enter Tryd.func22, Tryd.ntmps22
      go_wp2_with fail
      rw [← HW.out]
      refine (Cb1.out w0 (Below.refl _ _)).mono ?_
      rintro e w1 ⟨rfl, hb1⟩
      have B1 : Below w0.heap.size w0 w1 := hb1
      clear hb1
      go_wp2_with fail
      refine (Cb2.out w1 B1).mono ?_
      rintro e w2 ⟨rfl, hb2⟩
      have B2 : Below w0.heap.size w0 w2 := below_step B1 hb2
      clear hb2
      go_wp2
      refine bodyPost_ret (v := .tuple #[.agg #[.int .i64 0, .slice none 0 0], .bool false]) (by simp [results, Tryd.results22, go_sem, Q0 _ B2, Q1 _ B2]) rfl ?_
      exact optMat_none (HB.out.trans (B2.mono HB.out.size)) (by omega)
    | true =>
      cases b3 with
      | false =>
        have e0 : powB p c m A = false := by simp [powB, hb1, hb2, hb3]
        have e1 : powOut p c m A = [] := by simp [powOut, e0]
        have e2 : powCols p c m A = 0 := by simp [powCols, e0]
        rw [e0, e1, e2]
        clear e0 e1 e2
        clear hb1 hb2 hb3
        go_enter Tryd.func22, Tryd.ntmps22
        go_wp2_with fail
        rw [← HW.out]
        refine (Cb1.out w0 (Below.refl _ _)).mono ?_
        rintro e w1 ⟨rfl, hb1⟩
        have B1 : Below w0.heap.size w0 w1 := hb1
        clear hb1
        go_wp2_with fail
        refine (Cb2.out w1 B1).mono ?_
        rintro e w2 ⟨rfl, hb2⟩
        have B2 : Below w0.heap.size w0 w2 := below_step B1 hb2
        clear hb2
        go_wp2_with fail
        refine (Cb3.out w2 B2).mono ?_
        rintro e w3 ⟨rfl, rfl⟩
        go_wp2
        refine bodyPost_ret (v := .tuple #[.agg #[.int .i64 0, .slice none 0 0], .bool false]) (by simp [results, Tryd.results22, go_sem, Q0 _ B2, Q1 _ B2]) rfl ?_
        exact optMat_none (HB.out.trans (B2.mono HB.out.size)) (by omega)
      | true =>
        have e0 : powB p c m A = true := by simp [powB, hb1, hb2, hb3]
        obtain ⟨n, k, rfl, rfl, hn, hk, hl, h2, hA⟩ := powB_parts e0
        have e1 : powOut p n k A = powT p n k (idT n) A := by simp [powOut, e0]
        have e2 : powCols p n k A = n := by simp [powCols, e0]
        rw [e0, e1, e2]
        have HA := Lib.hid hA
        have HL := Lib.hid hl
        clear e0 e1 e2 hb1 hb2 hb3 hA hl
        obtain ⟨R, hR⟩ : ∃ R, powT p n k (idT n) A = R := ⟨_, rfl⟩
        rw [hR]
        have HR := Lib.hid hR
        clear hR
        go_enter Tryd.func22, Tryd.ntmps22
        go_wp2_with fail
        rw [← HW.out]
        refine (Cb1.out w0 (Below.refl _ _)).mono ?_
        rintro e w1 ⟨rfl, hb1⟩
        have B1 : Below w0.heap.size w0 w1 := hb1
        clear hb1
        go_wp2_with fail
        refine (Cb2.out w1 B1).mono ?_
        rintro e w2 ⟨rfl, hb2⟩
        have B2 : Below w0.heap.size w0 w2 := below_step B1 hb2
        clear hb2
        go_wp2_with fail
        refine (Cb3.out w2 B2).mono ?_
        rintro e w3 ⟨rfl, rfl⟩
        have HBW := Lib.hid (HB.out.trans (B2.mono HB.out.size))
        have HS2 : Hid (w.heap.size + 1 < w2.heap.size) := by show _ < _; have := B2.size; have := HS.out; omega
        have HB2 := Lib.hid B2
        rw [HL.out] at X0_1
        have HQ2 := Lib.hid (matAt_nil (Q0 _ B2) (Q1 _ B2) (G0 _ B2) (G1 _ B2))
        have M0 : ∀ W, Below w2.heap.size w2 W → W.cell? ⟨w.heap.size, 0, none⟩ = some (.int .i64 n) := fun W hW => X0_0 W (below_step HB2.out hW)
        have M1 : ∀ W, Below w2.heap.size w2 W → W.cell? ⟨w.heap.size, 1, none⟩ = some (.slice ua n uc) := fun W hW => X0_1 W (below_step HB2.out hW)
        clear X0_0 X0_1 Q0 Q1 G0 G1 B1 B2 Cb1 Cb2 Cb3
        go_upto_region 3 with fail
        have hid := Lib.hid (fun W => identityRows_any n (by omega) W)
        go_cut [8] (fun t W => OwnBox w2 n (idT n) t W)
        case first =>
          go_region_held3 (fun W => Below w2.heap.size w2 W)
            (first | (refine (Below.setCell (p := ⟨_, 0, none⟩) ?_ bx.1 _).setCell (p := ⟨_, 1, none⟩) bx.1 _; (repeat (first | exact Below.refl _ _ | assumption | apply below_alloc | apply below_drewB | refine below_step ?_ hb_r)); done) | ((repeat (first | exact Below.refl _ _ | assumption | apply below_alloc | apply below_drewB | refine below_step ?_ hb_r)); done))
            ((go_at_call 59; (with_reducible refine (hid.out _).mono ?_); rintro e w_r ⟨v_r, rfl, ho_r, hb_r⟩; obtain ⟨s_r, e_r, rfl⟩ := ho_r.reads.form; (first | have bx := boxIn_new (c := w2) (by (repeat (first | exact Below.refl _ _ | assumption | apply below_alloc | apply below_drewB | refine below_step ?_ hb_r))) hb_r | have bx := boxIn_new' (c := w2) hb_r | skip); (first | (have y0 := bx.2.2.1; have y1 := bx.2.2.2.1; have g0 := bx.2.2.2.2.1; have g1 := bx.2.2.2.2.2) | skip)))
          all_goals go_wp2
          all_goals go_meet
          all_goals
            first
            | exact ownBox_alloc n _ (by (repeat (first | exact Below.refl _ _ | assumption | apply below_alloc | apply below_drewB | refine below_step ?_ hb_r))) (OwnsM.mono ho_r fun g hg => Nat.le_trans (below_le (c := w2) (by (repeat (first | exact Below.refl _ _ | assumption | apply below_alloc | apply below_drewB | refine below_step ?_ hb_r)))) hg)
            | exact ownBox_put n (by (repeat (first | exact Below.refl _ _ | assumption | apply below_alloc | apply below_drewB | refine below_step ?_ hb_r))) ho_r bx (by simp)
        case rest =>
        obtain ⟨b8, v8, rfl, hM8, ho8, hbl, hbs, hb⟩ := hcut
        obtain ⟨s8, e8, hv8⟩ := hM8.form
        rw [show (idT n).length = n by rw [idT, tabT_length]] at hv8
        subst hv8
        obtain ⟨w3, hw3⟩ : ∃ W, W = wc := ⟨_, rfl⟩
        rw [← hw3] at hM8 ho8 hbs hb ⊢
        clear hw3 wc
        have m0 := M0 w3 hb
        have m1 := M1 w3 hb
        obtain ⟨w4, hw4⟩ : ∃ W, W = w3.alloc (.cells #[.int .i64 n, .slice ua n uc] 26) := ⟨_, rfl⟩
        have hb34 : Below w3.heap.size w3 w4 := by rw [hw4]; exact (Below.refl _ _).alloc (Nat.le_refl _) _
        have hs4 : w4.heap.size = w3.heap.size + 1 := by rw [hw4]; simp
        have hws := HBW.out.size
        have hs2 := HS2.out
        have hbw3 : Below w.heap.size w w3 := HBW.out.trans (hb.mono HBW.out.size)
        have HX4 := Lib.hid ((hM8.below hb34).mono (T := (fun g => g ≠ b8 ∧ g ≠ w3.heap.size ∧ g ≠ w.heap.size + 1)) fun g h1 h2 => by have := hM8.2.2.2.2; omega)
        have HY4 : Hid (MatAt (fun g => g ≠ b8 ∧ g ≠ w3.heap.size ∧ g ≠ w.heap.size + 1) w4 w3.heap.size n A (.slice ua n uc)) := by
          have hl := HL.out
          have hr := (InM.of_reads HU0.out)
          rw [hl] at hr
          exact ⟨by rw [hw4]; simp [go_sem], by rw [hw4]; simp [go_sem], by rw [hw4]; simp [go_sem], by rw [hw4]; simp [go_sem], ((hr.below hbw3).mono (T := (fun g => g ≠ b8 ∧ g ≠ w3.heap.size ∧ g ≠ w.heap.size + 1)) fun g _ hg => by have := hbw3.size; omega).below hb34⟩
        have HQ4 := Lib.hid ((HQ2.out.below hb).below hb34)
        have HB4 := Lib.hid (hbw3.trans (hb34.mono hbw3.size))
        have HO4 := Lib.hid ((ho8.below hb34).mono (T := (fun g => w.heap.size ≤ g ∧ g ≠ b8 ∧ g ≠ w3.heap.size ∧ g ≠ w.heap.size + 1)) fun g hg => by omega)
        have HL8 := Lib.hid (show w.heap.size + 1 < b8 ∧ b8 < w3.heap.size by omega)
        have HS4 := Lib.hid hs4
        have HW4 := Lib.hid hw4
        have HID := Lib.hid (elems_id h2.1 n)
        clear hM8 ho8 hbl hbs hb hb34 hs4 hws hs2 hbw3 hw4 M0 M1 hid
        go_wp2
        rw [← HW4.out]
        go_loopw [2, 9] (fun i t wr => ∃ (q bb : Nat) (X Y : List (List Int)) (vx vy : Value), q ≤ k ∧ i = .int .i64 q ∧ t = .pointer (some ⟨bb, 0, none⟩) ∧ Hid (powT p n q X Y = R) ∧ Hid (ElemsT p n n X) ∧ Hid (ElemsT p n n Y) ∧ MatAt (fun g => g ≠ b8 ∧ g ≠ bb ∧ g ≠ w.heap.size + 1) wr b8 n X vx ∧ MatAt (fun g => g ≠ b8 ∧ g ≠ bb ∧ g ≠ w.heap.size + 1) wr bb n Y vy ∧
          MatAt (fun _ => False) wr (w.heap.size + 1) 0 [] (.slice none 0 0) ∧ Below w.heap.size w wr ∧ OwnsM (fun g => w.heap.size ≤ g ∧ g ≠ b8 ∧ g ≠ bb ∧ g ≠ w.heap.size + 1) wr vx X ∧ w.heap.size + 1 < bb ∧ b8 < bb ∧ bb < wr.heap.size) (fun i _ _ => (intOf i).toNat)
        case atStart => exact ⟨k, w3.heap.size, _, _, _, _, Nat.le_refl _, rfl, rfl, HR, HID, HA, HX4.out, HY4.out, HQ4.out, HB4.out, HO4.out, by have := HL8.out; omega, by have := HL8.out; omega, by have := HS4.out; omega⟩
        case round =>
          obtain ⟨q, bb, X, Y, vx, vy, hq, rfl, rfl, hpow, hX, hY, hmx, hmy, hqq, hbw, hox, hl1, hl2, hl3⟩ := hrel
          obtain ⟨sx, cx, hvx⟩ := hmx.form
          obtain ⟨sy, cy, hvy⟩ := hmy.form
          rw [hX.out.1] at hvx
          rw [hY.out.1] at hvy
          subst hvx hvy
          have x0 := hmx.1
          have x1 := hmx.2.1
          have y0 := hmy.1
          have y1 := hmy.2.1
          have HMX := Lib.hid hmx
          have HMY := Lib.hid hmy
          have HQ3 := Lib.hid hqq
          have HBWR := Lib.hid hbw
          have HOXX := Lib.hid hox
          have HLS := Lib.hid (And.intro hl1 (And.intro hl2 hl3))
          by_cases hpos : 0 < q
          · have hkm : (q : Int) ≤ 1000 := by omega
            have hgt : (0 : Int) < (q : Int) := by omega
            have hdiv : Hid ((q : Int) / 2 = ((q / 2 : Nat) : Int)) := by show _ = _; omega
            have hsq := Lib.hid (fun W (hW : MatAt (fun g => g ≠ b8 ∧ g ≠ bb ∧ g ≠ w.heap.size + 1) W bb n Y (.slice sy n cy)) => times_any p n n n h2.1 h2.2 (by omega) (.slice sy n cy) (.slice sy n cy) Y Y W (by rw [hY.out.1]; omega) (by rw [hY.out.1]; exact hY.out) hY.out hW.2.2.2.2.reads hW.2.2.2.2.reads)
            clear hmx hmy hqq hbw hox hl1 hl2 hl3 m0 m1
            by_cases hodd : q % 2 = 1
            · have ho : ((q : Int) % 2 == 1) = true := by rw [beq_iff_eq]; omega
              have hpow2 : Hid (powT p n (q / 2) (mulT p n X Y) (mulT p n Y Y) = R) := (powT_odd hodd X Y).symm.trans hpow.out
              have hcall := Lib.hid (times_any p n n n h2.1 h2.2 (by omega) (.slice sx n cx) (.slice sy n cy) X Y wr (by rw [hX.out.1]; omega) (by rw [hX.out.1]; exact hX.out) hY.out HMX.out.2.2.2.2.reads HMY.out.2.2.2.2.reads)
              have hX2 := Lib.hid (elems_sq h2.1 hX.out (Y := Y))
              have hY2 := Lib.hid (elems_sq h2.1 hY.out (Y := Y))
              clear hodd
              go_wp2_with fail
              refine hcall.out.mono ?_
              rintro e w5 ⟨v5, rfl, ho5, hb5⟩
              obtain ⟨a5, c5, hv5⟩ := ho5.reads.form
              rw [hX2.out.1] at hv5
              subst hv5
              have hmx5 := HMX.out.below hb5
              have hmy5 := HMY.out.below hb5
              have hq5 := HQ3.out.below hb5
              have z0 := hmx5.1
              have z1 := hmx5.2.1
              have f0 := hmx5.2.2.1
              have f1 := hmx5.2.2.2.1
              have hs5 := hb5.size
              have hl := HLS.out
              have hl8 := HL8.out
              have hin5 : InM (fun g => g ≠ b8 ∧ g ≠ bb ∧ g ≠ w.heap.size + 1) w5 (.slice a5 n c5) (mulT p n X Y) := (InM.of_owns ho5).mono fun g _ hg => by omega
              have hch := matAt_chg2 w5 b8 (.int .i64 n) (.slice a5 n c5)
              have hmx6 := hmx5.store (d := n) hin5 (fun g hg => hg.1)
              have hmy6 := hmy5.chg hch (by omega) (fun g _ hg e => hg.1 e)
              have hq6 := hq5.chg hch (by omega) (fun g _ hg e => hg)
              have hb6 := (HBWR.out.trans (hb5.mono HBWR.out.size)).trans (hch.below (B := w.heap.size) (by have := HBWR.out.size; omega) fun g hg => by omega)
              have hox6 : OwnsM (fun g => w.heap.size ≤ g ∧ g ≠ b8 ∧ g ≠ bb ∧ g ≠ w.heap.size + 1) _ (.slice a5 n c5) (mulT p n X Y) := (ho5.bound.chg hch (fun g hg e => by omega)).mono fun g hg => by have := HBWR.out.size; omega
              have hl6 : bb < ((w5.setCell ⟨b8, 0, none⟩ (.int .i64 n)).setCell ⟨b8, 1, none⟩ (.slice a5 n c5)).heap.size := by simp; omega
              have r0 := hmy6.1
              have r1 := hmy6.2.1
              obtain ⟨w6, hw6⟩ : ∃ W, W = ((w5.setCell ⟨b8, 0, none⟩ (.int .i64 n)).setCell ⟨b8, 1, none⟩ (.slice a5 n c5)) := ⟨_, rfl⟩
              rw [← hw6] at hmx6 hmy6 hq6 hb6 hox6 hl6
              have HMX6 := Lib.hid hmx6
              have HMY6 := Lib.hid hmy6
              have HQ6 := Lib.hid hq6
              have HB6 := Lib.hid hb6
              have HO6 := Lib.hid hox6
              have HL6 := Lib.hid hl6
              have HW6 := Lib.hid hw6
              clear ho5 hb5 hmx5 hmy5 hq5 hs5 hl hl8 hin5 hch hmx6 hmy6 hq6 hb6 hox6 hl6 hw6 x0 x1 y0 y1 hcall
              go_wp2_with fail
              rw [← HW6.out]
              refine (hsq.out w6 HMY6.out).mono ?_
              clear z0 z1 f0 f1 r0 r1
              rintro e w7 ⟨v7, rfl, ho7, hb7⟩
              obtain ⟨a7, c7, hv7⟩ := ho7.reads.form
              rw [hY2.out.1] at hv7
              subst hv7
              have hmx7 := HMX6.out.below hb7
              have hmy7 := HMY6.out.below hb7
              have hq7 := HQ6.out.below hb7
              have z0 := hmy7.1
              have z1 := hmy7.2.1
              have f0 := hmy7.2.2.1
              have f1 := hmy7.2.2.2.1
              have hs7 := hb7.size
              have hl6 := HL6.out
              have hl8 := HL8.out
              have hl := HLS.out
              have hin7 : InM (fun g => g ≠ b8 ∧ g ≠ bb ∧ g ≠ w.heap.size + 1) w7 (.slice a7 n c7) (mulT p n Y Y) := (InM.of_owns ho7).mono fun g _ hg => by omega
              have hch := matAt_chg2 w7 bb (.int .i64 n) (.slice a7 n c7)
              obtain ⟨w8, hw8⟩ : ∃ W, W = ((w7.setCell ⟨bb, 0, none⟩ (.int .i64 n)).setCell ⟨bb, 1, none⟩ (.slice a7 n c7)) := ⟨_, rfl⟩
              rw [← hw8] at hch
              have hmy8 : MatAt (fun g => g ≠ b8 ∧ g ≠ bb ∧ g ≠ w.heap.size + 1) w8 bb n (mulT p n Y Y) (.slice a7 n c7) := by rw [hw8]; exact hmy7.store (d := n) hin7 (fun g hg => hg.2.1)
              have hmx8 := hmx7.chg hch (by omega) (fun g _ hg e => hg.2.1 e)
              have hq8 := hq7.chg hch (by omega) (fun g _ hg e => hg)
              have hb8 := (HB6.out.trans (hb7.mono HB6.out.size)).trans (hch.below (B := w.heap.size) (by have := HB6.out.size; omega) fun g hg => by omega)
              have hox8 := (HO6.out.below hb7).chg hch (fun g hg e => hg.2.2.1 e)
              have hs8 : w7.heap.size = w8.heap.size := by rw [hw8]; simp
              obtain ⟨w9, hw9⟩ : ∃ W, W = w8.alloc (.cells #[.int .i64 n, .slice a7 n c7] 26) := ⟨_, rfl⟩
              have hb89 : Below w8.heap.size w8 w9 := by rw [hw9]; exact (Below.refl _ _).alloc (Nat.le_refl _) _
              have H1 := Lib.hid ((hmx8.mono (T := (fun g => g ≠ b8 ∧ g ≠ w8.heap.size ∧ g ≠ w.heap.size + 1)) fun g h1 h2 => by omega).below hb89)
              have H2 : Hid (MatAt (fun g => g ≠ b8 ∧ g ≠ w8.heap.size ∧ g ≠ w.heap.size + 1) w9 w8.heap.size n (mulT p n Y Y) (.slice a7 n c7)) := ⟨by rw [hw9]; simp [go_sem], by rw [hw9]; simp [go_sem], by rw [hw9]; simp [go_sem], by rw [hw9]; simp [go_sem], (hmy8.2.2.2.2.mono (T := (fun g => g ≠ b8 ∧ g ≠ w8.heap.size ∧ g ≠ w.heap.size + 1)) fun g h1 h2 => by omega).below hb89⟩
              have H3 := Lib.hid (hq8.below hb89)
              have H4 := Lib.hid (hb8.trans (hb89.mono hb8.size))
              have H5 := Lib.hid ((hox8.bound.below hb89).mono (T := (fun g => w.heap.size ≤ g ∧ g ≠ b8 ∧ g ≠ w8.heap.size ∧ g ≠ w.heap.size + 1)) fun g hg => by omega)
              have H6 : Hid (w.heap.size + 1 < w8.heap.size ∧ b8 < w8.heap.size ∧ w8.heap.size < w9.heap.size) := ⟨by omega, by omega, by rw [hw9]; simp⟩
              have n0 := hmy8.1
              have n1 := hmy8.2.1
              rw [hw8] at n0 n1
              have HW8 := Lib.hid hw8
              have HW9 := Lib.hid hw9
              clear ho7 hb7 hmx7 hmy7 hq7 hs7 hl6 hl8 hl hin7 hch hmy8 hmx8 hq8 hb8 hox8 hs8 hb89 hw8 hw9
              go_wp2
              rw [← HW8.out, ← HW9.out]
              go_roundw
              case rel => exact ⟨q / 2, w8.heap.size, _, _, _, _, by omega, by first | rfl | (rw [hdiv.out]) | (simp; omega), by first | rfl | (rw [HW8.out]; simp), hpow2, hX2, hY2, H1.out, H2.out, H3.out, H4.out, H5.out, H6.out.1, H6.out.2.1, H6.out.2.2⟩
              case measure => simp [intOf]; omega
            · have he : q % 2 = 0 := by omega
              have ho : ((q : Int) % 2 == 1) = false := by rw [beq_eq_false_iff_ne]; omega
              have hpow2 : Hid (powT p n (q / 2) X (mulT p n Y Y) = R) := (powT_even (by omega) he X Y).symm.trans hpow.out
              have hX2 := hX
              have hY2 := Lib.hid (elems_sq h2.1 hY.out (Y := Y))
              have HMX6 := HMX
              have HMY6 := HMY
              have HQ6 := HQ3
              have HB6 := HBWR
              have HO6 := HOXX
              have HL6 := Lib.hid HLS.out.2.2
              clear hodd he x0 x1
              go_wp2_with fail
              refine (hsq.out wr HMY6.out).mono ?_
              clear y0 y1
              rintro e w7 ⟨v7, rfl, ho7, hb7⟩
              obtain ⟨a7, c7, hv7⟩ := ho7.reads.form
              rw [hY2.out.1] at hv7
              subst hv7
              have hmx7 := HMX6.out.below hb7
              have hmy7 := HMY6.out.below hb7
              have hq7 := HQ6.out.below hb7
              have z0 := hmy7.1
              have z1 := hmy7.2.1
              have f0 := hmy7.2.2.1
              have f1 := hmy7.2.2.2.1
              have hs7 := hb7.size
              have hl6 := HL6.out
              have hl8 := HL8.out
              have hl := HLS.out
              have hin7 : InM (fun g => g ≠ b8 ∧ g ≠ bb ∧ g ≠ w.heap.size + 1) w7 (.slice a7 n c7) (mulT p n Y Y) := (InM.of_owns ho7).mono fun g _ hg => by omega
              have hch := matAt_chg2 w7 bb (.int .i64 n) (.slice a7 n c7)
              obtain ⟨w8, hw8⟩ : ∃ W, W = ((w7.setCell ⟨bb, 0, none⟩ (.int .i64 n)).setCell ⟨bb, 1, none⟩ (.slice a7 n c7)) := ⟨_, rfl⟩
              rw [← hw8] at hch
              have hmy8 : MatAt (fun g => g ≠ b8 ∧ g ≠ bb ∧ g ≠ w.heap.size + 1) w8 bb n (mulT p n Y Y) (.slice a7 n c7) := by rw [hw8]; exact hmy7.store (d := n) hin7 (fun g hg => hg.2.1)
              have hmx8 := hmx7.chg hch (by omega) (fun g _ hg e => hg.2.1 e)
              have hq8 := hq7.chg hch (by omega) (fun g _ hg e => hg)
              have hb8 := (HB6.out.trans (hb7.mono HB6.out.size)).trans (hch.below (B := w.heap.size) (by have := HB6.out.size; omega) fun g hg => by omega)
              have hox8 := (HO6.out.below hb7).chg hch (fun g hg e => hg.2.2.1 e)
              have hs8 : w7.heap.size = w8.heap.size := by rw [hw8]; simp
              obtain ⟨w9, hw9⟩ : ∃ W, W = w8.alloc (.cells #[.int .i64 n, .slice a7 n c7] 26) := ⟨_, rfl⟩
              have hb89 : Below w8.heap.size w8 w9 := by rw [hw9]; exact (Below.refl _ _).alloc (Nat.le_refl _) _
              have H1 := Lib.hid ((hmx8.mono (T := (fun g => g ≠ b8 ∧ g ≠ w8.heap.size ∧ g ≠ w.heap.size + 1)) fun g h1 h2 => by omega).below hb89)
              have H2 : Hid (MatAt (fun g => g ≠ b8 ∧ g ≠ w8.heap.size ∧ g ≠ w.heap.size + 1) w9 w8.heap.size n (mulT p n Y Y) (.slice a7 n c7)) := ⟨by rw [hw9]; simp [go_sem], by rw [hw9]; simp [go_sem], by rw [hw9]; simp [go_sem], by rw [hw9]; simp [go_sem], (hmy8.2.2.2.2.mono (T := (fun g => g ≠ b8 ∧ g ≠ w8.heap.size ∧ g ≠ w.heap.size + 1)) fun g h1 h2 => by omega).below hb89⟩
              have H3 := Lib.hid (hq8.below hb89)
              have H4 := Lib.hid (hb8.trans (hb89.mono hb8.size))
              have H5 := Lib.hid ((hox8.bound.below hb89).mono (T := (fun g => w.heap.size ≤ g ∧ g ≠ b8 ∧ g ≠ w8.heap.size ∧ g ≠ w.heap.size + 1)) fun g hg => by omega)
              have H6 : Hid (w.heap.size + 1 < w8.heap.size ∧ b8 < w8.heap.size ∧ w8.heap.size < w9.heap.size) := ⟨by omega, by omega, by rw [hw9]; simp⟩
              have n0 := hmy8.1
              have n1 := hmy8.2.1
              rw [hw8] at n0 n1
              have HW8 := Lib.hid hw8
              have HW9 := Lib.hid hw9
              clear ho7 hb7 hmx7 hmy7 hq7 hs7 hl6 hl8 hl hin7 hch hmy8 hmx8 hq8 hb8 hox8 hs8 hb89 hw8 hw9
              go_wp2
              rw [← HW8.out, ← HW9.out]
              go_roundw
              case rel => exact ⟨q / 2, w8.heap.size, _, _, _, _, by omega, by first | rfl | (rw [hdiv.out]) | (simp; omega), by first | rfl | (rw [HW8.out]; simp), hpow2, hX2, hY2, H1.out, H2.out, H3.out, H4.out, H5.out, H6.out.1, H6.out.2.1, H6.out.2.2⟩
              case measure => simp [intOf]; omega
          · obtain rfl : q = 0 := by omega
            have hpw := hpow.out
            rw [powT_zero] at hpw
            subst hpw
            have q0 := hqq.1
            have q1 := hqq.2.1
            have g0 := hqq.2.2.1
            have g1 := hqq.2.2.2.1
            have hfin : Hid (OptMat w true n X (.returned (.tuple #[.agg #[.int .i64 n, .slice sx n cx], .bool true])) ((wr.setCell ⟨w.heap.size + 1, 0, none⟩ (.int .i64 n)).setCell ⟨w.heap.size + 1, 1, none⟩ (.slice sx n cx))) :=
              ⟨_, rfl, (hox.chg (matAt_chg2 wr (w.heap.size + 1) (.int .i64 n) (.slice sx n cx)) fun g hg e => hg.2.2.2 e).mono fun g hg => hg.1, hbw.trans ((matAt_chg2 wr (w.heap.size + 1) (.int .i64 n) (.slice sx n cx)).below hbw.size fun g hg => by omega)⟩
            clear hmx hmy hqq hbw hox y0 y1 m0 m1
            go_wp2
            refine bodyPost_ret (v := .tuple #[.agg #[.int .i64 n, .slice sx n cx], .bool true]) (by simp [results, Tryd.results22, go_sem, q0, q1]) rfl ?_
            exact hfin.out
        

end Ints
end Go.Proofs.YtnpjkcmhfpmgmaaDoor

