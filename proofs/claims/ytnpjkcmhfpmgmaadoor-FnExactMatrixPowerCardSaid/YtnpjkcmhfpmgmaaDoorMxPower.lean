/- Powers of a matrix: the reference's. -/
import Derived.Test.YtnpjkcmhfpmgmaaDoorPowPlain
import Derived.Test.YtnpjkcmhfpmgmaaDoorMatAt
import Derived.Test.YtnpjkcmhfpmgmaaDoorMxId
namespace Go.Proofs.YtnpjkcmhfpmgmaaDoor
open Go.RowKit
namespace Ints

set_option maxHeartbeats 4000000 in
theorem mxPower_any (p : Int) (n m : Nat) (h2 : 2 ≤ p) (h97 : p ≤ 97) (hn : n ≤ 24) (hm : m ≤ 1000) (u : Value) (A : List (List Int)) (w : World) (hA : ElemsT p n n A) (hu : ReadsM w u A) :
    Calls Tryd.prog 56 #[.int .i64 p, .agg #[.int .i64 n, u], .int .i64 m] w (NewMat w n (powT p n m (idT n) A)) := by
  obtain ⟨ua, uc, rfl⟩ := hu.form
  rw [hA.1] at hu ⊢
  obtain ⟨R, hR⟩ : ∃ R, powT p n m (idT n) A = R := ⟨_, rfl⟩
  obtain ⟨w0, hw0⟩ : ∃ W, W = ((w.alloc (.cells #[.int .i64 n, .slice ua n uc] 26)).alloc (.cells #[.int .i64 0, .slice none 0 0] 26)) := ⟨_, rfl⟩
  have hB : Below w.heap.size w w0 := by rw [hw0]; exact ((Below.refl w.heap.size w).alloc (by simp) _).alloc (by simp) _
  have hs0 : w0.heap.size = w.heap.size + 2 := by rw [hw0]; simp
  have hM : MatAt (fun g => g < w.heap.size) w0 w.heap.size n A (.slice ua n uc) := ⟨by rw [hw0]; simp [go_sem], by rw [hw0]; simp [go_sem], by rw [hw0]; simp [go_sem], by rw [hw0]; simp [go_sem], (InM.of_reads hu).below hB⟩
  have hQ : MatAt (fun _ => False) w0 (w.heap.size + 1) 0 [] (.slice none 0 0) := ⟨by rw [hw0]; simp [go_sem], by rw [hw0]; simp [go_sem], by rw [hw0]; simp [go_sem], by rw [hw0]; simp [go_sem], [], ⟨rfl, none, 0, rfl, Nat.le_refl _, Nat.zero_le _, fun h => by simp at h⟩, fun _ h => absurd rfl h, ⟨rfl, fun i hi => by simp at hi⟩, fun i hi => by simp at hi⟩
  have X0 := hM.1
  have X1 := hM.2.1
  have hid := Lib.hid (mxId_any n (by omega) w0)
  have HM := Lib.hid hM
  have HQ := Lib.hid hQ
  have HW := Lib.hid hw0
  have HB := Lib.hid hB
  have HS := Lib.hid hs0
  have HA := Lib.hid hA
  have HR := Lib.hid hR
  rw [hR]
  clear hw0 hB hs0 hM hQ hu hA hR
  go_enter Tryd.func56, Tryd.ntmps56
  go_wp2_with fail
  rw [← HW.out]
  refine hid.out.mono ?_
  rintro e w1 ⟨v1, rfl, ho1, hb1⟩
  obtain ⟨a1, c1, hv⟩ : ∃ a c, v1 = .slice a n c := by have := ho1.reads.form; rw [idT, tabT_length] at this; exact this
  subst hv
  obtain ⟨w2, hw2⟩ : ∃ W, W = w1.alloc (.cells #[.int .i64 n, .slice a1 n c1] 26) := ⟨_, rfl⟩
  have hb12 : Below w1.heap.size w1 w2 := by rw [hw2]; exact (Below.refl _ _).alloc (Nat.le_refl _) _
  have hs1 := hb1.size
  have B2 : Below w0.heap.size w0 w2 := below_step hb1 hb12
  have hs2 : w2.heap.size = w1.heap.size + 1 := by rw [hw2]; simp
  have hO : MatAt (fun g => g ≠ w.heap.size ∧ g ≠ w.heap.size + 1 ∧ g ≠ w1.heap.size) w2 w1.heap.size n (idT n) (.slice a1 n c1) :=
    ⟨by rw [hw2]; simp [go_sem], by rw [hw2]; simp [go_sem], by rw [hw2]; simp [go_sem], by rw [hw2]; simp [go_sem], ((InM.of_owns ho1).mono fun g h1 h2 => by have := HS.out; omega).below hb12⟩
  have hM2 : MatAt (fun g => g ≠ w.heap.size ∧ g ≠ w.heap.size + 1 ∧ g ≠ w1.heap.size) w2 w.heap.size n A (.slice ua n uc) := by
    have h := HM.out.below B2
    exact ⟨h.1, h.2.1, h.2.2.1, h.2.2.2.1, h.2.2.2.2.mono fun g _ hg => by have := HS.out; omega⟩
  have hQ2 := HQ.out.below B2
  have HOX := Lib.hid ((ho1.bound.below hb12).mono (T := fun g => w.heap.size ≤ g ∧ g ≠ w.heap.size ∧ g ≠ w.heap.size + 1 ∧ g ≠ w1.heap.size) fun g hg => by have := HS.out; omega)
  have HO2 := Lib.hid hO
  have HM2 := Lib.hid hM2
  have HQ2 := Lib.hid hQ2
  have HB2 := Lib.hid (HB.out.trans (B2.mono HB.out.size))
  have HS1 := Lib.hid (show w.heap.size + 2 ≤ w1.heap.size by have := HS.out; omega)
  have HS2 := Lib.hid hs2
  have HW2 := Lib.hid hw2
  have HID := Lib.hid (elems_id h2 n)
  clear X0 X1 hid ho1 hb1 hb12 hs1 B2 hs2 hO hM2 hQ2 hw2
  go_wp2
  rw [← HW2.out]
  go_loopw [2] (fun i wr => ∃ (k : Nat) (X Y : List (List Int)) (vx vy : Value), k ≤ m ∧ i = .int .i64 k ∧ Hid (powT p n k X Y = R) ∧ Hid (ElemsT p n n X) ∧ Hid (ElemsT p n n Y) ∧ MatAt (fun g => g ≠ w.heap.size ∧ g ≠ w.heap.size + 1 ∧ g ≠ w1.heap.size) wr w1.heap.size n X vx ∧ MatAt (fun g => g ≠ w.heap.size ∧ g ≠ w.heap.size + 1 ∧ g ≠ w1.heap.size) wr w.heap.size n Y vy ∧
    MatAt (fun _ => False) wr (w.heap.size + 1) 0 [] (.slice none 0 0) ∧ Below w.heap.size w wr ∧ w1.heap.size < wr.heap.size ∧ OwnsM (fun g => w.heap.size ≤ g ∧ g ≠ w.heap.size ∧ g ≠ w.heap.size + 1 ∧ g ≠ w1.heap.size) wr vx X) (fun i _ => (intOf i).toNat)
  case atStart => exact ⟨m, _, _, _, _, Nat.le_refl _, rfl, HR, HID, HA, HO2.out, HM2.out, HQ2.out, HB2.out, by have := HS2.out; omega, HOX.out⟩
  case round =>
    obtain ⟨k, X, Y, vx, vy, hk, rfl, hpow, hX, hY, hmx, hmy, hq, hbw, hlt1, hox⟩ := hrel
    obtain ⟨sx, cx, hvx⟩ := hmx.form
    obtain ⟨sy, cy, hvy⟩ := hmy.form
    rw [hX.out.1] at hvx
    rw [hY.out.1] at hvy
    subst hvx hvy
    have x0 := hmx.1
    have x1 := hmx.2.1
    have y0 := hmy.1
    have y1 := hmy.2.1
    have HMX := Lib.hid hmx
    have HMY := Lib.hid hmy
    have HQ3 := Lib.hid hq
    have HBW := Lib.hid hbw
    have HLT := Lib.hid hlt1
    have HOXX := Lib.hid hox
    by_cases hpos : 0 < k
    · have hkm : (k : Int) ≤ 1000 := by omega
      have hgt : (0 : Int) < (k : Int) := by omega
      have hdiv : Hid ((k : Int) / 2 = ((k / 2 : Nat) : Int)) := by show _ = _; omega
      -- what the squaring leaves, at whatever world behind it
      have hsq := Lib.hid (fun W (hW : MatAt (fun g => g ≠ w.heap.size ∧ g ≠ w.heap.size + 1 ∧ g ≠ w1.heap.size) W w.heap.size n Y (.slice sy n cy)) => mxMul_any p n n n h2 h97 (by omega) (.slice sy n cy) (.slice sy n cy) Y Y W (by rw [hY.out.1]; omega) (by rw [hY.out.1]; exact hY.out) hY.out hW.2.2.2.2.reads hW.2.2.2.2.reads)
      clear hmx hmy hq hbw hlt1 hox
      by_cases hodd : k % 2 = 1
      · have ho : ((k : Int) % 2 == 1) = true := by rw [beq_iff_eq]; omega
        have hpow2 : Hid (powT p n (k / 2) (mulT p n X Y) (mulT p n Y Y) = R) := (powT_odd hodd X Y).symm.trans hpow.out
        have hcall := Lib.hid (mxMul_any p n n n h2 h97 (by omega) (.slice sx n cx) (.slice sy n cy) X Y wr (by rw [hX.out.1]; omega) (by rw [hX.out.1]; exact hX.out) hY.out HMX.out.2.2.2.2.reads HMY.out.2.2.2.2.reads)
        have hX2 := Lib.hid (elems_sq h2 hX.out (Y := Y))
        have hY2 := Lib.hid (elems_sq h2 hY.out (Y := Y))
        clear hodd
        go_wp2_with fail
        refine hcall.out.mono ?_
        rintro e w3 ⟨v3, rfl, ho3, hb3⟩
        obtain ⟨a3, c3, hv3⟩ := ho3.reads.form
        rw [hX2.out.1] at hv3
        subst hv3
        have hmx3 := HMX.out.below hb3
        have hmy3 := HMY.out.below hb3
        have hq3 := HQ3.out.below hb3
        have z0 := hmx3.1
        have z1 := hmx3.2.1
        have f0 := hmx3.2.2.1
        have f1 := hmx3.2.2.2.1
        have hs3 := hb3.size
        have hin3 : InM (fun g => g ≠ w.heap.size ∧ g ≠ w.heap.size + 1 ∧ g ≠ w1.heap.size) w3 (.slice a3 n c3) (mulT p n X Y) := (InM.of_owns ho3).mono fun g _ hg => by have := HLT.out; have := HS1.out; omega
        have hs1 := HS1.out
        have hmx4 := hmx3.store (d := n) hin3 (fun g hg => hg.2.2)
        have hmy4 := hmy3.chg (matAt_chg2 w3 w1.heap.size (.int .i64 n) (.slice a3 n c3)) (by omega) (fun g _ hg e => hg.2.2 e)
        have hq4 := hq3.chg (matAt_chg2 w3 w1.heap.size (.int .i64 n) (.slice a3 n c3)) (by omega) (fun g _ hg e => hg)
        have hb4 := (HBW.out.trans (hb3.mono HBW.out.size)).trans ((matAt_chg2 w3 w1.heap.size (.int .i64 n) (.slice a3 n c3)).below (B := w.heap.size) (by have := HBW.out.size; omega) fun g hg => by omega)
        have hl4 : w1.heap.size < ((w3.setCell ⟨w1.heap.size, 0, none⟩ (.int .i64 n)).setCell ⟨w1.heap.size, 1, none⟩ (.slice a3 n c3)).heap.size := by have := HLT.out; simp; omega
        have r0 := hmy4.1
        have r1 := hmy4.2.1
        have hox4 : OwnsM (fun g => w.heap.size ≤ g ∧ g ≠ w.heap.size ∧ g ≠ w.heap.size + 1 ∧ g ≠ w1.heap.size) ((w3.setCell ⟨w1.heap.size, 0, none⟩ (.int .i64 n)).setCell ⟨w1.heap.size, 1, none⟩ (.slice a3 n c3)) (.slice a3 n c3) (mulT p n X Y) :=
          (ho3.bound.chg (matAt_chg2 w3 w1.heap.size (.int .i64 n) (.slice a3 n c3)) (fun g hg e => by have := HLT.out; omega)).mono fun g hg => by have := HLT.out; omega
        obtain ⟨w4, hw4⟩ : ∃ W, W = ((w3.setCell ⟨w1.heap.size, 0, none⟩ (.int .i64 n)).setCell ⟨w1.heap.size, 1, none⟩ (.slice a3 n c3)) := ⟨_, rfl⟩
        rw [← hw4] at hmx4 hmy4 hq4 hb4 hl4 hox4
        have HMX4 := Lib.hid hmx4
        have HMY4 := Lib.hid hmy4
        have HQ4 := Lib.hid hq4
        have HB4 := Lib.hid hb4
        have HL4 := Lib.hid hl4
        have HOX4 := Lib.hid hox4
        have HW4 := Lib.hid hw4
        have t0 := hmy3.1
        have t1 := hmy3.2.1
        clear ho3 hb3 hmx3 hmy3 hq3 hs3 hin3 hs1 hmx4 hmy4 hq4 hb4 hl4 hox4 hw4 x0 x1 y0 y1 hcall
        go_wp2_with fail
        rw [← HW4.out]
        refine (hsq.out w4 HMY4.out).mono ?_
        clear z0 z1 f0 f1 t0 t1
        rintro e w5 ⟨v5, rfl, ho5, hb5⟩
        obtain ⟨a5, c5, hv5⟩ := ho5.reads.form
        rw [hY2.out.1] at hv5
        subst hv5
        have hmx5 := HMX4.out.below hb5
        have hmy5 := HMY4.out.below hb5
        have hq5 := HQ4.out.below hb5
        have z0 := hmy5.1
        have z1 := hmy5.2.1
        have f0 := hmy5.2.2.1
        have f1 := hmy5.2.2.2.1
        have hs5 := hb5.size
        have hl5 := HL4.out
        have hs1 := HS1.out
        have hin5 : InM (fun g => g ≠ w.heap.size ∧ g ≠ w.heap.size + 1 ∧ g ≠ w1.heap.size) w5 (.slice a5 n c5) (mulT p n Y Y) := (InM.of_owns ho5).mono fun g _ hg => by omega
        have H1 := Lib.hid (hmy5.store (d := n) hin5 (fun g hg => hg.1))
        have H2 := Lib.hid (hmx5.chg (matAt_chg2 w5 w.heap.size (.int .i64 n) (.slice a5 n c5)) (by omega) (fun g _ hg e => hg.1 e))
        have H3 := Lib.hid (hq5.chg (matAt_chg2 w5 w.heap.size (.int .i64 n) (.slice a5 n c5)) (by omega) (fun g _ hg e => hg))
        have H4 := Lib.hid ((HB4.out.trans (hb5.mono HB4.out.size)).trans ((matAt_chg2 w5 w.heap.size (.int .i64 n) (.slice a5 n c5)).below (B := w.heap.size) (by have := HB4.out.size; omega) fun g hg => by omega))
        have H6 := Lib.hid ((HOX4.out.below hb5).chg (matAt_chg2 w5 w.heap.size (.int .i64 n) (.slice a5 n c5)) (fun g hg e => hg.2.1 e))
        have H5 : Hid (w1.heap.size < ((w5.setCell ⟨w.heap.size, 0, none⟩ (.int .i64 n)).setCell ⟨w.heap.size, 1, none⟩ (.slice a5 n c5)).heap.size) := by show _ < _; simp; omega
        clear ho5 hb5 hmx5 hmy5 hq5 hs5 hl5 hs1 hin5
        go_wp2
        go_roundw
        case rel => exact ⟨k / 2, _, _, _, _, by omega, by first | rfl | (rw [hdiv.out]) | (simp; omega), hpow2, hX2, hY2, H2.out, H1.out, H3.out, H4.out, H5.out, H6.out⟩
        case measure => simp [intOf]; omega
      · have he : k % 2 = 0 := by omega
        have ho : ((k : Int) % 2 == 1) = false := by rw [beq_eq_false_iff_ne]; omega
        have hpow2 : Hid (powT p n (k / 2) X (mulT p n Y Y) = R) := (powT_even (by omega) he X Y).symm.trans hpow.out
        have hX2 := hX
        have hY2 := Lib.hid (elems_sq h2 hY.out (Y := Y))
        have HMX4 := HMX
        have HMY4 := HMY
        have HQ4 := HQ3
        have HB4 := HBW
        have HL4 := HLT
        have HOX4 := HOXX
        clear hodd he x0 x1
        go_wp2_with fail
        refine (hsq.out wr HMY4.out).mono ?_
        clear y0 y1
        rintro e w5 ⟨v5, rfl, ho5, hb5⟩
        obtain ⟨a5, c5, hv5⟩ := ho5.reads.form
        rw [hY2.out.1] at hv5
        subst hv5
        have hmx5 := HMX4.out.below hb5
        have hmy5 := HMY4.out.below hb5
        have hq5 := HQ4.out.below hb5
        have z0 := hmy5.1
        have z1 := hmy5.2.1
        have f0 := hmy5.2.2.1
        have f1 := hmy5.2.2.2.1
        have hs5 := hb5.size
        have hl5 := HL4.out
        have hs1 := HS1.out
        have hin5 : InM (fun g => g ≠ w.heap.size ∧ g ≠ w.heap.size + 1 ∧ g ≠ w1.heap.size) w5 (.slice a5 n c5) (mulT p n Y Y) := (InM.of_owns ho5).mono fun g _ hg => by omega
        have H1 := Lib.hid (hmy5.store (d := n) hin5 (fun g hg => hg.1))
        have H2 := Lib.hid (hmx5.chg (matAt_chg2 w5 w.heap.size (.int .i64 n) (.slice a5 n c5)) (by omega) (fun g _ hg e => hg.1 e))
        have H3 := Lib.hid (hq5.chg (matAt_chg2 w5 w.heap.size (.int .i64 n) (.slice a5 n c5)) (by omega) (fun g _ hg e => hg))
        have H4 := Lib.hid ((HB4.out.trans (hb5.mono HB4.out.size)).trans ((matAt_chg2 w5 w.heap.size (.int .i64 n) (.slice a5 n c5)).below (B := w.heap.size) (by have := HB4.out.size; omega) fun g hg => by omega))
        have H6 := Lib.hid ((HOX4.out.below hb5).chg (matAt_chg2 w5 w.heap.size (.int .i64 n) (.slice a5 n c5)) (fun g hg e => hg.2.1 e))
        have H5 : Hid (w1.heap.size < ((w5.setCell ⟨w.heap.size, 0, none⟩ (.int .i64 n)).setCell ⟨w.heap.size, 1, none⟩ (.slice a5 n c5)).heap.size) := by show _ < _; simp; omega
        clear ho5 hb5 hmx5 hmy5 hq5 hs5 hl5 hs1 hin5
        go_wp2
        go_roundw
        case rel => exact ⟨k / 2, _, _, _, _, by omega, by first | rfl | (rw [hdiv.out]) | (simp; omega), hpow2, hX2, hY2, H2.out, H1.out, H3.out, H4.out, H5.out, H6.out⟩
        case measure => simp [intOf]; omega
    · obtain rfl : k = 0 := by omega
      have hpw := hpow.out
      rw [powT_zero] at hpw
      subst hpw
      have q0 := hq.1
      have q1 := hq.2.1
      have g0 := hq.2.2.1
      have g1 := hq.2.2.2.1
      have hfin : Hid (NewMat w n X (.returned (.agg #[.int .i64 n, .slice sx n cx])) ((wr.setCell ⟨w.heap.size + 1, 0, none⟩ (.int .i64 n)).setCell ⟨w.heap.size + 1, 1, none⟩ (.slice sx n cx))) := by
        exact ⟨_, rfl, (hox.chg (matAt_chg2 wr (w.heap.size + 1) (.int .i64 n) (.slice sx n cx)) fun g hg e => hg.2.2.1 e).mono fun g hg => hg.1, hbw.trans ((matAt_chg2 wr (w.heap.size + 1) (.int .i64 n) (.slice sx n cx)).below hbw.size fun g hg => by omega)⟩
      clear hmx hmy hq hbw hlt1 hox y0 y1
      go_wp2
      refine bodyPost_ret (v := .agg #[.int .i64 n, .slice sx n cx]) (by simp [results, Tryd.results56, go_sem, q0, q1]) rfl ?_
      exact hfin.out

end Ints
end Go.Proofs.YtnpjkcmhfpmgmaaDoor
