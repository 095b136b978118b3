/- AddMatrices, the program's. (Printed by wip/gen_add.py.) -/
import Derived.Test.YtnpjkcmhfpmgmaaDoorClones
import Derived.Test.YtnpjkcmhfpmgmaaDoorPredImpl
import Derived.Test.YtnpjkcmhfpmgmaaDoorAddPlain
import Derived.Deep.RegionHeld3
import Derived.Deep.DeepCutAuto
import Derived.Deep.RegionLaw
namespace Go.Proofs.YtnpjkcmhfpmgmaaDoor
open Go.RowKit
namespace Ints
open Fld (tab_alloc)

set_option maxHeartbeats 4000000 in
theorem implAdd_any (p ca cb : Int) (u v : Value) (A B : List (List Int)) (w : World) (ht : Tab w) (hu : ReadsM w u A) (hv : ReadsM w v B) :
    Calls Tryd.prog 15 #[.int .i64 p, .agg #[.int .i64 ca, u], .agg #[.int .i64 cb, v]] w (OptMat w (fitB p ca cb A B) (addCols p ca cb A B) (addOut p ca cb A B)) := by
  obtain ⟨ua, uc, rfl⟩ := hu.form
  obtain ⟨va, vc, rfl⟩ := hv.form
  obtain ⟨w0, hw0⟩ : ∃ W, W = (((w.alloc (.cells #[.int .i64 ca, .slice ua A.length uc] 26)).alloc (.cells #[.int .i64 cb, .slice va B.length vc] 26)).alloc (.cells #[.int .i64 0, .slice none 0 0] 26)) := ⟨_, rfl⟩
  have hB : Below w.heap.size w w0 := by rw [hw0]; exact ((((Below.refl w.heap.size w).alloc (by simp) (.cells #[.int .i64 ca, .slice ua A.length uc] 26)).alloc (by simp) (.cells #[.int .i64 cb, .slice va B.length vc] 26)).alloc (by simp; omega) (.cells #[.int .i64 0, .slice none 0 0] 26))
  have hs0 : w0.heap.size = w.heap.size + 3 := by rw [hw0]; simp
  have X0_0 : ∀ W, Below w0.heap.size w0 W → W.cell? ⟨w.heap.size, 0, none⟩ = some (.int .i64 ca) := fun W hW => cell_old hW (by rw [hw0]; simp [go_sem])
  have X0_1 : ∀ W, Below w0.heap.size w0 W → W.cell? ⟨w.heap.size, 1, none⟩ = some (.slice ua A.length uc) := fun W hW => cell_old hW (by rw [hw0]; simp [go_sem])
  have X1_0 : ∀ W, Below w0.heap.size w0 W → W.cell? ⟨w.heap.size + 1, 0, none⟩ = some (.int .i64 cb) := fun W hW => cell_old hW (by rw [hw0]; simp [go_sem])
  have X1_1 : ∀ W, Below w0.heap.size w0 W → W.cell? ⟨w.heap.size + 1, 1, none⟩ = some (.slice va B.length vc) := fun W hW => cell_old hW (by rw [hw0]; simp [go_sem])
  have Q0 : ∀ W, Below w0.heap.size w0 W → W.cell? ⟨w.heap.size + 1 + 1, 0, none⟩ = some (.int .i64 0) := fun W hW => cell_old hW (by rw [hw0]; simp [go_sem])
  have G0 : ∀ W, Below w0.heap.size w0 W → W.frozen? ⟨w.heap.size + 1 + 1, 0, none⟩ = false := fun W hW => frozen_old hW (by show w.heap.size + 1 + 1 < _; omega) (by rw [hw0]; simp [go_sem])
  have Q1 : ∀ W, Below w0.heap.size w0 W → W.cell? ⟨w.heap.size + 1 + 1, 1, none⟩ = some (.slice none 0 0) := fun W hW => cell_old hW (by rw [hw0]; simp [go_sem])
  have G1 : ∀ W, Below w0.heap.size w0 W → W.frozen? ⟨w.heap.size + 1 + 1, 1, none⟩ = false := fun W hW => frozen_old hW (by show w.heap.size + 1 + 1 < _; omega) (by rw [hw0]; simp [go_sem])
  have HW := Lib.hid hw0
  have HB := Lib.hid hB
  have HS := Lib.hid hs0
  have HU := Lib.hid (hu.below hB)
  have HV := Lib.hid (hv.below hB)
  have HU0 := Lib.hid hu
  have HV0 := Lib.hid hv
  have htB : Hid (Tab w0) := ht.below ht.size hB
  obtain ⟨b1, hb1⟩ : ∃ b, (matB p ca A) = b := ⟨_, rfl⟩
  have Cb1 := Lib.hid (fun W (hW : Below w0.heap.size w0 W) => isMatrix_any p ca _ A W (htB.out.below htB.out.size hW) (HU.out.below hW))
  rw [hb1] at Cb1
  obtain ⟨b2, hb2⟩ : ∃ b, (matB p cb B) = b := ⟨_, rfl⟩
  have Cb2 := Lib.hid (fun W (hW : Below w0.heap.size w0 W) => isMatrix_any p cb _ B W (htB.out.below htB.out.size hW) (HV.out.below hW))
  rw [hb2] at Cb2
  obtain ⟨b3, hb3⟩ : ∃ b, (ca == cb) = b := ⟨_, rfl⟩
  have Eb3 : (ca != cb) = !b3 := by rw [← hb3]; rfl
  obtain ⟨b4, hb4⟩ : ∃ b, (decide (A.length = B.length)) = b := ⟨_, rfl⟩
  have Eb4 : ((A.length : Int) != (B.length : Int)) = !b4 := by rw [← hb4]; exact len_ne _ _
  clear hw0 hB hs0 hu hv ht
  cases b1 with
  | false =>
    have e0 : fitB p ca cb A B = false := by simp [fitB, hb1]
    have e1 : addOut p ca cb A B = [] := by simp [addOut, e0]
    have e2 : addCols p ca cb A B = 0 := by simp [addCols, e0]
    rw [e0, e1, e2]
    clear e0 e1 e2
    clear hb1 hb2 hb3 hb4
    go_enter Tryd.func15, Tryd.ntmps15
    go_wp2_with fail
    rw [← HW.out]
    refine (Cb1.out w0 (Below.refl _ _)).mono ?_
    rintro e w1 ⟨rfl, hb1⟩
    have B1 : Below w0.heap.size w0 w1 := hb1
    clear hb1
    go_wp2
    refine bodyPost_ret (v := .tuple #[.agg #[.int .i64 0, .slice none 0 0], .bool false]) (by simp [results, Tryd.results15, go_sem, Q0 _ B1, Q1 _ B1]) rfl ?_
    exact optMat_none (HB.out.trans (B1.mono HB.out.size)) (by omega)
  | true =>
    cases b2 with
    | false =>
      have e0 : fitB p ca cb A B = false := by simp [fitB, hb1, hb2]
      have e1 : addOut p ca cb A B = [] := by simp [addOut, e0]
      have e2 : addCols p ca cb A B = 0 := by simp [addCols, e0]
      rw [e0, e1, e2]
      clear e0 e1 e2
      clear hb1 hb2 hb3 hb4
      go_enter Tryd.func15, Tryd.ntmps15
      go_wp2_with fail
      rw [← HW.out]
      refine (Cb1.out w0 (Below.refl _ _)).mono ?_
      rintro e w1 ⟨rfl, hb1⟩
      have B1 : Below w0.heap.size w0 w1 := hb1
      clear hb1
      go_wp2_with fail
      refine (Cb2.out w1 B1).mono ?_
      rintro e w2 ⟨rfl, hb2⟩
      have B2 : Below w0.heap.size w0 w2 := below_step B1 hb2
      clear hb2
      go_wp2
      refine bodyPost_ret (v := .tuple #[.agg #[.int .i64 0, .slice none 0 0], .bool false]) (by simp [results, Tryd.results15, go_sem, Q0 _ B2, Q1 _ B2]) rfl ?_
      exact optMat_none (HB.out.trans (B2.mono HB.out.size)) (by omega)
    | true =>
      cases b3 with
      | false =>
        have e0 : fitB p ca cb A B = false := by simp [fitB, hb1, hb2, hb3]
        have e1 : addOut p ca cb A B = [] := by simp [addOut, e0]
        have e2 : addCols p ca cb A B = 0 := by simp [addCols, e0]
        rw [e0, e1, e2]
        clear e0 e1 e2
        clear hb1 hb2 hb3 hb4
        go_enter Tryd.func15, Tryd.ntmps15
        go_wp2_with fail
        rw [← HW.out]
        refine (Cb1.out w0 (Below.refl _ _)).mono ?_
        rintro e w1 ⟨rfl, hb1⟩
        have B1 : Below w0.heap.size w0 w1 := hb1
        clear hb1
        go_wp2_with fail
        refine (Cb2.out w1 B1).mono ?_
        rintro e w2 ⟨rfl, hb2⟩
        have B2 : Below w0.heap.size w0 w2 := below_step B1 hb2
        clear hb2
        go_wp2
        refine bodyPost_ret (v := .tuple #[.agg #[.int .i64 0, .slice none 0 0], .bool false]) (by simp [results, Tryd.results15, go_sem, Q0 _ B2, Q1 _ B2]) rfl ?_
        exact optMat_none (HB.out.trans (B2.mono HB.out.size)) (by omega)
      | true =>
        cases b4 with
        | false =>
          have e0 : fitB p ca cb A B = false := by simp [fitB, hb1, hb2, hb3, hb4]
          have e1 : addOut p ca cb A B = [] := by simp [addOut, e0]
          have e2 : addCols p ca cb A B = 0 := by simp [addCols, e0]
          rw [e0, e1, e2]
          clear e0 e1 e2
          clear hb1 hb2 hb3 hb4
          go_enter Tryd.func15, Tryd.ntmps15
          go_wp2_with fail
          rw [← HW.out]
          refine (Cb1.out w0 (Below.refl _ _)).mono ?_
          rintro e w1 ⟨rfl, hb1⟩
          have B1 : Below w0.heap.size w0 w1 := hb1
          clear hb1
          go_wp2_with fail
          refine (Cb2.out w1 B1).mono ?_
          rintro e w2 ⟨rfl, hb2⟩
          have B2 : Below w0.heap.size w0 w2 := below_step B1 hb2
          clear hb2
          go_wp2
          refine bodyPost_ret (v := .tuple #[.agg #[.int .i64 0, .slice none 0 0], .bool false]) (by simp [results, Tryd.results15, go_sem, Q0 _ B2, Q1 _ B2]) rfl ?_
          exact optMat_none (HB.out.trans (B2.mono HB.out.size)) (by omega)
        | true =>
          have e0 : fitB p ca cb A B = true := by simp [fitB, hb1, hb2, hb3, hb4]
          obtain ⟨n, rfl, rfl, hn, hl, hl2, h2, hA, hBB⟩ := fit_parts e0
          have e1 : addOut p n n A B = addT p n A B := by simp [addOut, e0]
          have e2 : addCols p n n A B = n := by simp [addCols, e0]
          rw [e0, e1, e2]
          clear e0 e1 e2 hb1 hb2 hb3 hb4
          have HL2 := Lib.hid hl2
          clear hl2
          go_enter Tryd.func15, Tryd.ntmps15
          go_wp2_with fail
          rw [← HW.out]
          refine (Cb1.out w0 (Below.refl _ _)).mono ?_
          rintro e w1 ⟨rfl, hb1⟩
          have B1 : Below w0.heap.size w0 w1 := hb1
          clear hb1
          go_wp2_with fail
          refine (Cb2.out w1 B1).mono ?_
          rintro e w2 ⟨rfl, hb2⟩
          have B2 : Below w0.heap.size w0 w2 := below_step B1 hb2
          clear hb2
          go_upto_region 3 with fail
          have HB2 := Lib.hid B2
          obtain ⟨r, hr⟩ : ∃ r, A.length = r := ⟨_, rfl⟩
          obtain ⟨_, _, eb, hmb, hcb⟩ := open_readsM HV0.out
          simp only [Value.slice.injEq] at eb
          obtain ⟨rfl, -, rfl⟩ := eb
          rw [HL2.out] at hcb hmb
          have hr' := Lib.hid hr
          have HA := Lib.hid hA
          have HBB := Lib.hid hBB
          have HCB := Lib.hid hcb
          have htot := Lib.hid (elems_tot hA hl hn)
          rw [HL2.out] at X1_1
          have M0 : ∀ W, Below w2.heap.size w2 W → W.cell? ⟨w.heap.size, 0, none⟩ = some (.int .i64 n) := fun W hW => X0_0 W (below_step HB2.out hW)
          have M1 : ∀ W, Below w2.heap.size w2 W → W.cell? ⟨w.heap.size, 1, none⟩ = some (.slice ua A.length uc) := fun W hW => X0_1 W (below_step HB2.out hW)
          have HXB := Lib.hid X1_1
          have HXQ := Lib.hid (And.intro Q0 (And.intro Q1 (And.intro G0 G1)))
          rw [hr] at M1 hl hmb ⊢
          clear hA hBB hcb hmb Eb4 Eb3 Cb1 Cb2 hr X0_0 X0_1 X1_0 X1_1 Q0 Q1 G0 G1
          have hclone := Lib.hid (fun W (hW : Below w2.heap.size w2 W) => clones_any _ A W (HU.out.below (below_step HB2.out hW)) htot.out)
          rw [hr'.out] at hclone
          go_cut [8] (fun t wx => OutBox w2 n A t wx)
          case first =>
            have BD : Below w2.heap.size w2 w2.drew := (Below.refl _ _).drew
            have BA : Below w2.heap.size w2 (w2.alloc (.cells #[.int .i64 0, .slice none 0 0] 26)).drew := (below_alloc (Below.refl _ _)).drew
            have hcl1 := Lib.hid (hclone.out _ BA)
            have hcl2 := Lib.hid (hclone.out _ BD)
            have hlt1 : w.heap.size < w2.heap.size := by have := HB2.out.size; have := HS.out; omega
            have x0 := M0 w2 (Below.refl _ _)
            have x1 := M1 w2 (Below.refl _ _)
            go_region_law (first | (go_simp; go_at_call 49; refine hcl1.out.mono ?_; rintro e w3 ⟨v3, rfl, ho3, hb7⟩; obtain ⟨a3, c3, rfl⟩ := ho3.reads.form; rw [hr'.out]; have B7 := below_step BA hb7; have z0 := M0 w3 B7; have z1 := M1 w3 B7; have y0 := cell_old hb7 (show (w2.alloc (.cells #[.int .i64 0, .slice none 0 0] 26)).drew.cell? ⟨w2.heap.size, 0, none⟩ = some (.int .i64 0) by simp [go_sem]); have y1 := cell_old hb7 (show (w2.alloc (.cells #[.int .i64 0, .slice none 0 0] 26)).drew.cell? ⟨w2.heap.size, 1, none⟩ = some (.slice none 0 0) by simp [go_sem]); have g0 := frozen_old hb7 (show w2.heap.size < (w2.alloc (.cells #[.int .i64 0, .slice none 0 0] 26)).drew.heap.size by simp) (show (w2.alloc (.cells #[.int .i64 0, .slice none 0 0] 26)).drew.frozen? ⟨w2.heap.size, 0, none⟩ = false by simp [go_sem]); have g1 := frozen_old hb7 (show w2.heap.size < (w2.alloc (.cells #[.int .i64 0, .slice none 0 0] 26)).drew.heap.size by simp) (show (w2.alloc (.cells #[.int .i64 0, .slice none 0 0] 26)).drew.frozen? ⟨w2.heap.size, 1, none⟩ = false by simp [go_sem])) | (go_simp; go_at_call 49; refine hcl2.out.mono ?_; rintro e w3 ⟨v3, rfl, ho3, hb7⟩; obtain ⟨a3, c3, rfl⟩ := ho3.reads.form; rw [hr'.out]; have B7 := below_step BD hb7; have hs7 := hb7.size; have hlt3 : w.heap.size < w3.heap.size := Nat.lt_of_lt_of_le hlt1 B7.size; have z0 := M0 w3 B7; have z1 := M1 w3 B7))
            all_goals go_wp2
            all_goals go_meet
            all_goals
              rw [← hr'.out]
              first
              | exact outBox_alloc n _ B7 (ho3.mono fun g hg => Nat.le_trans B7.size hg)
              | exact outBox_alloc n _ B7 ho3
              | exact outBox_set n B7 (ho3.mono fun g hg => by simpa using hg) (by have := hb7.size; simp at this; omega) y0 y1
          case rest =>
          obtain ⟨b, a3, c3, rfl, O0, O1, ho0, hbl, hbs, hbw⟩ := hcut
          rw [hr'.out] at O1 ho0
          obtain ⟨w4, hw4⟩ : ∃ W, W = wc := ⟨_, rfl⟩
          rw [← hw4] at O0 O1 ho0 hbs hbw ⊢
          clear hw4 wc
          obtain ⟨f, hf⟩ : ∃ f : Nat → Nat → Int, (fun i j => (at2 A i j + at2 B i j) % p) = f := ⟨_, rfl⟩
          have hf' := Lib.hid hf
          have HA0 := Lib.hid (show A.length = r from hr'.out)
          have ho4 : Hid (OwnsM (fun g => w2.heap.size ≤ g ∧ g < w4.heap.size ∧ g ≠ b) w4 (.slice a3 r c3) (rowsT r n f (at2 A) 0)) := by
            rw [← rowsT_zero (f := f) HA.out HA0.out]
            exact ho0
          have HO0 := Lib.hid O0
          have HO1 := Lib.hid O1
          have HBL := Lib.hid hbl
          have HBS := Lib.hid hbs
          have HBW := Lib.hid hbw
          have hrm : r ≤ 9223372036854775807 := by omega
          clear ho0 hbl hbs hbw O0 hf M0 M1 hclone hr'
          go_wp2
          clear O1
          go_loopw [46] (fun i wr => ∃ k : Nat, k ≤ r ∧ i = .int .i64 k ∧ OwnsM (fun g => w2.heap.size ≤ g ∧ g < w4.heap.size ∧ g ≠ b) wr (.slice a3 r c3) (rowsT r n f (at2 A) k) ∧ Chg (fun g => w2.heap.size ≤ g ∧ g < w4.heap.size ∧ g ≠ b) w4 wr) (fun i _ => r + 1 - (intOf i).toNat)
          case atStart => exact ⟨0, by omega, rfl, ho4.out, Chg.refl _ _⟩
          case round =>
            obtain ⟨k, hk, rfl, ho, hch⟩ := hrel
            have BR2 : Below w2.heap.size w2 wr := HBW.out.trans (hch.below (B := w2.heap.size) HBW.out.size fun g hg => hg.1)
            have BR : Below w0.heap.size w0 wr := below_step HB2.out BR2
            have BW : Below w.heap.size w wr := HB.out.trans (BR.mono HB.out.size)
            by_cases hlt : k < r
            · have hsz1 := HS.out
              have hsz2 := HB2.out.size
              obtain ⟨gb, offb, rb, rfl, hgb, hcellb, hrdb⟩ := HCB.out k (by rw [HA0.out]; exact hlt)
              have hlenb := (HBB.out.2 k (by rw [HA0.out]; exact hlt)).1
              rw [hlenb] at hrdb
              obtain ⟨arb, crb, rfl⟩ := hrdb.form
              have hrowb : wr.cell? ⟨gb, offb + k, none⟩ = some (.slice arb n crb) := (BW.cell (p := ⟨gb, offb + k, none⟩) hgb).trans hcellb
              have hbox : wr.cell? ⟨w.heap.size + 1, 1, none⟩ = some (.slice (some ⟨gb, offb, none⟩) r vc) := by have := HXB.out wr BR; rw [HA0.out] at this; exact this
              have hout : wr.cell? ⟨b, 1, none⟩ = some (.slice a3 r c3) := hch.keep HO1.out (by simp)
              obtain ⟨g1, off1, cap1, rv, e, _, hcell, hown, hblk, hK⟩ := ho.openRow (i := k) (by rw [rowsT_length]; exact hlt)
              simp only [Value.slice.injEq] at e
              obtain ⟨rfl, -, rfl⟩ := e
              have hrl : (lAt (rowsT r n f (at2 A) k) k).length = n := by rw [rowsT_at hlt, rowT_length]
              rw [hrl] at hown hK
              obtain ⟨av, cv, rfl⟩ := hown.form
              have hrd2 : Reads wr 1 (.slice arb n crb) n (ofL (lAt B k)) := hrdb.below BW
              have hd : blkIn (fun g => (Value.slice av n cv).ownBlock ≠ some g) (.slice arb n crb) (ofL (lAt B k)) := by
                intro g hx hg e
                have h1 := hrdb.lt g hx hg
                have h2 := (hblk g (by rw [ofL_ne] at hx ⊢; rw [← List.length_pos_iff] at hx ⊢; rw [hrl]; rw [hlenb] at hx; exact hx) e).1
                omega
              have hl0 : ∀ j, j < n → 0 ≤ (lAt (rowsT r n f (at2 A) k) k)[j]?.getD 0 ∧ (lAt (rowsT r n f (at2 A) k) k)[j]?.getD 0 < p := by
                intro j hj
                rw [rowsT_at hlt, rowT_at hj, if_neg (Nat.lt_irrefl k)]
                exact (HA.out.2 k (by rw [HA0.out]; exact hlt)).2 j hj
              have hcall := Lib.hid (addTimes_any p 1 h2.1 h2.2 (by omega) (by omega) _ _ n _ _ wr.drew (hown.below (Below.refl _ _).drew) (hrd2.below (Below.refl _ _).drew) hd hl0 (HBB.out.2 k (by rw [HA0.out]; exact hlt)).2)
              have hfar : ∀ g, (Value.slice av n cv).ownBlock = some g ∧ 0 < n → (w2.heap.size ≤ g ∧ g < w4.heap.size ∧ g ≠ b) ∧ g ≠ g1 := by
                rintro g ⟨h1, h2⟩
                have hne : ofL (lAt (rowsT r n f (at2 A) k) k) ≠ [] := ofL_ne.2 (List.length_pos_iff.1 (by rw [hrl]; exact h2))
                refine ⟨hblk g hne h1, fun e => ?_⟩
                subst e
                obtain ⟨rs, ho1, _, ho3⟩ := ho
                exact ho1.apart hown (by decide) (by intro e; subst e; have := ho3.1; simp [rowsT_length] at this; omega) hne h1.symm
              have HH := Lib.hid hfar
              have HK := Lib.hid hK
              have HC := Lib.hid hch
              have hk0 : 0 ≤ (k : Int) := by omega
              have hkn : (k : Int) < (r : Int) := by omega
              have S0 := Lib.hid (show (wr.cell? ⟨b, 1, none⟩ = some (.slice (some ⟨g1, off1, none⟩) r c3) ∧ wr.cell? ⟨g1, off1 + k, none⟩ = some (.slice av n cv) ∧ wr.cell? ⟨w.heap.size + 1, 1, none⟩ = some (.slice (some ⟨gb, offb, none⟩) r vc) ∧ wr.cell? ⟨gb, offb + k, none⟩ = some (.slice arb n crb)) from ⟨hout, hcell, hbox, hrowb⟩)
              have HN : Hid (w.heap.size + 1 < w2.heap.size ∧ gb < w2.heap.size) := ⟨by omega, by omega⟩
              clear ho hch hfar hK hd hl0 hrd2 hrdb hcellb hown hblk hgb hlenb hsz1 hsz2 BR BR2 BW
              obtain ⟨W0, hW0⟩ : ∃ W, W = wr := ⟨_, rfl⟩
              rw [← hW0] at HK HC S0 hcall hout hcell hbox hrowb ⊢
              clear hW0 wr
              go_wp2
              go_region_held3 (fun W => W.cell? ⟨b, 1, none⟩ = some (.slice (some ⟨g1, off1, none⟩) r c3) ∧ W.cell? ⟨g1, off1 + k, none⟩ = some (.slice av n cv) ∧ W.cell? ⟨w.heap.size + 1, 1, none⟩ = some (.slice (some ⟨gb, offb, none⟩) r vc) ∧ W.cell? ⟨gb, offb + k, none⟩ = some (.slice arb n crb)) (first | exact S7.out | go_keep) (first | (go_at_call 50; refine hcall.out.mono ?_; rintro e w7 ⟨rfl, ho7, hc7⟩; have S7 := Lib.hid (And.intro (hc7.keep (show W0.drew.cell? _ = _ from S0.out.1) (fun h => (HH.out _ h).1.2.2 rfl)) (And.intro (hc7.keep (show W0.drew.cell? _ = _ from S0.out.2.1) (fun h => (HH.out _ h).2 rfl)) (And.intro (hc7.keep (show W0.drew.cell? _ = _ from S0.out.2.2.1) (fun h => by have := (HH.out _ h).1.1; have := HN.out.1; simp at *; omega)) (hc7.keep (show W0.drew.cell? _ = _ from S0.out.2.2.2) (fun h => by have := (HH.out _ h).1.1; have := HN.out.2; simp at *; omega)))))))
              have er : (rowT n fun j => ((lAt (rowsT r n f (at2 A) k) k)[j]?.getD 0 + 1 * (lAt B k)[j]?.getD 0) % p) = rowT n (f k) := by
                refine rowT_congr fun j hj => ?_
                rw [rowsT_at hlt, rowT_at hj, if_neg (Nat.lt_irrefl k), Int.one_mul, ← hf'.out]
                rfl
              rw [er] at ho7
              have H1 := Lib.hid (HK.out _ (rowT n (f k)) (rowT_length _ _) ((Chg.refl _ W0).drew.trans hc7) (by rw [rowT_length]; exact ho7))
              rw [rowsT_step hlt] at H1
              have H2 := Lib.hid (HC.out.drew.trans (hc7.mono fun g _ h => (HH.out g h).1))
              clear ho7 hc7 S7 hcall HK HC er hrl
              go_wp2
              go_roundw
              case rel => exact ⟨k + 1, by omega, by go_num, H1.out, H2.out⟩
              case measure => simp [intOf]; omega
            · obtain rfl : k = r := by omega
              have p0 : wr.cell? ⟨b, 0, none⟩ = some (.int .i64 n) := hch.keep HO0.out (by simp)
              have p1 : wr.cell? ⟨b, 1, none⟩ = some (.slice a3 k c3) := hch.keep HO1.out (by simp)
              rw [rowsT_end, ← hf'.out] at ho
              obtain ⟨q0, q1, g0, g1⟩ : wr.cell? ⟨w.heap.size + 1 + 1, 0, none⟩ = some (.int .i64 0) ∧ wr.cell? ⟨w.heap.size + 1 + 1, 1, none⟩ = some (.slice none 0 0) ∧ wr.frozen? ⟨w.heap.size + 1 + 1, 0, none⟩ = false ∧ wr.frozen? ⟨w.heap.size + 1 + 1, 1, none⟩ = false := ⟨HXQ.out.1 _ BR, HXQ.out.2.1 _ BR, HXQ.out.2.2.1 _ BR, HXQ.out.2.2.2 _ BR⟩
              have hfin : Hid (OptMat w true n (addT p n A B) (.returned (.tuple #[.agg #[.int .i64 n, .slice a3 k c3], .bool true])) ((wr.setCell ⟨w.heap.size + 1 + 1, 0, none⟩ (.int .i64 n)).setCell ⟨w.heap.size + 1 + 1, 1, none⟩ (.slice a3 k c3))) := by
                have hsz1 := HS.out
                have hsz2 := HB2.out.size
                have e : addT p n A B = tabT k n fun i j => (at2 A i j + at2 B i j) % p := by rw [addT, HA0.out]
                rw [e]
                exact optMat_put HB.out BR (ho.mono fun g hg => Nat.le_trans HB2.out.size hg.1) (by omega) (by omega)
              clear ho hch BR BR2 BW
              go_wp2
              refine bodyPost_ret (v := .tuple #[.agg #[.int .i64 n, .slice a3 k c3], .bool true]) (by simp [results, Tryd.results15, go_sem, q0, q1]) rfl ?_
              exact hfin.out
          

end Ints
end Go.Proofs.YtnpjkcmhfpmgmaaDoor
