/- AddMatrices, the reference's. (Printed by wip/gen_add.py.) -/
import Derived.Test.YtnpjkcmhfpmgmaaDoorMxZero
import Derived.Test.YtnpjkcmhfpmgmaaDoorFxAdd
import Derived.Test.YtnpjkcmhfpmgmaaDoorPredSpec
import Derived.Test.YtnpjkcmhfpmgmaaDoorAddPlain
import Derived.Deep.RegionHeld3
namespace Go.Proofs.YtnpjkcmhfpmgmaaDoor
open Go.RowKit
namespace Ints
open Fld (fdAdd_any)

set_option maxHeartbeats 4000000 in
theorem specAdd_any (p ca cb : Int) (u v : Value) (A B : List (List Int)) (w : World) (hu : ReadsM w u A) (hv : ReadsM w v B) :
    Calls Tryd.prog 13 #[.int .i64 p, .agg #[.int .i64 ca, u], .agg #[.int .i64 cb, v]] w (OptMat w (fitB p ca cb A B) (addCols p ca cb A B) (addOut p ca cb A B)) := by
  obtain ⟨ua, uc, rfl⟩ := hu.form
  obtain ⟨va, vc, rfl⟩ := hv.form
  obtain ⟨w0, hw0⟩ : ∃ W, W = (((w.alloc (.cells #[.int .i64 ca, .slice ua A.length uc] 26)).alloc (.cells #[.int .i64 cb, .slice va B.length vc] 26)).alloc (.cells #[.int .i64 0, .slice none 0 0] 26)) := ⟨_, rfl⟩
  have hB : Below w.heap.size w w0 := by rw [hw0]; exact ((((Below.refl w.heap.size w).alloc (by simp) (.cells #[.int .i64 ca, .slice ua A.length uc] 26)).alloc (by simp) (.cells #[.int .i64 cb, .slice va B.length vc] 26)).alloc (by simp; omega) (.cells #[.int .i64 0, .slice none 0 0] 26))
  have hs0 : w0.heap.size = w.heap.size + 3 := by rw [hw0]; simp
  have X0_0 : ∀ W, Below w0.heap.size w0 W → W.cell? ⟨w.heap.size, 0, none⟩ = some (.int .i64 ca) := fun W hW => cell_old hW (by rw [hw0]; simp [go_sem])
  have X0_1 : ∀ W, Below w0.heap.size w0 W → W.cell? ⟨w.heap.size, 1, none⟩ = some (.slice ua A.length uc) := fun W hW => cell_old hW (by rw [hw0]; simp [go_sem])
  have X1_0 : ∀ W, Below w0.heap.size w0 W → W.cell? ⟨w.heap.size + 1, 0, none⟩ = some (.int .i64 cb) := fun W hW => cell_old hW (by rw [hw0]; simp [go_sem])
  have X1_1 : ∀ W, Below w0.heap.size w0 W → W.cell? ⟨w.heap.size + 1, 1, none⟩ = some (.slice va B.length vc) := fun W hW => cell_old hW (by rw [hw0]; simp [go_sem])
  have Q0 : ∀ W, Below w0.heap.size w0 W → W.cell? ⟨w.heap.size + 1 + 1, 0, none⟩ = some (.int .i64 0) := fun W hW => cell_old hW (by rw [hw0]; simp [go_sem])
  have G0 : ∀ W, Below w0.heap.size w0 W → W.frozen? ⟨w.heap.size + 1 + 1, 0, none⟩ = false := fun W hW => frozen_old hW (by show w.heap.size + 1 + 1 < _; omega) (by rw [hw0]; simp [go_sem])
  have Q1 : ∀ W, Below w0.heap.size w0 W → W.cell? ⟨w.heap.size + 1 + 1, 1, none⟩ = some (.slice none 0 0) := fun W hW => cell_old hW (by rw [hw0]; simp [go_sem])
  have G1 : ∀ W, Below w0.heap.size w0 W → W.frozen? ⟨w.heap.size + 1 + 1, 1, none⟩ = false := fun W hW => frozen_old hW (by show w.heap.size + 1 + 1 < _; omega) (by rw [hw0]; simp [go_sem])
  have HW := Lib.hid hw0
  have HB := Lib.hid hB
  have HS := Lib.hid hs0
  have HU := Lib.hid (hu.below hB)
  have HV := Lib.hid (hv.below hB)
  have HU0 := Lib.hid hu
  have HV0 := Lib.hid hv
  obtain ⟨b1, hb1⟩ : ∃ b, (matB p ca A) = b := ⟨_, rfl⟩
  have Cb1 := Lib.hid (fun W (hW : Below w0.heap.size w0 W) => mxGood_any p ca _ A W (HU.out.below hW))
  rw [hb1] at Cb1
  obtain ⟨b2, hb2⟩ : ∃ b, (matB p cb B) = b := ⟨_, rfl⟩
  have Cb2 := Lib.hid (fun W (hW : Below w0.heap.size w0 W) => mxGood_any p cb _ B W (HV.out.below hW))
  rw [hb2] at Cb2
  obtain ⟨b3, hb3⟩ : ∃ b, (ca == cb) = b := ⟨_, rfl⟩
  have Eb3 : (ca != cb) = !b3 := by rw [← hb3]; rfl
  obtain ⟨b4, hb4⟩ : ∃ b, (decide (A.length = B.length)) = b := ⟨_, rfl⟩
  have Eb4 : ((A.length : Int) != (B.length : Int)) = !b4 := by rw [← hb4]; exact len_ne _ _
  clear hw0 hB hs0 hu hv
  cases b1 with
  | false =>
    have e0 : fitB p ca cb A B = false := by simp [fitB, hb1]
    have e1 : addOut p ca cb A B = [] := by simp [addOut, e0]
    have e2 : addCols p ca cb A B = 0 := by simp [addCols, e0]
    rw [e0, e1, e2]
    clear e0 e1 e2
    clear hb1 hb2 hb3 hb4
    go_enter Tryd.func13, Tryd.ntmps13
    go_wp2_with fail
    rw [← HW.out]
    refine (Cb1.out w0 (Below.refl _ _)).mono ?_
    rintro e w1 ⟨rfl, hb1⟩
    have B1 : Below w0.heap.size w0 w1 := hb1
    clear hb1
    go_wp2
    refine bodyPost_ret (v := .tuple #[.agg #[.int .i64 0, .slice none 0 0], .bool false]) (by simp [results, Tryd.results13, go_sem, Q0 _ B1, Q1 _ B1]) rfl ?_
    exact optMat_none (HB.out.trans (B1.mono HB.out.size)) (by omega)
  | true =>
    cases b2 with
    | false =>
      have e0 : fitB p ca cb A B = false := by simp [fitB, hb1, hb2]
      have e1 : addOut p ca cb A B = [] := by simp [addOut, e0]
      have e2 : addCols p ca cb A B = 0 := by simp [addCols, e0]
      rw [e0, e1, e2]
      clear e0 e1 e2
      clear hb1 hb2 hb3 hb4
      go_enter Tryd.func13, Tryd.ntmps13
      go_wp2_with fail
      rw [← HW.out]
      refine (Cb1.out w0 (Below.refl _ _)).mono ?_
      rintro e w1 ⟨rfl, hb1⟩
      have B1 : Below w0.heap.size w0 w1 := hb1
      clear hb1
      go_wp2_with fail
      refine (Cb2.out w1 B1).mono ?_
      rintro e w2 ⟨rfl, hb2⟩
      have B2 : Below w0.heap.size w0 w2 := below_step B1 hb2
      clear hb2
      go_wp2
      refine bodyPost_ret (v := .tuple #[.agg #[.int .i64 0, .slice none 0 0], .bool false]) (by simp [results, Tryd.results13, go_sem, Q0 _ B2, Q1 _ B2]) rfl ?_
      exact optMat_none (HB.out.trans (B2.mono HB.out.size)) (by omega)
    | true =>
      cases b3 with
      | false =>
        have e0 : fitB p ca cb A B = false := by simp [fitB, hb1, hb2, hb3]
        have e1 : addOut p ca cb A B = [] := by simp [addOut, e0]
        have e2 : addCols p ca cb A B = 0 := by simp [addCols, e0]
        rw [e0, e1, e2]
        clear e0 e1 e2
        clear hb1 hb2 hb3 hb4
        go_enter Tryd.func13, Tryd.ntmps13
        go_wp2_with fail
        rw [← HW.out]
        refine (Cb1.out w0 (Below.refl _ _)).mono ?_
        rintro e w1 ⟨rfl, hb1⟩
        have B1 : Below w0.heap.size w0 w1 := hb1
        clear hb1
        go_wp2_with fail
        refine (Cb2.out w1 B1).mono ?_
        rintro e w2 ⟨rfl, hb2⟩
        have B2 : Below w0.heap.size w0 w2 := below_step B1 hb2
        clear hb2
        go_wp2
        refine bodyPost_ret (v := .tuple #[.agg #[.int .i64 0, .slice none 0 0], .bool false]) (by simp [results, Tryd.results13, go_sem, Q0 _ B2, Q1 _ B2]) rfl ?_
        exact optMat_none (HB.out.trans (B2.mono HB.out.size)) (by omega)
      | true =>
        cases b4 with
        | false =>
          have e0 : fitB p ca cb A B = false := by simp [fitB, hb1, hb2, hb3, hb4]
          have e1 : addOut p ca cb A B = [] := by simp [addOut, e0]
          have e2 : addCols p ca cb A B = 0 := by simp [addCols, e0]
          rw [e0, e1, e2]
          clear e0 e1 e2
          clear hb1 hb2 hb3 hb4
          go_enter Tryd.func13, Tryd.ntmps13
          go_wp2_with fail
          rw [← HW.out]
          refine (Cb1.out w0 (Below.refl _ _)).mono ?_
          rintro e w1 ⟨rfl, hb1⟩
          have B1 : Below w0.heap.size w0 w1 := hb1
          clear hb1
          go_wp2_with fail
          refine (Cb2.out w1 B1).mono ?_
          rintro e w2 ⟨rfl, hb2⟩
          have B2 : Below w0.heap.size w0 w2 := below_step B1 hb2
          clear hb2
          go_wp2
          refine bodyPost_ret (v := .tuple #[.agg #[.int .i64 0, .slice none 0 0], .bool false]) (by simp [results, Tryd.results13, go_sem, Q0 _ B2, Q1 _ B2]) rfl ?_
          exact optMat_none (HB.out.trans (B2.mono HB.out.size)) (by omega)
        | true =>
          have e0 : fitB p ca cb A B = true := by simp [fitB, hb1, hb2, hb3, hb4]
          obtain ⟨n, rfl, rfl, hn, hl, hl2, h2, hA, hBB⟩ := fit_parts e0
          have e1 : addOut p n n A B = addT p n A B := by simp [addOut, e0]
          have e2 : addCols p n n A B = n := by simp [addCols, e0]
          rw [e0, e1, e2]
          clear e0 e1 e2 hb1 hb2 hb3 hb4
          have HL2 := Lib.hid hl2
          clear hl2
          go_enter Tryd.func13, Tryd.ntmps13
          go_wp2_with fail
          rw [← HW.out]
          refine (Cb1.out w0 (Below.refl _ _)).mono ?_
          rintro e w1 ⟨rfl, hb1⟩
          have B1 : Below w0.heap.size w0 w1 := hb1
          clear hb1
          go_wp2_with fail
          refine (Cb2.out w1 B1).mono ?_
          rintro e w2 ⟨rfl, hb2⟩
          have B2 : Below w0.heap.size w0 w2 := below_step B1 hb2
          clear hb2
          have HB2 := Lib.hid B2
          have hs2 : w0.heap.size ≤ w2.heap.size := B2.size
          obtain ⟨r, hr⟩ : ∃ r, A.length = r := ⟨_, rfl⟩
          obtain ⟨_, _, ea, hma, hca⟩ := open_readsM HU0.out
          simp only [Value.slice.injEq] at ea
          obtain ⟨rfl, -, rfl⟩ := ea
          obtain ⟨_, _, eb, hmb, hcb⟩ := open_readsM HV0.out
          simp only [Value.slice.injEq] at eb
          obtain ⟨rfl, -, rfl⟩ := eb
          rw [HL2.out] at hcb hmb
          have hr' := Lib.hid hr
          have HA := Lib.hid hA
          have HBB := Lib.hid hBB
          have HCA := Lib.hid hca
          have HCB := Lib.hid hcb
          rw [HL2.out] at X1_1
          rw [hr] at X0_1 X1_1 hl hma ⊢
          clear hA hBB hca hcb hmb Eb4 Eb3 Cb1 Cb2 hr
          have hzero := Lib.hid (mxZero_any r n (by omega) (by omega) w2)
          go_wp2_with fail
          refine hzero.out.mono ?_
          rintro e w3 ⟨v3, rfl, ho3, hb3⟩
          obtain ⟨f, hf⟩ : ∃ f : Nat → Nat → Int, (fun i j => (at2 A i j + at2 B i j) % p) = f := ⟨_, rfl⟩
          have hf' := Lib.hid hf
          rw [fill_zero _ _ f] at ho3
          obtain ⟨a3, c3, hv3⟩ : ∃ a q, v3 = .slice a r q := by have := ho3.reads.form; rw [fill_length] at this; exact this
          subst hv3
          obtain ⟨w4, hw4⟩ : ∃ W, W = w3.alloc (.cells #[.int .i64 n, .slice a3 r c3] 26) := ⟨_, rfl⟩
          have hb34 : Below w3.heap.size w3 w4 := by rw [hw4]; exact (Below.refl _ _).alloc (Nat.le_refl _) _
          have hs3 := hb3.size
          have B3 : Below w0.heap.size w0 w3 := below_step B2 hb3
          have B4 : Below w0.heap.size w0 w4 := below_step B3 hb34
          have ho4 := Lib.hid (ho3.bound.below hb34)
          have O0 := Lib.hid (show w4.cell? ⟨w3.heap.size, 0, none⟩ = some (.int .i64 n) by rw [hw4]; simp [go_sem])
          have O1 := Lib.hid (show w4.cell? ⟨w3.heap.size, 1, none⟩ = some (.slice a3 r c3) by rw [hw4]; simp [go_sem])
          have hs4 : w4.heap.size = w3.heap.size + 1 := by rw [hw4]; simp
          have HB4 := Lib.hid B4
          have HS4 := Lib.hid hs4
          have HS3 := Lib.hid hs3
          have HS2 := Lib.hid hs2
          have HW4 := Lib.hid hw4
          rw [hw4] at B4
          have HA0 := Lib.hid (show A.length = r from hr'.out)
          clear ho3 hb3 hb34 hs3 hw4 hs4 B3 hzero hs2 B2 B1 hf hr'
          go_wp2
          rw [← HW4.out]
          clear B4
          go_loopw [49] (fun i wr => ∃ k : Nat, k ≤ r ∧ i = .int .i64 k ∧ OwnsM (fun g => w2.heap.size ≤ g ∧ g < w3.heap.size) wr (.slice a3 r c3) (fillT r n f k 0) ∧ Chg (fun g => w2.heap.size ≤ g ∧ g < w3.heap.size) w4 wr) (fun i _ => r + 1 - (intOf i).toNat)
          case atStart => exact ⟨0, by omega, rfl, ho4.out, Chg.refl _ _⟩
          case round =>
            obtain ⟨k, hk, rfl, ho, hch⟩ := hrel
            have BR : Below w0.heap.size w0 wr := HB4.out.trans (hch.below (B := w0.heap.size) HB4.out.size fun g hg => Nat.le_trans HS2.out hg.1)
            by_cases hlt : k < r
            · obtain ⟨g, off, rw1, rfl, hg, hcell, hrd⟩ := HCA.out k (by rw [HA0.out]; exact hlt)
              obtain ⟨_, ar, cr, rfl, hmr, hcr⟩ := open_reads hrd
              have hlen := (HA.out.2 k (by rw [HA0.out]; exact hlt)).1
              rw [hlen] at hcr hmr hcell
              have BW : Below w.heap.size w wr := HB.out.trans (BR.mono HB.out.size)
              have hrow : wr.cell? ⟨g, off + k, none⟩ = some (.slice ar n cr) := (BW.cell (p := ⟨g, off + k, none⟩) hg).trans hcell
              have HO := Lib.hid ho
              have HC := Lib.hid hch
              have HR := Lib.hid hcr
              have hk0 : 0 ≤ (k : Int) := by omega
              have hkn : (k : Int) < (r : Int) := by omega
              clear ho hch hcr hrd hcell hg hlen BW BR
              go_wp2
              go_loopw [56] (fun i wr => ∃ j : Nat, j ≤ n ∧ i = .int .i64 j ∧ OwnsM (fun g => w2.heap.size ≤ g ∧ g < w3.heap.size) wr (.slice a3 r c3) (fillT r n f k j) ∧ Chg (fun g => w2.heap.size ≤ g ∧ g < w3.heap.size) w4 wr) (fun i _ => n + 1 - (intOf i).toNat)
              case atStart => exact ⟨0, by omega, rfl, HO.out, HC.out⟩
              case round =>
                obtain ⟨j, hj, rfl, ho, hch⟩ := hrel
                by_cases hltj : j < n
                · have BR : Below w0.heap.size w0 wr := HB4.out.trans (hch.below (B := w0.heap.size) HB4.out.size fun g hg => Nat.le_trans HS2.out hg.1)
                  have BW : Below w.heap.size w wr := HB.out.trans (BR.mono HB.out.size)
                  have hsz1 := HS.out
                  have hsz2 := HS2.out
                  have hsz3 := HS3.out
                  obtain ⟨gr, offr, rfl, hgr, hcells⟩ := HR.out (by omega)
                  have hx : wr.cell? ⟨gr, offr + j, none⟩ = some (.int .i64 (at2 A k j)) := (BW.cell (p := ⟨gr, offr + j, none⟩) hgr).trans (hcells j hltj)
                  obtain ⟨gb, offb, rb, rfl, hgb, hcellb, hrdb⟩ := HCB.out k (by rw [HA0.out]; exact hlt)
                  obtain ⟨_, arb, crb, rfl, hmrb, hcrb⟩ := open_reads hrdb
                  have hlenb := (HBB.out.2 k (by rw [HA0.out]; exact hlt)).1
                  rw [hlenb] at hcrb hmrb hcellb
                  obtain ⟨grb, offrb, rfl, hgrb, hcellsb⟩ := hcrb (by omega)
                  have hrowb : wr.cell? ⟨gb, offb + k, none⟩ = some (.slice (some ⟨grb, offrb, none⟩) n crb) := (BW.cell (p := ⟨gb, offb + k, none⟩) hgb).trans hcellb
                  have hy : wr.cell? ⟨grb, offrb + j, none⟩ = some (.int .i64 (at2 B k j)) := (BW.cell (p := ⟨grb, offrb + j, none⟩) hgrb).trans (hcellsb j hltj)
                  have hbox : wr.cell? ⟨w.heap.size + 1, 1, none⟩ = some (.slice (some ⟨gb, offb, none⟩) r vc) := X1_1 wr BR
                  have hout : wr.cell? ⟨w3.heap.size, 1, none⟩ = some (.slice a3 r c3) := hch.keep O1.out (by simp)
                  obtain ⟨g1, off1, cap1, g2, off2, cap2, e, _, hm2, hcell, hz, hfr, hS, hg2, hne, hst⟩ := ho.openAt (i := k) (j := j) (by rw [fill_length]; exact hlt) (by rw [fill_rowlen hlt]; exact hltj)
                  simp only [Value.slice.injEq] at e
                  obtain ⟨rfl, -, rfl⟩ := e
                  rw [fill_rowlen hlt] at hm2 hcell
                  have hst1 := hst (f k j)
                  rw [fill_step hlt] at hst1
                  have ha01 := (HA.out.2 k (by rw [HA0.out]; exact hlt)).2 j hltj
                  have hb01 := (HBB.out.2 k (by rw [HA0.out]; exact hlt)).2 j hltj
                  have hcall := Lib.hid (fun W => fdAdd_any p (at2 A k j) (at2 B k j) h2.1 h2.2 ha01.1 ha01.2 hb01.1 hb01.2 W)
                  have hfk : f k j = (at2 A k j + at2 B k j) % p := by rw [← hf'.out]
                  rw [← hfk] at hcall
                  have H1 := Lib.hid hst1
                  have H2 := Lib.hid (hch.setCell (p := ⟨g2, off2 + j, none⟩) (fun _ => hS) (.int .i64 (f k j)))
                  have hS1 := hS.1
                  have hS2 := hS.2
                  generalize at2 (fillT r n f k j) k j = z at *
                  generalize at2 A k j = x at *
                  generalize at2 B k j = y at *
                  generalize f k j = t at *
                  have hkeep : ∀ q : Addr, ∀ u, wr.cell? q = some u → q.block ≠ g2 → (wr.setCell ⟨g2, off2 + j, none⟩ (.int .i64 t)).drew.cell? q = some u := fun q u hq hn => (Chg.set1 wr ⟨g2, off2 + j, none⟩ (.int .i64 t)).drew.keep hq hn
                  have HK := Lib.hid (And.intro (hkeep _ _ hout (by simp; omega)) (And.intro (hkeep _ _ hcell (by simpa using hne)) (And.intro (hkeep _ _ hbox (by simp; omega)) (And.intro (hkeep _ _ hrowb (by simp; omega)) (hkeep _ _ hy (by simp; omega))))))
                  have hj0 : 0 ≤ (j : Int) := by omega
                  have hjn : (j : Int) < (n : Int) := by omega
                  have hk0 : 0 ≤ (k : Int) := by omega
                  have hkn : (k : Int) < (r : Int) := by omega
                  clear ho hch hst hst1 hcells hcellsb hcrb hrdb hcellb hS hS1 hS2 hgr hgb hgrb hlenb hfk hne hg2 BW BR hsz1 hsz2 hsz3 hkeep ha01 hb01
                  go_wp2
                  go_region_held3 (fun W => W.cell? ⟨w3.heap.size, 1, none⟩ = some (.slice (some ⟨g1, off1, none⟩) r c3) ∧ W.cell? ⟨g1, off1 + k, none⟩ = some (.slice (some ⟨g2, off2, none⟩) n cap2) ∧ W.cell? ⟨w.heap.size + 1, 1, none⟩ = some (.slice (some ⟨gb, offb, none⟩) r vc) ∧ W.cell? ⟨gb, offb + k, none⟩ = some (.slice (some ⟨grb, offrb, none⟩) n crb) ∧ W.cell? ⟨grb, offrb + j, none⟩ = some (.int .i64 y)) (first | exact HK.out | go_keep) (first | (go_at_call 47; ((with_reducible refine (hcall.out _).mono ?_); rintro e w' ⟨rfl, rfl⟩)))
                  go_wp2
                  go_roundw
                  case rel => exact ⟨j + 1, by omega, by go_num, H1.out, H2.out.drew⟩
                  case measure => simp [intOf]; omega
                · obtain rfl : j = n := by omega
                  have H1 : Hid (OwnsM (fun g => w2.heap.size ≤ g ∧ g < w3.heap.size) wr (.slice a3 r c3) (fillT r j f (k + 1) 0)) := by rw [fill_row] at ho; exact ho
                  have H2 := Lib.hid hch
                  clear ho hch
                  go_wp2
                  go_roundw
                  case rel => exact ⟨k + 1, by omega, by go_num, H1.out, H2.out⟩
                  case measure => simp [intOf]; omega
            · obtain rfl : k = r := by omega
              have p0 : wr.cell? ⟨w3.heap.size, 0, none⟩ = some (.int .i64 n) := hch.keep O0.out (by simp)
              have p1 : wr.cell? ⟨w3.heap.size, 1, none⟩ = some (.slice a3 k c3) := hch.keep O1.out (by simp)
              rw [fill_end, ← hf'.out] at ho
              have hfin : Hid (OptMat w true n (addT p n A B) (.returned (.tuple #[.agg #[.int .i64 n, .slice a3 k c3], .bool true])) ((wr.setCell ⟨w.heap.size + 1 + 1, 0, none⟩ (.int .i64 n)).setCell ⟨w.heap.size + 1 + 1, 1, none⟩ (.slice a3 k c3))) := by
                have hsz1 := HS.out
                have e : addT p n A B = tabT k n fun i j => (at2 A i j + at2 B i j) % p := by rw [addT, HA0.out]
                rw [e]
                exact optMat_put HB.out BR (ho.mono fun g hg => Nat.le_trans HS2.out hg.1) (by omega) (by omega)
              have q0 := Q0 _ BR
              have q1 := Q1 _ BR
              have g0 := G0 _ BR
              have g1 := G1 _ BR
              clear ho hch
              go_wp2
              refine bodyPost_ret (v := .tuple #[.agg #[.int .i64 n, .slice a3 k c3], .bool true]) (by simp [results, Tryd.results13, go_sem, q0, q1]) rfl ?_
              exact hfin.out
          

end Ints
end Go.Proofs.YtnpjkcmhfpmgmaaDoor
