/- ImageOf, both. (Printed by wip/gen_img.py.) -/
import Derived.Test.YtkpheigoegehoaaDoorSpSum
import Derived.Test.YtkpheigoegehoaaDoorTimes
import Derived.Test.YtkpheigoegehoaaDoorSpaceF
import Derived.Test.YtkpheigoegehoaaDoorSpanF
import Derived.Test.YtkpheigoegehoaaDoorKernF
import Derived.Deep.RegionHeld3
import Derived.Deep.DeepCutAuto
namespace Go.Proofs.YtkpheigoegehoaaDoor
open Go.RowKit
namespace Ints

def fitImg (p cs cm : Int) (A B : List (List Int)) : Bool := spB p cs A && matB p cm B && ((B.length : Int) == cs)
theorem fitImg_parts {p cs cm : Int} {A B : List (List Int)} (h : fitImg p cs cm A B = true) : ∃ n c : Nat, cs = n ∧ cm = c ∧ n ≤ 24 ∧ c ≤ 24 ∧ A.length ≤ 24 ∧ Fld.goodB p = true ∧ ElemsT p A.length n A ∧ ElemsT p n c B := by
  simp only [fitImg, Bool.and_eq_true, beq_iff_eq] at h
  obtain ⟨⟨h1, h2⟩, h3⟩ := h
  obtain ⟨n, e1, hn, hl, hg, hA, _⟩ := spB_parts h1
  obtain ⟨c, e2, hc, hl2, _, hB⟩ := mat_nats h2
  have : B.length = n := by omega
  rw [this] at hB
  exact ⟨n, c, e1, e2, hn, hc, by omega, hg, hA, hB⟩
def imgOut (p cs cm : Int) (A B : List (List Int)) : List (List Int) := if fitImg p cs cm A B then reducedL p cm.toNat (mulT p cm.toNat A B) else []
def imgCols (p cs cm : Int) (A B : List (List Int)) : Int := if fitImg p cs cm A B then cm else 0
theorem imgOut_ctr (p cs cm : Int) (A B : List (List Int)) : (1 : Int) + (sumL (imgOut p cs cm A B) : Int) ≤ 1000000000 := by
  unfold imgOut
  split
  · rename_i h
    obtain ⟨n, c, rfl, rfl, hn, hc, hl, hg, hA, hB⟩ := fitImg_parts h
    simp only [Int.toNat_natCast]
    obtain ⟨h1, h2⟩ := reduced_elems hg (elems_mul (Fld.good_bounds hg).1 hA (c := c) (B := B))
    exact ctr_elems' h1 (by omega) (by omega)
  · exact ctr_nil

set_option maxHeartbeats 4000000 in
set_option maxRecDepth 100000 in
theorem spImage_any (p : Int) (hg : Fld.goodB p = true) (a n c : Nat) (ha : a ≤ 1000) (hc : c ≤ 1000) (u v : Value) (A B : List (List Int)) (w : World) (hA : ElemsT p a n A) (hB : ElemsT p n c B) (hu : ReadsM w u A) (hv : ReadsM w v B) :
    Calls Tryd.prog 112 #[.int .i64 p, u, .agg #[.int .i64 c, v]] w (NewRows w (reducedL p c (mulT p c A B))) := by
  obtain ⟨h2, h97⟩ := Fld.good_bounds hg
  obtain ⟨ua, uc, rfl, hm, hcA⟩ := open_readsM hu
  have hl := hA.1
  rw [hl] at hm hcA ⊢
  obtain ⟨w0, hw0⟩ : ∃ W, W = w.alloc (.cells #[.int .i64 c, v] 30) := ⟨_, rfl⟩
  have hB0 : Below w.heap.size w w0 := by rw [hw0]; exact (Below.refl _ _).alloc (Nat.le_refl _) _
  have X0 : ∀ W, Below w0.heap.size w0 W → W.cell? ⟨w.heap.size, 0, none⟩ = some (.int .i64 c) := fun W hW => cell_old hW (by rw [hw0]; simp [go_sem])
  have X1 : ∀ W, Below w0.heap.size w0 W → W.cell? ⟨w.heap.size, 1, none⟩ = some v := fun W hW => cell_old hW (by rw [hw0]; simp [go_sem])
  have hsum := Lib.hid (fun W (hW : Below w0.heap.size w0 W) xv x (hx : Reads W 1 xv n (ofL x)) (hxe : ∀ i, i < n → 0 ≤ x[i]?.getD 0 ∧ x[i]?.getD 0 < p) => spSum_any p c n h2 h97 hc xv v x B W hx hxe hB ((hv.below hB0).below hW))
  have hE := elems_mul h2 hA (c := c) (B := B)
  have hred := Lib.hid (fun W z (h : ReadsM W z (mulT p c A B)) => spReduce_any p hg a c ha hc z _ W hE h)
  obtain ⟨R, hR⟩ : ∃ R, reducedL p c (mulT p c A B) = R := ⟨_, rfl⟩
  rw [hR] at hred ⊢
  have hml : (mulT p c A B).length = a := hE.1
  have hmk : ∀ k, k < a → (mulT p c A B).take (k + 1) = (mulT p c A B).take k ++ [mulRow p c B (lAt A k)] := fun k hk => by
    rw [take_oneL _ k (by rw [hml]; exact hk)]
    unfold mulT
    rw [Lin.map_lAt _ (by rw [hl]; exact hk)]
  obtain ⟨va, vc, rfl⟩ := hv.form
  have HML := Lib.hid hml
  have HMK := Lib.hid hmk
  have HCA := Lib.hid (fun k hk => hcA k hk)
  have HA := Lib.hid hA
  have HW := Lib.hid hw0
  have HB0 := Lib.hid hB0
  have HMF := Lib.hid (show a ≤ maxLen by unfold maxLen; omega)
  obtain ⟨MR, hMR⟩ : ∃ K, mulT p c A B = K := ⟨_, rfl⟩
  rw [hMR] at HML HMK hred
  clear hg hA hB hu hv hcA hl hw0 hB0 hE hR hml hmk hMR
  go_enter Tryd.func112, Tryd.ntmps112
  go_wp2_with fail
  rw [← HW.out]
  go_wp2
  go_loopw [7, 12] (fun o i wr => ∃ (k : Nat) (rs : List Value) (ov : Value), k ≤ a ∧ i = .int .i64 k ∧ o = ov ∧ wr.ownsRow w0.heap.size 67 1 ov k rs ∧ RowsOwn (w0.heap.size ≤ ·) wr rs (MR.take k) ∧ Below w0.heap.size w0 wr) (fun _ i _ => a + 1 - (intOf i).toNat)
  case atStart => exact ⟨0, [], _, by omega, rfl, rfl, World.ownsRow_nil _ _ _ _, RowsOwn.nil _ _, Below.refl _ _⟩
  case round =>
    obtain ⟨k, rs, ov, hk, rfl, rfl, hown, hrows, hb⟩ := hrel
    have x0 := X0 _ hb
    have x1 := X1 _ hb
    by_cases hlt : k < a
    · obtain ⟨g, off, r, rfl, hg9, hcell, hrd⟩ := HCA.out k hlt
      have hx : wr.cell? ⟨g, off + k, none⟩ = some r := ((HB0.out.trans (hb.mono HB0.out.size)).cell hg9).trans hcell
      have hlr := HA.out.2 k hlt
      rw [hlr.1] at hrd
      have hcall := Lib.hid (hsum.out wr hb r (lAt A k) (hrd.below (HB0.out.trans (hb.mono HB0.out.size))) hlr.2)
      have hml : (mulRow p c B (lAt A k)).length = c := rowT_length _ _
      have HMLL := Lib.hid hml
      have HMM := Lib.hid (HMK.out k hlt)
      obtain ⟨ar, cr, rfl⟩ := hrd.form
      have HO := Lib.hid hown
      have HRW := Lib.hid hrows
      have HBB := Lib.hid hb
      have hsz := Lib.hid hb.size
      have hm3 := Lib.hid (show k + 1 ≤ maxLen by have := HMF.out; omega)
      have hm4 := Lib.hid (show (k + 1) * 24 ≤ 140737488355328 by omega)
      have hk0 : 0 ≤ (k : Int) := by omega
      have hki : (k : Int) < (a : Int) := by omega
      generalize mulRow p c B (lAt A k) = row at *
      clear hcell hrd hlr hml hown hrows hb
      obtain ⟨W0, hW0⟩ : ∃ W, W = wr := ⟨_, rfl⟩
      rw [← hW0] at HO HRW HBB hsz hcall hx x0 x1 ⊢
      clear hW0 wr
      go_wp2_with fail
      refine hcall.out.mono ?_
      rintro e w_5 ⟨v_5, rfl, ho_5, hf_5, hb_5⟩
      rw [HMLL.out] at ho_5
      obtain ⟨a_5, c_5, rfl⟩ := ho_5.form
      have hown5 := Lib.hid (ownsRow_below HO.out hb_5)
      have hsz2 := Lib.hid (show w0.heap.size ≤ w_5.heap.size from Nat.le_trans hsz.out hb_5.size)
      have HO5 := Lib.hid ho_5
      have HF5 := Lib.hid hf_5
      have HB5 := Lib.hid hb_5
      clear ho_5 hf_5 hb_5 hx x0 x1
      go_wp2_with (at_builtin; go_must (refine wpList_append_one _ rfl _ _ 22 rfl w0.heap.size 67 (.slice none 0 0) 24 Tryd.underlying22 infoS rfl _ _ _ (.slice a_5 c c_5) hown5.out rfl rfl rfl hm3.out hm4.out hsz2.out ?_); intro v_6 w_6 hown_6 hg_6)
      have hpush := push_row (l := row) HO.out HRW.out HBB.out (fun g hg => Nat.le_trans hsz.out hg) hsz.out (by rw [HMLL.out]; exact HO5.out) HF5.out HB5.out hg_6
      rw [← HMM.out] at hpush
      have H1 := Lib.hid hown_6
      have H2 := Lib.hid hpush.1
      have H3 := Lib.hid hpush.2
      clear hpush hown_6 hg_6
      go_wp2
      go_roundw
      case rel => exact ⟨k + 1, _, _, by omega, by go_num, rfl, H1.out, H2.out, H3.out⟩
      case measure => simp [intOf]; omega
    · have hkn : k = a := by omega
      rw [hkn] at hown hrows hlt ⊢
      rw [List.take_of_length_le (by rw [HML.out]; exact Nat.le_refl _)] at hrows
      have h1 := owns_of_row hown HMF.out
      have hO : OwnsM (w0.heap.size ≤ ·) wr u7 MR := ⟨rs, by rw [HML.out]; exact h1.1, h1.2, hrows⟩
      obtain ⟨av, cv, hov⟩ := hO.reads.form
      have hcall := Lib.hid (hred.out wr _ hO.reads)
      rw [hov] at hcall
      have HBW := Lib.hid (HB0.out.trans (hb.mono HB0.out.size))
      subst hov
      generalize MR.length = ml at *
      clear hown hrows h1 hO hb
      go_wp2_with fail
      refine hcall.out.mono ?_
      rintro e w9 ⟨v9, rfl, ho9, hb9⟩
      obtain ⟨a9, c9, rfl⟩ := ho9.reads.form
      have hfin : Hid (NewRows w R (.returned (.slice a9 R.length c9)) w9) := ⟨_, rfl, ho9.mono fun g hg => Nat.le_trans HBW.out.size hg, HBW.out.trans (hb9.mono HBW.out.size)⟩
      clear ho9 hb9
      go_wp2
      go_ret
      exact hfin.out

set_option maxHeartbeats 4000000 in
set_option maxRecDepth 100000 in
theorem specImg_any (p cs cm : Int) (u v : Value) (A B : List (List Int)) (w : World) (hu : ReadsM w u A) (hv : ReadsM w v B) :
    Calls Tryd.prog 65 #[.int .i64 p, .agg #[.int .i64 cs, u], .agg #[.int .i64 cm, v]] w (OptMat w (fitImg p cs cm A B) (imgCols p cs cm A B) (imgOut p cs cm A B)) := by
  obtain ⟨ua, uc, rfl⟩ := hu.form
  obtain ⟨va, vc, rfl⟩ := hv.form
  obtain ⟨w0, hw0⟩ : ∃ W, W = (((w.alloc (.cells #[.int .i64 cs, .slice ua A.length uc] 43)).alloc (.cells #[.int .i64 cm, .slice va B.length vc] 30)).alloc (.cells #[.int .i64 0, .slice none 0 0] 43)) := ⟨_, rfl⟩
  have hB : Below w.heap.size w w0 := by rw [hw0]; exact ((((Below.refl w.heap.size w).alloc (by simp) (.cells #[.int .i64 cs, .slice ua A.length uc] 43)).alloc (by simp) (.cells #[.int .i64 cm, .slice va B.length vc] 30)).alloc (by simp; omega) (.cells #[.int .i64 0, .slice none 0 0] 43))
  have hs0 : w0.heap.size = w.heap.size + 3 := by rw [hw0]; simp
  have X0_0 : ∀ W, Below w0.heap.size w0 W → W.cell? ⟨w.heap.size, 0, none⟩ = some (.int .i64 cs) := fun W hW => cell_old hW (by rw [hw0]; simp [go_sem])
  have X0_1 : ∀ W, Below w0.heap.size w0 W → W.cell? ⟨w.heap.size, 1, none⟩ = some (.slice ua A.length uc) := fun W hW => cell_old hW (by rw [hw0]; simp [go_sem])
  have X1_0 : ∀ W, Below w0.heap.size w0 W → W.cell? ⟨w.heap.size + 1, 0, none⟩ = some (.int .i64 cm) := fun W hW => cell_old hW (by rw [hw0]; simp [go_sem])
  have X1_1 : ∀ W, Below w0.heap.size w0 W → W.cell? ⟨w.heap.size + 1, 1, none⟩ = some (.slice va B.length vc) := fun W hW => cell_old hW (by rw [hw0]; simp [go_sem])
  have Q0 : ∀ W, Below w0.heap.size w0 W → W.cell? ⟨w.heap.size + 1 + 1, 0, none⟩ = some (.int .i64 0) := fun W hW => cell_old hW (by rw [hw0]; simp [go_sem])
  have G0 : ∀ W, Below w0.heap.size w0 W → W.frozen? ⟨w.heap.size + 1 + 1, 0, none⟩ = false := fun W hW => frozen_old hW (by show w.heap.size + 1 + 1 < _; omega) (by rw [hw0]; simp [go_sem])
  have Q1 : ∀ W, Below w0.heap.size w0 W → W.cell? ⟨w.heap.size + 1 + 1, 1, none⟩ = some (.slice none 0 0) := fun W hW => cell_old hW (by rw [hw0]; simp [go_sem])
  have G1 : ∀ W, Below w0.heap.size w0 W → W.frozen? ⟨w.heap.size + 1 + 1, 1, none⟩ = false := fun W hW => frozen_old hW (by show w.heap.size + 1 + 1 < _; omega) (by rw [hw0]; simp [go_sem])
  have HW := Lib.hid hw0
  have HB := Lib.hid hB
  have HS := Lib.hid hs0
  have HU := Lib.hid (hu.below hB)
  have HV := Lib.hid (hv.below hB)
  obtain ⟨b1, hb1⟩ : ∃ b, (spB p cs A) = b := ⟨_, rfl⟩
  have Cb1 := Lib.hid (fun W (hW : Below w0.heap.size w0 W) => spGood_any p cs _ A W (HU.out.below hW))
  rw [hb1] at Cb1
  obtain ⟨b2, hb2⟩ : ∃ b, (matB p cm B) = b := ⟨_, rfl⟩
  have Cb2 := Lib.hid (fun W (hW : Below w0.heap.size w0 W) => mxGood_any p cm _ B W (HV.out.below hW))
  rw [hb2] at Cb2
  obtain ⟨b3, hb3⟩ : ∃ b, ((B.length : Int) == cs) = b := ⟨_, rfl⟩
  have Eb3 : ((B.length : Int) != cs) = !b3 := by rw [← hb3]; rfl
  clear hw0 hB hs0 hu hv
  cases b1 with
  | false =>
    have e0 : fitImg p cs cm A B = false := by simp [fitImg, hb1]
    have e1 : imgOut p cs cm A B = [] := by simp [imgOut, e0]
    have e2 : imgCols p cs cm A B = 0 := by simp [imgCols, e0]
    rw [e0, e1, e2]
    clear e0 e1 e2
    clear hb1 hb2 hb3
    go_enter Tryd.func65, Tryd.ntmps65
    go_wp2_with fail
    rw [← HW.out]
    refine (Cb1.out w0 (Below.refl _ _)).mono ?_
    rintro e w1 ⟨rfl, hb1⟩
    have B1 : Below w0.heap.size w0 w1 := hb1
    clear hb1
    go_wp2
    refine bodyPost_ret (v := .tuple #[.agg #[.int .i64 0, .slice none 0 0], .bool false]) (by simp [results, Tryd.results65, go_sem, Q0 _ B1, Q1 _ B1]) rfl ?_
    exact optMat_none (HB.out.trans (B1.mono HB.out.size)) (by omega)
  | true =>
    cases b2 with
    | false =>
      have e0 : fitImg p cs cm A B = false := by simp [fitImg, hb1, hb2]
      have e1 : imgOut p cs cm A B = [] := by simp [imgOut, e0]
      have e2 : imgCols p cs cm A B = 0 := by simp [imgCols, e0]
      rw [e0, e1, e2]
      clear e0 e1 e2
      clear hb1 hb2 hb3
      go_enter Tryd.func65, Tryd.ntmps65
      go_wp2_with fail
      rw [← HW.out]
      refine (Cb1.out w0 (Below.refl _ _)).mono ?_
      rintro e w1 ⟨rfl, hb1⟩
      have B1 : Below w0.heap.size w0 w1 := hb1
      clear hb1
      go_wp2_with fail
      refine (Cb2.out w1 B1).mono ?_
      rintro e w2 ⟨rfl, hb2⟩
      have B2 : Below w0.heap.size w0 w2 := below_step B1 hb2
      clear hb2
      go_wp2
      refine bodyPost_ret (v := .tuple #[.agg #[.int .i64 0, .slice none 0 0], .bool false]) (by simp [results, Tryd.results65, go_sem, Q0 _ B2, Q1 _ B2]) rfl ?_
      exact optMat_none (HB.out.trans (B2.mono HB.out.size)) (by omega)
    | true =>
      cases b3 with
      | false =>
        have e0 : fitImg p cs cm A B = false := by simp [fitImg, hb1, hb2, hb3]
        have e1 : imgOut p cs cm A B = [] := by simp [imgOut, e0]
        have e2 : imgCols p cs cm A B = 0 := by simp [imgCols, e0]
        rw [e0, e1, e2]
        clear e0 e1 e2
        clear hb1 hb2 hb3
        go_enter Tryd.func65, Tryd.ntmps65
        go_wp2_with fail
        rw [← HW.out]
        refine (Cb1.out w0 (Below.refl _ _)).mono ?_
        rintro e w1 ⟨rfl, hb1⟩
        have B1 : Below w0.heap.size w0 w1 := hb1
        clear hb1
        go_wp2_with fail
        refine (Cb2.out w1 B1).mono ?_
        rintro e w2 ⟨rfl, hb2⟩
        have B2 : Below w0.heap.size w0 w2 := below_step B1 hb2
        clear hb2
        go_wp2
        refine bodyPost_ret (v := .tuple #[.agg #[.int .i64 0, .slice none 0 0], .bool false]) (by simp [results, Tryd.results65, go_sem, Q0 _ B2, Q1 _ B2]) rfl ?_
        exact optMat_none (HB.out.trans (B2.mono HB.out.size)) (by omega)
      | true =>
        have e0 : fitImg p cs cm A B = true := by simp [fitImg, hb1, hb2, hb3]
        obtain ⟨n, c, rfl, rfl, hn, hc, hl, hg, hA, hBB⟩ := fitImg_parts e0
        have e1 : imgOut p n c A B = reducedL p c (mulT p c A B) := by simp [imgOut, e0]
        have e2 : imgCols p n c A B = c := by simp [imgCols, e0]
        rw [e0, e1, e2]
        have HA := Lib.hid hA
        have HBB := Lib.hid hBB
        clear e0 e1 e2 hb1 hb2 hb3 hA hBB
        obtain ⟨R, hR⟩ : ∃ R, reducedL p c (mulT p c A B) = R := ⟨_, rfl⟩
        rw [hR]
        have HR := Lib.hid hR
        clear hR
        go_enter Tryd.func65, Tryd.ntmps65
        go_wp2_with fail
        rw [← HW.out]
        refine (Cb1.out w0 (Below.refl _ _)).mono ?_
        rintro e w1 ⟨rfl, hb1⟩
        have B1 : Below w0.heap.size w0 w1 := hb1
        clear hb1
        go_wp2_with fail
        refine (Cb2.out w1 B1).mono ?_
        rintro e w2 ⟨rfl, hb2⟩
        have B2 : Below w0.heap.size w0 w2 := below_step B1 hb2
        clear hb2
        have himg := Lib.hid (fun W (hW : Below w0.heap.size w0 W) => HR.out ▸ spImage_any p hg A.length n c (by omega) (by omega) _ _ A B W HA.out HBB.out (HU.out.below hW) (HV.out.below hW))
        have x0_1 := X0_1 _ B2
        have x1_0 := X1_0 _ B2
        have x1_1 := X1_1 _ B2
        go_upto_region 3 with fail
        go_region_held3 (fun W => W.cell? ⟨w.heap.size, 1, none⟩ = some (.slice ua A.length uc) ∧ W.cell? ⟨w.heap.size + 1, 0, none⟩ = some (.int .i64 c) ∧ W.cell? ⟨w.heap.size + 1, 1, none⟩ = some (.slice va B.length vc)) (first | exact S9.out | exact S7.out | exact ⟨(matAt_chg2 w9 (w.heap.size + 1 + 1) _ _).keep (X0_1 _ B9) (fun e => by simp only at e; omega), (matAt_chg2 w9 (w.heap.size + 1 + 1) _ _).keep (X1_0 _ B9) (fun e => by simp only at e; omega), (matAt_chg2 w9 (w.heap.size + 1 + 1) _ _).keep (X1_1 _ B9) (fun e => by simp only at e; omega)⟩ | go_keep) (first | (go_at_call 112; (with_reducible refine (himg.out _ (below_drewB B2)).mono ?_); rintro e w9 ⟨v9, rfl, ho9, hb9⟩; obtain ⟨a9, c9, rfl⟩ := ho9.reads.form; have B9 := below_step (below_drewB B2) hb9; have q0 := Q0 _ B9; have q1 := Q1 _ B9; have g0 := G0 _ B9; have g1 := G1 _ B9; have S9 := Lib.hid (And.intro (X0_1 _ B9) (And.intro (X1_0 _ B9) (X1_1 _ B9)))))
        have hfin := Lib.hid (optMat_put (HB.out.trans ((below_drewB B2).mono HB.out.size)) hb9 ho9 (b := w.heap.size + 1 + 1) (by omega) (by have h1 := ((below_drewB B2)).size; have h2 := HS.out; omega) (d := (c : Int)))
        clear ho9 hb9
        go_wp2
        refine bodyPost_ret (v := .tuple #[.agg #[.int .i64 (c : Int), .slice a9 R.length c9], .bool true]) (by simp [results, Tryd.results65, go_sem, q0, q1]) rfl ?_
        exact hfin.out
        
set_option maxHeartbeats 4000000 in
set_option maxRecDepth 100000 in
theorem implImg_any (p cs cm : Int) (u v : Value) (A B : List (List Int)) (w : World) (ht : Tab w) (hu : ReadsM w u A) (hv : ReadsM w v B) :
    Calls Tryd.prog 66 #[.int .i64 p, .agg #[.int .i64 cs, u], .agg #[.int .i64 cm, v]] w (OptMat w (fitImg p cs cm A B) (imgCols p cs cm A B) (imgOut p cs cm A B)) := by
  obtain ⟨ua, uc, rfl⟩ := hu.form
  obtain ⟨va, vc, rfl⟩ := hv.form
  obtain ⟨w0, hw0⟩ : ∃ W, W = (((w.alloc (.cells #[.int .i64 cs, .slice ua A.length uc] 43)).alloc (.cells #[.int .i64 cm, .slice va B.length vc] 30)).alloc (.cells #[.int .i64 0, .slice none 0 0] 43)) := ⟨_, rfl⟩
  have hB : Below w.heap.size w w0 := by rw [hw0]; exact ((((Below.refl w.heap.size w).alloc (by simp) (.cells #[.int .i64 cs, .slice ua A.length uc] 43)).alloc (by simp) (.cells #[.int .i64 cm, .slice va B.length vc] 30)).alloc (by simp; omega) (.cells #[.int .i64 0, .slice none 0 0] 43))
  have hs0 : w0.heap.size = w.heap.size + 3 := by rw [hw0]; simp
  have X0_0 : ∀ W, Below w0.heap.size w0 W → W.cell? ⟨w.heap.size, 0, none⟩ = some (.int .i64 cs) := fun W hW => cell_old hW (by rw [hw0]; simp [go_sem])
  have X0_1 : ∀ W, Below w0.heap.size w0 W → W.cell? ⟨w.heap.size, 1, none⟩ = some (.slice ua A.length uc) := fun W hW => cell_old hW (by rw [hw0]; simp [go_sem])
  have X1_0 : ∀ W, Below w0.heap.size w0 W → W.cell? ⟨w.heap.size + 1, 0, none⟩ = some (.int .i64 cm) := fun W hW => cell_old hW (by rw [hw0]; simp [go_sem])
  have X1_1 : ∀ W, Below w0.heap.size w0 W → W.cell? ⟨w.heap.size + 1, 1, none⟩ = some (.slice va B.length vc) := fun W hW => cell_old hW (by rw [hw0]; simp [go_sem])
  have Q0 : ∀ W, Below w0.heap.size w0 W → W.cell? ⟨w.heap.size + 1 + 1, 0, none⟩ = some (.int .i64 0) := fun W hW => cell_old hW (by rw [hw0]; simp [go_sem])
  have G0 : ∀ W, Below w0.heap.size w0 W → W.frozen? ⟨w.heap.size + 1 + 1, 0, none⟩ = false := fun W hW => frozen_old hW (by show w.heap.size + 1 + 1 < _; omega) (by rw [hw0]; simp [go_sem])
  have Q1 : ∀ W, Below w0.heap.size w0 W → W.cell? ⟨w.heap.size + 1 + 1, 1, none⟩ = some (.slice none 0 0) := fun W hW => cell_old hW (by rw [hw0]; simp [go_sem])
  have G1 : ∀ W, Below w0.heap.size w0 W → W.frozen? ⟨w.heap.size + 1 + 1, 1, none⟩ = false := fun W hW => frozen_old hW (by show w.heap.size + 1 + 1 < _; omega) (by rw [hw0]; simp [go_sem])
  have HW := Lib.hid hw0
  have HB := Lib.hid hB
  have HS := Lib.hid hs0
  have HU := Lib.hid (hu.below hB)
  have HV := Lib.hid (hv.below hB)
  have htB : Hid (Tab w0) := ht.below ht.size hB
  obtain ⟨b1, hb1⟩ : ∃ b, (spB p cs A) = b := ⟨_, rfl⟩
  have Cb1 := Lib.hid (fun W (hW : Below w0.heap.size w0 W) => isSpace_any p cs _ A W (htB.out.below htB.out.size hW) (HU.out.below hW))
  rw [hb1] at Cb1
  obtain ⟨b2, hb2⟩ : ∃ b, (matB p cm B) = b := ⟨_, rfl⟩
  have Cb2 := Lib.hid (fun W (hW : Below w0.heap.size w0 W) => isMatrix_any p cm _ B W (htB.out.below htB.out.size hW) (HV.out.below hW))
  rw [hb2] at Cb2
  obtain ⟨b3, hb3⟩ : ∃ b, ((B.length : Int) == cs) = b := ⟨_, rfl⟩
  have Eb3 : ((B.length : Int) != cs) = !b3 := by rw [← hb3]; rfl
  clear hw0 hB hs0 hu hv ht
  cases b1 with
  | false =>
    have e0 : fitImg p cs cm A B = false := by simp [fitImg, hb1]
    have e1 : imgOut p cs cm A B = [] := by simp [imgOut, e0]
    have e2 : imgCols p cs cm A B = 0 := by simp [imgCols, e0]
    rw [e0, e1, e2]
    clear e0 e1 e2
    clear hb1 hb2 hb3
    go_enter Tryd.func66, Tryd.ntmps66
    go_wp2_with fail
    rw [← HW.out]
    refine (Cb1.out w0 (Below.refl _ _)).mono ?_
    rintro e w1 ⟨rfl, hb1⟩
    have B1 : Below w0.heap.size w0 w1 := hb1
    clear hb1
    go_wp2
    refine bodyPost_ret (v := .tuple #[.agg #[.int .i64 0, .slice none 0 0], .bool false]) (by simp [results, Tryd.results66, go_sem, Q0 _ B1, Q1 _ B1]) rfl ?_
    exact optMat_none (HB.out.trans (B1.mono HB.out.size)) (by omega)
  | true =>
    cases b2 with
    | false =>
      have e0 : fitImg p cs cm A B = false := by simp [fitImg, hb1, hb2]
      have e1 : imgOut p cs cm A B = [] := by simp [imgOut, e0]
      have e2 : imgCols p cs cm A B = 0 := by simp [imgCols, e0]
      rw [e0, e1, e2]
      clear e0 e1 e2
      clear hb1 hb2 hb3
      go_enter Tryd.func66, Tryd.ntmps66
      go_wp2_with fail
      rw [← HW.out]
      refine (Cb1.out w0 (Below.refl _ _)).mono ?_
      rintro e w1 ⟨rfl, hb1⟩
      have B1 : Below w0.heap.size w0 w1 := hb1
      clear hb1
      go_wp2_with fail
      refine (Cb2.out w1 B1).mono ?_
      rintro e w2 ⟨rfl, hb2⟩
      have B2 : Below w0.heap.size w0 w2 := below_step B1 hb2
      clear hb2
      go_wp2
      refine bodyPost_ret (v := .tuple #[.agg #[.int .i64 0, .slice none 0 0], .bool false]) (by simp [results, Tryd.results66, go_sem, Q0 _ B2, Q1 _ B2]) rfl ?_
      exact optMat_none (HB.out.trans (B2.mono HB.out.size)) (by omega)
    | true =>
      cases b3 with
      | false =>
        have e0 : fitImg p cs cm A B = false := by simp [fitImg, hb1, hb2, hb3]
        have e1 : imgOut p cs cm A B = [] := by simp [imgOut, e0]
        have e2 : imgCols p cs cm A B = 0 := by simp [imgCols, e0]
        rw [e0, e1, e2]
        clear e0 e1 e2
        clear hb1 hb2 hb3
        go_enter Tryd.func66, Tryd.ntmps66
        go_wp2_with fail
        rw [← HW.out]
        refine (Cb1.out w0 (Below.refl _ _)).mono ?_
        rintro e w1 ⟨rfl, hb1⟩
        have B1 : Below w0.heap.size w0 w1 := hb1
        clear hb1
        go_wp2_with fail
        refine (Cb2.out w1 B1).mono ?_
        rintro e w2 ⟨rfl, hb2⟩
        have B2 : Below w0.heap.size w0 w2 := below_step B1 hb2
        clear hb2
        go_wp2
        refine bodyPost_ret (v := .tuple #[.agg #[.int .i64 0, .slice none 0 0], .bool false]) (by simp [results, Tryd.results66, go_sem, Q0 _ B2, Q1 _ B2]) rfl ?_
        exact optMat_none (HB.out.trans (B2.mono HB.out.size)) (by omega)
      | true =>
        have e0 : fitImg p cs cm A B = true := by simp [fitImg, hb1, hb2, hb3]
        obtain ⟨n, c, rfl, rfl, hn, hc, hl, hg, hA, hBB⟩ := fitImg_parts e0
        have e1 : imgOut p n c A B = reducedL p c (mulT p c A B) := by simp [imgOut, e0]
        have e2 : imgCols p n c A B = c := by simp [imgCols, e0]
        rw [e0, e1, e2]
        have HA := Lib.hid hA
        have HBB := Lib.hid hBB
        clear e0 e1 e2 hb1 hb2 hb3 hA hBB
        obtain ⟨R, hR⟩ : ∃ R, reducedL p c (mulT p c A B) = R := ⟨_, rfl⟩
        rw [hR]
        have HR := Lib.hid hR
        clear hR
        go_enter Tryd.func66, Tryd.ntmps66
        go_wp2_with fail
        rw [← HW.out]
        refine (Cb1.out w0 (Below.refl _ _)).mono ?_
        rintro e w1 ⟨rfl, hb1⟩
        have B1 : Below w0.heap.size w0 w1 := hb1
        clear hb1
        go_wp2_with fail
        refine (Cb2.out w1 B1).mono ?_
        rintro e w2 ⟨rfl, hb2⟩
        have B2 : Below w0.heap.size w0 w2 := below_step B1 hb2
        clear hb2
        have htim := Lib.hid (fun W (hW : Below w0.heap.size w0 W) => times_any p n c n (Fld.good_bounds hg).1 (Fld.good_bounds hg).2 (by omega) _ _ A B W (by omega) HA.out HBB.out (HU.out.below hW) (HV.out.below hW))
        have hspan := Lib.hid (fun W z (h : ReadsM W z (mulT p c A B)) => HR.out ▸ span_any p hg A.length c (by omega) (by omega) z _ W (elems_mul (Fld.good_bounds hg).1 HA.out) h)
        have hfd := run_field_rows
        have x0_0 := X0_0 _ B2
        have x0_1 := X0_1 _ B2
        have x1_0 := X1_0 _ B2
        have x1_1 := X1_1 _ B2
        go_upto_region 3 with fail
        go_region_held3 (fun W => W.cell? ⟨w.heap.size, 0, none⟩ = some (.int .i64 n) ∧ W.cell? ⟨w.heap.size, 1, none⟩ = some (.slice ua A.length uc) ∧ W.cell? ⟨w.heap.size + 1, 0, none⟩ = some (.int .i64 c) ∧ W.cell? ⟨w.heap.size + 1, 1, none⟩ = some (.slice va B.length vc)) (first | exact S9.out | exact S7.out | exact ⟨(matAt_chg2 w9 (w.heap.size + 1 + 1) _ _).keep (X0_0 _ B9) (fun e => by simp only at e; omega), (matAt_chg2 w9 (w.heap.size + 1 + 1) _ _).keep (X0_1 _ B9) (fun e => by simp only at e; omega), (matAt_chg2 w9 (w.heap.size + 1 + 1) _ _).keep (X1_0 _ B9) (fun e => by simp only at e; omega), (matAt_chg2 w9 (w.heap.size + 1 + 1) _ _).keep (X1_1 _ B9) (fun e => by simp only at e; omega)⟩ | go_keep) (first | (go_at_call 113; (with_reducible refine (htim.out _ (below_drewB B2)).mono ?_); rintro e w_1 ⟨v_1, rfl, ho_1, hb_1⟩; obtain ⟨a_1, c_1, rfl⟩ := ho_1.reads.form; have B_1 := below_step (below_drewB B2) hb_1; have S7 := Lib.hid (And.intro (X0_0 _ B_1) (And.intro (X0_1 _ B_1) (And.intro (X1_0 _ B_1) (X1_1 _ B_1))))) | (go_at_call 93; (with_reducible refine (hspan.out _ _ ho_1.reads).mono ?_); rintro e w9 ⟨v9, rfl, ho9, hb9⟩; obtain ⟨a9, c9, rfl⟩ := ho9.reads.form; have B9 := below_step B_1 hb9; have q0 := Q0 _ B9; have q1 := Q1 _ B9; have g0 := G0 _ B9; have g1 := G1 _ B9; have S9 := Lib.hid (And.intro (X0_0 _ B9) (And.intro (X0_1 _ B9) (And.intro (X1_0 _ B9) (X1_1 _ B9))))))
        have hfin := Lib.hid (optMat_put (HB.out.trans (B_1.mono HB.out.size)) hb9 ho9 (b := w.heap.size + 1 + 1) (by omega) (by have h1 := (B_1).size; have h2 := HS.out; omega) (d := (c : Int)))
        clear ho9 hb9
        go_wp2
        refine bodyPost_ret (v := .tuple #[.agg #[.int .i64 (c : Int), .slice a9 R.length c9], .bool true]) (by simp [results, Tryd.results66, go_sem, q0, q1]) rfl ?_
        exact hfin.out
        

end Ints
end Go.Proofs.YtkpheigoegehoaaDoor
