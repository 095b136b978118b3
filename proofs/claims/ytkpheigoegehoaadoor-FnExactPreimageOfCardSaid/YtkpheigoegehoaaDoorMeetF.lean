/- MeetOf, both. (Printed by wip/gen_meet.py.) -/
import Derived.Test.YtkpheigoegehoaaDoorSumF
import Derived.Test.YtkpheigoegehoaaDoorSpNull
import Derived.Test.YtkpheigoegehoaaDoorKern
import Derived.Test.YtkpheigoegehoaaDoorMulRow
import Derived.Test.YtkpheigoegehoaaDoorAppFirst
import Derived.Deep.RegionHeld3
import Derived.Deep.DeepCutAuto
namespace Go.Proofs.YtkpheigoegehoaaDoor
open Go.RowKit
namespace Ints

def meetOut (p ca cb : Int) (A B : List (List Int)) : List (List Int) := if twoB p ca cb A B then Lin.nullL p ca.toNat (Lin.nullL p ca.toNat A ++ Lin.nullL p ca.toNat B) else []
def meetCols (p ca cb : Int) (A B : List (List Int)) : Int := if twoB p ca cb A B then ca else 0
theorem meetOut_ctr (p ca cb : Int) (A B : List (List Int)) : (1 : Int) + (sumL (meetOut p ca cb A B) : Int) ≤ 1000000000 := by
  unfold meetOut
  split
  · rename_i h
    obtain ⟨n, rfl, _, hn, hl, hl2, hg, hA, hB⟩ := twoB_parts h
    obtain ⟨_, a1, _, _⟩ := Lin.null_facts hg hA
    obtain ⟨_, b1, _, _⟩ := Lin.null_facts hg hB
    obtain ⟨_, h1, h2, _⟩ := Lin.null_facts hg (Lin.elems_app a1 b1)
    exact ctr_elems' h1 (by omega) (by omega)
  · exact ctr_nil
theorem Reads.low {w : World} {a : Option Addr} {n cap : Nat} {l : List Int} (h : Reads w 1 (.slice a n cap) n (ofL l)) {m : Nat} (hm : m ≤ n) : Reads w 1 (.slice a m cap) m (ofL (l.take m)) := by
  obtain ⟨h0, a', cap', e, h1, h2, h3⟩ := h
  simp only [Value.slice.injEq] at e
  obtain ⟨rfl, -, rfl⟩ := e
  rw [ofL_length, Nat.mul_one] at h0
  have hl : (ofL (l.take m)).length = m := by rw [ofL_length, List.length_take]; omega
  refine ⟨by rw [hl, Nat.mul_one], _, _, rfl, by omega, h2, fun hp => ?_⟩
  rw [hl] at hp
  obtain ⟨g, off, rfl, hcell⟩ := h3 (by rw [ofL_length]; omega)
  refine ⟨g, off, rfl, fun j hj => ?_⟩
  rw [hl] at hj
  rw [hcell j (by rw [ofL_length]; omega)]
  simp [ofL, hj]

set_option maxHeartbeats 2000000 in
theorem spMeet_any (p : Int) (hg : Fld.goodB p = true) (a b n : Nat) (ha : a ≤ 400) (hb : b ≤ 400) (hn : n ≤ 400) (va vb : Value) (A B : List (List Int)) (w : World) (hA : ElemsT p a n A) (hB : ElemsT p b n B) (hu : ReadsM w va A) (hv : ReadsM w vb B) :
    Calls Tryd.prog 110 #[.int .i64 p, .int .i64 n, va, vb] w (NewRows w (Lin.nullL p n (Lin.nullL p n A ++ Lin.nullL p n B))) := by
  obtain ⟨_, a1, a2, _⟩ := Lin.null_facts hg hA
  obtain ⟨_, b1, b2, _⟩ := Lin.null_facts hg hB
  have hc1 := Lib.hid (spNull_any p hg a n (by omega) (by omega) va A w hA hu)
  have hc2 := Lib.hid (fun W (hW : Below w.heap.size w W) => spNull_any p hg b n (by omega) (by omega) vb B W hB (hv.below hW))
  have hc3 := Lib.hid (fun W u u' (h : ReadsM W u (Lin.nullL p n A)) (h' : ReadsM W u' (Lin.nullL p n B)) => spJoin_any u u' _ _ W h h' (by omega))
  have hc4 := Lib.hid (fun W u (h : ReadsM W u (Lin.nullL p n A ++ Lin.nullL p n B)) => spNull_any p hg _ n (by omega) (by omega) u _ W (Lin.elems_app a1 b1) h)
  obtain ⟨R, hR⟩ : ∃ R, Lin.nullL p n (Lin.nullL p n A ++ Lin.nullL p n B) = R := ⟨_, rfl⟩
  rw [hR] at hc4 ⊢
  obtain ⟨NA, hNA⟩ : ∃ R, Lin.nullL p n A = R := ⟨_, rfl⟩
  obtain ⟨NB, hNB⟩ : ∃ R, Lin.nullL p n B = R := ⟨_, rfl⟩
  rw [hNA] at hc1 hc3 hc4
  rw [hNB] at hc2 hc3 hc4
  obtain ⟨ua, uc, rfl⟩ := hu.form
  obtain ⟨va, vc, rfl⟩ := hv.form
  clear hg hA hB hu hv a1 a2 b1 b2 hR hNA hNB
  go_enter Tryd.func110, Tryd.ntmps110
  go_wp2_with fail
  refine hc1.out.mono ?_
  rintro e w1 ⟨v1, rfl, ho1, hb1⟩
  obtain ⟨a1, c1, rfl⟩ := ho1.reads.form
  go_wp2_with fail
  refine (hc2.out w1 hb1).mono ?_
  rintro e w2 ⟨v2, rfl, ho2, hb2⟩
  obtain ⟨a2, c2, rfl⟩ := ho2.reads.form
  have hr1 := ho1.reads.below hb2
  go_wp2_with fail
  refine (hc3.out w2 _ _ hr1 ho2.reads).mono ?_
  rintro e w3 ⟨v3, rfl, hr3, hb3⟩
  have hcall := Lib.hid (hc4.out w3 v3 hr3)
  obtain ⟨a3, c3, rfl⟩ := hr3.form
  have HB3 := Lib.hid (hb1.trans ((hb2.trans (hb3.mono hb2.size)).mono hb1.size))
  clear ho1 ho2 hb1 hb2 hb3 hr1 hr3 hc1 hc2 hc3 hc4
  generalize (NA ++ NB).length = nn at *
  go_wp2_with fail
  refine hcall.out.mono ?_
  rintro e w4 ⟨v4, rfl, ho4, hb4⟩
  obtain ⟨a4, c4, rfl⟩ := ho4.reads.form
  have hfin : Hid (NewRows w R (.returned (.slice a4 R.length c4)) w4) := ⟨_, rfl, ho4.mono fun g hg => Nat.le_trans HB3.out.size hg, HB3.out.trans (hb4.mono HB3.out.size)⟩
  clear ho4 hb4 hcall
  go_wp2
  go_ret
  exact hfin.out

set_option maxHeartbeats 4000000 in
set_option maxRecDepth 100000 in
theorem specMeet_any (p ca cb : Int) (u v : Value) (A B : List (List Int)) (w : World) (hu : ReadsM w u A) (hv : ReadsM w v B) :
    Calls Tryd.prog 63 #[.int .i64 p, .agg #[.int .i64 ca, u], .agg #[.int .i64 cb, v]] w (OptMat w (twoB p ca cb A B) (meetCols p ca cb A B) (meetOut p ca cb A B)) := by
  obtain ⟨ua, uc, rfl⟩ := hu.form
  obtain ⟨va, vc, rfl⟩ := hv.form
  obtain ⟨w0, hw0⟩ : ∃ W, W = (((w.alloc (.cells #[.int .i64 ca, .slice ua A.length uc] 43)).alloc (.cells #[.int .i64 cb, .slice va B.length vc] 43)).alloc (.cells #[.int .i64 0, .slice none 0 0] 43)) := ⟨_, rfl⟩
  have hB : Below w.heap.size w w0 := by rw [hw0]; exact ((((Below.refl w.heap.size w).alloc (by simp) (.cells #[.int .i64 ca, .slice ua A.length uc] 43)).alloc (by simp) (.cells #[.int .i64 cb, .slice va B.length vc] 43)).alloc (by simp; omega) (.cells #[.int .i64 0, .slice none 0 0] 43))
  have hs0 : w0.heap.size = w.heap.size + 3 := by rw [hw0]; simp
  have X0_0 : ∀ W, Below w0.heap.size w0 W → W.cell? ⟨w.heap.size, 0, none⟩ = some (.int .i64 ca) := fun W hW => cell_old hW (by rw [hw0]; simp [go_sem])
  have X0_1 : ∀ W, Below w0.heap.size w0 W → W.cell? ⟨w.heap.size, 1, none⟩ = some (.slice ua A.length uc) := fun W hW => cell_old hW (by rw [hw0]; simp [go_sem])
  have X1_0 : ∀ W, Below w0.heap.size w0 W → W.cell? ⟨w.heap.size + 1, 0, none⟩ = some (.int .i64 cb) := fun W hW => cell_old hW (by rw [hw0]; simp [go_sem])
  have X1_1 : ∀ W, Below w0.heap.size w0 W → W.cell? ⟨w.heap.size + 1, 1, none⟩ = some (.slice va B.length vc) := fun W hW => cell_old hW (by rw [hw0]; simp [go_sem])
  have Q0 : ∀ W, Below w0.heap.size w0 W → W.cell? ⟨w.heap.size + 1 + 1, 0, none⟩ = some (.int .i64 0) := fun W hW => cell_old hW (by rw [hw0]; simp [go_sem])
  have G0 : ∀ W, Below w0.heap.size w0 W → W.frozen? ⟨w.heap.size + 1 + 1, 0, none⟩ = false := fun W hW => frozen_old hW (by show w.heap.size + 1 + 1 < _; omega) (by rw [hw0]; simp [go_sem])
  have Q1 : ∀ W, Below w0.heap.size w0 W → W.cell? ⟨w.heap.size + 1 + 1, 1, none⟩ = some (.slice none 0 0) := fun W hW => cell_old hW (by rw [hw0]; simp [go_sem])
  have G1 : ∀ W, Below w0.heap.size w0 W → W.frozen? ⟨w.heap.size + 1 + 1, 1, none⟩ = false := fun W hW => frozen_old hW (by show w.heap.size + 1 + 1 < _; omega) (by rw [hw0]; simp [go_sem])
  have HW := Lib.hid hw0
  have HB := Lib.hid hB
  have HS := Lib.hid hs0
  have HU := Lib.hid (hu.below hB)
  have HV := Lib.hid (hv.below hB)
  obtain ⟨b1, hb1⟩ : ∃ b, (twoB p ca cb A B) = b := ⟨_, rfl⟩
  have Cb1 := Lib.hid (fun W (hW : Below w0.heap.size w0 W) => spTwo_any p ca cb _ _ A B W (HU.out.below hW) (HV.out.below hW))
  rw [hb1] at Cb1
  clear hw0 hB hs0 hu hv
  cases b1 with
  | false =>
    have e1 : meetOut p ca cb A B = [] := by simp [meetOut, hb1]
    have e2 : meetCols p ca cb A B = 0 := by simp [meetCols, hb1]
    rw [hb1, e1, e2]
    clear e1 e2
    clear hb1
    go_enter Tryd.func63, Tryd.ntmps63
    go_wp2_with fail
    rw [← HW.out]
    refine (Cb1.out w0 (Below.refl _ _)).mono ?_
    rintro e w1 ⟨rfl, hb1⟩
    have B1 : Below w0.heap.size w0 w1 := hb1
    clear hb1
    go_wp2
    refine bodyPost_ret (v := .tuple #[.agg #[.int .i64 0, .slice none 0 0], .bool false]) (by simp [results, Tryd.results63, go_sem, Q0 _ B1, Q1 _ B1]) rfl ?_
    exact optMat_none (HB.out.trans (B1.mono HB.out.size)) (by omega)
  | true =>
    obtain ⟨n, rfl, rfl, hn, hl, hl2, hg, hA, hBB⟩ := twoB_parts hb1
    have e1 : meetOut p n n A B = Lin.nullL p n (Lin.nullL p n A ++ Lin.nullL p n B) := by simp [meetOut, hb1]
    have e2 : meetCols p n n A B = n := by simp [meetCols, hb1]
    rw [hb1, e1, e2]
    obtain ⟨R, hR⟩ : ∃ R, Lin.nullL p n (Lin.nullL p n A ++ Lin.nullL p n B) = R := ⟨_, rfl⟩
    rw [hR]
    have HR := Lib.hid hR
    have HA := Lib.hid hA
    have HBB := Lib.hid hBB
    clear e1 e2 hA hBB hb1 hR
    go_enter Tryd.func63, Tryd.ntmps63
    go_wp2_with fail
    rw [← HW.out]
    refine (Cb1.out w0 (Below.refl _ _)).mono ?_
    rintro e w1 ⟨rfl, hb1⟩
    have B1 : Below w0.heap.size w0 w1 := hb1
    clear hb1
    have hmeet := Lib.hid (fun W (hW : Below w0.heap.size w0 W) => HR.out ▸ spMeet_any p hg A.length B.length n (by omega) (by omega) (by omega) _ _ A B W HA.out HBB.out (HU.out.below hW) (HV.out.below hW))
    have HBW := Lib.hid (HB.out.trans ((below_drewB B1).mono HB.out.size))
    have HLT : w.heap.size + 1 + 1 < w1.drew.heap.size := by have := (B1).size; have := HS.out; show w.heap.size + 1 + 1 < w1.heap.size; omega
    have x0_0 := X0_0 _ B1
    have x0_1 := X0_1 _ B1
    have x1_1 := X1_1 _ B1
    go_upto_region 3 with fail
    go_region_held3 (fun W => W.cell? ⟨w.heap.size, 0, none⟩ = some (.int .i64 n) ∧ W.cell? ⟨w.heap.size, 1, none⟩ = some (.slice ua A.length uc) ∧ W.cell? ⟨w.heap.size + 1, 1, none⟩ = some (.slice va B.length vc))
      (first | exact S9.out | exact S8.out | exact S7.out | exact ⟨(matAt_chg2 w9 (w.heap.size + 1 + 1) _ _).keep (X0_0 _ B9) (fun e => by simp only at e; omega), (matAt_chg2 w9 (w.heap.size + 1 + 1) _ _).keep (X0_1 _ B9) (fun e => by simp only at e; omega), (matAt_chg2 w9 (w.heap.size + 1 + 1) _ _).keep (X1_1 _ B9) (fun e => by simp only at e; omega)⟩ | go_keep)
      (first | (go_at_call 110; (with_reducible refine (hmeet.out _ (below_drewB B1)).mono ?_); rintro e w9 ⟨v9, rfl, ho9, hb9⟩; obtain ⟨a9, c9, rfl⟩ := ho9.reads.form; have B9 := below_step (below_drewB B1) hb9; have q0 := Q0 _ B9; have q1 := Q1 _ B9; have g0 := G0 _ B9; have g1 := G1 _ B9; have S8 := Lib.hid (And.intro (X0_0 _ B9) (And.intro (X0_1 _ B9) (X1_1 _ B9)))))
    have hfin := Lib.hid (optMat_put (HB.out.trans ((below_drewB B1).mono HB.out.size)) hb9 ho9 (b := w.heap.size + 1 + 1) (by omega) (by have h1 := ((below_drewB B1)).size; have h2 := HS.out; omega) (d := (n : Int)))
    clear ho9 hb9
    go_wp2
    refine bodyPost_ret (v := .tuple #[.agg #[.int .i64 (n : Int), .slice a9 R.length c9], .bool true]) (by simp [results, Tryd.results63, go_sem, q0, q1]) rfl ?_
    exact hfin.out
    
set_option maxHeartbeats 4000000 in
set_option maxRecDepth 100000 in
theorem implMeet_any (p ca cb : Int) (u v : Value) (A B : List (List Int)) (w : World) (ht : Tab w) (hu : ReadsM w u A) (hv : ReadsM w v B) :
    Calls Tryd.prog 64 #[.int .i64 p, .agg #[.int .i64 ca, u], .agg #[.int .i64 cb, v]] w (OptMat w (twoB p ca cb A B) (meetCols p ca cb A B) (meetOut p ca cb A B)) := by
  obtain ⟨ua, uc, rfl⟩ := hu.form
  obtain ⟨va, vc, rfl⟩ := hv.form
  obtain ⟨w0, hw0⟩ : ∃ W, W = (((w.alloc (.cells #[.int .i64 ca, .slice ua A.length uc] 43)).alloc (.cells #[.int .i64 cb, .slice va B.length vc] 43)).alloc (.cells #[.int .i64 0, .slice none 0 0] 43)) := ⟨_, rfl⟩
  have hB : Below w.heap.size w w0 := by rw [hw0]; exact ((((Below.refl w.heap.size w).alloc (by simp) (.cells #[.int .i64 ca, .slice ua A.length uc] 43)).alloc (by simp) (.cells #[.int .i64 cb, .slice va B.length vc] 43)).alloc (by simp; omega) (.cells #[.int .i64 0, .slice none 0 0] 43))
  have hs0 : w0.heap.size = w.heap.size + 3 := by rw [hw0]; simp
  have X0_0 : ∀ W, Below w0.heap.size w0 W → W.cell? ⟨w.heap.size, 0, none⟩ = some (.int .i64 ca) := fun W hW => cell_old hW (by rw [hw0]; simp [go_sem])
  have X0_1 : ∀ W, Below w0.heap.size w0 W → W.cell? ⟨w.heap.size, 1, none⟩ = some (.slice ua A.length uc) := fun W hW => cell_old hW (by rw [hw0]; simp [go_sem])
  have X1_0 : ∀ W, Below w0.heap.size w0 W → W.cell? ⟨w.heap.size + 1, 0, none⟩ = some (.int .i64 cb) := fun W hW => cell_old hW (by rw [hw0]; simp [go_sem])
  have X1_1 : ∀ W, Below w0.heap.size w0 W → W.cell? ⟨w.heap.size + 1, 1, none⟩ = some (.slice va B.length vc) := fun W hW => cell_old hW (by rw [hw0]; simp [go_sem])
  have Q0 : ∀ W, Below w0.heap.size w0 W → W.cell? ⟨w.heap.size + 1 + 1, 0, none⟩ = some (.int .i64 0) := fun W hW => cell_old hW (by rw [hw0]; simp [go_sem])
  have G0 : ∀ W, Below w0.heap.size w0 W → W.frozen? ⟨w.heap.size + 1 + 1, 0, none⟩ = false := fun W hW => frozen_old hW (by show w.heap.size + 1 + 1 < _; omega) (by rw [hw0]; simp [go_sem])
  have Q1 : ∀ W, Below w0.heap.size w0 W → W.cell? ⟨w.heap.size + 1 + 1, 1, none⟩ = some (.slice none 0 0) := fun W hW => cell_old hW (by rw [hw0]; simp [go_sem])
  have G1 : ∀ W, Below w0.heap.size w0 W → W.frozen? ⟨w.heap.size + 1 + 1, 1, none⟩ = false := fun W hW => frozen_old hW (by show w.heap.size + 1 + 1 < _; omega) (by rw [hw0]; simp [go_sem])
  have HW := Lib.hid hw0
  have HB := Lib.hid hB
  have HS := Lib.hid hs0
  have HU := Lib.hid (hu.below hB)
  have HV := Lib.hid (hv.below hB)
  have htB : Hid (Tab w0) := ht.below ht.size hB
  obtain ⟨b1, hb1⟩ : ∃ b, (twoB p ca cb A B) = b := ⟨_, rfl⟩
  have Cb1 := Lib.hid (fun W (hW : Below w0.heap.size w0 W) => twoSpaces_any p ca cb _ _ A B W (htB.out.below htB.out.size hW) (HU.out.below hW) (HV.out.below hW))
  rw [hb1] at Cb1
  clear hw0 hB hs0 hu hv ht
  cases b1 with
  | false =>
    have e1 : meetOut p ca cb A B = [] := by simp [meetOut, hb1]
    have e2 : meetCols p ca cb A B = 0 := by simp [meetCols, hb1]
    rw [hb1, e1, e2]
    clear e1 e2
    clear hb1
    go_enter Tryd.func64, Tryd.ntmps64
    go_wp2_with fail
    rw [← HW.out]
    refine (Cb1.out w0 (Below.refl _ _)).mono ?_
    rintro e w1 ⟨rfl, hb1⟩
    have B1 : Below w0.heap.size w0 w1 := hb1
    clear hb1
    go_wp2
    refine bodyPost_ret (v := .tuple #[.agg #[.int .i64 0, .slice none 0 0], .bool false]) (by simp [results, Tryd.results64, go_sem, Q0 _ B1, Q1 _ B1]) rfl ?_
    exact optMat_none (HB.out.trans (B1.mono HB.out.size)) (by omega)
  | true =>
    obtain ⟨n, rfl, rfl, hn, hl, hl2, hg, hA, hBB⟩ := twoB_parts hb1
    have e1 : meetOut p n n A B = Lin.nullL p n (Lin.nullL p n A ++ Lin.nullL p n B) := by simp [meetOut, hb1]
    have e2 : meetCols p n n A B = n := by simp [meetCols, hb1]
    rw [hb1, e1, e2]
    obtain ⟨R, hR⟩ : ∃ R, Lin.nullL p n (Lin.nullL p n A ++ Lin.nullL p n B) = R := ⟨_, rfl⟩
    rw [hR]
    have HR := Lib.hid hR
    have HA := Lib.hid hA
    have HBB := Lib.hid hBB
    have HTT := Lib.hid (elems_tot hA (by omega) (by omega))
    clear e1 e2 hA hBB hb1 hR
    go_enter Tryd.func64, Tryd.ntmps64
    go_wp2_with fail
    rw [← HW.out]
    refine (Cb1.out w0 (Below.refl _ _)).mono ?_
    rintro e w1 ⟨rfl, hb1⟩
    have B1 : Below w0.heap.size w0 w1 := hb1
    clear hb1
    have hcl := Lib.hid (fun W (hW : Below w0.heap.size w0 W) => clonesRow_any (.slice ua A.length uc) A W (HU.out.below hW) HTT.out)
    have hker := Lib.hid (fun W u (h : ReadsM W u (A ++ B)) => kernel_any p hg (A.length + B.length) n (by omega) (by omega) u (A ++ B) W (Lin.elems_app HA.out HBB.out) h)
    obtain ⟨k1, k2, _⟩ := Lin.kernel_facts hg (Lin.elems_app HA.out HBB.out)
    have hcomb := Lib.hid (fun W (hW : Below w0.heap.size w0 W) xv x (hx : Reads W 1 xv A.length (ofL x)) (hxe : ∀ i, i < A.length → 0 ≤ x[i]?.getD 0 ∧ x[i]?.getD 0 < p) => combine_any p n A.length (Fld.good_bounds hg).1 (Fld.good_bounds hg).2 (by omega) xv (.slice ua A.length uc) x A W hx hxe HA.out (HU.out.below hW))
    have hmr : ∀ k, k < (Lin.kernelL p n (A ++ B)).length → (Lin.meetRows p n A B).take (k + 1) = (Lin.meetRows p n A B).take k ++ [mulRow p n A ((lAt (Lin.kernelL p n (A ++ B)) k).take A.length)] := fun k hk => by
      unfold Lin.meetRows
      rw [take_oneL _ k (by rw [List.length_map]; exact hk), Lin.map_lAt _ hk]
    have hml : (Lin.meetRows p n A B).length = (Lin.kernelL p n (A ++ B)).length := by unfold Lin.meetRows; simp
    have HR2 : Hid (reducedL p n (Lin.meetRows p n A B) = R) := (Lin.meet_eq hg HA.out HBB.out).trans HR.out
    have HML := Lib.hid hml
    have HMR := Lib.hid hmr
    have hspan := Lib.hid (fun W u (h : ReadsM W u (Lin.meetRows p n A B)) => HR2.out ▸ span_any p hg _ n (by rw [hml]; omega) (by omega) u _ W (Lin.meetRows_elems (Fld.good_bounds hg).1) h)
    have HK1 := Lib.hid k1
    obtain ⟨K, hK⟩ : ∃ K, Lin.kernelL p n (A ++ B) = K := ⟨_, rfl⟩
    rw [hK] at hker HML HMR HK1 k2
    obtain ⟨MR, hMR⟩ : ∃ K, Lin.meetRows p n A B = K := ⟨_, rfl⟩
    rw [hMR] at HML HMR hspan
    obtain ⟨rsB, hrB, hrrB⟩ := HV.out
    have RDB := Lib.hid (fun W (hW : Below w0.heap.size w0 W) => hrB.below hW)
    have RRB := Lib.hid (fun W (hW : Below w0.heap.size w0 W) => hrrB.below hW)
    have OB := Lib.hid (rows_one hrrB)
    have HM3 := Lib.hid (show A.length + B.length ≤ maxLen by unfold maxLen; omega)
    have HM4 := Lib.hid (show (A.length + B.length) * 24 ≤ 140737488355328 by omega)
    have hkl : K.length ≤ 48 := by omega
    have h2 := (Fld.good_bounds hg).1
    clear hrB hrrB hK hMR k1 k2 hml hmr
    have z0_0 := X0_0 _ B1
    go_upto_region 4 with fail
    obtain ⟨w2, hw2⟩ : ∃ W, W = w1.alloc (.cells #[] 67) := ⟨_, rfl⟩
    have B2 : Below w0.heap.size w0 w2 := by rw [hw2]; exact (B1).alloc (B1).size _
    rw [← hw2]
    have x0_0 := X0_0 _ B2
    have x0_1 := X0_1 _ B2
    have x1_1 := X1_1 _ B2
    clear hw2 z0_0
    go_region_held3 (fun W => W.cell? ⟨w.heap.size, 0, none⟩ = some (.int .i64 n) ∧ W.cell? ⟨w.heap.size, 1, none⟩ = some (.slice ua A.length uc) ∧ W.cell? ⟨w.heap.size + 1, 1, none⟩ = some (.slice va B.length vc)) (first | exact S9.out | exact S8.out | exact S7.out | go_keep) (first | (go_at_call 82; (with_reducible refine (hcl.out _ (below_drewB B2)).mono ?_); rintro e w_1 ⟨v_1, rs_1, rfl, hown_1, hrows_1, hb_1⟩; obtain ⟨a_1, c_1, rfl⟩ := ownsRow_form hown_1; have B_1 := below_step (below_drewB B2) hb_1; have rd_1 := RDB.out _ B_1; have S7 := Lib.hid (And.intro (X0_0 _ B_1) (And.intro (X0_1 _ B_1) (X1_1 _ B_1)))) | (refine step_append_reads (by rfl) _ _ 22 (by rfl) _ 67 (.slice none 0 0) 1 24 Tryd.underlying22 infoS (by rfl) (by decide) _ _ _ hown_1 _ _ _ rd_1 (by rfl) (by rfl) OB.out HM3.out HM4.out hb_1.size ?_; intro v_2 w_2 hown_2 hg_2; have hj := join_reads hown_1 hrows_1 hb_1 (RRB.out _ (below_drewB B2)) HM3.out hown_2 hg_2; obtain ⟨a_2, c_2, rfl⟩ := ownsRow_form hown_2; have B_2 := below_step (below_drewB B2) hj.2; have S8 := Lib.hid (And.intro (X0_0 _ B_2) (And.intro (X0_1 _ B_2) (X1_1 _ B_2)))) | (go_at_call 105; (with_reducible refine (hker.out _ _ hj.1).mono ?_); rintro e w9 ⟨v9, rfl, ho9, hb9⟩; obtain ⟨a9, c9, rfl⟩ := ho9.reads.form; have B9 := below_step B_2 hb9; have S9 := Lib.hid (And.intro (X0_0 _ B9) (And.intro (X0_1 _ B9) (X1_1 _ B9)))))
    obtain ⟨a9', c9', eK, hmK, hcK⟩ := open_readsM ho9.reads
    simp only [Value.slice.injEq] at eK
    obtain ⟨rfl, -, rfl⟩ := eK
    obtain ⟨kk, hkk⟩ : ∃ k, K.length = k := ⟨_, rfl⟩
    have HKK := Lib.hid hkk
    rw [hkk] at hcK hmK hkl
    rw [hkk] at HML HMR
    have HCK := Lib.hid hcK
    have HB9 := Lib.hid B9
    have HMF := Lib.hid (show kk ≤ maxLen by unfold maxLen; omega)
    rw [hkk]
    clear ho9 hb9 hcK hown_1 hrows_1 hb_1 rd_1 S7 hown_2 hg_2 hj S8 S9 hkk B_1 B_2 hcl hker x0_0 x0_1 x1_1
    go_wp2
    go_loopw [8, 29] (fun o i wr => ∃ (k : Nat) (rs : List Value) (ov oo : Value), k ≤ kk ∧ i = .int .i64 k ∧ o = ov ∧ EqE ov oo ∧ wr.ownsRow w9.heap.size 67 1 oo k rs ∧ RowsOwn (w9.heap.size ≤ ·) wr rs (MR.take k) ∧ Below w9.heap.size w9 wr) (fun _ i _ => kk + 1 - (intOf i).toNat)
    case atStart => exact ⟨0, [], _, .slice none 0 0, by omega, rfl, rfl, .inr ⟨rfl, _, rfl⟩, World.ownsRow_nil _ _ _ _, RowsOwn.nil _ _, Below.refl _ _⟩
    case round =>
      obtain ⟨k, rs, ov, oo, hk, rfl, rfl, hE, hown, hrows, hb⟩ := hrel
      have hBW := below_step HB9.out hb
      have x0_0 := X0_0 _ hBW
      have x0_1 := X0_1 _ hBW
      have y0_0 := X0_0 _ (below_drewB hBW)
      have y0_1 := X0_1 _ (below_drewB hBW)
      by_cases hlt : k < kk
      · obtain ⟨g, off, r, rfl, hg9, hcell, hrd⟩ := HCK.out k hlt
        have hx : wr.cell? ⟨g, off + k, none⟩ = some r := (hb.cell hg9).trans hcell
        have hkl2 := HK1.out.2 k (by rw [HKK.out]; exact hlt)
        rw [hkl2.1] at hrd
        obtain ⟨ar, cr, rfl⟩ := hrd.form
        have hcr1 : A.length ≤ cr := by
          obtain ⟨_, a', c', e, q1, _⟩ := hrd
          simp only [Value.slice.injEq] at e
          obtain ⟨_, _, rfl⟩ := e
          omega
        have hcr2 : cr ≤ 9223372036854775807 := by
          obtain ⟨_, a', c', e, _, q2, _⟩ := hrd
          simp only [Value.slice.injEq] at e
          obtain ⟨_, _, rfl⟩ := e
          unfold maxLen at q2; exact q2
        have hlow := Reads.low (hrd.below hb.drew) (m := A.length) (Nat.le_add_right _ _)
        have hcall := Lib.hid (hcomb.out wr.drew (below_drewB hBW) _ _ hlow (fun i hi => by
          have := hkl2.2 i (by omega)
          rw [List.getElem?_take, if_pos hi]
          exact this))
        have hmk := HMR.out k hlt
        have HMK := Lib.hid hmk
        have hml : (mulRow p n A ((lAt K k).take A.length)).length = n := rowT_length _ _
        have HMLL := Lib.hid hml
        have HO := Lib.hid hown
        have HRW := Lib.hid hrows
        have HBB := Lib.hid hb
        have hm3 := Lib.hid (show k + 1 ≤ maxLen by have := HMF.out; omega)
        have hm4 := Lib.hid (show (k + 1) * 24 ≤ 140737488355328 by omega)
        have hk0 : 0 ≤ (k : Int) := by omega
        have hki : (k : Int) < (kk : Int) := by omega
        have hal0 : 0 ≤ (A.length : Int) := by omega
        generalize mulRow p n A ((lAt K k).take A.length) = row at *
        have hsz := Lib.hid hb.size
        clear hcell hrd hkl2 hlow hmk hml hown hrows hb
        go_upto_region 7 with fail
        go_region_held3 (fun W => W.cell? ⟨w.heap.size, 0, none⟩ = some (.int .i64 n) ∧ W.cell? ⟨w.heap.size, 1, none⟩ = some (.slice ua A.length uc)) (first | exact S8.out | exact S7.out | go_keep) (first | (go_at_call 111; (with_reducible refine hcall.out.mono ?_); rintro e w_5 ⟨v_5, rfl, ho_5, hf_5, hb_5⟩; rw [HMLL.out] at ho_5; obtain ⟨a_5, c_5, rfl⟩ := ho_5.form; have hb5 : Below wr.heap.size wr w_5 := ⟨hb_5.os, hb_5.tape, hb_5.output, hb_5.size, hb_5.block⟩; have S7 := Lib.hid (And.intro (X0_0 _ (below_step hBW hb5)) (X0_1 _ (below_step hBW hb5)))) | (refine step_append_one_E (by rfl) _ _ 22 (by rfl) w9.heap.size 67 (.slice none 0 0) 24 Tryd.underlying22 infoS capS (by decide) (by rfl) _ oo hE k rs (.slice a_5 n c_5) (ownsRow_below HO.out hb5) (by rfl) (by rfl) (by rfl) hm3.out hm4.out (Nat.le_trans hsz.out hb5.size) ?_; intro v_6 w_6 hown_6 hg_6; have hpush := push_row (l := row) HO.out HRW.out HBB.out (fun g hg => Nat.le_trans hsz.out hg) hsz.out (by rw [HMLL.out]; exact ho_5) hf_5 hb5 hg_6; have S8 := Lib.hid (And.intro (X0_0 _ (below_step HB9.out hpush.2)) (X0_1 _ (below_step HB9.out hpush.2)))))
        have hp1 := hpush.1
        rw [← HMK.out] at hp1
        have H1 := Lib.hid hown_6
        have H2 := Lib.hid hp1
        have H3 := Lib.hid hpush.2
        clear hpush hp1 hown_6 hg_6 ho_5 hf_5 hb_5 hb5 S7 S8
        go_wp2
        go_roundw
        case rel => exact ⟨k + 1, _, _, _, by omega, by go_num, rfl, .inl rfl, H1.out, H2.out, H3.out⟩
        case measure => simp [intOf]; omega
      · have hkn : k = kk := by omega
        rw [hkn] at hown hrows hlt ⊢
        rw [List.take_of_length_le (by rw [HML.out]; exact Nat.le_refl _)] at hrows
        have h1 := owns_of_row hown HMF.out
        have hO : OwnsM (w9.heap.size ≤ ·) wr oo MR := ⟨rs, by rw [HML.out]; exact h1.1, h1.2, hrows⟩
        have hrdv := EqE.reads hE hO
        obtain ⟨av, cv, hov⟩ := hrdv.form
        have hcall := Lib.hid (hspan.out wr _ hrdv)
        rw [hov] at hcall ⊢
        have HBW := Lib.hid (HB.out.trans (hBW.mono HB.out.size))
        have HLT : w.heap.size + 1 + 1 < wr.heap.size := by have := hBW.size; have := HS.out; omega
        have HBX := Lib.hid hBW
        generalize MR.length = ml at *
        clear hown hrows h1 hO hrdv hov hE hb y0_0 y0_1
        go_wp2_with fail
        refine hcall.out.mono ?_
        rintro e w9' ⟨v9', rfl, ho9', hb9'⟩
        have B10 : Below w0.heap.size w0 w9' := below_step HBX.out hb9'
        obtain ⟨a10, c10, rfl⟩ := ho9'.reads.form
        have q0 := Q0 _ B10
        have q1 := Q1 _ B10
        have g0 := G0 _ B10
        have g1 := G1 _ B10
        have hfin := Lib.hid (optMat_put HBW.out hb9' ho9' (b := w.heap.size + 1 + 1) (by omega) HLT (d := (n : Int)))
        clear ho9' hb9' hcall
        go_wp2
        refine bodyPost_ret (v := .tuple #[.agg #[.int .i64 (n : Int), .slice a10 R.length c10], .bool true]) (by simp [results, Tryd.results64, go_sem, q0, q1]) rfl ?_
        exact hfin.out
    

end Ints
end Go.Proofs.YtkpheigoegehoaaDoor
