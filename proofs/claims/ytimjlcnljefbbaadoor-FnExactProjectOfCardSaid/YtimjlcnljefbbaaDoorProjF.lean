/- ProjectOf, both. (Printed by wip/gen_proj.py.) -/
import Derived.Test.YtimjlcnljefbbaaDoorPick
import Derived.Test.YtimjlcnljefbbaaDoorSpaceF
import Derived.Test.YtimjlcnljefbbaaDoorSpPlain
import Derived.Test.YtimjlcnljefbbaaDoorSpanF
import Derived.Test.YtimjlcnljefbbaaDoorLawS
import Derived.Deep.RegionHeld3
import Derived.Deep.DeepCutAuto
import Derived.IntWalk
namespace Go.Proofs.YtimjlcnljefbbaaDoor
open Go.RowKit
namespace Ints

def fitProj (p c : Int) (L : List (List Int)) (cols : List Int) : Bool := spB p c L && decide (cols.length ≤ 24) && cols.all fun a => Fld.inR a 0 (c - 1)
theorem fitProj_parts {p c : Int} {L : List (List Int)} {cols : List Int} (h : fitProj p c L cols = true) : ∃ n : Nat, c = n ∧ n ≤ 24 ∧ L.length ≤ n ∧ cols.length ≤ 24 ∧ Fld.goodB p = true ∧ ElemsT p L.length n L ∧ ∀ i, i < cols.length → 0 ≤ cols[i]?.getD 0 ∧ cols[i]?.getD 0 < n := by
  simp only [fitProj, Bool.and_eq_true, decide_eq_true_eq] at h
  obtain ⟨⟨h1, h2⟩, h3⟩ := h
  obtain ⟨n, e1, hn, hl, hg, hA, _⟩ := spB_parts h1
  refine ⟨n, e1, hn, hl, h2, hg, hA, fun i hi => ?_⟩
  have := List.all_eq_true.1 h3 (cols[i]) (List.getElem_mem hi)
  have := inR_parts this
  rw [List.getElem?_eq_getElem hi]
  simp only [Option.getD_some]
  omega
def projRows (L : List (List Int)) (cols : List Int) : List (List Int) := L.map fun l => pickL l cols
theorem projRows_elems {p : Int} {k n : Nat} {L : List (List Int)} {cols : List Int} (hL : ElemsT p k n L) (hin : ∀ i, i < cols.length → 0 ≤ cols[i]?.getD 0 ∧ cols[i]?.getD 0 < n) : ElemsT p k cols.length (projRows L cols) := by
  refine Lin.elems_map hL.1 fun i hi => ⟨pickL_length _ _, fun j hj => ?_⟩
  rw [pickL_at _ _ _ hj]
  have h1 := hin j hj
  exact (hL.2 i hi).2 _ (by omega)
def projOut (p c : Int) (L : List (List Int)) (cols : List Int) : List (List Int) := if fitProj p c L cols then reducedL p cols.length (projRows L cols) else []
def projCols (p c : Int) (L : List (List Int)) (cols : List Int) : Int := if fitProj p c L cols then cols.length else 0
theorem projOut_ctr (p c : Int) (L : List (List Int)) (cols : List Int) : (1 : Int) + (sumL (projOut p c L cols) : Int) ≤ 1000000000 := by
  unfold projOut
  split
  · rename_i h
    obtain ⟨n, rfl, hn, hl, hc, hg, hA, hin⟩ := fitProj_parts h
    obtain ⟨h1, h2⟩ := reduced_elems hg (projRows_elems hA hin)
    exact ctr_elems' h1 (by omega) (by omega)
  · exact ctr_nil

set_option maxHeartbeats 4000000 in
set_option maxRecDepth 100000 in
theorem spProject_any (p : Int) (hg : Fld.goodB p = true) (t n m : Nat) (ht : t ≤ 1000) (hm : m ≤ 1000) (v vb : Value) (L : List (List Int)) (cols : List Int) (w : World) (hL : ElemsT p t n L) (hin : ∀ i, i < cols.length → 0 ≤ cols[i]?.getD 0 ∧ cols[i]?.getD 0 < n) (h : ReadsM w v L) (hb : Reads w 1 vb m (ofL cols)) :
    Calls Tryd.prog 55 #[.int .i64 p, v, vb] w (NewRows w (reducedL p m (projRows L cols))) := by
  obtain ⟨a, cap, rfl, hmx, hc⟩ := open_readsM h
  obtain ⟨hbl, b, cb, rfl, hbm, hbc⟩ := open_reads hb
  have hl := hL.1
  have hE := projRows_elems hL hin
  have hred := Lib.hid (fun W z (h : ReadsM W z (projRows L cols)) => spReduce_any p hg t m ht hm z _ W (hbl ▸ hE) h)
  obtain ⟨R, hR⟩ : ∃ R, reducedL p m (projRows L cols) = R := ⟨_, rfl⟩
  rw [hR] at hred ⊢
  have hml : (projRows L cols).length = t := hE.1
  have hmk : ∀ k, k < t → (projRows L cols).take (k + 1) = (projRows L cols).take k ++ [pickL (lAt L k) cols] := fun k hk => by
    rw [take_oneL _ k (by rw [hml]; exact hk)]
    unfold projRows
    rw [Lin.map_lAt _ (by rw [hl]; exact hk)]
  have HML := Lib.hid hml
  have HMK := Lib.hid hmk
  have HCA := Lib.hid (fun k hk => hc k hk)
  have HBC := Lib.hid hbc
  have HA := Lib.hid (fun k (hk : k < t) => (hL.2 k hk).1)
  have HIN := Lib.hid (fun i (hi : i < m) => hin i (by omega))
  have HBL := Lib.hid hbl
  have HMF := Lib.hid (show t ≤ maxLen by unfold maxLen; omega)
  have HMG := Lib.hid (show m ≤ maxLen by unfold maxLen; omega)
  obtain ⟨MR, hMR⟩ : ∃ K, projRows L cols = K := ⟨_, rfl⟩
  rw [hMR] at HML HMK hred
  rw [hl] at hmx HCA ⊢
  clear hg hL hin h hb hc hbc hl hE hR hml hmk hMR hbl
  go_enter Tryd.func55, Tryd.ntmps55
  go_wp2
  go_loopw [7, 15] (fun o i wr => ∃ (k : Nat) (rs : List Value) (ov : Value), k ≤ t ∧ i = .int .i64 k ∧ o = ov ∧ wr.ownsRow w.heap.size 41 1 ov k rs ∧ RowsOwn (w.heap.size ≤ ·) wr rs (MR.take k) ∧ Below w.heap.size w wr) (fun _ i _ => t + 1 - (intOf i).toNat)
  case atStart => exact ⟨0, [], _, by omega, rfl, rfl, World.ownsRow_nil _ _ _ _, RowsOwn.nil _ _, Below.refl _ _⟩
  case round =>
    obtain ⟨k, rs, ov, hk, rfl, rfl, hown, hrows, hb⟩ := hrel
    by_cases hlt : k < t
    · obtain ⟨g, off, r, rfl, hg9, hcell, hrd⟩ := HCA.out k hlt
      have hx : wr.cell? ⟨g, off + k, none⟩ = some r := (hb.cell hg9).trans hcell
      rw [HA.out k hlt] at hrd
      have hrd2 := hrd.below hb
      obtain ⟨hrl, ar, cr, rfl, hrm, hrc⟩ := open_reads hrd2
      have HRC := Lib.hid hrc
      have HMM := Lib.hid (HMK.out k hlt)
      have HPL := Lib.hid (show (pickL (lAt L k) cols).length = m by rw [pickL_length, HBL.out])
      have HO := Lib.hid hown
      have HRW := Lib.hid hrows
      have HBB := Lib.hid hb
      have hsz := Lib.hid hb.size
      have hm3 := Lib.hid (show k + 1 ≤ maxLen by have := HMF.out; omega)
      have hm4 := Lib.hid (show (k + 1) * 24 ≤ 140737488355328 by omega)
      have hk0 : 0 ≤ (k : Int) := by omega
      have hki : (k : Int) < (t : Int) := by omega
      clear hcell hrd hown hrows hb hrd2 hrc hrl hg9
      obtain ⟨W0, hW0⟩ : ∃ W, W = wr := ⟨_, rfl⟩
      rw [← hW0] at HO HRW HBB hsz hx HRC ⊢
      clear hW0 wr
      go_wp2
      go_loopw [10, 21] (fun o i wr => ∃ (q : Nat) (ov : Value), q ≤ m ∧ i = .int .i64 q ∧ o = ov ∧ wr.ownsRow W0.heap.size 3 1 ov q (ofL (pickL (lAt L k) (cols.take q))) ∧ Below W0.heap.size W0 wr) (fun _ i _ => m + 1 - (intOf i).toNat)
      case atStart => exact ⟨0, _, by omega, rfl, rfl, World.ownsRow_nil _ _ _ _, Below.refl _ _⟩
      case round =>
        obtain ⟨q, ov, hq, rfl, rfl, hown, hbw⟩ := hrel
        by_cases hltq : q < m
        · have hcq := HIN.out q hltq
          have hs := pickL_succ (lAt L k) cols q (by rw [HBL.out]; exact hltq)
          obtain ⟨gb, offb, rfl, hgb, hcellb⟩ := HBC.out (by omega)
          have hy : wr.cell? ⟨gb, offb + q, none⟩ = some (.int .i64 (cols[q]?.getD 0)) := (hbw.cell (p := ⟨gb, offb + q, none⟩) (Nat.lt_of_lt_of_le hgb HBB.out.size)).trans ((HBB.out.cell (p := ⟨gb, offb + q, none⟩) hgb).trans (hcellb q hltq))
          obtain ⟨j, hj⟩ : ∃ j : Nat, cols[q]?.getD 0 = j := ⟨_, (Int.toNat_of_nonneg hcq.1).symm⟩
          rw [hj] at hcq hy hs
          rw [Int.toNat_natCast] at hs
          obtain ⟨ga, offa, rfl, hga, hcella⟩ := HRC.out (by omega)
          have hz : wr.cell? ⟨ga, offa + j, none⟩ = some (.int .i64 ((lAt L k)[j]?.getD 0)) := (hbw.cell (p := ⟨ga, offa + j, none⟩) hga).trans (hcella j (by omega))
          generalize (lAt L k)[j]?.getD 0 = x at *
          have hj0 : 0 ≤ (j : Int) := hcq.1
          have hjn : (j : Int) < (n : Int) := hcq.2
          have hq0 : 0 ≤ (q : Int) := by omega
          have hqm : (q : Int) < (m : Int) := by omega
          have HOQ := Lib.hid hown
          have HBQ := Lib.hid hbw
          have HSQ := Lib.hid hs
          have hm5 := Lib.hid (show q + 1 ≤ maxLen by have := HMG.out; omega)
          have hm6 := Lib.hid (show (q + 1) * 8 ≤ 140737488355328 by omega)
          have hszq := Lib.hid hbw.size
          clear hcq hj hcella hcellb hga hgb hown hbw hs
          go_wp2_with (at_builtin; go_must (refine wpList_append_one _ rfl _ _ 41 rfl W0.heap.size 3 (.int .i64 0) 8 Tryd.underlying41 infoI rfl _ _ _ (.int .i64 x) HOQ.out rfl rfl rfl hm5.out hm6.out hszq.out ?_); intro v' w2 hown2 hg2)
          have hbl2 := Lib.hid (Below.grownRow HBQ.out HOQ.out hg2 hszq.out)
          rw [← HSQ.out] at hown2
          have H1 := Lib.hid hown2
          clear hown2 hg2
          go_wp2
          go_roundw
          case rel => exact ⟨q + 1, _, by omega, by go_num, rfl, H1.out, hbl2.out⟩
          case measure => simp [intOf]; omega
        · obtain rfl : q = m := by omega
          have h1 := owns_of_row hown HMG.out
          rw [List.take_of_length_le (by rw [HBL.out]; exact Nat.le_refl _)] at h1
          obtain ⟨a_5, c_5, hv5⟩ := h1.1.form
          subst hv5
          have hown5 := Lib.hid (ownsRow_below HO.out hbw)
          have hsz2 := Lib.hid (show w.heap.size ≤ wr.heap.size from Nat.le_trans hsz.out hbw.size)
          have HO5 := Lib.hid h1.1
          have HF5 := Lib.hid h1.2
          have HB5 := Lib.hid hbw
          clear h1 hown hbw hx
          obtain ⟨row, hrow⟩ : ∃ r, pickL (lAt L k) cols = r := ⟨_, rfl⟩
          rw [hrow] at HO5 HF5 HPL HMM
          clear hrow
          go_wp2_with (at_builtin; go_must (refine wpList_append_one _ rfl _ _ 22 rfl w.heap.size 41 (.slice none 0 0) 24 Tryd.underlying22 infoS rfl _ _ _ (.slice a_5 q c_5) hown5.out rfl rfl rfl hm3.out hm4.out hsz2.out ?_); intro v_6 w_6 hown_6 hg_6)
          have hpush := push_row (l := row) HO.out HRW.out HBB.out (fun g hg => Nat.le_trans hsz.out hg) hsz.out (by rw [HPL.out]; exact HO5.out) HF5.out HB5.out hg_6
          rw [← HMM.out] at hpush
          have H1 := Lib.hid hown_6
          have H2 := Lib.hid hpush.1
          have H3 := Lib.hid hpush.2
          clear hpush hown_6 hg_6
          go_wp2
          go_roundw
          case rel => exact ⟨k + 1, _, _, by omega, by go_num, rfl, H1.out, H2.out, H3.out⟩
          case measure => simp [intOf]; omega
    · have hkn : k = t := by omega
      rw [hkn] at hown hrows hlt ⊢
      rw [List.take_of_length_le (by rw [HML.out]; exact Nat.le_refl _)] at hrows
      have h1 := owns_of_row hown HMF.out
      have hO : OwnsM (w.heap.size ≤ ·) wr u7 MR := ⟨rs, by rw [HML.out]; exact h1.1, h1.2, hrows⟩
      obtain ⟨av, cv, hov⟩ := hO.reads.form
      have hcall := Lib.hid (hred.out wr _ hO.reads)
      rw [hov] at hcall
      have HBW := Lib.hid hb
      subst hov
      generalize MR.length = ml at *
      clear hown hrows h1 hO hb
      go_wp2_with fail
      refine hcall.out.mono ?_
      rintro e w9 ⟨v9, rfl, ho9, hb9⟩
      obtain ⟨a9, c9, rfl⟩ := ho9.reads.form
      have hfin : Hid (NewRows w R (.returned (.slice a9 R.length c9)) w9) := ⟨_, rfl, ho9.mono fun g hg => Nat.le_trans HBW.out.size hg, HBW.out.trans (hb9.mono HBW.out.size)⟩
      clear ho9 hb9
      go_wp2
      go_ret
      exact hfin.out

set_option maxRecDepth 100000 in
set_option maxHeartbeats 4000000 in
theorem specProj_any (p c : Int) (u v : Value) (A : List (List Int)) (L2 : List Int) (w : World) (hu : ReadsM w u A) (hv : ReadsI w v L2) :
    Calls Tryd.prog 21 #[.int .i64 p, .agg #[.int .i64 c, u], v] w (OptMat w (fitProj p c A L2) (projCols p c A L2) (projOut p c A L2)) := by
  obtain ⟨ua, uc, rfl⟩ := hu.form
  obtain ⟨va, vc, rfl⟩ := hv.form
  obtain ⟨w0, hw0⟩ : ∃ W, W = ((w.alloc (.cells #[.int .i64 c, .slice ua A.length uc] 43)).alloc (.cells #[.int .i64 0, .slice none 0 0] 43)) := ⟨_, rfl⟩
  have hB : Below w.heap.size w w0 := by rw [hw0]; exact (((Below.refl w.heap.size w).alloc (by simp) (.cells #[.int .i64 c, .slice ua A.length uc] 43)).alloc (by simp) (.cells #[.int .i64 0, .slice none 0 0] 43))
  have hs0 : w0.heap.size = w.heap.size + 2 := by rw [hw0]; simp
  have X0_0 : ∀ W, Below w0.heap.size w0 W → W.cell? ⟨w.heap.size, 0, none⟩ = some (.int .i64 c) := fun W hW => cell_old hW (by rw [hw0]; simp [go_sem])
  have X0_1 : ∀ W, Below w0.heap.size w0 W → W.cell? ⟨w.heap.size, 1, none⟩ = some (.slice ua A.length uc) := fun W hW => cell_old hW (by rw [hw0]; simp [go_sem])
  have Q0 : ∀ W, Below w0.heap.size w0 W → W.cell? ⟨w.heap.size + 1, 0, none⟩ = some (.int .i64 0) := fun W hW => cell_old hW (by rw [hw0]; simp [go_sem])
  have G0 : ∀ W, Below w0.heap.size w0 W → W.frozen? ⟨w.heap.size + 1, 0, none⟩ = false := fun W hW => frozen_old hW (by show w.heap.size + 1 < _; omega) (by rw [hw0]; simp [go_sem])
  have Q1 : ∀ W, Below w0.heap.size w0 W → W.cell? ⟨w.heap.size + 1, 1, none⟩ = some (.slice none 0 0) := fun W hW => cell_old hW (by rw [hw0]; simp [go_sem])
  have G1 : ∀ W, Below w0.heap.size w0 W → W.frozen? ⟨w.heap.size + 1, 1, none⟩ = false := fun W hW => frozen_old hW (by show w.heap.size + 1 < _; omega) (by rw [hw0]; simp [go_sem])
  have HW := Lib.hid hw0
  have HB := Lib.hid hB
  have HS := Lib.hid hs0
  have HU := Lib.hid (hu.below hB)
  have HV := Lib.hid (hv.below hB)
  obtain ⟨b1, hb1⟩ : ∃ b, (spB p c A) = b := ⟨_, rfl⟩
  have Cb1 := Lib.hid (fun W (hW : Below w0.heap.size w0 W) => spGood_any p c _ A W (HU.out.below hW))
  rw [hb1] at Cb1
  obtain ⟨b2, hb2⟩ : ∃ b, (decide (L2.length ≤ 24)) = b := ⟨_, rfl⟩
  have Eb2 : (decide ((24 : Int) < (L2.length : Int))) = !b2 := by rw [← hb2]; rw [Bool.eq_iff_iff]; simp; omega
  obtain ⟨b3, hb3⟩ : ∃ b, (L2.all fun a => Fld.inR a 0 (c - 1)) = b := ⟨_, rfl⟩
  have Cb3 := Lib.hid (fun W (hW : Below w0.heap.size w0 W) => l1All_any (.slice va L2.length vc) L2.length L2 0 (c - 1) W (HV.out.below hW))
  rw [hb3] at Cb3
  clear hw0 hB hs0 hu hv
  cases b1 with
  | false =>
    have e0 : fitProj p c A L2 = false := by simp [fitProj, hb1]
    have e1 : projOut p c A L2 = [] := by simp [projOut, e0]
    have e2 : projCols p c A L2 = 0 := by simp [projCols, e0]
    rw [e0, e1, e2]
    clear e0 e1 e2
    clear hb1 hb2 hb3
    go_enter Tryd.func21, Tryd.ntmps21
    go_wp2_with fail
    rw [← HW.out]
    refine (Cb1.out w0 (Below.refl _ _)).mono ?_
    rintro e w1 ⟨rfl, hb1⟩
    have B1 : Below w0.heap.size w0 w1 := hb1
    clear hb1
    go_wp2
    refine bodyPost_ret (v := .tuple #[.agg #[.int .i64 0, .slice none 0 0], .bool false]) (by simp [results, Tryd.results21, go_sem, Q0 _ B1, Q1 _ B1]) rfl ?_
    exact optMat_none (HB.out.trans (B1.mono HB.out.size)) (by omega)
  | true =>
    have hcb : 0 ≤ c ∧ c ≤ 24 := by obtain ⟨n, rfl, hn, _⟩ := spB_parts hb1; omega
    have hw1 : IntKind.i64.wrap (c - 1) = c - 1 := IntWalk.i64_in _ (by omega)
    cases b2 with
    | false =>
      have e0 : fitProj p c A L2 = false := by simp [fitProj, hb1, hb2]
      have e1 : projOut p c A L2 = [] := by simp [projOut, e0]
      have e2 : projCols p c A L2 = 0 := by simp [projCols, e0]
      rw [e0, e1, e2]
      clear e0 e1 e2
      clear hb1 hb2 hb3
      go_enter Tryd.func21, Tryd.ntmps21
      go_wp2_with fail
      rw [← HW.out]
      refine (Cb1.out w0 (Below.refl _ _)).mono ?_
      rintro e w1 ⟨rfl, hb1⟩
      have B1 : Below w0.heap.size w0 w1 := hb1
      clear hb1
      go_wp2
      refine bodyPost_ret (v := .tuple #[.agg #[.int .i64 0, .slice none 0 0], .bool false]) (by simp [results, Tryd.results21, go_sem, Q0 _ B1, Q1 _ B1]) rfl ?_
      exact optMat_none (HB.out.trans (B1.mono HB.out.size)) (by omega)
    | true =>
      cases b3 with
      | false =>
        have e0 : fitProj p c A L2 = false := by simp [fitProj, hb1, hb2, hb3]
        have e1 : projOut p c A L2 = [] := by simp [projOut, e0]
        have e2 : projCols p c A L2 = 0 := by simp [projCols, e0]
        rw [e0, e1, e2]
        clear e0 e1 e2
        clear hb1 hb2 hb3
        go_enter Tryd.func21, Tryd.ntmps21
        go_wp2_with fail
        rw [← HW.out]
        refine (Cb1.out w0 (Below.refl _ _)).mono ?_
        rintro e w1 ⟨rfl, hb1⟩
        have B1 : Below w0.heap.size w0 w1 := hb1
        clear hb1
        go_wp2_with fail
        refine (Cb3.out w1 B1).mono ?_
        rintro e w2 ⟨rfl, rfl⟩
        go_wp2
        refine bodyPost_ret (v := .tuple #[.agg #[.int .i64 0, .slice none 0 0], .bool false]) (by simp [results, Tryd.results21, go_sem, Q0 _ B1, Q1 _ B1]) rfl ?_
        exact optMat_none (HB.out.trans (B1.mono HB.out.size)) (by omega)
      | true =>
        have e0 : fitProj p c A L2 = true := by simp [fitProj, hb1, hb2, hb3]
        obtain ⟨n, rfl, hn, hl, hcl, hg, hA, hin⟩ := fitProj_parts e0
        have e1 : projOut p n A L2 = reducedL p L2.length (projRows A L2) := by simp [projOut, e0]
        have e2 : projCols p n A L2 = L2.length := by simp [projCols, e0]
        rw [e0, e1, e2]
        have HA := Lib.hid hA
        have HIN := Lib.hid hin
        clear e0 e1 e2 hb1 hb2 hb3 hA hin
        obtain ⟨R, hR⟩ : ∃ R, reducedL p L2.length (projRows A L2) = R := ⟨_, rfl⟩
        rw [hR]
        have HR := Lib.hid hR
        clear hR
        go_enter Tryd.func21, Tryd.ntmps21
        go_wp2_with fail
        rw [← HW.out]
        refine (Cb1.out w0 (Below.refl _ _)).mono ?_
        rintro e w1 ⟨rfl, hb1⟩
        have B1 : Below w0.heap.size w0 w1 := hb1
        clear hb1
        go_wp2_with fail
        refine (Cb3.out w1 B1).mono ?_
        rintro e w2 ⟨rfl, rfl⟩
        have hproj := Lib.hid (fun W (hW : Below w0.heap.size w0 W) => HR.out ▸ spProject_any p hg A.length n L2.length (by omega) (by omega) _ _ A L2 W HA.out HIN.out (HU.out.below hW) (HV.out.below hW))
        go_wp2_with fail
        refine (hproj.out w1 B1).mono ?_
        rintro e w9 ⟨v9, rfl, ho9, hb9⟩
        obtain ⟨a9, c9, rfl⟩ := ho9.reads.form
        have B9 := below_step B1 hb9
        have q0 := Q0 _ B9
        have q1 := Q1 _ B9
        have g0 := G0 _ B9
        have g1 := G1 _ B9
        have hfin := Lib.hid (optMat_put (HB.out.trans (B1.mono HB.out.size)) hb9 ho9 (b := w.heap.size + 1) (by omega) (by have h1 := B1.size; have h2 := HS.out; omega) (d := (L2.length : Int)))
        clear ho9 hb9
        go_wp2
        refine bodyPost_ret (v := .tuple #[.agg #[.int .i64 (L2.length : Int), .slice a9 R.length c9], .bool true]) (by simp [results, Tryd.results21, go_sem, q0, q1]) rfl ?_
        exact hfin.out

set_option maxRecDepth 100000 in
set_option maxHeartbeats 4000000 in
theorem implProj_any (p c : Int) (u v : Value) (A : List (List Int)) (L2 : List Int) (w : World) (ht : Tab w) (hu : ReadsM w u A) (hv : ReadsI w v L2) :
    Calls Tryd.prog 24 #[.int .i64 p, .agg #[.int .i64 c, u], v] w (OptMat w (fitProj p c A L2) (projCols p c A L2) (projOut p c A L2)) := by
  obtain ⟨ua, uc, rfl⟩ := hu.form
  obtain ⟨va, vc, rfl⟩ := hv.form
  obtain ⟨w0, hw0⟩ : ∃ W, W = ((w.alloc (.cells #[.int .i64 c, .slice ua A.length uc] 43)).alloc (.cells #[.int .i64 0, .slice none 0 0] 43)) := ⟨_, rfl⟩
  have hB : Below w.heap.size w w0 := by rw [hw0]; exact (((Below.refl w.heap.size w).alloc (by simp) (.cells #[.int .i64 c, .slice ua A.length uc] 43)).alloc (by simp) (.cells #[.int .i64 0, .slice none 0 0] 43))
  have hs0 : w0.heap.size = w.heap.size + 2 := by rw [hw0]; simp
  have X0_0 : ∀ W, Below w0.heap.size w0 W → W.cell? ⟨w.heap.size, 0, none⟩ = some (.int .i64 c) := fun W hW => cell_old hW (by rw [hw0]; simp [go_sem])
  have X0_1 : ∀ W, Below w0.heap.size w0 W → W.cell? ⟨w.heap.size, 1, none⟩ = some (.slice ua A.length uc) := fun W hW => cell_old hW (by rw [hw0]; simp [go_sem])
  have Q0 : ∀ W, Below w0.heap.size w0 W → W.cell? ⟨w.heap.size + 1, 0, none⟩ = some (.int .i64 0) := fun W hW => cell_old hW (by rw [hw0]; simp [go_sem])
  have G0 : ∀ W, Below w0.heap.size w0 W → W.frozen? ⟨w.heap.size + 1, 0, none⟩ = false := fun W hW => frozen_old hW (by show w.heap.size + 1 < _; omega) (by rw [hw0]; simp [go_sem])
  have Q1 : ∀ W, Below w0.heap.size w0 W → W.cell? ⟨w.heap.size + 1, 1, none⟩ = some (.slice none 0 0) := fun W hW => cell_old hW (by rw [hw0]; simp [go_sem])
  have G1 : ∀ W, Below w0.heap.size w0 W → W.frozen? ⟨w.heap.size + 1, 1, none⟩ = false := fun W hW => frozen_old hW (by show w.heap.size + 1 < _; omega) (by rw [hw0]; simp [go_sem])
  have HW := Lib.hid hw0
  have HB := Lib.hid hB
  have HS := Lib.hid hs0
  have HU := Lib.hid (hu.below hB)
  have HV := Lib.hid (hv.below hB)
  have htB : Hid (Tab w0) := ht.below ht.size hB
  obtain ⟨b1, hb1⟩ : ∃ b, (spB p c A) = b := ⟨_, rfl⟩
  have Cb1 := Lib.hid (fun W (hW : Below w0.heap.size w0 W) => isSpace_any p c _ A W (htB.out.below htB.out.size hW) (HU.out.below hW))
  rw [hb1] at Cb1
  obtain ⟨b2, hb2⟩ : ∃ b, (decide (L2.length ≤ 24)) = b := ⟨_, rfl⟩
  have Eb2 : (decide ((24 : Int) < (L2.length : Int))) = !b2 := by rw [← hb2]; rw [Bool.eq_iff_iff]; simp; omega
  clear hw0 hB hs0 hu hv ht
  cases b1 with
  | false =>
    have e0 : fitProj p c A L2 = false := by simp [fitProj, hb1]
    have e1 : projOut p c A L2 = [] := by simp [projOut, e0]
    have e2 : projCols p c A L2 = 0 := by simp [projCols, e0]
    rw [e0, e1, e2]
    clear e0 e1 e2
    clear hb1 hb2
    go_enter Tryd.func24, Tryd.ntmps24
    go_wp2_with fail
    rw [← HW.out]
    refine (Cb1.out w0 (Below.refl _ _)).mono ?_
    rintro e w1 ⟨rfl, hb1⟩
    have B1 : Below w0.heap.size w0 w1 := hb1
    clear hb1
    go_wp2
    refine bodyPost_ret (v := .tuple #[.agg #[.int .i64 0, .slice none 0 0], .bool false]) (by simp [results, Tryd.results24, go_sem, Q0 _ B1, Q1 _ B1]) rfl ?_
    exact optMat_none (HB.out.trans (B1.mono HB.out.size)) (by omega)
  | true =>
    have hcb : 0 ≤ c ∧ c ≤ 24 := by obtain ⟨n, rfl, hn, _⟩ := spB_parts hb1; omega
    have hw1 : IntKind.i64.wrap (c - 1) = c - 1 := IntWalk.i64_in _ (by omega)
    cases b2 with
    | false =>
      have e0 : fitProj p c A L2 = false := by simp [fitProj, hb1, hb2]
      have e1 : projOut p c A L2 = [] := by simp [projOut, e0]
      have e2 : projCols p c A L2 = 0 := by simp [projCols, e0]
      rw [e0, e1, e2]
      clear e0 e1 e2
      clear hb1 hb2
      go_enter Tryd.func24, Tryd.ntmps24
      go_wp2_with fail
      rw [← HW.out]
      refine (Cb1.out w0 (Below.refl _ _)).mono ?_
      rintro e w1 ⟨rfl, hb1⟩
      have B1 : Below w0.heap.size w0 w1 := hb1
      clear hb1
      go_wp2
      refine bodyPost_ret (v := .tuple #[.agg #[.int .i64 0, .slice none 0 0], .bool false]) (by simp [results, Tryd.results24, go_sem, Q0 _ B1, Q1 _ B1]) rfl ?_
      exact optMat_none (HB.out.trans (B1.mono HB.out.size)) (by omega)
    | true =>
      obtain ⟨b3, hb3⟩ : ∃ b, (L2.all fun a => Fld.inR a 0 (c - 1)) = b := ⟨_, rfl⟩
      have hfit : fitProj p c A L2 = b3 := by simp [fitProj, hb1, hb2, hb3]
      have HFIT := Lib.hid hfit
      have HB3 := Lib.hid hb3
      have hl24 : L2.length ≤ 24 := by simpa using hb2
      clear hb1 hb2 hb3 hfit
      go_enter Tryd.func24, Tryd.ntmps24
      go_wp2_with fail
      rw [← HW.out]
      refine (Cb1.out w0 (Below.refl _ _)).mono ?_
      rintro e w1 ⟨rfl, hb1⟩
      have B1 : Below w0.heap.size w0 w1 := hb1
      clear hb1
      obtain ⟨_, vb0, vc0, ve, hvm, hvc⟩ := open_reads (HV.out.below B1)
      simp only [Value.slice.injEq] at ve
      obtain ⟨rfl, -, rfl⟩ := ve
      have HVC := Lib.hid hvc
      have x0_0 := X0_0 _ B1
      have HX00 := Lib.hid X0_0
      clear hvc
      go_wp2
      go_loopw [22] (fun i wr => ∃ k : Nat, k ≤ L2.length ∧ i = .int .i64 k ∧ wr = w1 ∧ Hid (((L2.take k).all fun a => Fld.inR a 0 (c - 1)) = true)) (fun i _ => L2.length + 1 - (intOf i).toNat)
      case atStart => exact ⟨0, by omega, rfl, rfl, Lib.hid (by simp)⟩
      case round =>
        obtain ⟨k, hk, rfl, rfl, hall⟩ := hrel
        by_cases hlt : k < L2.length
        · obtain ⟨g, off, rfl, hg9, hcell⟩ := HVC.out (by omega)
          have hx : wr.cell? ⟨g, off + k, none⟩ = some (.int .i64 (L2[k]?.getD 0)) := hcell k hlt
          have hstep : ((L2.take (k + 1)).all fun a => Fld.inR a 0 (c - 1)) = (((L2.take k).all fun a => Fld.inR a 0 (c - 1)) && Fld.inR (L2[k]?.getD 0) 0 (c - 1)) := by rw [take_one L2 k hlt]; simp
          have hmem : L2[k]?.getD 0 ∈ L2 := by rw [List.getElem?_eq_getElem hlt]; exact List.getElem_mem hlt
          have hk0 : 0 ≤ (k : Int) := by omega
          have hki : (k : Int) < (L2.length : Int) := by omega
          rw [hall.out, Bool.true_and] at hstep
          have hwi := Lib.hid (fun W => within_any (L2[k]?.getD 0) 0 (c - 1) W)
          cases hin : Fld.inR (L2[k]?.getD 0) 0 (c - 1) with
          | false =>
            have hb3 : b3 = false := by rw [← HB3.out, List.all_eq_false]; exact ⟨_, hmem, by rw [hin]; simp⟩
            have e0 : fitProj p c A L2 = false := by rw [HFIT.out, hb3]
            have e1 : projOut p c A L2 = [] := by simp [projOut, e0]
            have e2 : projCols p c A L2 = 0 := by simp [projCols, e0]
            rw [hin] at hwi
            have E0 := Lib.hid (And.intro e0 (And.intro e1 e2))
            have q0 := Q0 _ B1
            have q1 := Q1 _ B1
            have g0 := G0 _ B1
            have g1 := G1 _ B1
            clear hstep hmem hcell hin hb3 e0 e1 e2
            generalize L2[k]?.getD 0 = x at *
            go_wp2_with fail
            refine (hwi.out _).mono ?_
            rintro e w2 ⟨rfl, rfl⟩
            go_wp2
            refine bodyPost_ret (v := .tuple #[.agg #[.int .i64 0, .slice none 0 0], .bool false]) (by simp [results, Tryd.results24, go_sem, q0, q1]) rfl ?_
            rw [E0.out.1, E0.out.2.1, E0.out.2.2]
            exact optMat_none (HB.out.trans (B1.mono HB.out.size)) (by omega)
          | true =>
            rw [hin] at hwi hstep
            have HST := Lib.hid hstep
            clear hstep hmem hcell hin
            generalize L2[k]?.getD 0 = x at *
            go_wp2_with fail
            refine (hwi.out _).mono ?_
            rintro e w2 ⟨rfl, rfl⟩
            go_wp2
            go_roundw
            case rel => exact ⟨k + 1, by omega, by go_num, by first | rfl | trivial, HST⟩
            case measure => simp [intOf]; omega
        · have hkn : k = L2.length := by omega
          have hb3 : b3 = true := by
            have := hall.out
            rw [hkn, List.take_length] at this
            rw [← HB3.out, this]
          have e0 : fitProj p c A L2 = true := by rw [HFIT.out, hb3]
          obtain ⟨n, rfl, hn, hl, hcl, hg, hA, hin⟩ := fitProj_parts e0
          have e1 : projOut p n A L2 = reducedL p L2.length (projRows A L2) := by simp [projOut, e0]
          have e2 : projCols p n A L2 = L2.length := by simp [projCols, e0]
          have hch := Lib.hid (fun W (hW : Below w0.heap.size w0 W) => chosenAll_any (.slice ua A.length uc) (.slice va L2.length vc) n L2.length A L2 W (HU.out.below hW) (HV.out.below hW) (by omega) (by omega) (fun i hi => (hA.2 i hi).1) hin)
          have hspan := Lib.hid (fun W z (h : ReadsM W z (projRows A L2)) => span_any p hg A.length L2.length (by omega) (by omega) z _ W (projRows_elems hA hin) h)
          obtain ⟨R, hR⟩ : ∃ R, reducedL p L2.length (projRows A L2) = R := ⟨_, rfl⟩
          rw [hR] at hspan e1
          have E0 := Lib.hid (And.intro e0 (And.intro e1 e2))
          have HRL := Lib.hid (show (projRows A L2).length = A.length by simp [projRows])
          have x0_1 := X0_1 _ B1
          clear e0 e1 e2 hA hin hg hR hb3
          go_wp2_with fail
          refine (hch.out _ B1).mono ?_
          rintro e w_8 ⟨v_8, rfl, ho_8, hb_8⟩
          have ho_8' : OwnsM _ w_8 v_8 (projRows A L2) := ho_8
          obtain ⟨a_8, c_8, rfl⟩ := ho_8'.reads.form
          rw [HRL.out] at ho_8'
          have B8 := below_step B1 hb_8
          have HO8 := Lib.hid ho_8'.reads
          clear ho_8 ho_8' hb_8
          rw [HRL.out]
          go_wp2_with fail
          refine (hspan.out _ _ HO8.out).mono ?_
          rintro e w9 ⟨v9, rfl, ho9, hb9⟩
          obtain ⟨a9, c9, rfl⟩ := ho9.reads.form
          have B9 := below_step B8 hb9
          have q0 := Q0 _ B9
          have q1 := Q1 _ B9
          have g0 := G0 _ B9
          have g1 := G1 _ B9
          have hfin := Lib.hid (optMat_put (HB.out.trans (B8.mono HB.out.size)) hb9 ho9 (b := w.heap.size + 1) (by omega) (by have h1 := B8.size; have h2 := HS.out; omega) (d := (L2.length : Int)))
          clear ho9 hb9
          go_wp2
          refine bodyPost_ret (v := .tuple #[.agg #[.int .i64 (L2.length : Int), .slice a9 R.length c9], .bool true]) (by simp [results, Tryd.results24, go_sem, q0, q1]) rfl ?_
          rw [E0.out.1, E0.out.2.1, E0.out.2.2]
          exact hfin.out

end Ints
end Go.Proofs.YtimjlcnljefbbaaDoor
