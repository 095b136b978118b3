/- Elements of lists at indices: the program's lists of them, one list after the other. -/
import Derived.Test.YtimjlcnljefbbaaDoorClones
namespace Go.Proofs.YtimjlcnljefbbaaDoor
open Go.RowKit
namespace Ints

def pickL (l cols : List Int) : List Int := cols.map fun c => l[c.toNat]?.getD 0
theorem pickL_length (l cols : List Int) : (pickL l cols).length = cols.length := by simp [pickL]
theorem pickL_succ (l cols : List Int) (k : Nat) (h : k < cols.length) : ofL (pickL l (cols.take (k + 1))) = ofL (pickL l (cols.take k)) ++ [.int .i64 (l[(cols[k]?.getD 0).toNat]?.getD 0)] := by
  rw [take_one cols k h]; simp [pickL, ofL]
theorem pickL_at (l cols : List Int) (k : Nat) (h : k < cols.length) : (pickL l cols)[k]?.getD 0 = l[(cols[k]?.getD 0).toNat]?.getD 0 := by simp [pickL, h]

set_option maxHeartbeats 1000000 in
theorem chosen_any (va vb : Value) (n m : Nat) (l cols : List Int) (w : World) (ha : Reads w 1 va n (ofL l)) (hb : Reads w 1 vb m (ofL cols)) (hm : m ≤ 1048576) (hin : ∀ i, i < m → 0 ≤ cols[i]?.getD 0 ∧ cols[i]?.getD 0 < n) :
    Calls Tryd.prog 93 #[va, vb] w (NewInts w (pickL l cols)) := by
  obtain ⟨hal, a, ca, rfl, ham, hac⟩ := open_reads ha
  obtain ⟨hbl, b, cb, rfl, hbm, hbc⟩ := open_reads hb
  have HAC := Lib.hid hac
  have HBC := Lib.hid hbc
  have HIN := Lib.hid hin
  have HBL := Lib.hid hbl
  clear ha hb hac hbc hin hal hbl
  have hm1 := Lib.hid (show 8 * m ≤ 281474976710656 by omega)
  have hm2 := Lib.hid (show m ≤ maxLen by unfold maxLen; omega)
  go_enter Tryd.func93, Tryd.ntmps93
  go_wp2_with (at_make; refine wpList_make_room _ rfl _ _ 41 rfl 3 (.int .i64 0) 8 Tryd.underlying41 infoI m rfl rfl hm1.out hm2.out ?_; intro w1 hown1 hb1)
  have HO1 := Lib.hid hown1
  have HB1 := Lib.hid hb1
  clear hown1 hb1
  go_wp2
  go_loopw [5, 13] (fun o i wr => ∃ (k : Nat) (ov : Value), k ≤ m ∧ i = .int .i64 k ∧ o = ov ∧ wr.ownsRow w.heap.size 3 1 ov k (ofL (pickL l (cols.take k))) ∧ Below w.heap.size w wr) (fun _ i _ => m + 1 - (intOf i).toNat)
  case atStart => exact ⟨0, _, by omega, rfl, rfl, HO1.out, HB1.out⟩
  case round =>
    obtain ⟨k, ov, hk, rfl, rfl, hown, hbw⟩ := hrel
    by_cases hlt : k < m
    · have hc := HIN.out k hlt
      have hs := pickL_succ l cols k (by rw [HBL.out]; exact hlt)
      obtain ⟨gb, offb, rfl, hgb, hcellb⟩ := HBC.out (by omega)
      have hy : wr.cell? ⟨gb, offb + k, none⟩ = some (.int .i64 (cols[k]?.getD 0)) := (hbw.cell (p := ⟨gb, offb + k, none⟩) hgb).trans (hcellb k hlt)
      obtain ⟨j, hj⟩ : ∃ j : Nat, cols[k]?.getD 0 = j := ⟨_, (Int.toNat_of_nonneg hc.1).symm⟩
      rw [hj] at hc hy hs
      rw [Int.toNat_natCast] at hs
      obtain ⟨ga, offa, rfl, hga, hcella⟩ := HAC.out (by omega)
      have hx : wr.cell? ⟨ga, offa + j, none⟩ = some (.int .i64 (l[j]?.getD 0)) := (hbw.cell (p := ⟨ga, offa + j, none⟩) hga).trans (hcella j (by omega))
      generalize l[j]?.getD 0 = x at *
      have hj0 : 0 ≤ (j : Int) := hc.1
      have hjn : (j : Int) < (n : Int) := hc.2
      have hk0 : 0 ≤ (k : Int) := by omega
      have hkm : (k : Int) < (m : Int) := by omega
      have HO := Lib.hid hown
      have HB := Lib.hid hbw
      have HS := Lib.hid hs
      have hm3 := Lib.hid (show k + 1 ≤ maxLen by have := hm2.out; omega)
      have hm4 := Lib.hid (show (k + 1) * 8 ≤ 140737488355328 by omega)
      have hsz := Lib.hid hbw.size
      clear hc hj hcella hcellb hga hgb hown hbw hs
      go_wp2_with (at_builtin; go_must (refine wpList_append_one _ rfl _ _ 41 rfl w.heap.size 3 (.int .i64 0) 8 Tryd.underlying41 infoI rfl _ _ _ (.int .i64 x) HO.out rfl rfl rfl hm3.out hm4.out hsz.out ?_); intro v' w2 hown2 hg2)
      have hbl2 := Lib.hid (Below.grownRow HB.out HO.out hg2 hsz.out)
      rw [← HS.out] at hown2
      have H1 := Lib.hid hown2
      clear hown2 hg2
      go_wp2
      go_roundw
      case rel => exact ⟨k + 1, _, by omega, by go_num, rfl, H1.out, hbl2.out⟩
      case measure => simp [intOf]; omega
    · obtain rfl : k = m := by omega
      have h1 := owns_of_row hown hm2.out
      rw [List.take_of_length_le (by rw [HBL.out]; exact Nat.le_refl _)] at h1
      have hfin : Hid (NewInts w (pickL l cols) (.returned u5) wr) := ⟨_, rfl, by rw [pickL_length, HBL.out]; exact h1.1, h1.2, hbw⟩
      clear hown hbw h1
      go_wp2
      go_ret
      exact hfin.out

set_option maxHeartbeats 2000000 in
theorem chosenAll_any (v vb : Value) (n m : Nat) (L : List (List Int)) (cols : List Int) (w : World) (h : ReadsM w v L) (hb : Reads w 1 vb m (ofL cols)) (hL : L.length ≤ 1048576) (hm : m ≤ 1048576) (hrow : ∀ i, i < L.length → (lAt L i).length = n) (hin : ∀ i, i < m → 0 ≤ cols[i]?.getD 0 ∧ cols[i]?.getD 0 < n) :
    Calls Tryd.prog 59 #[v, vb] w (NewRows w (L.map fun l => pickL l cols)) := by
  obtain ⟨a, cap, rfl, hmx, hc⟩ := open_readsM h
  obtain ⟨ab, cb, rfl⟩ := hb.form
  obtain ⟨t, ht⟩ : ∃ t, L.length = t := ⟨_, rfl⟩
  have hcall := Lib.hid (fun W (hW : Below w.heap.size w W) r l (hr : Reads W 1 r n (ofL l)) => chosen_any r (.slice ab m cb) n m l cols W hr (hb.below hW) hm hin)
  have HROW := Lib.hid hrow
  have HT := Lib.hid ht
  have HC := Lib.hid hc
  have hml : (L.map fun l => pickL l cols).length = t := by simp [ht]
  have hmk : ∀ k, k < t → (L.map fun l => pickL l cols).take (k + 1) = (L.map fun l => pickL l cols).take k ++ [pickL (lAt L k) cols] := fun k hk => by
    rw [take_oneL _ k (by rw [hml]; exact hk)]
    simp [lAt, show k < L.length by omega]
  have hcl : cols.length = m := by
    have := hb.1
    rw [ofL_length, Nat.mul_one] at this
    exact this
  have HCL := Lib.hid hcl
  have HML := Lib.hid hml
  have HMK := Lib.hid hmk
  have HMF := Lib.hid (show t ≤ maxLen by unfold maxLen; omega)
  rw [ht] at hmx hL ⊢
  obtain ⟨MR, hMR⟩ : ∃ K, (L.map fun l => pickL l cols) = K := ⟨_, rfl⟩
  rw [hMR] at HML HMK ⊢
  clear h hb hc ht hrow hin hml hmk hMR hcl
  have hB0 := Lib.hid ((Below.refl w.heap.size w).alloc (Nat.le_refl _) (.cells #[] 41))
  have hO0 := Lib.hid (World.ownsRow_lit (base := w.heap.size) (size := 1) (e := 41) w #[] 0 (Nat.le_refl _) (Nat.zero_le _) (by simp))
  go_enter Tryd.func59, Tryd.ntmps59
  go_wp2
  go_loopw [5, 11] (fun o i wr => ∃ (k : Nat) (rs : List Value) (ov : Value), k ≤ t ∧ i = .int .i64 k ∧ o = ov ∧ wr.ownsRow w.heap.size 41 1 ov k rs ∧ RowsOwn (w.heap.size ≤ ·) wr rs (MR.take k) ∧ Below w.heap.size w wr) (fun _ i _ => t + 1 - (intOf i).toNat)
  case atStart => exact ⟨0, [], _, by omega, rfl, rfl, hO0.out, RowsOwn.nil _ _, hB0.out⟩
  case round =>
    obtain ⟨k, rs, ov, hk, rfl, rfl, hown, hrows, hb⟩ := hrel
    by_cases hlt : k < t
    · obtain ⟨g, off, r, rfl, hg9, hcell, hrd⟩ := HC.out k (by rw [HT.out]; exact hlt)
      have hx : wr.cell? ⟨g, off + k, none⟩ = some r := (hb.cell hg9).trans hcell
      rw [HROW.out k (by rw [HT.out]; exact hlt)] at hrd
      have hcl := Lib.hid (hcall.out wr hb r (lAt L k) (hrd.below hb))
      have HMM := Lib.hid (HMK.out k hlt)
      have HPL := Lib.hid (show (pickL (lAt L k) cols).length = m by rw [pickL_length, HCL.out])
      obtain ⟨ar, cr, rfl⟩ := hrd.form
      have HO := Lib.hid hown
      have HRW := Lib.hid hrows
      have HBB := Lib.hid hb
      have hsz := Lib.hid hb.size
      have hm3 := Lib.hid (show k + 1 ≤ maxLen by have := HMF.out; omega)
      have hm4 := Lib.hid (show (k + 1) * 24 ≤ 140737488355328 by omega)
      have hk0 : 0 ≤ (k : Int) := by omega
      have hki : (k : Int) < (t : Int) := by omega
      generalize pickL (lAt L k) cols = row at *
      clear hcell hrd hown hrows hb
      obtain ⟨W0, hW0⟩ : ∃ W, W = wr := ⟨_, rfl⟩
      rw [← hW0] at HO HRW HBB hsz hcl hx ⊢
      clear hW0 wr
      go_wp2_with fail
      refine hcl.out.mono ?_
      rintro e w_5 ⟨v_5, rfl, ho_5, hf_5, hb_5⟩
      rw [HPL.out] at ho_5
      obtain ⟨a_5, c_5, rfl⟩ := ho_5.form
      have hown5 := Lib.hid (ownsRow_below HO.out hb_5)
      have hsz2 := Lib.hid (show w.heap.size ≤ w_5.heap.size from Nat.le_trans hsz.out hb_5.size)
      have HO5 := Lib.hid ho_5
      have HF5 := Lib.hid hf_5
      have HB5 := Lib.hid hb_5
      clear ho_5 hf_5 hb_5 hx
      go_wp2_with (at_builtin; go_must (refine wpList_append_one _ rfl _ _ 22 rfl w.heap.size 41 (.slice none 0 0) 24 Tryd.underlying22 infoS rfl _ _ _ (.slice a_5 m c_5) hown5.out rfl rfl rfl hm3.out hm4.out hsz2.out ?_); intro v_6 w_6 hown_6 hg_6)
      have hpush := push_row (l := row) HO.out HRW.out HBB.out (fun g hg => Nat.le_trans hsz.out hg) hsz.out (by rw [HPL.out]; exact HO5.out) HF5.out HB5.out hg_6
      rw [← HMM.out] at hpush
      have H1 := Lib.hid hown_6
      have H2 := Lib.hid hpush.1
      have H3 := Lib.hid hpush.2
      clear hpush hown_6 hg_6
      go_wp2
      go_roundw
      case rel => exact ⟨k + 1, _, _, by omega, by go_num, rfl, H1.out, H2.out, H3.out⟩
      case measure => simp [intOf]; omega
    · obtain rfl : k = t := by omega
      have h1 := owns_of_row hown HMF.out
      rw [List.take_of_length_le (by rw [HML.out]; exact Nat.le_refl _)] at hrows
      have hfin : Hid (NewRows w MR (.returned u5) wr) := ⟨_, rfl, ⟨rs, by rw [HML.out]; exact h1.1, h1.2, hrows⟩, hb⟩
      clear hown hrows hb h1
      go_wp2
      go_ret
      exact hfin.out

end Ints
end Go.Proofs.YtimjlcnljefbbaaDoor
