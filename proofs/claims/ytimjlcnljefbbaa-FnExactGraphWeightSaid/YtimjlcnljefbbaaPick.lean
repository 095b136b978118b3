/- Elements of lists at indices: the program's lists of them, one list after the other. -/
import Derived.Test.YtimjlcnljefbbaaClones
namespace Go.Proofs.Ytimjlcnljefbbaa
open Go.RowKit
namespace Ints

def pickL (l cols : List Int) : List Int := cols.map fun c => l[c.toNat]?.getD 0
theorem pickL_length (l cols : List Int) : (pickL l cols).length = cols.length := by simp [pickL]
theorem pickL_succ (l cols : List Int) (k : Nat) (h : k < cols.length) : ofL (pickL l (cols.take (k + 1))) = ofL (pickL l (cols.take k)) ++ [.int .i64 (l[(cols[k]?.getD 0).toNat]?.getD 0)] := by
  rw [take_one cols k h]; simp [pickL, ofL]
theorem pickL_at (l cols : List Int) (k : Nat) (h : k < cols.length) : (pickL l cols)[k]?.getD 0 = l[(cols[k]?.getD 0).toNat]?.getD 0 := by simp [pickL, h]

set_option maxHeartbeats 1000000 in
theorem chosen_any (va vb : Value) (n m : Nat) (l cols : List Int) (w : World) (ha : Reads w 1 va n (ofL l)) (hb : Reads w 1 vb m (ofL cols)) (hm : m ≤ 1048576) (hin : ∀ i, i < m → 0 ≤ cols[i]?.getD 0 ∧ cols[i]?.getD 0 < n) :
    Calls Try.prog 74 #[va, vb] w (NewInts w (pickL l cols)) := by
  obtain ⟨hal, a, ca, rfl, ham, hac⟩ := open_reads ha
  obtain ⟨hbl, b, cb, rfl, hbm, hbc⟩ := open_reads hb
  have HAC := Lib.hid hac
  have HBC := Lib.hid hbc
  have HIN := Lib.hid hin
  have HBL := Lib.hid hbl
  clear ha hb hac hbc hin hal hbl
  have hm1 := Lib.hid (show 8 * m ≤ 281474976710656 by omega)
  have hm2 := Lib.hid (show m ≤ maxLen by unfold maxLen; omega)
  go_enter Try.func74, Try.ntmps74
  go_wp2_with (at_make; refine wpList_make_room _ rfl _ _ 36 rfl 3 (.int .i64 0) 8 Try.underlying36 infoI m rfl rfl hm1.out hm2.out ?_; intro w1 hown1 hb1)
  have HO1 := Lib.hid hown1
  have HB1 := Lib.hid hb1
  clear hown1 hb1
  go_wp2
  go_loopw [5, 13] (fun o i wr => ∃ (k : Nat) (ov : Value), k ≤ m ∧ i = .int .i64 k ∧ o = ov ∧ wr.ownsRow w.heap.size 3 1 ov k (ofL (pickL l (cols.take k))) ∧ Below w.heap.size w wr) (fun _ i _ => m + 1 - (intOf i).toNat)
  case atStart => exact ⟨0, _, by omega, rfl, rfl, HO1.out, HB1.out⟩
  case round =>
    obtain ⟨k, ov, hk, rfl, rfl, hown, hbw⟩ := hrel
    by_cases hlt : k < m
    · have hc := HIN.out k hlt
      have hs := pickL_succ l cols k (by rw [HBL.out]; exact hlt)
      obtain ⟨gb, offb, rfl, hgb, hcellb⟩ := HBC.out (by omega)
      have hy : wr.cell? ⟨gb, offb + k, none⟩ = some (.int .i64 (cols[k]?.getD 0)) := (hbw.cell (p := ⟨gb, offb + k, none⟩) hgb).trans (hcellb k hlt)
      obtain ⟨j, hj⟩ : ∃ j : Nat, cols[k]?.getD 0 = j := ⟨_, (Int.toNat_of_nonneg hc.1).symm⟩
      rw [hj] at hc hy hs
      rw [Int.toNat_natCast] at hs
      obtain ⟨ga, offa, rfl, hga, hcella⟩ := HAC.out (by omega)
      have hx : wr.cell? ⟨ga, offa + j, none⟩ = some (.int .i64 (l[j]?.getD 0)) := (hbw.cell (p := ⟨ga, offa + j, none⟩) hga).trans (hcella j (by omega))
      generalize l[j]?.getD 0 = x at *
      have hj0 : 0 ≤ (j : Int) := hc.1
      have hjn : (j : Int) < (n : Int) := hc.2
      have hk0 : 0 ≤ (k : Int) := by omega
      have hkm : (k : Int) < (m : Int) := by omega
      have HO := Lib.hid hown
      have HB := Lib.hid hbw
      have HS := Lib.hid hs
      have hm3 := Lib.hid (show k + 1 ≤ maxLen by have := hm2.out; omega)
      have hm4 := Lib.hid (show (k + 1) * 8 ≤ 140737488355328 by omega)
      have hsz := Lib.hid hbw.size
      clear hc hj hcella hcellb hga hgb hown hbw hs
      go_wp2_with (at_builtin; go_must (refine wpList_append_one _ rfl _ _ 36 rfl w.heap.size 3 (.int .i64 0) 8 Try.underlying36 infoI rfl _ _ _ (.int .i64 x) HO.out rfl rfl rfl hm3.out hm4.out hsz.out ?_); intro v' w2 hown2 hg2)
      have hbl2 := Lib.hid (Below.grownRow HB.out HO.out hg2 hsz.out)
      rw [← HS.out] at hown2
      have H1 := Lib.hid hown2
      clear hown2 hg2
      go_wp2
      go_roundw
      case rel => exact ⟨k + 1, _, by omega, by go_num, rfl, H1.out, hbl2.out⟩
      case measure => simp [intOf]; omega
    · obtain rfl : k = m := by omega
      have h1 := owns_of_row hown hm2.out
      rw [List.take_of_length_le (by rw [HBL.out]; exact Nat.le_refl _)] at h1
      have hfin : Hid (NewInts w (pickL l cols) (.returned u5) wr) := ⟨_, rfl, by rw [pickL_length, HBL.out]; exact h1.1, h1.2, hbw⟩
      clear hown hbw h1
      go_wp2
      go_ret
      exact hfin.out

end Ints
end Go.Proofs.Ytimjlcnljefbbaa
