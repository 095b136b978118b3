/- Elements of a list at the numbers of another one: the reference's; whether all numbers lie below a bound: the program's. (Printed by wip/gen_thru.py.) -/
import Derived.Test.YtimjlcnljefbbaaPick
import Derived.Test.YtimjlcnljefbbaaLawS
import Derived.Test.YtimjlcnljefbbaaPred
import Derived.IntWalk
namespace Go.Proofs.Ytimjlcnljefbbaa
open Go.RowKit
namespace Ints

set_option maxHeartbeats 1000000 in
theorem hgList_any (va vb : Value) (n m : Nat) (l cols : List Int) (w : World) (ha : Reads w 1 va n (ofL l)) (hb : Reads w 1 vb m (ofL cols)) (hm : m ≤ 1048576) (hin : ∀ i, i < m → 0 ≤ cols[i]?.getD 0 ∧ cols[i]?.getD 0 < n) :
    Calls Try.prog 51 #[vb, va] w (NewInts w (pickL l cols)) := by
  obtain ⟨hal, a, ca, rfl, ham, hac⟩ := open_reads ha
  obtain ⟨hbl, b, cb, rfl, hbm, hbc⟩ := open_reads hb
  have HAC := Lib.hid hac
  have HBC := Lib.hid hbc
  have HIN := Lib.hid hin
  have HBL := Lib.hid hbl
  clear ha hb hac hbc hin hal hbl
  have hm2 := Lib.hid (show m ≤ maxLen by unfold maxLen; omega)
  go_enter Try.func51, Try.ntmps51
  go_wp2
  go_loopw [5, 10] (fun o i wr => ∃ (k : Nat) (ov : Value), k ≤ m ∧ i = .int .i64 k ∧ o = ov ∧ wr.ownsRow w.heap.size 3 1 ov k (ofL (pickL l (cols.take k))) ∧ Below w.heap.size w wr) (fun _ i _ => m + 1 - (intOf i).toNat)
  case atStart => exact ⟨0, _, by omega, rfl, rfl, World.ownsRow_nil _ _ _ _, Below.refl _ _⟩
  case round =>
    obtain ⟨k, ov, hk, rfl, rfl, hown, hbw⟩ := hrel
    by_cases hlt : k < m
    · have hc := HIN.out k hlt
      have hs := pickL_succ l cols k (by rw [HBL.out]; exact hlt)
      obtain ⟨gb, offb, rfl, hgb, hcellb⟩ := HBC.out (by omega)
      have hy : wr.cell? ⟨gb, offb + k, none⟩ = some (.int .i64 (cols[k]?.getD 0)) := (hbw.cell (p := ⟨gb, offb + k, none⟩) hgb).trans (hcellb k hlt)
      obtain ⟨j, hj⟩ : ∃ j : Nat, cols[k]?.getD 0 = j := ⟨_, (Int.toNat_of_nonneg hc.1).symm⟩
      rw [hj] at hc hy hs
      rw [Int.toNat_natCast] at hs
      obtain ⟨ga, offa, rfl, hga, hcella⟩ := HAC.out (by omega)
      have hx : wr.cell? ⟨ga, offa + j, none⟩ = some (.int .i64 (l[j]?.getD 0)) := (hbw.cell (p := ⟨ga, offa + j, none⟩) hga).trans (hcella j (by omega))
      generalize l[j]?.getD 0 = x at *
      have hj0 : 0 ≤ (j : Int) := hc.1
      have hjn : (j : Int) < (n : Int) := hc.2
      have hk0 : 0 ≤ (k : Int) := by omega
      have hkm : (k : Int) < (m : Int) := by omega
      have HO := Lib.hid hown
      have HB := Lib.hid hbw
      have HS := Lib.hid hs
      have hm3 := Lib.hid (show k + 1 ≤ maxLen by have := hm2.out; omega)
      have hm4 := Lib.hid (show (k + 1) * 8 ≤ 140737488355328 by omega)
      have hsz := Lib.hid hbw.size
      clear hc hj hcella hcellb hga hgb hown hbw hs
      go_wp2_with (at_builtin; go_must (refine wpList_append_one _ rfl _ _ 36 rfl w.heap.size 3 (.int .i64 0) 8 Try.underlying36 infoI rfl _ _ _ (.int .i64 x) HO.out rfl rfl rfl hm3.out hm4.out hsz.out ?_); intro v' w2 hown2 hg2)
      have hbl2 := Lib.hid (Below.grownRow HB.out HO.out hg2 hsz.out)
      rw [← HS.out] at hown2
      have H1 := Lib.hid hown2
      clear hown2 hg2
      go_wp2
      go_roundw
      case rel => exact ⟨k + 1, _, by omega, by go_num, rfl, H1.out, hbl2.out⟩
      case measure => simp [intOf]; omega
    · obtain rfl : k = m := by omega
      have h1 := owns_of_row hown hm2.out
      rw [List.take_of_length_le (by rw [HBL.out]; exact Nat.le_refl _)] at h1
      have hfin : Hid (NewInts w (pickL l cols) (.returned u5) wr) := ⟨_, rfl, by rw [pickL_length, HBL.out]; exact h1.1, h1.2, hbw⟩
      clear hown hbw h1
      go_wp2
      go_ret
      exact hfin.out

set_option maxHeartbeats 1000000 in
theorem mapped_any (va vb : Value) (n m : Nat) (l cols : List Int) (w : World) (ha : Reads w 1 va n (ofL l)) (hb : Reads w 1 vb m (ofL cols)) (hm : m ≤ 1048576) (hin : ∀ i, i < m → 0 ≤ cols[i]?.getD 0 ∧ cols[i]?.getD 0 < n) :
    Calls Try.prog 53 #[vb, va] w (NewInts w (pickL l cols)) := by
  have hc := Lib.hid (chosen_any va vb n m l cols w ha hb hm hin)
  clear ha hb hm hin
  go_enter Try.func53, Try.ntmps53
  go_wp2_with fail
  refine hc.out.mono ?_
  rintro e w1 ⟨v1, rfl, ho, hf, hb⟩
  have hfin : Hid (NewInts w (pickL l cols) (.returned v1) w1) := ⟨_, rfl, ho, hf, hb⟩
  clear ho hf hb
  go_wp2
  go_ret
  exact hfin.out

set_option maxHeartbeats 1000000 in
theorem areBelow_any (v : Value) (n : Nat) (l : List Int) (b : Int) (h0 : 0 ≤ b) (h63 : b ≤ 9223372036854775807) (w : World) (h : Reads w 1 v n (ofL l)) :
    Calls Try.prog 52 #[v, .int .i64 b] w fun e w' => e = .returned (.bool (l.all fun a => Fld.inR a 0 (b - 1))) ∧ w = w' := by
  obtain ⟨hl, a, cap, rfl, hm, hc⟩ := open_reads h
  obtain ⟨r, hr⟩ : ∃ r, (l.all fun a => Fld.inR a 0 (b - 1)) = r := ⟨_, rfl⟩
  rw [hr]
  have HR := Lib.hid hr
  have HL := Lib.hid hl
  have HC := Lib.hid hc
  have hw1 : IntKind.i64.wrap (b - 1) = b - 1 := IntWalk.i64_in _ (by omega)
  obtain ⟨b1, hb1⟩ : ∃ x, b - 1 = x := ⟨_, rfl⟩
  have HB1 := Lib.hid hb1
  rw [hb1] at hw1
  clear h hc hl hr h0 h63
  have hwb : IntKind.i64.wrap (b - 1) = b1 := by rw [hb1]; exact hw1
  clear hb1 hw1
  go_enter Try.func52, Try.ntmps52
  go_wp2
  go_loopw [9] (fun i wr => ∃ k : Nat, k ≤ n ∧ i = .int .i64 k ∧ Hid (((l.take k).all fun a => Fld.inR a 0 b1) = true) ∧ w = wr) (fun i _ => n + 1 - (intOf i).toNat)
  case atStart => exact ⟨0, by omega, rfl, Lib.hid (by simp), rfl⟩
  case round =>
    obtain ⟨k, hk, rfl, hall, rfl⟩ := hrel
    by_cases hlt : k < n
    · obtain ⟨g, off, rfl, hg9, hcell⟩ := HC.out (by omega)
      have hx := hcell k hlt
      have hkl : k < l.length := by rw [HL.out]; exact hlt
      have hstep : ((l.take (k + 1)).all fun a => Fld.inR a 0 b1) = (((l.take k).all fun a => Fld.inR a 0 b1) && Fld.inR (l[k]?.getD 0) 0 b1) := by rw [take_one l k hkl]; simp
      have hmem : l[k]?.getD 0 ∈ l := by rw [List.getElem?_eq_getElem hkl]; exact List.getElem_mem hkl
      rw [hall.out, Bool.true_and] at hstep
      have hwi := Lib.hid (fun W => within_any (l[k]?.getD 0) 0 b1 W)
      have hk0 : 0 ≤ (k : Int) := by omega
      have hkn : (k : Int) < (n : Int) := by omega
      cases hin : Fld.inR (l[k]?.getD 0) 0 b1 with
      | false =>
        have hrf : Hid (r = false) := by show _ = _; rw [← HR.out, HB1.out, List.all_eq_false]; exact ⟨_, hmem, by rw [hin]; simp⟩
        rw [hin] at hwi
        clear hstep hmem hcell hin hkl
        generalize l[k]?.getD 0 = x at *
        go_wp2_with fail
        refine (hwi.out _).mono ?_
        rintro e w2 ⟨rfl, rfl⟩
        go_wp2
        go_ret
        exact ⟨ret_bool hrf.out.symm, rfl⟩
      | true =>
        rw [hin] at hwi hstep
        have HST := Lib.hid hstep
        clear hstep hmem hcell hin hkl
        generalize l[k]?.getD 0 = x at *
        go_wp2_with fail
        refine (hwi.out _).mono ?_
        rintro e w2 ⟨rfl, rfl⟩
        go_wp2
        go_roundw
        case rel => exact ⟨k + 1, by omega, by go_num, HST, by first | rfl | trivial⟩
        case measure => simp [intOf]; omega
    · obtain rfl : k = n := by omega
      have hrt : Hid (r = true) := by
        show _ = _
        have := hall.out
        rw [← HL.out, List.take_length] at this
        rw [← HR.out, HB1.out, this]
      go_wp2
      go_ret
      exact ⟨ret_bool hrt.out.symm, rfl⟩

theorem areBelow_hi (v : Value) (n : Nat) (l : List Int) (b c : Int) (hc : b - 1 = c) (h0 : 0 ≤ b) (h63 : b ≤ 9223372036854775807) (w : World) (h : Reads w 1 v n (ofL l)) :
    Calls Try.prog 52 #[v, .int .i64 b] w fun e w' => e = .returned (.bool (l.all fun a => Fld.inR a 0 c)) ∧ w = w' := by
  subst hc
  exact areBelow_any v n l b h0 h63 w h

end Ints
end Go.Proofs.Ytimjlcnljefbbaa
