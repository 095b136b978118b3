/- isField -/
import Derived.Test.YtnpjkcmhfpmgmaaDoorFieldBase
namespace Go.Proofs.YtnpjkcmhfpmgmaaDoor
open Go.RowKit
namespace Fld

/-- What the table holds at k. -/
def tabN : Nat → Nat | 0 => 2 | 1 => 3 | 2 => 5 | _ => 7
theorem tabN_in : ∀ j, j < 4 → tabN j ∈ [2, 3, 5, 7] := by decide
theorem tabN_all : ∀ q ∈ [2, 3, 5, 7], ∃ j, j < 4 ∧ tabN j = q := by decide

theorem tabIx0 (w : World) : (Instr.index 97 (.agg #[.int .i64 2, .int .i64 3, .int .i64 5, .int .i64 7]) (.int .i64 ((0 : Nat) : Int))).run Tryd.prog w = .ok (.int .i64 (tabN 0)) w := by kernel_rfl
theorem tabIx1 (w : World) : (Instr.index 97 (.agg #[.int .i64 2, .int .i64 3, .int .i64 5, .int .i64 7]) (.int .i64 ((1 : Nat) : Int))).run Tryd.prog w = .ok (.int .i64 (tabN 1)) w := by kernel_rfl
theorem tabIx2 (w : World) : (Instr.index 97 (.agg #[.int .i64 2, .int .i64 3, .int .i64 5, .int .i64 7]) (.int .i64 ((2 : Nat) : Int))).run Tryd.prog w = .ok (.int .i64 (tabN 2)) w := by kernel_rfl
theorem tabIx3 (w : World) : (Instr.index 97 (.agg #[.int .i64 2, .int .i64 3, .int .i64 5, .int .i64 7]) (.int .i64 ((3 : Nat) : Int))).run Tryd.prog w = .ok (.int .i64 (tabN 3)) w := by kernel_rfl

set_option maxHeartbeats 1000000 in
theorem isField_any (p : Int) (w : World) (ht : Tab w) :
    Calls Tryd.prog 74 #[.int .i64 p] w fun e w' => e = .returned (.bool (goodB p)) ∧ w = w' := by
  obtain ⟨t, fr, hg⟩ := ht
  by_cases h : 2 ≤ p ∧ p ≤ 97
  · obtain ⟨h2, h97⟩ := h
    obtain ⟨p, rfl⟩ := Int.eq_ofNat_of_zero_le (a := p) (by omega)
    have hb1 : decide ((p : Int) < 2) = false := by simp; omega
    have hb2 : decide ((97 : Int) < (p : Int)) = false := by simp; omega
    have hix : ∀ j : Nat, j < 4 → ∀ w : World, (Instr.index 97 (.agg #[.int .i64 2, .int .i64 3, .int .i64 5, .int .i64 7]) (.int .i64 (j : Int))).run Tryd.prog w = .ok (.int .i64 (tabN j)) w := by
      intro j hj w
      match j, hj with
      | 0, _ => exact tabIx0 w
      | 1, _ => exact tabIx1 w
      | 2, _ => exact tabIx2 w
      | 3, _ => exact tabIx3 w
    have hix' := Lib.hid hix
    clear hix
    go_enter Tryd.func74, Tryd.ntmps74
    go_wp2_with (refine wpList_load_row rfl 97 _ rfl 0 rfl t _ fr _ hg Tryd.underlying97 rfl (by kernel_rfl) ?_)
    go_loop [12] (fun i => ∃ k : Nat, k ≤ 4 ∧ i = .int .i64 k ∧ ∀ j, j < k → p % tabN j = 0 → p = tabN j) (fun i => 5 - (intOf i).toNat)
    case atStart => exact ⟨0, by omega, rfl, by omega⟩
    case round =>
      obtain ⟨k, hk, rfl, hall⟩ := hrel
      by_cases hk4 : k < 4
      · have hi := hix'.out k hk4
        have hq := tabN_in k hk4
        have hstep : (p % tabN k = 0 → p = tabN k) → ∀ j, j < k + 1 → p % tabN j = 0 → p = tabN j := by
          intro h j hj
          by_cases e : j = k
          · subst e; exact h
          · exact hall j (by omega)
        have hno : p % tabN k = 0 → p ≠ tabN k → goodB (p : Int) = false := fun hm hne => (goodB_nat p).trans (goodN_tab_no p (by omega) _ hq hm hne)
        have hq2 : 2 ≤ tabN k ∧ tabN k ≤ 7 := by simp at hq; omega
        clear hall hq
        generalize tabN k = q at hi hstep hno hq2
        have hstep' := Lib.hid hstep
        have hno' := Lib.hid hno
        clear hstep hno
        obtain ⟨hq2, hq7⟩ := hq2
        by_cases hm : p % q = 0
        · have hb3 : ((p : Int) % (q : Int) == 0) = true := by simp; omega
          by_cases he : p = q
          · have hb4 : ((p : Int) != (q : Int)) = false := by simp; omega
            have hstep2 := Lib.hid (hstep'.out fun _ => he)
            clear hm he
            go_wp2
            go_round
            case rel => exact ⟨k + 1, by omega, by go_num, hstep2.out⟩
            case measure => simp [intOf]; omega
          · have hb4 : ((p : Int) != (q : Int)) = true := by simp; omega
            have hno2 := Lib.hid (hno'.out hm he)
            clear hm he
            go_wp2
            go_ret
            exact ⟨ret_bool hno2.out.symm, rfl⟩
        · have hb3 : ((p : Int) % (q : Int) == 0) = false := by simp; omega
          have hstep2 := Lib.hid (hstep'.out fun h => (hm h).elim)
          clear hm
          go_wp2
          go_round
          case rel => exact ⟨k + 1, by omega, by go_num, hstep2.out⟩
          case measure => simp [intOf]; omega
      · obtain rfl : k = 4 := by omega
        have hyes : goodB (p : Int) = true := (goodB_nat p).trans (goodN_tab_yes p (by omega) (by omega) fun q hq => by
          obtain ⟨j, hj, rfl⟩ := tabN_all q hq
          exact hall j hj)
        have hyes' := Lib.hid hyes
        clear hyes hall
        go_wp2
        go_ret
        exact ⟨ret_bool hyes'.out.symm, rfl⟩
  · have e1 : goodB p = false := by
      by_cases h1 : p < 2
      · exact good_low h1
      · exact good_high (by omega)
    rw [e1]
    by_cases h1 : p < 2
    · have hb1 : decide (p < 2) = true := by simp; omega
      clear h e1 h1
      go_enter Tryd.func74, Tryd.ntmps74
      go_wp2
      go_ret
      exact ⟨rfl, rfl⟩
    · have hb1 : decide (p < 2) = false := by simp; omega
      have hb2 : decide (97 < p) = true := by simp; omega
      clear h e1 h1
      go_enter Tryd.func74, Tryd.ntmps74
      go_wp2
      go_ret
      exact ⟨rfl, rfl⟩

end Fld
end Go.Proofs.YtnpjkcmhfpmgmaaDoor
