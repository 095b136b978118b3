/- What each function of the field chapter returns: contracts over the program. -/
import Derived.Test.YtkkiconlcboehaaDoorFieldPlain
import Derived.Test.YtkkiconlcboehaaDoorBase
import Derived.Test.YtkkiconlcboehaaDoorRows
import Derived.WalkKit
import Derived.WalkSpells
import Derived.WalkLawsBesides
import Derived.Lib.Hide
namespace Go.Proofs.YtkkiconlcboehaaDoor
open Go.RowKit
namespace Fld

theorem ret_bool {a b : Bool} (h : a = b) : Ending.returned (.bool a) = .returned (.bool b) := by rw [h]
theorem ret_int {k : IntKind} {a b : Int} (h : a = b) : Ending.returned (.int k a) = .returned (.int k b) := by rw [h]

set_option maxHeartbeats 400000 in
theorem l1In_any (n lo hi : Int) (w : World) :
    Calls Tryd.prog 47 #[.int .i64 n, .int .i64 lo, .int .i64 hi] w fun e w' => e = .returned (.bool (inR n lo hi)) ∧ w = w' := by
  by_cases h : lo ≤ n
  · have h1 : decide (lo ≤ n) = true := by simpa using h
    have e1 : inR n lo hi = decide (n ≤ hi) := by simp [inR, h]
    rw [e1]
    clear h e1
    go_enter Tryd.func47, Tryd.ntmps47
    go_wp2
    go_ret
    exact ⟨by simp, rfl⟩
  · have h1 : decide (lo ≤ n) = false := by simpa using h
    have e1 : inR n lo hi = false := by simp [inR, h]
    rw [e1]
    clear h e1
    go_enter Tryd.func47, Tryd.ntmps47
    go_wp2
    go_ret
    exact ⟨by simp, rfl⟩

set_option maxHeartbeats 400000 in
theorem isElement_any (p a : Int) (w : World) :
    Calls Tryd.prog 50 #[.int .i64 p, .int .i64 a] w fun e w' => e = .returned (.bool (inB p a)) ∧ w = w' := by
  by_cases h : 0 ≤ a
  · have h1 : decide (0 ≤ a) = true := by simpa using h
    have e1 : inB p a = decide (a < p) := by simp [inB, h]
    rw [e1]
    clear h e1
    go_enter Tryd.func50, Tryd.ntmps50
    go_wp2
    go_ret
    exact ⟨by simp, rfl⟩
  · have h1 : decide (0 ≤ a) = false := by simpa using h
    have e1 : inB p a = false := by simp [inB, h]
    rw [e1]
    clear h e1
    go_enter Tryd.func50, Tryd.ntmps50
    go_wp2
    go_ret
    exact ⟨by simp, rfl⟩

set_option maxHeartbeats 1000000 in
theorem fdGood_any (p : Int) (w : World) :
    Calls Tryd.prog 36 #[.int .i64 p] w fun e w' => e = .returned (.bool (goodB p)) ∧ w = w' := by
  by_cases h : 2 ≤ p ∧ p ≤ 97
  · obtain ⟨h2, h97⟩ := h
    obtain ⟨p, rfl⟩ := Int.eq_ofNat_of_zero_le (a := p) (by omega)
    have hb : inR (p : Int) 2 97 = true := inR_mk h2 h97
    go_enter Tryd.func36, Tryd.ntmps36
    go_wp2_with (go_at_call 47; refine (l1In_any _ _ _ _).mono ?_; rintro e w' ⟨rfl, rfl⟩)
    go_loop [3] (fun i => ∃ k : Nat, 2 ≤ k ∧ k ≤ 97 ∧ i = .int .i64 k ∧ ∀ j, 2 ≤ j → j < k → p % j ≠ 0) (fun i => 100 - (intOf i).toNat)
    case atStart => exact ⟨2, by omega, by omega, rfl, by omega⟩
    case round =>
      obtain ⟨k, hk2, hk97, rfl, hall⟩ := hrel
      have hsq : k * k ≤ 97 * 97 := Nat.mul_le_mul hk97 hk97
      have hsq' : k ≤ k * k := Nat.le_mul_self k
      have hall' := Lib.hid hall
      clear hall
      by_cases hkk : k * k ≤ p
      · have hb3 : decide ((k : Int) * (k : Int) ≤ (p : Int)) = true := by simp; exact_mod_cast hkk
        by_cases hm : p % k = 0
        · have hb2 : ((p : Int) % (k : Int) == 0) = true := by simp; omega
          have HF := Lib.hid (good_no (by omega) hk2 hkk hm)
          clear hm
          go_wp2
          go_ret
          exact ⟨ret_bool HF.out.symm, rfl⟩
        · have hb2 : ((p : Int) % (k : Int) == 0) = false := by simp; omega
          have HM := Lib.hid hm
          clear hm
          have hk96 : k < 97 := by
            rcases Nat.lt_or_ge k 97 with h | h
            · exact h
            · have := Nat.mul_le_mul h h; omega
          go_wp2
          go_round
          case rel =>
            refine ⟨k + 1, by omega, by omega, by go_num, fun j hj hjk => ?_⟩
            by_cases e : j = k
            · subst e; exact HM.out
            · exact hall'.out j hj (by omega)
          case measure => simp [intOf]; omega
      · have hb3 : decide ((k : Int) * (k : Int) ≤ (p : Int)) = false := by simp; exact_mod_cast Nat.not_le.1 hkk
        have HF := Lib.hid (good_yes (by omega) (by omega) (by omega) hall'.out)
        go_wp2
        go_ret
        exact ⟨ret_bool HF.out.symm, rfl⟩
  · have e1 : goodB p = false := by
      by_cases h1 : p < 2
      · exact good_low h1
      · exact good_high (by omega)
    have hb : inR p 2 97 = false := inR_no (by omega)
    rw [e1]
    clear h e1
    go_enter Tryd.func36, Tryd.ntmps36
    go_wp2_with (go_at_call 47; refine (l1In_any _ _ _ _).mono ?_; rintro e w' ⟨rfl, rfl⟩)
    go_ret
    exact ⟨rfl, rfl⟩

/-- What the table holds at k. -/
def tabN : Nat → Nat | 0 => 2 | 1 => 3 | 2 => 5 | _ => 7
theorem tabN_in : ∀ j, j < 4 → tabN j ∈ [2, 3, 5, 7] := by decide
theorem tabN_all : ∀ q ∈ [2, 3, 5, 7], ∃ j, j < 4 ∧ tabN j = q := by decide

theorem tabIx0 (w : World) : (Instr.index 38 (.agg #[.int .i64 2, .int .i64 3, .int .i64 5, .int .i64 7]) (.int .i64 ((0 : Nat) : Int))).run Tryd.prog w = .ok (.int .i64 (tabN 0)) w := by kernel_rfl
theorem tabIx1 (w : World) : (Instr.index 38 (.agg #[.int .i64 2, .int .i64 3, .int .i64 5, .int .i64 7]) (.int .i64 ((1 : Nat) : Int))).run Tryd.prog w = .ok (.int .i64 (tabN 1)) w := by kernel_rfl
theorem tabIx2 (w : World) : (Instr.index 38 (.agg #[.int .i64 2, .int .i64 3, .int .i64 5, .int .i64 7]) (.int .i64 ((2 : Nat) : Int))).run Tryd.prog w = .ok (.int .i64 (tabN 2)) w := by kernel_rfl
theorem tabIx3 (w : World) : (Instr.index 38 (.agg #[.int .i64 2, .int .i64 3, .int .i64 5, .int .i64 7]) (.int .i64 ((3 : Nat) : Int))).run Tryd.prog w = .ok (.int .i64 (tabN 3)) w := by kernel_rfl

set_option maxHeartbeats 1000000 in
theorem isField_any (p : Int) (w : World) (ht : Tab w) :
    Calls Tryd.prog 37 #[.int .i64 p] w fun e w' => e = .returned (.bool (goodB p)) ∧ w = w' := by
  obtain ⟨t, fr, hg⟩ := ht
  by_cases h : 2 ≤ p ∧ p ≤ 97
  · obtain ⟨h2, h97⟩ := h
    obtain ⟨p, rfl⟩ := Int.eq_ofNat_of_zero_le (a := p) (by omega)
    have hb1 : decide ((p : Int) < 2) = false := by simp; omega
    have hb2 : decide ((97 : Int) < (p : Int)) = false := by simp; omega
    have hix : ∀ j : Nat, j < 4 → ∀ w : World, (Instr.index 38 (.agg #[.int .i64 2, .int .i64 3, .int .i64 5, .int .i64 7]) (.int .i64 (j : Int))).run Tryd.prog w = .ok (.int .i64 (tabN j)) w := by
      intro j hj w
      match j, hj with
      | 0, _ => exact tabIx0 w
      | 1, _ => exact tabIx1 w
      | 2, _ => exact tabIx2 w
      | 3, _ => exact tabIx3 w
    have hix' := Lib.hid hix
    clear hix
    go_enter Tryd.func37, Tryd.ntmps37
    go_wp2_with (refine wpList_load_row rfl 38 _ rfl 0 rfl t _ fr _ hg Tryd.underlying38 rfl (by kernel_rfl) ?_)
    go_loop [12] (fun i => ∃ k : Nat, k ≤ 4 ∧ i = .int .i64 k ∧ ∀ j, j < k → p % tabN j = 0 → p = tabN j) (fun i => 5 - (intOf i).toNat)
    case atStart => exact ⟨0, by omega, rfl, by omega⟩
    case round =>
      obtain ⟨k, hk, rfl, hall⟩ := hrel
      by_cases hk4 : k < 4
      · have hi := hix'.out k hk4
        have hq := tabN_in k hk4
        have hstep : (p % tabN k = 0 → p = tabN k) → ∀ j, j < k + 1 → p % tabN j = 0 → p = tabN j := by
          intro h j hj
          by_cases e : j = k
          · subst e; exact h
          · exact hall j (by omega)
        have hno : p % tabN k = 0 → p ≠ tabN k → goodB (p : Int) = false := fun hm hne => (goodB_nat p).trans (goodN_tab_no p (by omega) _ hq hm hne)
        have hq2 : 2 ≤ tabN k ∧ tabN k ≤ 7 := by simp at hq; omega
        clear hall hq
        generalize tabN k = q at hi hstep hno hq2
        have hstep' := Lib.hid hstep
        have hno' := Lib.hid hno
        clear hstep hno
        obtain ⟨hq2, hq7⟩ := hq2
        by_cases hm : p % q = 0
        · have hb3 : ((p : Int) % (q : Int) == 0) = true := by simp; omega
          by_cases he : p = q
          · have hb4 : ((p : Int) != (q : Int)) = false := by simp; omega
            have hstep2 := Lib.hid (hstep'.out fun _ => he)
            clear hm he
            go_wp2
            go_round
            case rel => exact ⟨k + 1, by omega, by go_num, hstep2.out⟩
            case measure => simp [intOf]; omega
          · have hb4 : ((p : Int) != (q : Int)) = true := by simp; omega
            have hno2 := Lib.hid (hno'.out hm he)
            clear hm he
            go_wp2
            go_ret
            exact ⟨ret_bool hno2.out.symm, rfl⟩
        · have hb3 : ((p : Int) % (q : Int) == 0) = false := by simp; omega
          have hstep2 := Lib.hid (hstep'.out fun h => (hm h).elim)
          clear hm
          go_wp2
          go_round
          case rel => exact ⟨k + 1, by omega, by go_num, hstep2.out⟩
          case measure => simp [intOf]; omega
      · obtain rfl : k = 4 := by omega
        have hyes : goodB (p : Int) = true := (goodB_nat p).trans (goodN_tab_yes p (by omega) (by omega) fun q hq => by
          obtain ⟨j, hj, rfl⟩ := tabN_all q hq
          exact hall j hj)
        have hyes' := Lib.hid hyes
        clear hyes hall
        go_wp2
        go_ret
        exact ⟨ret_bool hyes'.out.symm, rfl⟩
  · have e1 : goodB p = false := by
      by_cases h1 : p < 2
      · exact good_low h1
      · exact good_high (by omega)
    rw [e1]
    by_cases h1 : p < 2
    · have hb1 : decide (p < 2) = true := by simp; omega
      clear h e1 h1
      go_enter Tryd.func37, Tryd.ntmps37
      go_wp2
      go_ret
      exact ⟨rfl, rfl⟩
    · have hb1 : decide (p < 2) = false := by simp; omega
      have hb2 : decide (97 < p) = true := by simp; omega
      clear h e1 h1
      go_enter Tryd.func37, Tryd.ntmps37
      go_wp2
      go_ret
      exact ⟨rfl, rfl⟩

end Fld
end Go.Proofs.YtkkiconlcboehaaDoor
