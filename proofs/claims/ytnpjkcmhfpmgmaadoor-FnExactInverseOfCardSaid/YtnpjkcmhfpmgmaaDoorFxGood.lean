/- fdGood -/
import Derived.Test.YtnpjkcmhfpmgmaaDoorFxIn
namespace Go.Proofs.YtnpjkcmhfpmgmaaDoor
open Go.RowKit
namespace Fld

set_option maxHeartbeats 1000000 in
theorem fdGood_any (p : Int) (w : World) :
    Calls Tryd.prog 70 #[.int .i64 p] w fun e w' => e = .returned (.bool (goodB p)) ∧ w = w' := by
  by_cases h : 2 ≤ p ∧ p ≤ 97
  · obtain ⟨h2, h97⟩ := h
    obtain ⟨p, rfl⟩ := Int.eq_ofNat_of_zero_le (a := p) (by omega)
    have hb : inR (p : Int) 2 97 = true := inR_mk h2 h97
    go_enter Tryd.func70, Tryd.ntmps70
    go_wp2_with (go_at_call 55; refine (l1In_any _ _ _ _).mono ?_; rintro e w' ⟨rfl, rfl⟩)
    go_loop [3] (fun i => ∃ k : Nat, 2 ≤ k ∧ k ≤ 97 ∧ i = .int .i64 k ∧ ∀ j, 2 ≤ j → j < k → p % j ≠ 0) (fun i => 100 - (intOf i).toNat)
    case atStart => exact ⟨2, by omega, by omega, rfl, by omega⟩
    case round =>
      obtain ⟨k, hk2, hk97, rfl, hall⟩ := hrel
      have hsq : k * k ≤ 97 * 97 := Nat.mul_le_mul hk97 hk97
      have hsq' : k ≤ k * k := Nat.le_mul_self k
      have hall' := Lib.hid hall
      clear hall
      by_cases hkk : k * k ≤ p
      · have hb3 : decide ((k : Int) * (k : Int) ≤ (p : Int)) = true := by simp; exact_mod_cast hkk
        by_cases hm : p % k = 0
        · have hb2 : ((p : Int) % (k : Int) == 0) = true := by simp; omega
          have HF := Lib.hid (good_no (by omega) hk2 hkk hm)
          clear hm
          go_wp2
          go_ret
          exact ⟨ret_bool HF.out.symm, rfl⟩
        · have hb2 : ((p : Int) % (k : Int) == 0) = false := by simp; omega
          have HM := Lib.hid hm
          clear hm
          have hk96 : k < 97 := by
            rcases Nat.lt_or_ge k 97 with h | h
            · exact h
            · have := Nat.mul_le_mul h h; omega
          go_wp2
          go_round
          case rel =>
            refine ⟨k + 1, by omega, by omega, by go_num, fun j hj hjk => ?_⟩
            by_cases e : j = k
            · subst e; exact HM.out
            · exact hall'.out j hj (by omega)
          case measure => simp [intOf]; omega
      · have hb3 : decide ((k : Int) * (k : Int) ≤ (p : Int)) = false := by simp; exact_mod_cast Nat.not_le.1 hkk
        have HF := Lib.hid (good_yes (by omega) (by omega) (by omega) hall'.out)
        go_wp2
        go_ret
        exact ⟨ret_bool HF.out.symm, rfl⟩
  · have e1 : goodB p = false := by
      by_cases h1 : p < 2
      · exact good_low h1
      · exact good_high (by omega)
    have hb : inR p 2 97 = false := inR_no (by omega)
    rw [e1]
    clear h e1
    go_enter Tryd.func70, Tryd.ntmps70
    go_wp2_with (go_at_call 55; refine (l1In_any _ _ _ _).mono ?_; rintro e w' ⟨rfl, rfl⟩)
    go_ret
    exact ⟨rfl, rfl⟩

end Fld
end Go.Proofs.YtnpjkcmhfpmgmaaDoor
