/- fdInv -/
import Derived.Test.YtnpjkcmhfpmgmaaDoorFieldBase
namespace Go.Proofs.YtnpjkcmhfpmgmaaDoor
open Go.RowKit
namespace Fld

/-- The inverse, by the reference. -/
theorem fdInv_any (p a : Nat) (hp : p < 98) (h2 : 2 ≤ p) (ha : a < p) (w : World) :
    Calls Tryd.prog 91 #[.int .i64 p, .int .i64 a] w fun e w' => e = .returned (.int .i64 (invN p a)) ∧ w = w' := by
  have hp0 : ((p : Int) == 0) = false := by simp; omega
  have hinv := Lib.hid (inv_spec p a)
  go_enter Tryd.func91, Tryd.ntmps91
  go_wp2
  go_loop [5] (fun x => ∃ k : Nat, 1 ≤ k ∧ k ≤ p ∧ x = .int .i64 k ∧ Hid (∀ j, 1 ≤ j → j < k → a * j % p ≠ 1)) (fun x => 100 - (intOf x).toNat)
  case atStart => exact ⟨1, by omega, by omega, rfl, fun j h1 h2 => by omega⟩
  case round =>
    obtain ⟨k, hk1, hkp, rfl, hall⟩ := hrel
    by_cases hlt : k < p
    · have hb0 : decide ((k : Int) < (p : Int)) = true := by simp; omega
      obtain ⟨m0, m1⟩ := mul_bounds (p := p) (a := a) (b := k) (by omega) (by omega) (by omega) (by omega) (by omega)
      by_cases hm : a * k % p = 1
      · have hb : ((a : Int) * (k : Int) % (p : Int) == 1) = true := by
          rw [beq_iff_eq]; exact_mod_cast hm
        have hr : Hid (invN p a = k) := by
          rcases hinv.out with ⟨x, x1, xp, e, ex, xall⟩ | ⟨_, xall⟩
          · show _ = _
            rw [e]
            rcases Nat.lt_trichotomy x k with h | h | h
            · exact (hall.out x x1 h ex).elim
            · exact h
            · exact (xall k hk1 h hm).elim
          · exact (xall k hk1 hlt hm).elim
        clear hm
        go_wp2
        go_ret
        exact ⟨ret_int (by rw [hr.out]), rfl⟩
      · have hb : ((a : Int) * (k : Int) % (p : Int) == 1) = false := by
          rw [beq_eq_false_iff_ne]; exact_mod_cast hm
        have hall2 : Hid (∀ j, 1 ≤ j → j < k + 1 → a * j % p ≠ 1) := fun j h1 h2 => by
          by_cases e : j = k
          · subst e; exact hm
          · exact hall.out j h1 (by omega)
        clear hm
        go_wp2
        go_round
        case rel => exact ⟨k + 1, by omega, by omega, by go_num, hall2⟩
        case measure => simp [intOf]; omega
    · obtain rfl : k = p := by omega
      have hr : Hid (invN k a = 0) := by
        rcases hinv.out with ⟨x, x1, xp, e, ex, xall⟩ | ⟨e, _⟩
        · exact (hall.out x x1 xp ex).elim
        · exact e
      go_wp2
      go_ret
      exact ⟨ret_int (by rw [hr.out]; rfl), rfl⟩

end Fld
end Go.Proofs.YtnpjkcmhfpmgmaaDoor
