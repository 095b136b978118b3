/- mod -/
import Derived.Test.YtnpjkcmhfpmgmaaDoorFieldBase
namespace Go.Proofs.YtnpjkcmhfpmgmaaDoor
open Go.RowKit
namespace Fld

theorem tmod_neg {a p : Int} (hp : 0 < p) (h : a < 0) : -p < a.tmod p ∧ a.tmod p ≤ 0 ∧ (a.tmod p < 0 → a.tmod p + p = a % p) ∧ (a.tmod p = 0 → a % p = 0) := by
  have h1 : a.tmod p = -((-a) % p) := by
    rw [show a = -(-a) from by omega, Int.neg_tmod, Int.tmod_eq_emod_of_nonneg (by omega)]
    simp
  have h2 := Int.emod_nonneg (-a) (b := p) (by omega)
  have h3 := Int.emod_lt_of_pos (-a) hp
  have h5 := Int.mul_ediv_add_emod (-a) p
  refine ⟨by omega, by omega, fun hn => ?_, fun hz => ?_⟩
  · have e : a = (a.tmod p + p) + p * (-((-a) / p) - 1) := by
      rw [Int.mul_sub, Int.mul_neg]
      omega
    have := Int.add_mul_emod_self_left (a.tmod p + p) p (-((-a) / p) - 1)
    rw [← e] at this
    rw [this]
    exact (Int.emod_eq_of_lt (by omega) (by omega)).symm
  · have e : a = p * (-((-a) / p)) := by
      rw [Int.mul_neg]
      omega
    rw [e]
    exact Int.mul_emod_right _ _


/-- 'mod' at a prime: the remainder that is not negative. -/
theorem mod_any (p a : Int) (h2 : 2 ≤ p) (h97 : p ≤ 97) (w : World) :
    Calls Tryd.prog 81 #[.int .i64 p, .int .i64 a] w fun e w' => e = .returned (.int .i64 (a % p)) ∧ w = w' := by
  have hp0 : (p == 0) = false := by simp; omega
  by_cases h0 : 0 ≤ a
  · have hm := Int.emod_nonneg a (b := p) (by omega)
    have hlt := Int.emod_lt_of_pos a (b := p) (by omega)
    have hb : decide (a % p < 0) = false := by simp; omega
    go_enter Tryd.func81, Tryd.ntmps81
    go_wp2
    go_ret
    exact ⟨rfl, rfl⟩
  · obtain ⟨t1, t2, t3, t4⟩ := tmod_neg (a := a) (p := p) (by omega) (by omega)
    by_cases ht : a.tmod p < 0
    · have hb : decide (a.tmod p < 0) = true := by simp; omega
      have e := Lib.hid (t3 ht)
      clear t3 t4 ht
      go_enter Tryd.func81, Tryd.ntmps81
      go_wp2
      go_ret
      exact ⟨ret_int e.out, rfl⟩
    · have hb : decide (a.tmod p < 0) = false := by simp; omega
      have e := Lib.hid (t4 (by omega))
      have e0 := Lib.hid (show a.tmod p = 0 by omega)
      clear t3 t4 ht
      go_enter Tryd.func81, Tryd.ntmps81
      go_wp2
      go_ret
      exact ⟨ret_int (e0.out.trans e.out.symm), rfl⟩

end Fld
end Go.Proofs.YtnpjkcmhfpmgmaaDoor
