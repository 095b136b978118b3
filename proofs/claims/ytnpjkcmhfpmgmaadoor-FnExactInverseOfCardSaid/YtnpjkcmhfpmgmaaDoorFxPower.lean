/- power, inverse -/
import Derived.Test.YtnpjkcmhfpmgmaaDoorFieldBase
namespace Go.Proofs.YtnpjkcmhfpmgmaaDoor
open Go.RowKit
namespace Fld

theorem bit_any (b : Bool) (w : World) :
    Calls Tryd.prog 101 #[.bool b] w fun e w' => e = .returned (.int .i64 (if b = true then 1 else 0)) ∧ w = w' := by
  cases b <;>
  · go_enter Tryd.func101, Tryd.ntmps101
    go_wp2
    go_ret
    exact ⟨rfl, rfl⟩


/-- A power, by squaring. -/
theorem sq_odd {p out a n : Nat} (hn : n % 2 = 1) : (out * a % p) * (a * a % p) ^ (n / 2) % p = out * a ^ n % p := by
  have e : n = 2 * (n / 2) + 1 := by omega
  conv => rhs; rw [e, Nat.pow_succ, Nat.pow_mul]
  rw [Nat.mul_mod, Nat.mod_mod, ← Nat.pow_mod, ← Nat.mul_mod, show a ^ 2 = a * a from Nat.pow_two a, Nat.mul_assoc, Nat.mul_comm a]
theorem sq_even {p out a n : Nat} (hn : n % 2 = 0) : out * (a * a % p) ^ (n / 2) % p = out * a ^ n % p := by
  have e : n = 2 * (n / 2) := by omega
  conv => rhs; rw [e, Nat.pow_mul]
  rw [Nat.mul_mod, ← Nat.pow_mod, ← Nat.mul_mod, show a ^ 2 = a * a from Nat.pow_two a]


theorem power_any (p a n r : Nat) (hr : Hid (a ^ n % p = r)) (hp : p < 98) (h2 : 2 ≤ p) (ha : a < p) (hn : n ≤ 100000) (w : World) :
    Calls Tryd.prog 100 #[.int .i64 p, .int .i64 a, .int .i64 n] w fun e w' => e = .returned (.int .i64 r) ∧ w = w' := by
  have hp0 : ((p : Int) == 0) = false := by simp; omega
  have h1p : (1 : Int) % (p : Int) = 1 := by rw [Int.emod_eq_of_lt] <;> omega
  go_enter Tryd.func100, Tryd.ntmps100
  go_wp2
  go_loop [1, 2, 7] (fun b m x => ∃ c k y : Nat, b = .int .i64 c ∧ m = .int .i64 k ∧ x = .int .i64 y ∧ c < p ∧ k ≤ 100000 ∧ y < p ∧ Hid (y * c ^ k % p = r)) (fun _ m _ => (intOf m).toNat)
  case atStart => exact ⟨a, n, 1, rfl, rfl, by rw [h1p]; rfl, ha, hn, by omega, show _ = _ by rw [Nat.one_mul]; exact hr⟩
  case round =>
    obtain ⟨c, k, y, rfl, rfl, rfl, hc, hk, hy, hs⟩ := hrel
    obtain ⟨m0, m1⟩ := mul_bounds (p := p) (a := y) (b := c) (by omega) (by omega) (by omega) (by omega) (by omega)
    obtain ⟨m2, m3⟩ := mul_bounds (p := p) (a := c) (b := c) (by omega) (by omega) (by omega) (by omega) (by omega)
    by_cases h0 : k = 0
    · subst h0
      have e : Hid (y = r) := by
        show _ = _
        rw [← hs.out, Nat.pow_zero, Nat.mul_one, Nat.mod_eq_of_lt hy]
      go_wp2
      go_ret
      exact ⟨ret_int (by rw [e.out]), rfl⟩
    · have hk0 : 0 < k := by omega
      by_cases ho : k % 2 = 1
      · have hb : ((k : Int) % 2 == 1) = true := by simp; omega
        have hs' := Lib.hid (show (y * c % p) * (c * c % p) ^ (k / 2) % p = r by rw [sq_odd ho]; exact hs.out)
        clear hs ho h0
        go_wp2
        go_round
        case rel => exact ⟨c * c % p, k / 2, y * c % p, rfl, by go_num, rfl, Nat.mod_lt _ (by omega), by omega, Nat.mod_lt _ (by omega), hs'⟩
        case measure => simp [intOf]; omega
      · have hb : ((k : Int) % 2 == 1) = false := by simp; omega
        have hs' := Lib.hid (show y * (c * c % p) ^ (k / 2) % p = r by rw [sq_even (by omega)]; exact hs.out)
        clear hs ho h0
        go_wp2
        go_round
        case rel => exact ⟨c * c % p, k / 2, y, rfl, by go_num, rfl, Nat.mod_lt _ (by omega), by omega, by omega, hs'⟩
        case measure => simp [intOf]; omega


theorem inverse_any (p a : Nat) (hg : goodN p = true) (hp : p < 98) (h2 : 2 ≤ p) (ha : a < p) (h1 : 1 ≤ a) (w : World) :
    Calls Tryd.prog 93 #[.int .i64 p, .int .i64 a] w fun e w' => e = .returned (.int .i64 (invN p a)) ∧ w = w' := by
  have hinv := Lib.hid (inv_pow p hp hg a ha h1)
  clear hg
  by_cases h : p = 2
  · subst h
    go_enter Tryd.func93, Tryd.ntmps93
    go_wp2_with (first | (go_at_call 101; ((with_reducible refine (bit_any _ _).mono ?_); rintro e w' ⟨rfl, rfl⟩)) | (go_at_call 100; ((refine (power_any 2 a 1 _ hinv (by omega) (by omega) (by omega) (by omega) _).mono ?_); rintro e w' ⟨rfl, rfl⟩)))
    go_ret
    exact ⟨rfl, rfl⟩
  · have hb : ((p : Int) == 2) = false := by simp; omega
    obtain ⟨m, hm⟩ : ∃ m, p - 2 = m := ⟨_, rfl⟩
    have hm' : (p : Int) - 2 = (m : Int) := by omega
    have hinv2 := Lib.hid (show a ^ m % p = invN p a by have := hinv.out; rw [if_neg h, hm] at this; exact this)
    have hml : m ≤ 100000 := by omega
    clear hinv hm h
    go_enter Tryd.func93, Tryd.ntmps93
    go_wp2_with (first | (go_at_call 101; ((with_reducible refine (bit_any _ _).mono ?_); rintro e w' ⟨rfl, rfl⟩)) | (go_at_call 100; ((with_reducible refine (power_any p a m _ hinv2 hp h2 ha hml _).mono ?_); rintro e w' ⟨rfl, rfl⟩)))
    go_ret
    exact ⟨rfl, rfl⟩

end Fld
end Go.Proofs.YtnpjkcmhfpmgmaaDoor
