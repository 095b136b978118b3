/- What each function of the field chapter returns: contracts over the program, second part. -/
import Derived.Test.YtkkiconlcboehaaDoorFieldWalks
namespace Go.Proofs.YtkkiconlcboehaaDoor
open Go.RowKit
namespace Fld

set_option maxHeartbeats 1000000 in
theorem fdTwo_any (p a b : Int) (w : World) :
    Calls Tryd.prog 38 #[.int .i64 p, .int .i64 a, .int .i64 b] w fun e w' => e = .returned (.bool (twoB p a b)) ∧ w = w' := by
  cases hg : goodB p with
  | false =>
    have e1 : twoB p a b = false := by simp [twoB, hg]
    rw [e1]
    clear e1
    go_enter Tryd.func38, Tryd.ntmps38
    go_wp2_with (go_at_call 36; ((with_reducible refine (fdGood_any _ _).mono ?_); rintro e w' ⟨rfl, rfl⟩))
    go_ret
    exact ⟨rfl, rfl⟩
  | true =>
    obtain ⟨h2, h97⟩ := good_bounds hg
    have ea := inR_eq p a
    have eb := inR_eq p b
    cases ha : inB p a with
    | false =>
      have e1 : twoB p a b = false := by simp [twoB, ha]
      rw [e1]
      clear e1
      go_enter Tryd.func38, Tryd.ntmps38
      go_wp2_with (first | (go_at_call 36; ((with_reducible refine (fdGood_any _ _).mono ?_); rintro e w' ⟨rfl, rfl⟩)) | (go_at_call 47; ((with_reducible refine (l1In_any _ _ _ _).mono ?_); rintro e w' ⟨rfl, rfl⟩)))
      go_ret
      exact ⟨rfl, rfl⟩
    | true =>
      have e1 : twoB p a b = inB p b := by simp [twoB, ha, hg]
      rw [e1]
      clear e1
      go_enter Tryd.func38, Tryd.ntmps38
      go_wp2_with (first | (go_at_call 36; ((with_reducible refine (fdGood_any _ _).mono ?_); rintro e w' ⟨rfl, rfl⟩)) | (go_at_call 47; ((with_reducible refine (l1In_any _ _ _ _).mono ?_); rintro e w' ⟨rfl, rfl⟩)))
      go_ret
      exact ⟨rfl, rfl⟩

theorem tmod_neg {a p : Int} (hp : 0 < p) (h : a < 0) : -p < a.tmod p ∧ a.tmod p ≤ 0 ∧ (a.tmod p < 0 → a.tmod p + p = a % p) ∧ (a.tmod p = 0 → a % p = 0) := by
  have h1 : a.tmod p = -((-a) % p) := by
    rw [show a = -(-a) from by omega, Int.neg_tmod, Int.tmod_eq_emod_of_nonneg (by omega)]
    simp
  have h2 := Int.emod_nonneg (-a) (b := p) (by omega)
  have h3 := Int.emod_lt_of_pos (-a) hp
  have h5 := Int.mul_ediv_add_emod (-a) p
  refine ⟨by omega, by omega, fun hn => ?_, fun hz => ?_⟩
  · have e : a = (a.tmod p + p) + p * (-((-a) / p) - 1) := by
      rw [Int.mul_sub, Int.mul_neg]
      omega
    have := Int.add_mul_emod_self_left (a.tmod p + p) p (-((-a) / p) - 1)
    rw [← e] at this
    rw [this]
    exact (Int.emod_eq_of_lt (by omega) (by omega)).symm
  · have e : a = p * (-((-a) / p)) := by
      rw [Int.mul_neg]
      omega
    rw [e]
    exact Int.mul_emod_right _ _

/-- 'mod' at a prime: the remainder that is not negative. -/
theorem mod_any (p a : Int) (h2 : 2 ≤ p) (h97 : p ≤ 97) (w : World) :
    Calls Tryd.prog 41 #[.int .i64 p, .int .i64 a] w fun e w' => e = .returned (.int .i64 (a % p)) ∧ w = w' := by
  have hp0 : (p == 0) = false := by simp; omega
  by_cases h0 : 0 ≤ a
  · have hm := Int.emod_nonneg a (b := p) (by omega)
    have hlt := Int.emod_lt_of_pos a (b := p) (by omega)
    have hb : decide (a % p < 0) = false := by simp; omega
    go_enter Tryd.func41, Tryd.ntmps41
    go_wp2
    go_ret
    exact ⟨rfl, rfl⟩
  · obtain ⟨t1, t2, t3, t4⟩ := tmod_neg (a := a) (p := p) (by omega) (by omega)
    by_cases ht : a.tmod p < 0
    · have hb : decide (a.tmod p < 0) = true := by simp; omega
      have e := Lib.hid (t3 ht)
      clear t3 t4 ht
      go_enter Tryd.func41, Tryd.ntmps41
      go_wp2
      go_ret
      exact ⟨ret_int e.out, rfl⟩
    · have hb : decide (a.tmod p < 0) = false := by simp; omega
      have e := Lib.hid (t4 (by omega))
      have e0 := Lib.hid (show a.tmod p = 0 by omega)
      clear t3 t4 ht
      go_enter Tryd.func41, Tryd.ntmps41
      go_wp2
      go_ret
      exact ⟨ret_int (e0.out.trans e.out.symm), rfl⟩

theorem fdAdd_any (p a b : Int) (hp : 2 ≤ p) (hp' : p ≤ 97) (ha : 0 ≤ a) (ha' : a < p) (hb : 0 ≤ b) (hb' : b < p) (w : World) :
    Calls Tryd.prog 39 #[.int .i64 p, .int .i64 a, .int .i64 b] w fun e w' => e = .returned (.int .i64 ((a + b) % p)) ∧ w = w' := by
  have hp0 : (p == 0) = false := by simp; omega
  go_enter Tryd.func39, Tryd.ntmps39
  go_wp2
  go_ret
  exact ⟨rfl, rfl⟩

theorem mul_bounds {p a b : Int} (hp' : p ≤ 97) (ha : 0 ≤ a) (ha' : a < p) (hb : 0 ≤ b) (hb' : b < p) : 0 ≤ a * b ∧ a * b ≤ 10000 := by
  refine ⟨Int.mul_nonneg ha hb, ?_⟩
  have : a * b ≤ 96 * 96 := Int.mul_le_mul (by omega) (by omega) hb (by omega)
  omega

theorem fdMul_any (p a b : Int) (hp : 2 ≤ p) (hp' : p ≤ 97) (ha : 0 ≤ a) (ha' : a < p) (hb : 0 ≤ b) (hb' : b < p) (w : World) :
    Calls Tryd.prog 42 #[.int .i64 p, .int .i64 a, .int .i64 b] w fun e w' => e = .returned (.int .i64 (a * b % p)) ∧ w = w' := by
  have hp0 : (p == 0) = false := by simp; omega
  obtain ⟨m0, m1⟩ := mul_bounds hp' ha ha' hb hb'
  go_enter Tryd.func42, Tryd.ntmps42
  go_wp2
  go_ret
  exact ⟨rfl, rfl⟩

theorem bit_any (b : Bool) (w : World) :
    Calls Tryd.prog 51 #[.bool b] w fun e w' => e = .returned (.int .i64 (if b = true then 1 else 0)) ∧ w = w' := by
  cases b <;>
  · go_enter Tryd.func51, Tryd.ntmps51
    go_wp2
    go_ret
    exact ⟨rfl, rfl⟩

/-- The order, by the reference. -/
theorem fdOrder_any (p a : Nat) (hg : goodN p = true) (hp : p < 98) (h2 : 2 ≤ p) (ha : a < p) (h1 : 1 ≤ a) (w : World) :
    Calls Tryd.prog 43 #[.int .i64 p, .int .i64 a] w fun e w' => e = .returned (.int .i64 (ordN p a)) ∧ w = w' := by
  obtain ⟨o1, o2, o3, o4⟩ := ord_spec hg hp ha h1
  have hp0 : ((p : Int) == 0) = false := by simp; omega
  have o3' := Lib.hid o3
  have o4' := Lib.hid o4
  clear o3 o4 hg
  go_enter Tryd.func43, Tryd.ntmps43
  go_wp2
  go_loop [5, 6] (fun n x => ∃ k y : Nat, 1 ≤ k ∧ k ≤ ordN p a ∧ n = .int .i64 k ∧ x = .int .i64 y ∧ y < p ∧ Hid (y = a ^ k % p)) (fun n _ => 100 - (intOf n).toNat)
  case atStart => exact ⟨1, a, by omega, by omega, rfl, rfl, ha, show _ = _ by rw [Nat.pow_one, Nat.mod_eq_of_lt ha]⟩
  case round =>
    obtain ⟨k, x, hk1, hko, rfl, rfl, hx, hs⟩ := hrel
    by_cases hlt : k < ordN p a
    · have hne := o4'.out k hk1 hlt
      rw [← hs.out] at hne
      have hs' := Lib.hid (show x * a % p = a ^ (k + 1) % p by rw [hs.out, pow_step])
      clear o4' hs
      have hb : ((x : Int) != 1) = true := by simp; omega
      obtain ⟨m0, m1⟩ := mul_bounds (p := p) (a := x) (b := a) (by omega) (by omega) (by omega) (by omega) (by omega)
      go_wp2
      go_round
      case rel => exact ⟨k + 1, x * a % p, by omega, by omega, by go_num, rfl, Nat.mod_lt _ (by omega), hs'⟩
      case measure => simp [intOf]; omega
    · obtain rfl : k = ordN p a := by omega
      have hx1 : x = 1 := hs.out.trans o3'.out
      subst hx1
      go_wp2
      go_ret
      exact ⟨rfl, rfl⟩

/-- The order, by the program. -/
theorem order_any (p a : Nat) (hg : goodN p = true) (hp : p < 98) (h2 : 2 ≤ p) (ha : a < p) (h1 : 1 ≤ a) (w : World) :
    Calls Tryd.prog 44 #[.int .i64 p, .int .i64 a] w fun e w' => e = .returned (.int .i64 (ordN p a)) ∧ w = w' := by
  obtain ⟨o1, o2, o3, o4⟩ := ord_spec hg hp ha h1
  have hp0 : ((p : Int) == 0) = false := by simp; omega
  have o3' := Lib.hid o3
  have o4' := Lib.hid o4
  clear o3 o4 hg
  go_enter Tryd.func44, Tryd.ntmps44
  go_wp2
  go_loop [5, 6] (fun n x => ∃ k y : Nat, 1 ≤ k ∧ k ≤ ordN p a ∧ n = .int .i64 k ∧ x = .int .i64 y ∧ y < p ∧ Hid (y = a ^ k % p)) (fun n _ => 100 - (intOf n).toNat)
  case atStart => exact ⟨1, a, by omega, by omega, rfl, rfl, ha, show _ = _ by rw [Nat.pow_one, Nat.mod_eq_of_lt ha]⟩
  case round =>
    obtain ⟨k, x, hk1, hko, rfl, rfl, hx, hs⟩ := hrel
    by_cases hlt : k < ordN p a
    · have hne := o4'.out k hk1 hlt
      rw [← hs.out] at hne
      have hs' := Lib.hid (show x * a % p = a ^ (k + 1) % p by rw [hs.out, pow_step])
      clear o4' hs
      have hb : ((x : Int) != 1) = true := by simp; omega
      obtain ⟨m0, m1⟩ := mul_bounds (p := p) (a := x) (b := a) (by omega) (by omega) (by omega) (by omega) (by omega)
      go_wp2
      go_round
      case rel => exact ⟨k + 1, x * a % p, by omega, by omega, by go_num, rfl, Nat.mod_lt _ (by omega), hs'⟩
      case measure => simp [intOf]; omega
    · obtain rfl : k = ordN p a := by omega
      have hx1 : x = 1 := hs.out.trans o3'.out
      subst hx1
      go_wp2
      go_ret
      exact ⟨rfl, rfl⟩

/-- The inverse, by the reference. -/
theorem fdInv_any (p a : Nat) (hp : p < 98) (h2 : 2 ≤ p) (ha : a < p) (w : World) :
    Calls Tryd.prog 45 #[.int .i64 p, .int .i64 a] w fun e w' => e = .returned (.int .i64 (invN p a)) ∧ w = w' := by
  have hp0 : ((p : Int) == 0) = false := by simp; omega
  have hinv := Lib.hid (inv_spec p a)
  go_enter Tryd.func45, Tryd.ntmps45
  go_wp2
  go_loop [5] (fun x => ∃ k : Nat, 1 ≤ k ∧ k ≤ p ∧ x = .int .i64 k ∧ Hid (∀ j, 1 ≤ j → j < k → a * j % p ≠ 1)) (fun x => 100 - (intOf x).toNat)
  case atStart => exact ⟨1, by omega, by omega, rfl, fun j h1 h2 => by omega⟩
  case round =>
    obtain ⟨k, hk1, hkp, rfl, hall⟩ := hrel
    by_cases hlt : k < p
    · have hb0 : decide ((k : Int) < (p : Int)) = true := by simp; omega
      obtain ⟨m0, m1⟩ := mul_bounds (p := p) (a := a) (b := k) (by omega) (by omega) (by omega) (by omega) (by omega)
      by_cases hm : a * k % p = 1
      · have hb : ((a : Int) * (k : Int) % (p : Int) == 1) = true := by
          rw [beq_iff_eq]; exact_mod_cast hm
        have hr : Hid (invN p a = k) := by
          rcases hinv.out with ⟨x, x1, xp, e, ex, xall⟩ | ⟨_, xall⟩
          · show _ = _
            rw [e]
            rcases Nat.lt_trichotomy x k with h | h | h
            · exact (hall.out x x1 h ex).elim
            · exact h
            · exact (xall k hk1 h hm).elim
          · exact (xall k hk1 hlt hm).elim
        clear hm
        go_wp2
        go_ret
        exact ⟨ret_int (by rw [hr.out]), rfl⟩
      · have hb : ((a : Int) * (k : Int) % (p : Int) == 1) = false := by
          rw [beq_eq_false_iff_ne]; exact_mod_cast hm
        have hall2 : Hid (∀ j, 1 ≤ j → j < k + 1 → a * j % p ≠ 1) := fun j h1 h2 => by
          by_cases e : j = k
          · subst e; exact hm
          · exact hall.out j h1 (by omega)
        clear hm
        go_wp2
        go_round
        case rel => exact ⟨k + 1, by omega, by omega, by go_num, hall2⟩
        case measure => simp [intOf]; omega
    · obtain rfl : k = p := by omega
      have hr : Hid (invN k a = 0) := by
        rcases hinv.out with ⟨x, x1, xp, e, ex, xall⟩ | ⟨e, _⟩
        · exact (hall.out x x1 xp ex).elim
        · exact e
      go_wp2
      go_ret
      exact ⟨ret_int (by rw [hr.out]; rfl), rfl⟩

/-- A power, by the reference. -/
theorem fdPow_any (p a n r : Nat) (hr : Hid (a ^ n % p = r)) (hp : p < 98) (h2 : 2 ≤ p) (ha : a < p) (hn : n ≤ 100000) (w : World) :
    Calls Tryd.prog 48 #[.int .i64 p, .int .i64 a, .int .i64 n] w fun e w' => e = .returned (.int .i64 r) ∧ w = w' := by
  have hp0 : ((p : Int) == 0) = false := by simp; omega
  go_enter Tryd.func48, Tryd.ntmps48
  go_wp2
  go_loop [2, 7] (fun n' x => ∃ k y : Nat, k ≤ n ∧ n' = .int .i64 ((n - k : Nat) : Int) ∧ x = .int .i64 y ∧ y < p ∧ Hid (y = a ^ k % p)) (fun n' _ => (intOf n').toNat)
  case atStart => exact ⟨0, 1, by omega, rfl, rfl, by omega, show _ = _ by rw [Nat.pow_zero, Nat.mod_eq_of_lt (by omega)]⟩
  case round =>
    obtain ⟨k, x, hkn, rfl, rfl, hx, hs⟩ := hrel
    by_cases hlt : k < n
    · obtain ⟨m, hm⟩ : ∃ m, n - k = m + 1 := ⟨n - k - 1, by omega⟩
      have hm' : n - (k + 1) = m := by omega
      rw [hm]
      have hm2 := Lib.hid hm'
      have hml : m ≤ 100000 := by omega
      clear hm hm'
      have hs' := Lib.hid (show x * a % p = a ^ (k + 1) % p by rw [hs.out, pow_step])
      clear hs
      obtain ⟨m0, m1⟩ := mul_bounds (p := p) (a := x) (b := a) (by omega) (by omega) (by omega) (by omega) (by omega)
      go_wp2
      go_round
      case rel => exact ⟨k + 1, x * a % p, by omega, by rw [hm2.out], rfl, Nat.mod_lt _ (by omega), hs'⟩
      case measure => simp [intOf]
    · obtain rfl : k = n := by omega
      rw [Nat.sub_self]
      go_wp2
      go_ret
      exact ⟨ret_int (by rw [hs.out, hr.out]), rfl⟩

/-- A power, by squaring. -/
theorem sq_odd {p out a n : Nat} (hn : n % 2 = 1) : (out * a % p) * (a * a % p) ^ (n / 2) % p = out * a ^ n % p := by
  have e : n = 2 * (n / 2) + 1 := by omega
  conv => rhs; rw [e, Nat.pow_succ, Nat.pow_mul]
  rw [Nat.mul_mod, Nat.mod_mod, ← Nat.pow_mod, ← Nat.mul_mod, show a ^ 2 = a * a from Nat.pow_two a, Nat.mul_assoc, Nat.mul_comm a]
theorem sq_even {p out a n : Nat} (hn : n % 2 = 0) : out * (a * a % p) ^ (n / 2) % p = out * a ^ n % p := by
  have e : n = 2 * (n / 2) := by omega
  conv => rhs; rw [e, Nat.pow_mul]
  rw [Nat.mul_mod, ← Nat.pow_mod, ← Nat.mul_mod, show a ^ 2 = a * a from Nat.pow_two a]

theorem power_any (p a n r : Nat) (hr : Hid (a ^ n % p = r)) (hp : p < 98) (h2 : 2 ≤ p) (ha : a < p) (hn : n ≤ 100000) (w : World) :
    Calls Tryd.prog 49 #[.int .i64 p, .int .i64 a, .int .i64 n] w fun e w' => e = .returned (.int .i64 r) ∧ w = w' := by
  have hp0 : ((p : Int) == 0) = false := by simp; omega
  have h1p : (1 : Int) % (p : Int) = 1 := by rw [Int.emod_eq_of_lt] <;> omega
  go_enter Tryd.func49, Tryd.ntmps49
  go_wp2
  go_loop [1, 2, 7] (fun b m x => ∃ c k y : Nat, b = .int .i64 c ∧ m = .int .i64 k ∧ x = .int .i64 y ∧ c < p ∧ k ≤ 100000 ∧ y < p ∧ Hid (y * c ^ k % p = r)) (fun _ m _ => (intOf m).toNat)
  case atStart => exact ⟨a, n, 1, rfl, rfl, by rw [h1p]; rfl, ha, hn, by omega, show _ = _ by rw [Nat.one_mul]; exact hr⟩
  case round =>
    obtain ⟨c, k, y, rfl, rfl, rfl, hc, hk, hy, hs⟩ := hrel
    obtain ⟨m0, m1⟩ := mul_bounds (p := p) (a := y) (b := c) (by omega) (by omega) (by omega) (by omega) (by omega)
    obtain ⟨m2, m3⟩ := mul_bounds (p := p) (a := c) (b := c) (by omega) (by omega) (by omega) (by omega) (by omega)
    by_cases h0 : k = 0
    · subst h0
      have e : Hid (y = r) := by
        show _ = _
        rw [← hs.out, Nat.pow_zero, Nat.mul_one, Nat.mod_eq_of_lt hy]
      go_wp2
      go_ret
      exact ⟨ret_int (by rw [e.out]), rfl⟩
    · have hk0 : 0 < k := by omega
      by_cases ho : k % 2 = 1
      · have hb : ((k : Int) % 2 == 1) = true := by simp; omega
        have hs' := Lib.hid (show (y * c % p) * (c * c % p) ^ (k / 2) % p = r by rw [sq_odd ho]; exact hs.out)
        clear hs ho h0
        go_wp2
        go_round
        case rel => exact ⟨c * c % p, k / 2, y * c % p, rfl, by go_num, rfl, Nat.mod_lt _ (by omega), by omega, Nat.mod_lt _ (by omega), hs'⟩
        case measure => simp [intOf]; omega
      · have hb : ((k : Int) % 2 == 1) = false := by simp; omega
        have hs' := Lib.hid (show y * (c * c % p) ^ (k / 2) % p = r by rw [sq_even (by omega)]; exact hs.out)
        clear hs ho h0
        go_wp2
        go_round
        case rel => exact ⟨c * c % p, k / 2, y, rfl, by go_num, rfl, Nat.mod_lt _ (by omega), by omega, by omega, hs'⟩
        case measure => simp [intOf]; omega

theorem inverse_any (p a : Nat) (hg : goodN p = true) (hp : p < 98) (h2 : 2 ≤ p) (ha : a < p) (h1 : 1 ≤ a) (w : World) :
    Calls Tryd.prog 46 #[.int .i64 p, .int .i64 a] w fun e w' => e = .returned (.int .i64 (invN p a)) ∧ w = w' := by
  have hinv := Lib.hid (inv_pow p hp hg a ha h1)
  clear hg
  by_cases h : p = 2
  · subst h
    go_enter Tryd.func46, Tryd.ntmps46
    go_wp2_with (first | (go_at_call 51; ((with_reducible refine (bit_any _ _).mono ?_); rintro e w' ⟨rfl, rfl⟩)) | (go_at_call 49; ((refine (power_any 2 a 1 _ hinv (by omega) (by omega) (by omega) (by omega) _).mono ?_); rintro e w' ⟨rfl, rfl⟩)))
    go_ret
    exact ⟨rfl, rfl⟩
  · have hb : ((p : Int) == 2) = false := by simp; omega
    obtain ⟨m, hm⟩ : ∃ m, p - 2 = m := ⟨_, rfl⟩
    have hm' : (p : Int) - 2 = (m : Int) := by omega
    have hinv2 := Lib.hid (show a ^ m % p = invN p a by have := hinv.out; rw [if_neg h, hm] at this; exact this)
    have hml : m ≤ 100000 := by omega
    clear hinv hm h
    go_enter Tryd.func46, Tryd.ntmps46
    go_wp2_with (first | (go_at_call 51; ((with_reducible refine (bit_any _ _).mono ?_); rintro e w' ⟨rfl, rfl⟩)) | (go_at_call 49; ((with_reducible refine (power_any p a m _ hinv2 hp h2 ha hml _).mono ?_); rintro e w' ⟨rfl, rfl⟩)))
    go_ret
    exact ⟨rfl, rfl⟩

end Fld
end Go.Proofs.YtkkiconlcboehaaDoor
