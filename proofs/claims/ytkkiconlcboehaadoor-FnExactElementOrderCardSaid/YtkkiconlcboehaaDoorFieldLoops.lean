/- The searching functions of the field chapter: roots, logarithms. -/
import Derived.Test.YtkkiconlcboehaaDoorFieldWalks3
namespace Go.Proofs.YtkkiconlcboehaaDoor
open Go.RowKit
namespace Fld

def sqQ (p a : Nat) : Nat → Bool := fun x => decide (x * x % p = a)
def logQ (p base a : Nat) : Nat → Bool := fun n => decide (base ^ n % p = a)
def rootQ (p : Nat) : Nat → Bool := fun a => decide (1 ≤ a) && decide (ordN p a = p - 1)

set_option maxHeartbeats 1000000 in
theorem spec_SquareRoot_yes (p a r : Nat) (b : Bool) (hr : Hid (hitN p (sqQ p a) = (r, b))) (h2 : 2 ≤ p) (h97 : p ≤ 97) (htwo : twoB p a 0 = true) (w : World) :
    Calls Tryd.prog 21 #[.int .i64 p, .int .i64 a] w fun e w' => e = .returned (.tuple #[.int .i64 r, .bool b]) ∧ w = w' := by
  have hp0 : ((p : Int) == 0) = false := by simp; omega
  go_enter Tryd.func21, Tryd.ntmps21
  go_wp2_with (go_at_call 38; ((with_reducible refine (fdTwo_any _ _ _ _).mono ?_); rintro e w' ⟨rfl, rfl⟩))
  go_loop [6] (fun x => ∃ k : Nat, k ≤ p ∧ x = .int .i64 k ∧ Hid (∀ j, j < k → sqQ p a j = false)) (fun x => 100 - (intOf x).toNat)
  case atStart => exact ⟨0, by omega, rfl, fun j h => by omega⟩
  case round =>
    obtain ⟨k, hk, rfl, hall⟩ := hrel
    by_cases hlt : k < p
    · obtain ⟨m0, m1⟩ := mul_bounds (p := p) (a := k) (b := k) (by omega) (by omega) (by omega) (by omega) (by omega)
      by_cases hm : k * k % p = a
      · have hb : ((k : Int) * (k : Int) % (p : Int) == (a : Int)) = true := by
          rw [beq_iff_eq]; exact_mod_cast hm
        obtain ⟨rfl, rfl⟩ := hit_at hr.out hlt (by simp [sqQ, hm]) hall.out
        clear hm
        go_wp2
        go_ret2
        exact ⟨rfl, rfl⟩
      · have hb : ((k : Int) * (k : Int) % (p : Int) == (a : Int)) = false := by
          rw [beq_eq_false_iff_ne]; exact_mod_cast hm
        have hall2 : Hid (∀ j, j < k + 1 → sqQ p a j = false) := fun j h => by
          by_cases e : j = k
          · subst e; simp [sqQ, hm]
          · exact hall.out j (by omega)
        clear hm
        go_wp2
        go_round
        case rel => exact ⟨k + 1, by omega, by go_num, hall2⟩
        case measure => simp [intOf]; omega
    · obtain rfl : k = p := by omega
      obtain ⟨rfl, rfl⟩ := hit_none hr.out hall.out
      go_wp2
      go_ret2
      exact ⟨rfl, rfl⟩

set_option maxHeartbeats 1000000 in
theorem impl_SquareRoot_yes (p a r : Nat) (b : Bool) (hr : Hid (hitN p (sqQ p a) = (r, b))) (h2 : 2 ≤ p) (h97 : p ≤ 97) (htwo : (goodB p && inB p a) = true) (w : World) (ht : Tab w) :
    Calls Tryd.prog 22 #[.int .i64 p, .int .i64 a] w fun e w' => e = .returned (.tuple #[.int .i64 r, .bool b]) ∧ Below w.heap.size w w' := by
  have hp0 : ((p : Int) == 0) = false := by simp; omega
  have hB : Hid (Below w.heap.size w (w.alloc (.cells #[.int .i64 a] 3))) := (Below.refl _ _).alloc (Nat.le_refl _) _
  go_enter Tryd.func22, Tryd.ntmps22
  go_wp2_with (go_at_call 40; ((with_reducible refine (areEl1 _ _ _ ht).mono ?_); rintro e w' ⟨rfl, rfl⟩))
  go_loop [13] (fun x => ∃ k : Nat, k ≤ p ∧ x = .int .i64 k ∧ Hid (∀ j, j < k → sqQ p a j = false)) (fun x => 100 - (intOf x).toNat)
  case atStart => exact ⟨0, by omega, rfl, fun j h => by omega⟩
  case round =>
    obtain ⟨k, hk, rfl, hall⟩ := hrel
    by_cases hlt : k < p
    · obtain ⟨m0, m1⟩ := mul_bounds (p := p) (a := k) (b := k) (by omega) (by omega) (by omega) (by omega) (by omega)
      by_cases hm : k * k % p = a
      · have hb : ((k : Int) * (k : Int) % (p : Int) == (a : Int)) = true := by
          rw [beq_iff_eq]; exact_mod_cast hm
        obtain ⟨rfl, rfl⟩ := hit_at hr.out hlt (by simp [sqQ, hm]) hall.out
        clear hm
        go_wp2
        go_ret2
        exact ⟨rfl, hB.out⟩
      · have hb : ((k : Int) * (k : Int) % (p : Int) == (a : Int)) = false := by
          rw [beq_eq_false_iff_ne]; exact_mod_cast hm
        have hall2 : Hid (∀ j, j < k + 1 → sqQ p a j = false) := fun j h => by
          by_cases e : j = k
          · subst e; simp [sqQ, hm]
          · exact hall.out j (by omega)
        clear hm
        go_wp2
        go_round
        case rel => exact ⟨k + 1, by omega, by go_num, hall2⟩
        case measure => simp [intOf]; omega
    · obtain rfl : k = p := by omega
      obtain ⟨rfl, rfl⟩ := hit_none hr.out hall.out
      go_wp2
      go_ret2
      exact ⟨rfl, hB.out⟩

set_option maxHeartbeats 1000000 in
theorem spec_DiscreteLog_yes (p base a r : Nat) (b : Bool) (hr : Hid (hitN p (logQ p base a) = (r, b))) (h2 : 2 ≤ p) (h97 : p ≤ 97) (hba : base < p) (htwo : twoB p base a = true) (w : World) :
    Calls Tryd.prog 23 #[.int .i64 p, .int .i64 base, .int .i64 a] w fun e w' => e = .returned (.tuple #[.int .i64 r, .bool b]) ∧ w = w' := by
  have hp0 : ((p : Int) == 0) = false := by simp; omega
  go_enter Tryd.func23, Tryd.ntmps23
  go_wp2_with (go_at_call 38; ((with_reducible refine (fdTwo_any _ _ _ _).mono ?_); rintro e w' ⟨rfl, rfl⟩))
  go_loop [8, 9] (fun x n => ∃ k y : Nat, k ≤ p ∧ n = .int .i64 k ∧ x = .int .i64 y ∧ y < p ∧ Hid (y = base ^ k % p) ∧ Hid (∀ j, j < k → logQ p base a j = false)) (fun _ n => 100 - (intOf n).toNat)
  case atStart => exact ⟨0, 1, by omega, rfl, rfl, by omega, show _ = _ by rw [Nat.pow_zero, Nat.mod_eq_of_lt (by omega)], fun j h => by omega⟩
  case round =>
    obtain ⟨k, y, hk, rfl, rfl, hy, hs, hall⟩ := hrel
    by_cases hlt : k < p
    · obtain ⟨m0, m1⟩ := mul_bounds (p := p) (a := y) (b := base) (by omega) (by omega) (by omega) (by omega) (by omega)
      by_cases hm : y = a
      · subst hm
        obtain ⟨rfl, rfl⟩ := hit_at hr.out hlt (by simp [logQ, hs.out]) hall.out
        go_wp2
        go_ret2
        exact ⟨rfl, rfl⟩
      · have hb : ((y : Int) == (a : Int)) = false := by simp; omega
        have hall2 : Hid (∀ j, j < k + 1 → logQ p base a j = false) := fun j h => by
          by_cases e : j = k
          · subst e
            have := hs.out
            simp only [logQ, decide_eq_false_iff_not]
            rw [← this]; exact hm
          · exact hall.out j (by omega)
        have hs' := Lib.hid (show y * base % p = base ^ (k + 1) % p by rw [hs.out, pow_step])
        clear hm
        go_wp2
        go_round
        case rel => exact ⟨k + 1, y * base % p, by omega, by go_num, rfl, Nat.mod_lt _ (by omega), hs', hall2⟩
        case measure => simp [intOf]; omega
    · obtain rfl : k = p := by omega
      obtain ⟨rfl, rfl⟩ := hit_none hr.out hall.out
      go_wp2
      go_ret2
      exact ⟨rfl, rfl⟩

set_option maxHeartbeats 1000000 in
theorem impl_DiscreteLog_yes (p base a r : Nat) (b : Bool) (hr : Hid (hitN (p + 1) (logQ p base a) = (r, b))) (h2 : 2 ≤ p) (h97 : p ≤ 97) (hba : base < p) (htwo : twoB p base a = true) (w : World) (ht : Tab w) :
    Calls Tryd.prog 24 #[.int .i64 p, .int .i64 base, .int .i64 a] w fun e w' => e = .returned (.tuple #[.int .i64 r, .bool b]) ∧ Below w.heap.size w w' := by
  have hp0 : ((p : Int) == 0) = false := by simp; omega
  have hB : Hid (Below w.heap.size w (w.alloc (.cells #[.int .i64 base, .int .i64 a] 3))) := (Below.refl _ _).alloc (Nat.le_refl _) _
  go_enter Tryd.func24, Tryd.ntmps24
  go_wp2_with (go_at_call 40; ((with_reducible refine (areEl2 _ _ _ _ ht).mono ?_); rintro e w' ⟨rfl, rfl⟩))
  go_loop [8, 9] (fun x n => ∃ k y : Nat, k ≤ p + 1 ∧ n = .int .i64 k ∧ x = .int .i64 y ∧ y < p ∧ Hid (y = base ^ k % p) ∧ Hid (∀ j, j < k → logQ p base a j = false)) (fun _ n => 100 - (intOf n).toNat)
  case atStart => exact ⟨0, 1, by omega, rfl, rfl, by omega, show _ = _ by rw [Nat.pow_zero, Nat.mod_eq_of_lt (by omega)], fun j h => by omega⟩
  case round =>
    obtain ⟨k, y, hk, rfl, rfl, hy, hs, hall⟩ := hrel
    by_cases hlt : k < p + 1
    · obtain ⟨m0, m1⟩ := mul_bounds (p := p) (a := y) (b := base) (by omega) (by omega) (by omega) (by omega) (by omega)
      have hle : decide ((k : Int) ≤ (p : Int)) = true := by simp; omega
      by_cases hm : y = a
      · subst hm
        obtain ⟨rfl, rfl⟩ := hit_at hr.out hlt (by simp [logQ, hs.out]) hall.out
        go_wp2
        go_ret2
        exact ⟨rfl, hB.out⟩
      · have hb : ((y : Int) == (a : Int)) = false := by simp; omega
        have hall2 : Hid (∀ j, j < k + 1 → logQ p base a j = false) := fun j h => by
          by_cases e : j = k
          · subst e
            have := hs.out
            simp only [logQ, decide_eq_false_iff_not]
            rw [← this]; exact hm
          · exact hall.out j (by omega)
        have hs' := Lib.hid (show y * base % p = base ^ (k + 1) % p by rw [hs.out, pow_step])
        clear hm
        go_wp2
        go_round
        case rel => exact ⟨k + 1, y * base % p, by omega, by go_num, rfl, Nat.mod_lt _ (by omega), hs', hall2⟩
        case measure => simp [intOf]; omega
    · obtain rfl : k = p + 1 := by omega
      have hle : decide (((p + 1 : Nat) : Int) ≤ (p : Int)) = false := by simp; omega
      obtain ⟨rfl, rfl⟩ := hit_none hr.out hall.out
      go_wp2
      go_ret2
      exact ⟨rfl, hB.out⟩

set_option maxHeartbeats 1000000 in
theorem spec_PrimitiveRoot_yes (p r : Nat) (hr : Hid (hitN p (rootQ p) = (r, true))) (hg : goodN p = true) (h2 : 2 ≤ p) (h97 : p ≤ 97) (hgb : goodB p = true) (w : World) :
    Calls Tryd.prog 19 #[.int .i64 p] w fun e w' => e = .returned (.tuple #[.int .i64 r, .bool true]) ∧ w = w' := by
  have hrp : Hid (r < p ∧ rootQ p r = true) := by
    have h := hr.out
    unfold hitN at h
    cases hf : (List.range p).find? (rootQ p) with
    | none => rw [hf] at h; simp at h
    | some x =>
      rw [hf] at h
      obtain ⟨h1, h2, h3⟩ := find_range hf
      simp only [Prod.mk.injEq] at h
      obtain rfl := h.1
      exact ⟨h1, h2⟩
  go_enter Tryd.func19, Tryd.ntmps19
  go_wp2_with (go_at_call 36; ((with_reducible refine (fdGood_any _ _).mono ?_); rintro e w' ⟨rfl, rfl⟩))
  go_loop [4] (fun x => ∃ k : Nat, 1 ≤ k ∧ k ≤ r ∧ x = .int .i64 k ∧ Hid (∀ j, j < k → rootQ p j = false)) (fun x => 100 - (intOf x).toNat)
  case atStart =>
    obtain ⟨h1, h3⟩ := hrp.out
    have hr1 : 1 ≤ r := by
      simp [rootQ] at h3; exact h3.1
    exact ⟨1, by omega, hr1, rfl, fun j h => by obtain rfl : j = 0 := (by omega); rfl⟩
  case round =>
    obtain ⟨k, hk1, hk, rfl, hall⟩ := hrel
    have hrp' := hrp.out.1
    obtain ⟨o1, o2, _, _⟩ := ord_spec hg (by omega) (show k < p by omega) hk1
    obtain ⟨o, ho⟩ : ∃ o, ordN p k = o := ⟨_, rfl⟩
    have hor := fdOrder_any p k hg (by omega) h2 (show k < p by omega) hk1 w
    rw [ho] at o1 o2 hor
    have hor' := Lib.hid hor
    have ho' := Lib.hid ho
    have hg' := Lib.hid hg
    clear hor ho hg
    by_cases hm : o = p - 1
    · have hb : ((o : Int) != (p : Int) - 1) = false := by simp; omega
      have hrq : rootQ p k = true := by simp [rootQ, hk1, ho'.out, hm]
      obtain ⟨rfl, _⟩ := hit_at hr.out (by omega) hrq hall.out
      clear hm hrq
      go_wp2_with (go_at_call 43; ((with_reducible refine (hor'.out).mono ?_); rintro e w' ⟨rfl, rfl⟩))
      go_ret2
      exact ⟨rfl, rfl⟩
    · have hb : ((o : Int) != (p : Int) - 1) = true := by simp; omega
      have hrk : k < r := by
        rcases Nat.lt_or_ge k r with h | h
        · exact h
        · obtain rfl : k = r := by omega
          have := hrp.out.2
          simp [rootQ, ho'.out, hm] at this
      have hall2 : Hid (∀ j, j < k + 1 → rootQ p j = false) := fun j h => by
        by_cases e : j = k
        · subst e; simp [rootQ, ho'.out, hm]
        · exact hall.out j (by omega)
      clear hm
      go_wp2_with (go_at_call 43; ((with_reducible refine (hor'.out).mono ?_); rintro e w' ⟨rfl, rfl⟩))
      go_round
      case rel => exact ⟨k + 1, by omega, by omega, by go_num, hall2⟩
      case measure => simp [intOf]; omega

set_option maxHeartbeats 1000000 in
theorem impl_PrimitiveRoot_yes (p r : Nat) (b : Bool) (hr : Hid (hitN p (rootQ p) = (r, b))) (hg : goodN p = true) (h2 : 2 ≤ p) (h97 : p ≤ 97) (hgb : goodB p = true) (w : World) (ht : Tab w) :
    Calls Tryd.prog 20 #[.int .i64 p] w fun e w' => e = .returned (.tuple #[.int .i64 r, .bool b]) ∧ w = w' := by
  go_enter Tryd.func20, Tryd.ntmps20
  go_wp2_with (go_at_call 37; ((with_reducible refine (isField_any _ _ ht).mono ?_); rintro e w' ⟨rfl, rfl⟩))
  go_loop [4] (fun x => ∃ k : Nat, 1 ≤ k ∧ k ≤ p ∧ x = .int .i64 k ∧ Hid (∀ j, j < k → rootQ p j = false)) (fun x => 100 - (intOf x).toNat)
  case atStart => exact ⟨1, by omega, by omega, rfl, fun j h => by obtain rfl : j = 0 := (by omega); rfl⟩
  case round =>
    obtain ⟨k, hk1, hk, rfl, hall⟩ := hrel
    by_cases hlt : k < p
    · obtain ⟨o1, o2, _, _⟩ := ord_spec hg (by omega) hlt hk1
      obtain ⟨o, ho⟩ : ∃ o, ordN p k = o := ⟨_, rfl⟩
      have hor := order_any p k hg (by omega) h2 hlt hk1 w
      rw [ho] at o1 o2 hor
      have hor' := Lib.hid hor
      have ho' := Lib.hid ho
      have hg' := Lib.hid hg
      clear hor ho hg
      by_cases hm : o = p - 1
      · have hb : ((o : Int) == (p : Int) - 1) = true := by simp; omega
        have hrq : rootQ p k = true := by simp [rootQ, hk1, ho'.out, hm]
        obtain ⟨rfl, rfl⟩ := hit_at hr.out hlt hrq hall.out
        clear hm hrq
        go_wp2_with (go_at_call 44; ((with_reducible refine (hor'.out).mono ?_); rintro e w' ⟨rfl, rfl⟩))
        go_ret2
        exact ⟨rfl, rfl⟩
      · have hb : ((o : Int) == (p : Int) - 1) = false := by simp; omega
        have hall2 : Hid (∀ j, j < k + 1 → rootQ p j = false) := fun j h => by
          by_cases e : j = k
          · subst e; simp [rootQ, ho'.out, hm]
          · exact hall.out j (by omega)
        clear hm
        go_wp2_with (go_at_call 44; ((with_reducible refine (hor'.out).mono ?_); rintro e w' ⟨rfl, rfl⟩))
        go_round
        case rel => exact ⟨k + 1, by omega, by omega, by go_num, hall2⟩
        case measure => simp [intOf]; omega
    · obtain rfl : k = p := by omega
      obtain ⟨rfl, rfl⟩ := hit_none hr.out hall.out
      go_wp2
      go_ret2
      exact ⟨rfl, rfl⟩

theorem root_hit (p : Nat) (hp : p < 98) (hg : goodN p = true) : ∃ r, hitN p (rootQ p) = (r, true) := by
  obtain ⟨a, ha, h1, ho⟩ := root_ex p hp hg
  unfold hitN
  cases hf : (List.range p).find? (rootQ p) with
  | none =>
    have := List.find?_eq_none.1 hf a (by simpa using ha)
    simp [rootQ, h1, ho] at this
  | some x => exact ⟨x, rfl⟩
theorem log_same (p base a : Nat) (hp : p < 98) (hg : goodN p = true) (h2 : 2 ≤ p) (hb : base < p) : hitN (p + 1) (logQ p base a) = hitN p (logQ p base a) := by
  unfold hitN
  rw [List.range_succ, List.find?_append]
  cases hf : (List.range p).find? (logQ p base a) with
  | some x => rfl
  | none =>
    have h1 := List.find?_eq_none.1 hf 1 (by simp; omega)
    have h3 := fermat p hp hg base hb
    have : logQ p base a p = false := by
      simp only [logQ, Nat.pow_one, Nat.mod_eq_of_lt hb, decide_eq_true_eq] at h1
      simp only [logQ, h3, decide_eq_false_iff_not]
      exact h1
    simp [this]

end Fld
end Go.Proofs.YtkkiconlcboehaaDoor
