/- Plain arithmetic of small prime fields: no program in sight. What the walks of the field chapter share. l1In isElement fdGood isField mod fdAdd fdMul fdInv power, inverse fdNeg fdSub -/
import Derived.WalkKit
import Derived.Test.YtoegbphkheohoaaBase
import Derived.Test.YtoegbphkheohoaaRows
import Derived.WalkSpells
import Derived.WalkLawsBesides
import Derived.Lib.Hide
namespace Go.Proofs.Ytoegbphkheohoaa
namespace Fld

/-- Is p a prime from 2 to 97? -/
def goodN (p : Nat) : Bool := decide (2 ≤ p) && decide (p ≤ 97) && [2, 3, 5, 7].all fun q => decide (p % q ≠ 0) || decide (p = q)
def goodB (p : Int) : Bool := decide (0 ≤ p) && goodN p.toNat
def inB (p a : Int) : Bool := decide (0 ≤ a) && decide (a < p)

theorem good_bounds {p : Int} (h : goodB p = true) : 2 ≤ p ∧ p ≤ 97 := by
  unfold goodB goodN at h
  simp only [Bool.and_eq_true, decide_eq_true_eq] at h
  omega
theorem good_low {p : Int} (h : p < 2) : goodB p = false := by
  cases hg : goodB p with
  | false => rfl
  | true => have := good_bounds hg; omega
theorem good_high {p : Int} (h : 97 < p) : goodB p = false := by
  cases hg : goodB p with
  | false => rfl
  | true => have := good_bounds hg; omega

theorem goodN_no : ∀ p < 98, ∀ k < 10, 2 ≤ k → k * k ≤ p → p % k = 0 → goodN p = false := by decide +kernel
theorem goodN_yes' : ∀ p < 98, 2 ≤ p → goodN p = false → ∃ k, k < 10 ∧ (2 ≤ k ∧ k * k ≤ p ∧ p % k = 0) := by decide +kernel
theorem goodN_yes (p : Nat) (hp : p < 98) (h2 : 2 ≤ p) (h : ∀ k < 10, 2 ≤ k → k * k ≤ p → p % k ≠ 0) : goodN p = true := by
  cases hg : goodN p with
  | true => rfl
  | false =>
    obtain ⟨k, hk, a, b, c⟩ := goodN_yes' p hp h2 hg
    exact (h k hk a b c).elim
theorem goodN_tab_no : ∀ p < 98, ∀ q ∈ [2, 3, 5, 7], p % q = 0 → p ≠ q → goodN p = false := by decide +kernel
theorem goodN_tab_yes : ∀ p < 98, 2 ≤ p → (∀ q ∈ [2, 3, 5, 7], p % q = 0 → p = q) → goodN p = true := by decide +kernel

theorem goodB_nat (p : Nat) : goodB (p : Int) = goodN p := by simp [goodB]

theorem good_no {p k : Nat} (hp : p ≤ 97) (hk : 2 ≤ k) (hkk : k * k ≤ p) (hm : p % k = 0) : goodB (p : Int) = false := by
  rw [goodB_nat]
  have : k < 10 := by
    rcases Nat.lt_or_ge k 10 with h | h
    · exact h
    · have := Nat.mul_le_mul h h; omega
  exact goodN_no p (by omega) k this hk hkk hm
theorem good_yes {p k : Nat} (h2 : 2 ≤ p) (hp : p ≤ 97) (hkk : p < k * k) (hall : ∀ j, 2 ≤ j → j < k → p % j ≠ 0) : goodB (p : Int) = true := by
  rw [goodB_nat]
  refine goodN_yes p (by omega) h2 fun j _ hj hjj => hall j hj ?_
  rcases Nat.lt_or_ge j k with h | h
  · exact h
  · have := Nat.mul_le_mul h h; omega

theorem in_bounds {p a : Int} (h : inB p a = true) : 0 ≤ a ∧ a < p := by
  simpa [inB] using h
theorem in_mk {p a : Int} (h0 : 0 ≤ a) (h1 : a < p) : inB p a = true := by simp [inB, h0, h1]
theorem in_low {p a : Int} (h : a < 0) : inB p a = false := by
  have : ¬ 0 ≤ a := by omega
  simp [inB, this]
theorem in_high {p a : Int} (h : p ≤ a) : inB p a = false := by
  have : ¬ a < p := by omega
  simp [inB, this]

/-- Does n lie from lo to hi? -/
def inR (n lo hi : Int) : Bool := decide (lo ≤ n) && decide (n ≤ hi)
theorem inR_eq (p a : Int) : inR a 0 (p - 1) = inB p a := by
  unfold inR inB
  congr 1
  exact decide_eq_decide.2 (by omega)
theorem inR_true {n lo hi : Int} (h : inR n lo hi = true) : lo ≤ n ∧ n ≤ hi := by simpa [inR] using h
theorem inR_mk {n lo hi : Int} (h0 : lo ≤ n) (h1 : n ≤ hi) : inR n lo hi = true := by simp [inR, h0, h1]
theorem inR_no {n lo hi : Int} (h : n < lo ∨ hi < n) : inR n lo hi = false := by
  unfold inR
  rcases h with h | h
  · have : ¬ lo ≤ n := by omega
    simp [this]
  · have : ¬ n ≤ hi := by omega
    simp [this]

def twoB (p a b : Int) : Bool := goodB p && inB p a && inB p b

theorem two_zero (p a : Int) : twoB p a 0 = (goodB p && inB p a) := by
  cases hg : goodB p with
  | false => simp [twoB, hg]
  | true =>
    have := good_bounds hg
    simp [twoB, hg, in_mk (Int.le_refl 0) (show 0 < p by omega)]

/-- The least x from 1 on with a x = 1. -/
def invN (p a : Nat) : Nat := ((List.range p).find? fun x => decide (1 ≤ x) && decide (a * x % p = 1)).getD 0
/-- The least n from 1 on with a^n = 1. -/
def ordN (p a : Nat) : Nat := ((List.range 98).find? fun n => decide (1 ≤ n) && decide (a ^ n % p = 1)).getD 0

theorem find_range {n : Nat} {q : Nat → Bool} {k : Nat} (h : (List.range n).find? q = some k) : k < n ∧ q k = true ∧ ∀ j, j < k → q j = false := by
  have h1 := List.find?_some h
  have h2 := List.mem_of_find?_eq_some h
  have h3 := List.find?_eq_some_iff_getElem.1 h
  obtain ⟨_, i, hi, e, hall⟩ := h3
  simp at e
  subst e
  refine ⟨by simpa using h2, h1, fun j hj => ?_⟩
  have := hall j hj
  simpa using this

theorem ord_ex : ∀ p, p < 98 → goodN p = true → ∀ a, a < p → 1 ≤ a → ((List.range 98).find? fun n => decide (1 ≤ n) && decide (a ^ n % p = 1)).isSome = true := by decide +kernel
theorem ord_spec {p a : Nat} (hg : goodN p = true) (hp : p < 98) (ha : a < p) (h1 : 1 ≤ a) :
    1 ≤ ordN p a ∧ ordN p a < 98 ∧ a ^ ordN p a % p = 1 ∧ ∀ j, 1 ≤ j → j < ordN p a → a ^ j % p ≠ 1 := by
  have h := ord_ex p hp hg a ha h1
  unfold ordN
  generalize hf : (List.range 98).find? (fun n => decide (1 ≤ n) && decide (a ^ n % p = 1)) = o at h
  cases o with
  | none => cases h
  | some k =>
    obtain ⟨h2, h3, h4⟩ := find_range hf
    simp at h3
    refine ⟨h3.1, h2, h3.2, fun j hj hjk => ?_⟩
    have := h4 j hjk
    simp at this
    exact this hj
theorem inv_spec (p a : Nat) : (∃ x, 1 ≤ x ∧ x < p ∧ invN p a = x ∧ a * x % p = 1 ∧ ∀ j, 1 ≤ j → j < x → a * j % p ≠ 1) ∨ (invN p a = 0 ∧ ∀ j, 1 ≤ j → j < p → a * j % p ≠ 1) := by
  unfold invN
  cases hf : (List.range p).find? fun x => decide (1 ≤ x) && decide (a * x % p = 1) with
  | none =>
    right
    refine ⟨rfl, fun j hj hjp => ?_⟩
    have := List.find?_eq_none.1 hf j (by simpa using hjp)
    simp at this
    exact this hj
  | some k =>
    left
    obtain ⟨h2, h3, h4⟩ := find_range hf
    simp at h3
    refine ⟨k, h3.1, h2, rfl, h3.2, fun j hj hjk => ?_⟩
    have := h4 j hjk
    simp at this
    exact this hj
theorem inv_lt {p a : Nat} (hp : 0 < p) : invN p a < p := by
  rcases inv_spec p a with ⟨x, _, h, e, _⟩ | ⟨e, _⟩
  · omega
  · omega
theorem inv_pow : ∀ p, p < 98 → goodN p = true → ∀ a, a < p → 1 ≤ a → a ^ (p - 2 + (if p = 2 then 1 else 0)) % p = invN p a := by decide +kernel
theorem root_ex : ∀ p, p < 98 → goodN p = true → ∃ a, a < p ∧ (1 ≤ a ∧ ordN p a = p - 1) := by decide +kernel
theorem fermat : ∀ p, p < 98 → goodN p = true → ∀ a, a < p → a ^ p % p = a := by decide +kernel

theorem pow_step (p a n : Nat) : a ^ n % p * a % p = a ^ (n + 1) % p := by
  rw [Nat.pow_succ, Nat.mod_mul_mod]

/-- The first of 0, .., p - 1 that q takes. -/
def hitN (p : Nat) (q : Nat → Bool) : Nat × Bool := match (List.range p).find? q with
  | some x => (x, true)
  | none => (0, false)
theorem hit_at {p k r : Nat} {q : Nat → Bool} {b : Bool} (h : hitN p q = (r, b)) (hk : k < p) (hq : q k = true) (hall : ∀ j, j < k → q j = false) : r = k ∧ b = true := by
  unfold hitN at h
  cases hf : (List.range p).find? q with
  | none =>
    have := List.find?_eq_none.1 hf k (by simpa using hk)
    exact (this hq).elim
  | some x =>
    rw [hf] at h
    obtain ⟨h1, h2, h3⟩ := find_range hf
    have hx : x = k := by
      rcases Nat.lt_trichotomy x k with h4 | h4 | h4
      · rw [hall x h4] at h2; cases h2
      · exact h4
      · rw [h3 k h4] at hq; cases hq
    simp only [Prod.mk.injEq] at h
    exact ⟨h.1.symm.trans hx, h.2.symm⟩
theorem hit_none {p r : Nat} {q : Nat → Bool} {b : Bool} (h : hitN p q = (r, b)) (hall : ∀ j, j < p → q j = false) : r = 0 ∧ b = false := by
  unfold hitN at h
  cases hf : (List.range p).find? q with
  | none =>
    rw [hf] at h
    simp only [Prod.mk.injEq] at h
    exact ⟨h.1.symm, h.2.symm⟩
  | some x =>
    obtain ⟨h1, h2, h3⟩ := find_range hf
    rw [hall x h1] at h2; cases h2

end Fld
end Go.Proofs.Ytoegbphkheohoaa

namespace Go.Proofs.Ytoegbphkheohoaa
open Go.RowKit
namespace Fld

theorem ret_bool {a b : Bool} (h : a = b) : Ending.returned (.bool a) = .returned (.bool b) := by rw [h]
theorem ret_int {k : IntKind} {a b : Int} (h : a = b) : Ending.returned (.int k a) = .returned (.int k b) := by rw [h]

theorem mul_bounds {p a b : Int} (hp' : p ≤ 97) (ha : 0 ≤ a) (ha' : a < p) (hb : 0 ≤ b) (hb' : b < p) : 0 ≤ a * b ∧ a * b ≤ 10000 := by
  refine ⟨Int.mul_nonneg ha hb, ?_⟩
  have : a * b ≤ 96 * 96 := Int.mul_le_mul (by omega) (by omega) hb (by omega)
  omega


theorem tab_alloc {w : World} (h : Tab w) (o : Obj) : Tab (w.alloc o) := h.below (Nat.lt_of_lt_of_le h.size (Nat.le_refl _)) ((Below.refl _ _).alloc (Nat.le_refl _) o)

end Fld
end Go.Proofs.Ytoegbphkheohoaa

namespace Go.Proofs.Ytoegbphkheohoaa
open Go.RowKit
namespace Fld

set_option maxHeartbeats 400000 in
theorem l1In_any (n lo hi : Int) (w : World) :
    Calls Try.prog 47 #[.int .i64 n, .int .i64 lo, .int .i64 hi] w fun e w' => e = .returned (.bool (inR n lo hi)) ∧ w = w' := by
  by_cases h : lo ≤ n
  · have h1 : decide (lo ≤ n) = true := by simpa using h
    have e1 : inR n lo hi = decide (n ≤ hi) := by simp [inR, h]
    rw [e1]
    clear h e1
    go_enter Try.func47, Try.ntmps47
    go_wp2
    go_ret
    exact ⟨by simp, rfl⟩
  · have h1 : decide (lo ≤ n) = false := by simpa using h
    have e1 : inR n lo hi = false := by simp [inR, h]
    rw [e1]
    clear h e1
    go_enter Try.func47, Try.ntmps47
    go_wp2
    go_ret
    exact ⟨by simp, rfl⟩

end Fld
end Go.Proofs.Ytoegbphkheohoaa

namespace Go.Proofs.Ytoegbphkheohoaa
open Go.RowKit
namespace Fld

end Fld
end Go.Proofs.Ytoegbphkheohoaa

namespace Go.Proofs.Ytoegbphkheohoaa
open Go.RowKit
namespace Fld

end Fld
end Go.Proofs.Ytoegbphkheohoaa

namespace Go.Proofs.Ytoegbphkheohoaa
open Go.RowKit
namespace Fld

/-- What the table holds at k. -/
def tabN : Nat → Nat | 0 => 2 | 1 => 3 | 2 => 5 | _ => 7
theorem tabN_in : ∀ j, j < 4 → tabN j ∈ [2, 3, 5, 7] := by decide
theorem tabN_all : ∀ q ∈ [2, 3, 5, 7], ∃ j, j < 4 ∧ tabN j = q := by decide

end Fld
end Go.Proofs.Ytoegbphkheohoaa

namespace Go.Proofs.Ytoegbphkheohoaa
open Go.RowKit
namespace Fld

theorem tmod_neg {a p : Int} (hp : 0 < p) (h : a < 0) : -p < a.tmod p ∧ a.tmod p ≤ 0 ∧ (a.tmod p < 0 → a.tmod p + p = a % p) ∧ (a.tmod p = 0 → a % p = 0) := by
  have h1 : a.tmod p = -((-a) % p) := by
    rw [show a = -(-a) from by omega, Int.neg_tmod, Int.tmod_eq_emod_of_nonneg (by omega)]
    simp
  have h2 := Int.emod_nonneg (-a) (b := p) (by omega)
  have h3 := Int.emod_lt_of_pos (-a) hp
  have h5 := Int.mul_ediv_add_emod (-a) p
  refine ⟨by omega, by omega, fun hn => ?_, fun hz => ?_⟩
  · have e : a = (a.tmod p + p) + p * (-((-a) / p) - 1) := by
      rw [Int.mul_sub, Int.mul_neg]
      omega
    have := Int.add_mul_emod_self_left (a.tmod p + p) p (-((-a) / p) - 1)
    rw [← e] at this
    rw [this]
    exact (Int.emod_eq_of_lt (by omega) (by omega)).symm
  · have e : a = p * (-((-a) / p)) := by
      rw [Int.mul_neg]
      omega
    rw [e]
    exact Int.mul_emod_right _ _


end Fld
end Go.Proofs.Ytoegbphkheohoaa

namespace Go.Proofs.Ytoegbphkheohoaa
open Go.RowKit
namespace Fld

end Fld
end Go.Proofs.Ytoegbphkheohoaa

namespace Go.Proofs.Ytoegbphkheohoaa
open Go.RowKit
namespace Fld

end Fld
end Go.Proofs.Ytoegbphkheohoaa

namespace Go.Proofs.Ytoegbphkheohoaa
open Go.RowKit
namespace Fld

/-- A power, by squaring. -/
theorem sq_odd {p out a n : Nat} (hn : n % 2 = 1) : (out * a % p) * (a * a % p) ^ (n / 2) % p = out * a ^ n % p := by
  have e : n = 2 * (n / 2) + 1 := by omega
  conv => rhs; rw [e, Nat.pow_succ, Nat.pow_mul]
  rw [Nat.mul_mod, Nat.mod_mod, ← Nat.pow_mod, ← Nat.mul_mod, show a ^ 2 = a * a from Nat.pow_two a, Nat.mul_assoc, Nat.mul_comm a]
theorem sq_even {p out a n : Nat} (hn : n % 2 = 0) : out * (a * a % p) ^ (n / 2) % p = out * a ^ n % p := by
  have e : n = 2 * (n / 2) := by omega
  conv => rhs; rw [e, Nat.pow_mul]
  rw [Nat.mul_mod, ← Nat.pow_mod, ← Nat.mul_mod, show a ^ 2 = a * a from Nat.pow_two a]


end Fld
end Go.Proofs.Ytoegbphkheohoaa

namespace Go.Proofs.Ytoegbphkheohoaa
open Go.RowKit
namespace Fld

end Fld
end Go.Proofs.Ytoegbphkheohoaa

namespace Go.Proofs.Ytoegbphkheohoaa
open Go.RowKit
namespace Fld

end Fld
end Go.Proofs.Ytoegbphkheohoaa
