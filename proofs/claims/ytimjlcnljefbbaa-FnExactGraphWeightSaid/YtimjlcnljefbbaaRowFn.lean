/- The program's and the reference's functions on one list: zeros, copies, multiples. The reference's functions on one list that turn it in its place. -/
import Derived.Test.YtimjlcnljefbbaaMemB
import Derived.Test.YtimjlcnljefbbaaFx
import Derived.Deep.RegionHeld3
import Derived.Deep.AppendLies
import Derived.Deep.RegionLaw
namespace Go.Proofs.Ytimjlcnljefbbaa
open Go.RowKit
namespace Ints
-- nothing of it here

/-- A row of which the first k places have been turned. -/
def part (n k : Nat) (f g : Nat → Int) : List Int := rowT n fun j => if j < k then f j else g j
theorem part_zero {n : Nat} {f g : Nat → Int} : part n 0 f g = rowT n g := rowT_congr fun j _ => by simp
theorem part_end {n : Nat} {f g : Nat → Int} : part n n f g = rowT n f := rowT_congr fun j hj => by simp [hj]
theorem part_length {n k : Nat} {f g : Nat → Int} : (part n k f g).length = n := rowT_length _ _
theorem part_at {n k : Nat} {f g : Nat → Int} (h : k < n) : (part n k f g)[k]?.getD 0 = g k := by rw [part, rowT_at h]; simp
theorem part_set {n k : Nat} {f g : Nat → Int} : (part n k f g).set k (f k) = part n (k + 1) f g := by
  rw [part, rowT_set]
  apply rowT_congr
  intro j _
  by_cases e : j = k
  · subst e; simp
  · by_cases h : j < k
    · simp [e, h, show j < k + 1 by omega]
    · simp [e, h, show ¬ j < k + 1 by omega]
theorem part_start {l : List Int} {n : Nat} {f : Nat → Int} (h : l.length = n) : l = part n 0 f fun j => l[j]?.getD 0 := by rw [part_zero]; exact row_eq h

theorem zeros_any (n : Nat) (hn : n ≤ 1000) (w : World) :
    Calls Try.prog 85 #[.int .i64 n] w (NewInts w (rowT n fun _ => 0)) := by
  have hmk := run_make_row' (P := Try.prog) 36 3 (.int .i64 0) 8 Try.underlying36 infoI rfl .i64 .i64 n (by omega) (by omega)
  have hmade := owns_made w 3 (.int .i64 0) n (by unfold maxLen; omega)
  rw [← ofL_replicate] at hmade
  have H := Lib.hid hmade
  clear hmade
  go_enter Try.func85, Try.ntmps85
  go_wp2
  go_ret
  exact ⟨_, rfl, by rw [rowT_length]; exact H.out.1, H.out.2, (Below.refl _ _).alloc (Nat.le_refl _) _⟩

theorem unit_any (n k : Nat) (hn : n ≤ 1000) (hk : k < n) (w : World) :
    Calls Try.prog 72 #[.int .i64 n, .int .i64 k] w (NewInts w (rowT n fun j => if k = j then 1 else 0)) := by
  have hcall := Lib.hid (zeros_any n hn w)
  go_enter Try.func72, Try.ntmps72
  go_wp2_with fail
  refine hcall.out.mono ?_
  rintro e w1 ⟨v1, rfl, ho, hf, hb⟩
  rw [rowT_length] at ho
  obtain ⟨_, a, cap, rfl, hm, hc⟩ := open_owns ho
  obtain ⟨g, off, rfl, hg, hj⟩ := hc (by omega)
  have hx := (hj k hk).1
  have hfr := (hj k hk).2.1
  have hst := (hj k hk).2.2 1
  have hfg : w.heap.size ≤ g := hf g (ofL_ne.2 (List.length_pos_iff.1 (by rw [rowT_length]; omega))) rfl
  have e1 : (rowT n fun _ => (0 : Int)).set k 1 = rowT n fun j => if k = j then 1 else 0 := by
    rw [rowT_set]
    apply rowT_congr
    intro j _
    by_cases e : j = k
    · subst e; simp
    · simp [e, show ¬ k = j from fun h => e h.symm]
  rw [e1] at hst
  have H1 := Lib.hid hst
  have H2 := Lib.hid (hb.setCell (p := ⟨g, off + k, none⟩) hfg (.int .i64 1))
  clear hc hj hst hf hb ho e1 hcall
  generalize (rowT n fun _ => 0)[k]?.getD 0 = x at *
  have hk0 : 0 ≤ (k : Int) := by omega
  have hkn : (k : Int) < (n : Int) := by omega
  go_wp2
  go_ret
  refine ⟨_, rfl, by rw [rowT_length]; exact H1.out, fun g' _ hg' => ?_, H2.out⟩
  simp [Value.ownBlock] at hg'
  omega

theorem times_bounds {b x : Int} (hb : -10000 ≤ b) (hb' : b ≤ 10000) (hx : 0 ≤ x) (hx' : x < 97) : -970000 ≤ b * x ∧ b * x ≤ 970000 := by
  have h1 : b * x ≤ 10000 * x := Int.mul_le_mul_of_nonneg_right hb' hx
  have h2 : -10000 * x ≤ b * x := Int.mul_le_mul_of_nonneg_right hb hx
  omega

end Ints
end Go.Proofs.Ytimjlcnljefbbaa

namespace Go.Proofs.Ytimjlcnljefbbaa
open Go.RowKit
namespace Ints
open Fld (mul_bounds)

theorem less_mod (p x b y : Int) : (x + p - (b * y % p)) % p = (x + -b * y) % p := by
  rw [show x + p - (b * y % p) = (x + -(b * y % p)) + p * 1 by omega, Int.add_mul_emod_self_left]
  have h := Int.emod_add_mul_ediv (b * y) p
  rw [show x + -b * y = x + -(b * y % p) + p * -(b * y / p) by rw [Int.neg_mul, Int.mul_neg]; omega, Int.add_mul_emod_self_left]

end Ints
end Go.Proofs.Ytimjlcnljefbbaa
