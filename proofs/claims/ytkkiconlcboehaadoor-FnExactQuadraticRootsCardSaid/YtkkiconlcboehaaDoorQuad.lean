/- QuadraticRoots: both functions gather the same list in memory of their own. -/
import Derived.Test.YtkkiconlcboehaaDoorFieldWalks3
import Derived.Test.YtkkiconlcboehaaDoorInts
namespace Go.Proofs.YtkkiconlcboehaaDoor
open Go.RowKit
namespace Fld
open Ints

/-- A result (list, bool) in new memory. -/
def IntsRes (w : World) (l : List Int) (b : Bool) (e : Ending) (w' : World) : Prop :=
  ∃ v n, e = .returned (.tuple #[v, .bool b]) ∧ Owns w' 1 v n (ofL l) ∧ blkIn (w.heap.size ≤ ·) v (ofL l) ∧ Below w.heap.size w w'

theorem owns_nil (w : World) : Owns w 1 (.slice none 0 0) 0 (ofL []) := ⟨rfl, none, 0, rfl, Nat.le_refl _, Nat.zero_le _, fun h => by simp [ofL] at h⟩
theorem intsRes_nil {w w' : World} (h : Below w.heap.size w w') : IntsRes w [] false (.returned (.tuple #[.slice none 0 0, .bool false])) w' :=
  ⟨_, 0, rfl, owns_nil _, fun _ hx => absurd rfl hx, h⟩

def quadQ (p a b c : Nat) : Nat → Bool := fun x => decide ((a * x * x + b * x + c) % p = 0)
def quadL (p a b c k : Nat) : List Int := ((List.range k).filter (quadQ p a b c)).map fun (x : Nat) => (x : Int)
theorem quadL_le (p a b c k : Nat) : (quadL p a b c k).length ≤ k := by
  unfold quadL
  rw [List.length_map]
  exact Nat.le_trans (List.length_filter_le _ _) (by simp)
theorem quadL_yes {p a b c k : Nat} (h : (a * k * k + b * k + c) % p = 0) : quadL p a b c (k + 1) = quadL p a b c k ++ [(k : Int)] := by
  simp [quadL, List.range_succ, List.filter_append, quadQ, h]
theorem quadL_no {p a b c k : Nat} (h : ¬ (a * k * k + b * k + c) % p = 0) : quadL p a b c (k + 1) = quadL p a b c k := by
  simp [quadL, List.range_succ, List.filter_append, quadQ, h]

theorem infoInt : (Tryd.prog.info? 3).map (fun i => (i.zero, i.size, i.bytes)) = some (some (.int .i64 0), 1, 8) := by kernel_rfl

theorem quad_bounds {p a b k : Nat} (h97 : p ≤ 97) (ha : a < p) (hb : b < p) (hk : k < p) :
    (0 ≤ (a : Int) * k ∧ (a : Int) * k ≤ 10000) ∧ (0 ≤ (a : Int) * k * k ∧ (a : Int) * k * k ≤ 1000000) ∧ (0 ≤ (b : Int) * k ∧ (b : Int) * k ≤ 10000) ∧ (0 ≤ ((a : Int) * k + b) * k ∧ ((a : Int) * k + b) * k ≤ 2000000) := by
  have h1 : a * k ≤ 96 * 96 := Nat.mul_le_mul (by omega) (by omega)
  have h2 : a * k * k ≤ 96 * 96 * 96 := Nat.mul_le_mul h1 (by omega)
  have h3 : b * k ≤ 96 * 96 := Nat.mul_le_mul (by omega) (by omega)
  have h4 : (a * k + b) * k ≤ (96 * 96 + 96) * 96 := Nat.mul_le_mul (by omega) (by omega)
  refine ⟨⟨by exact_mod_cast Nat.zero_le _, ?_⟩, ⟨by exact_mod_cast Nat.zero_le _, ?_⟩, ⟨by exact_mod_cast Nat.zero_le _, ?_⟩, ⟨by exact_mod_cast Nat.zero_le _, ?_⟩⟩
  · have : ((a * k : Nat) : Int) ≤ ((96 * 96 : Nat) : Int) := Int.ofNat_le.2 h1
    simp at this; omega
  · have : ((a * k * k : Nat) : Int) ≤ ((96 * 96 * 96 : Nat) : Int) := Int.ofNat_le.2 h2
    simp at this; omega
  · have : ((b * k : Nat) : Int) ≤ ((96 * 96 : Nat) : Int) := Int.ofNat_le.2 h3
    simp at this; omega
  · have : (((a * k + b) * k : Nat) : Int) ≤ (((96 * 96 + 96) * 96 : Nat) : Int) := Int.ofNat_le.2 h4
    simp at this; omega

theorem quad_form {p a b c k : Nat} : (((a : Int) * k * k + (b : Int) * k + (c : Int)) % (p : Int) == 0) = decide ((a * k * k + b * k + c) % p = 0) := by
  have h : ((a : Int) * k * k + (b : Int) * k + (c : Int)) % (p : Int) = (((a * k * k + b * k + c) % p : Nat) : Int) := by simp
  rw [h, Bool.eq_iff_iff, beq_iff_eq, decide_eq_true_eq]
  exact Int.ofNat_eq_zero
theorem quad_form2 {p a b c k : Nat} : ((((a : Int) * k + (b : Int)) * k + (c : Int)) % (p : Int) == 0) = decide ((a * k * k + b * k + c) % p = 0) := by
  rw [← quad_form, Int.add_mul]

set_option maxHeartbeats 2000000 in
theorem spec_Quad_yes (p a b c : Nat) (h2 : 2 ≤ p) (h97 : p ≤ 97) (ha : a < p) (hb : b < p) (hc : c < p) (ht : twoB p a b = true) (w : World) :
    Calls Tryd.prog 31 #[.int .i64 p, .int .i64 a, .int .i64 b, .int .i64 c] w (IntsRes w (quadL p a b c p) true) := by
  have hp0 : ((p : Int) == 0) = false := by simp; omega
  have g1 : inR (c : Int) 0 ((p : Int) - 1) = true := inR_mk (by omega) (by omega)
  go_enter Tryd.func31, Tryd.ntmps31
  go_wp2_with (first | (go_at_call 38; ((with_reducible refine (fdTwo_any _ _ _ _).mono ?_); rintro e w' ⟨rfl, rfl⟩)) | (go_at_call 47; ((with_reducible refine (l1In_any _ _ _ _).mono ?_); rintro e w' ⟨rfl, rfl⟩)))
  go_loopw [10, 11] (fun v i wr => ∃ k : Nat, k ≤ p ∧ i = .int .i64 k ∧ wr.ownsRow w.heap.size 3 1 v (quadL p a b c k).length (ofL (quadL p a b c k)) ∧ Below w.heap.size w wr) (fun _ i _ => 100 - (intOf i).toNat)
  case atStart => exact ⟨0, by omega, rfl, World.ownsRow_nil _ _ _ _, Below.refl _ _⟩
  case round =>
    obtain ⟨k, hk, rfl, hown, hbl⟩ := hrel
    have hle := quadL_le p a b c k
    by_cases hlt : k < p
    · obtain ⟨⟨x1, x2⟩, ⟨x3, x4⟩, ⟨x5, x6⟩, _⟩ := quad_bounds h97 ha hb hlt
      have hf := quad_form (p := p) (a := a) (b := b) (c := c) (k := k)
      by_cases hq : (a * k * k + b * k + c) % p = 0
      · have hb1 : (((a : Int) * k * k + (b : Int) * k + (c : Int)) % (p : Int) == 0) = true := by rw [hf]; simpa using hq
        have hy := Lib.hid (quadL_yes hq)
        have hbl' := Lib.hid hbl
        have hown' := Lib.hid hown
        have hsz := hbl.size
        have hm1 := Lib.hid (show (quadL p a b c k).length + 1 ≤ maxLen by unfold maxLen; omega)
        have hm2 := Lib.hid (show ((quadL p a b c k).length + 1) * 8 ≤ 140737488355328 by omega)
        clear hf hq hbl hown
        go_wp2_with (at_builtin; go_must (refine wpList_append_one _ rfl _ _ 29 rfl w.heap.size 3 (.int .i64 0) 8 Tryd.underlying29 infoInt rfl _ _ _ (.int .i64 k) hown'.out rfl rfl rfl hm1.out hm2.out hsz ?_); intro v' w1 hown1 hgrow1)
        have hown2 := Lib.hid hown1
        have hbl2 := Lib.hid (Below.grownRow hbl'.out hown'.out hgrow1 hsz)
        clear hown1 hgrow1
        go_wp2
        go_roundw
        case rel =>
          refine ⟨k + 1, by omega, by go_num, ?_, hbl2.out⟩
          have := hown2.out
          rw [hy.out]
          simpa [ofL] using this
        case measure => simp [intOf]; omega
      · have hb1 : (((a : Int) * k * k + (b : Int) * k + (c : Int)) % (p : Int) == 0) = false := by rw [hf]; simpa using hq
        have hy := Lib.hid (quadL_no hq)
        have hbl' := Lib.hid hbl
        have hown' := Lib.hid hown
        clear hf hq hbl hown
        go_wp2
        go_roundw
        case rel => exact ⟨k + 1, by omega, by go_num, by rw [hy.out]; exact hown'.out, hbl'.out⟩
        case measure => simp [intOf]; omega
    · obtain rfl : k = p := by omega
      have hfin := Lib.hid (owns_of_row hown (by unfold maxLen; omega))
      have hbl' := Lib.hid hbl
      clear hown hbl
      go_wp2
      go_ret2
      exact ⟨_, _, rfl, hfin.out.1, hfin.out.2, hbl'.out⟩

set_option maxHeartbeats 2000000 in
theorem impl_Quad_yes (p a b c : Nat) (h2 : 2 ≤ p) (h97 : p ≤ 97) (ha : a < p) (hb : b < p) (hc : c < p) (ht : (twoB p a b && inB p c) = true) (w : World) (hT : Tab w) :
    Calls Tryd.prog 32 #[.int .i64 p, .int .i64 a, .int .i64 b, .int .i64 c] w (IntsRes w (quadL p a b c p) true) := by
  have hp0 : ((p : Int) == 0) = false := by simp; omega
  have hB0 := Lib.hid (((Below.refl w.heap.size w).alloc (Nat.le_refl _) (.cells #[.int .i64 (a : Int), .int .i64 (b : Int), .int .i64 (c : Int)] 3)).alloc (by simp) (.cells #[] 3))
  have hO0 := Lib.hid (World.ownsRow_lit (base := w.heap.size) (size := 1) (e := 3) (w.alloc (.cells #[.int .i64 (a : Int), .int .i64 (b : Int), .int .i64 (c : Int)] 3)) #[] 0 (by simp) (Nat.zero_le _) rfl)
  go_enter Tryd.func32, Tryd.ntmps32
  go_wp2_with (go_at_call 40; ((with_reducible refine (areEl3 _ _ _ _ _ hT).mono ?_); rintro e w' ⟨rfl, rfl⟩))
  go_loopw [10, 21] (fun v i wr => ∃ k : Nat, k ≤ p ∧ i = .int .i64 k ∧ wr.ownsRow w.heap.size 3 1 v (quadL p a b c k).length (ofL (quadL p a b c k)) ∧ Below w.heap.size w wr) (fun _ i _ => 100 - (intOf i).toNat)
  case atStart => exact ⟨0, by omega, rfl, by simpa [quadL, ofL] using hO0.out, hB0.out⟩
  case round =>
    obtain ⟨k, hk, rfl, hown, hbl⟩ := hrel
    have hle := quadL_le p a b c k
    by_cases hlt : k < p
    · obtain ⟨⟨x1, x2⟩, _, _, ⟨x3, x4⟩⟩ := quad_bounds h97 ha hb hlt
      have hf := quad_form2 (p := p) (a := a) (b := b) (c := c) (k := k)
      by_cases hq : (a * k * k + b * k + c) % p = 0
      · have hb1 : ((((a : Int) * k + (b : Int)) * k + (c : Int)) % (p : Int) == 0) = true := by rw [hf]; simpa using hq
        have hy := Lib.hid (quadL_yes hq)
        have hbl' := Lib.hid hbl
        have hown' := Lib.hid hown
        have hsz := hbl.size
        have hm1 := Lib.hid (show (quadL p a b c k).length + 1 ≤ maxLen by unfold maxLen; omega)
        have hm2 := Lib.hid (show ((quadL p a b c k).length + 1) * 8 ≤ 140737488355328 by omega)
        clear hf hq hbl hown
        go_wp2_with (first | (go_at_call 41; ((with_reducible refine (mod_any _ _ (by omega) (by omega) _).mono ?_); rintro e w' ⟨rfl, rfl⟩)) | (at_builtin; go_must (refine wpList_append_one _ rfl _ _ 29 rfl w.heap.size 3 (.int .i64 0) 8 Tryd.underlying29 infoInt rfl _ _ _ (.int .i64 k) hown'.out rfl rfl rfl hm1.out hm2.out hsz ?_); intro v' w1 hown1 hgrow1))
        have hown2 := Lib.hid hown1
        have hbl2 := Lib.hid (Below.grownRow hbl'.out hown'.out hgrow1 hsz)
        clear hown1 hgrow1
        go_wp2
        go_roundw
        case rel =>
          refine ⟨k + 1, by omega, by go_num, ?_, hbl2.out⟩
          have := hown2.out
          rw [hy.out]
          simpa [ofL] using this
        case measure => simp [intOf]; omega
      · have hb1 : ((((a : Int) * k + (b : Int)) * k + (c : Int)) % (p : Int) == 0) = false := by rw [hf]; simpa using hq
        have hy := Lib.hid (quadL_no hq)
        have hbl' := Lib.hid hbl
        have hown' := Lib.hid hown
        clear hf hq hbl hown
        go_wp2_with (go_at_call 41; ((with_reducible refine (mod_any _ _ (by omega) (by omega) _).mono ?_); rintro e w' ⟨rfl, rfl⟩))
        go_roundw
        case rel => exact ⟨k + 1, by omega, by go_num, by rw [hy.out]; exact hown'.out, hbl'.out⟩
        case measure => simp [intOf]; omega
    · obtain rfl : k = p := by omega
      have hfin := Lib.hid (owns_of_row hown (by unfold maxLen; omega))
      have hbl' := Lib.hid hbl
      clear hown hbl
      go_wp2
      go_ret2
      exact ⟨_, _, rfl, hfin.out.1, hfin.out.2, hbl'.out⟩

end Fld
end Go.Proofs.YtkkiconlcboehaaDoor
