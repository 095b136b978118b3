/- The reference's functions on one list that turn it in its place. -/
import Derived.Test.YtnpjkcmhfpmgmaaDoorRowFns
import Derived.Deep.RegionHeld3
import Derived.Deep.AppendLies
import Derived.Deep.RegionLaw
namespace Go.Proofs.YtnpjkcmhfpmgmaaDoor
open Go.RowKit
namespace Ints
open Fld (mod_any fdMul_any fdSub_any mul_bounds)

set_option maxHeartbeats 1000000 in
theorem mxScale_any (p b : Int) (h2 : 2 ≤ p) (h97 : p ≤ 97) (hb : 0 ≤ b) (hb' : b < p) (v : Value) (n : Nat) (l : List Int) (w : World)
    (ho : Owns w 3 1 v n (ofL l)) (hl : ∀ j, j < n → 0 ≤ l[j]?.getD 0 ∧ l[j]?.getD 0 < p) :
    Calls Tryd.prog 90 #[.int .i64 p, v, .int .i64 b] w fun e w' => e = .returned (.tuple #[]) ∧ Owns w' 3 1 v n (ofL (rowT n fun j => (l[j]?.getD 0 * b) % p)) ∧ Chg (fun g => v.ownBlock = some g ∧ 0 < n) w w' := by
  have hll : l.length = n := by have := ho.1; rw [ofL_length] at this; omega
  obtain ⟨av, cv, rfl⟩ := ho.form
  have hmv : n ≤ 9223372036854775807 := by obtain ⟨_, a, c, e, h1, h2, _⟩ := ho; simp only [Value.slice.injEq] at e; unfold maxLen at h2; omega
  obtain ⟨f, hf⟩ : ∃ f : Nat → Int, (fun j : Nat => (l[j]?.getD 0 * b) % p) = f := ⟨_, rfl⟩
  have hf' := Lib.hid hf
  have ho0 : Hid (Owns w 3 1 (.slice av n cv) n (ofL (part n 0 f fun j => l[j]?.getD 0))) := by rw [part_start (f := f) hll] at ho; exact ho
  rw [hf]
  have hl' := Lib.hid hl
  clear ho hl hf hll
  go_enter Tryd.func90, Tryd.ntmps90
  go_wp2
  go_loopw [9] (fun i wr => ∃ k : Nat, k ≤ n ∧ i = .int .i64 k ∧ Owns wr 3 1 (.slice av n cv) n (ofL (part n k f fun j => l[j]?.getD 0)) ∧ Chg (fun g => (Value.slice av n cv).ownBlock = some g ∧ 0 < n) w wr) (fun i _ => n + 1 - (intOf i).toNat)
  case atStart => exact ⟨0, by omega, rfl, ho0.out, Chg.refl _ _⟩
  case round =>
    obtain ⟨k, hk, rfl, ho, hch⟩ := hrel
    by_cases hlt : k < n
    · obtain ⟨_, a2, c2, e, _, hc⟩ := open_owns ho
      simp only [Value.slice.injEq] at e
      obtain ⟨rfl, -, rfl⟩ := e
      obtain ⟨g, off, rfl, hg, hj⟩ := hc (by omega)
      have hy := (hj k hlt).1
      have hfr := (hj k hlt).2.1
      have hst := (hj k hlt).2.2 (f k)
      rw [part_set] at hst
      rw [part_at hlt] at hy
      have H1 := Lib.hid hst
      have H2 := Lib.hid (hch.setCell (p := ⟨g, off + k, none⟩) (fun _ => ⟨rfl, by omega⟩) (.int .i64 (f k)))
      have hfk : Hid (f k = (l[k]?.getD 0 * b) % p) := by show _ = _; rw [← hf'.out]
      have hlk := hl'.out k hlt
      clear ho hch hc hj hst hf'
      generalize l[k]?.getD 0 = x at *
      obtain ⟨z, hz⟩ : ∃ z, f k = z := ⟨_, rfl⟩
      rw [hz] at H1 H2 hfk
      clear hz
      have hcall := Lib.hid (fun W => fdMul_any p x b h2 h97 hlk.1 hlk.2 hb hb' W)
      rw [← hfk.out] at hcall
      clear hfk
      have hk0 : 0 ≤ (k : Int) := by omega
      have hkn : (k : Int) < (n : Int) := by omega
      go_wp2_with (go_at_call 89; ((with_reducible refine (hcall.out _).mono ?_); rintro e w' ⟨rfl, rfl⟩))
      go_roundw
      case rel => exact ⟨k + 1, by omega, by go_num, H1.out, H2.out⟩
      case measure => simp [intOf]; omega
    · obtain rfl : k = n := by omega
      have hfin : Hid (Owns wr 3 1 (.slice av k cv) k (ofL (rowT k f))) := by rw [part_end] at ho; exact ho
      have hch' := Lib.hid hch
      clear ho hch
      go_wp2
      go_end0
      exact ⟨rfl, hfin.out, hch'.out⟩

theorem less_mod (p x b y : Int) : (x + p - (b * y % p)) % p = (x + -b * y) % p := by
  rw [show x + p - (b * y % p) = (x + -(b * y % p)) + p * 1 by omega, Int.add_mul_emod_self_left]
  have h := Int.emod_add_mul_ediv (b * y) p
  rw [show x + -b * y = x + -(b * y % p) + p * -(b * y / p) by rw [Int.neg_mul, Int.mul_neg]; omega, Int.add_mul_emod_self_left]

set_option maxHeartbeats 2000000 in
theorem mxLess_any (p b : Int) (h2 : 2 ≤ p) (h97 : p ≤ 97) (hb : 0 ≤ b) (hb' : b < p) (v u : Value) (n : Nat) (l m : List Int) (w : World)
    (ho : Owns w 3 1 v n (ofL l)) (hr : Reads w 1 u n (ofL m)) (hd : blkIn (fun g => v.ownBlock ≠ some g) u (ofL m))
    (hl : ∀ j, j < n → 0 ≤ l[j]?.getD 0 ∧ l[j]?.getD 0 < p) (hm : ∀ j, j < n → 0 ≤ m[j]?.getD 0 ∧ m[j]?.getD 0 < p) :
    Calls Tryd.prog 92 #[.int .i64 p, v, u, .int .i64 b] w fun e w' => e = .returned (.tuple #[]) ∧ Owns w' 3 1 v n (ofL (rowT n fun j => (l[j]?.getD 0 + -b * m[j]?.getD 0) % p)) ∧ Chg (fun g => v.ownBlock = some g ∧ 0 < n) w w' := by
  have hll : l.length = n := by have := ho.1; rw [ofL_length] at this; omega
  obtain ⟨hml, au, cu, rfl, hmu, hcu⟩ := open_reads hr
  obtain ⟨av, cv, rfl⟩ := ho.form
  obtain ⟨f, hf⟩ : ∃ f : Nat → Int, (fun j : Nat => (l[j]?.getD 0 + -b * m[j]?.getD 0) % p) = f := ⟨_, rfl⟩
  have hf' := Lib.hid hf
  have ho0 : Hid (Owns w 3 1 (.slice av n cv) n (ofL (part n 0 f fun j => l[j]?.getD 0))) := by rw [part_start (f := f) hll] at ho; exact ho
  rw [hf]
  have hcu' := Lib.hid hcu
  have hd' := Lib.hid hd
  have hl' := Lib.hid hl
  have hm' := Lib.hid hm
  have hml' := Lib.hid hml
  clear ho hr hcu hd hl hm hf hll hml
  go_enter Tryd.func92, Tryd.ntmps92
  go_wp2
  go_loopw [11] (fun i wr => ∃ k : Nat, k ≤ n ∧ i = .int .i64 k ∧ Owns wr 3 1 (.slice av n cv) n (ofL (part n k f fun j => l[j]?.getD 0)) ∧ Chg (fun g => (Value.slice av n cv).ownBlock = some g ∧ 0 < n) w wr) (fun i _ => n + 1 - (intOf i).toNat)
  case atStart => exact ⟨0, by omega, rfl, ho0.out, Chg.refl _ _⟩
  case round =>
    obtain ⟨k, hk, rfl, ho, hch⟩ := hrel
    by_cases hlt : k < n
    · obtain ⟨gu, offu, rfl, hgu, hcells⟩ := hcu'.out (by omega)
      have hne : (Value.slice av n cv).ownBlock ≠ some gu := hd'.out gu (ofL_ne.2 (List.length_pos_iff.1 (by have := hml'.out; omega))) rfl
      have hx : wr.cell? ⟨gu, offu + k, none⟩ = some (.int .i64 (m[k]?.getD 0)) := hch.keep (hcells k hlt) (fun h => hne h.1)
      obtain ⟨_, a2, c2, e, hmv, hc⟩ := open_owns ho
      simp only [Value.slice.injEq] at e
      obtain ⟨rfl, -, rfl⟩ := e
      obtain ⟨g, off, rfl, hg, hj⟩ := hc (by omega)
      have hy := (hj k hlt).1
      have hfr := (hj k hlt).2.1
      have hst := (hj k hlt).2.2 (f k)
      rw [part_set] at hst
      rw [part_at hlt] at hy
      have H1 := Lib.hid hst
      have H2 := Lib.hid (hch.setCell (p := ⟨g, off + k, none⟩) (fun _ => ⟨rfl, by omega⟩) (.int .i64 (f k)))
      have hfk : Hid (f k = (l[k]?.getD 0 + -b * m[k]?.getD 0) % p) := by show _ = _; rw [← hf'.out]
      have hlk := hl'.out k hlt
      have hmk := hm'.out k hlt
      clear ho hch hcells hc hj hst hne hf'
      generalize l[k]?.getD 0 = x at *
      generalize m[k]?.getD 0 = y at *
      obtain ⟨z, hz⟩ : ∃ z, f k = z := ⟨_, rfl⟩
      rw [hz] at H1 H2 hfk
      clear hz
      obtain ⟨t, ht⟩ : ∃ t, b * y % p = t := ⟨_, rfl⟩
      have ht0 : 0 ≤ t := by rw [← ht]; exact Int.emod_nonneg _ (by omega)
      have ht1 : t < p := by rw [← ht]; exact Int.emod_lt_of_pos _ (by omega)
      have hc1 := Lib.hid (fun W => fdMul_any p b y h2 h97 hb hb' hmk.1 hmk.2 W)
      have hc2 := Lib.hid (fun W => fdSub_any p x t h2 h97 hlk.1 hlk.2 ht0 ht1 W)
      rw [ht] at hc1
      rw [← ht, less_mod, ← hfk.out, ht] at hc2
      clear hfk ht
      have hk0 : 0 ≤ (k : Int) := by omega
      have hkn : (k : Int) < (n : Int) := by omega
      go_wp2
      go_region_law (first | (go_simp; (go_at_call 89; ((with_reducible refine (hc1.out _).mono ?_); rintro e w' ⟨rfl, rfl⟩))) | (go_simp; (go_at_call 97; ((with_reducible refine (hc2.out _).mono ?_); rintro e w' ⟨rfl, rfl⟩))))
      all_goals
        go_wp2
        go_roundw
        case rel => exact ⟨k + 1, by omega, by go_num, H1.out, H2.out.drew⟩
        case measure => simp [intOf]; omega
    · obtain rfl : k = n := by omega
      have hfin : Hid (Owns wr 3 1 (.slice av k cv) k (ofL (rowT k f))) := by rw [part_end] at ho; exact ho
      have hch' := Lib.hid hch
      clear ho hch
      go_wp2
      go_end0
      exact ⟨rfl, hfin.out, hch'.out⟩

end Ints
end Go.Proofs.YtnpjkcmhfpmgmaaDoor
