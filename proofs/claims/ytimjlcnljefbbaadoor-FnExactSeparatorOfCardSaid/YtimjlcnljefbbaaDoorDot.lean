/- Products of two lists: the reference's and the program's. -/
import Derived.Test.YtimjlcnljefbbaaDoorSpPlain
import Derived.Test.YtimjlcnljefbbaaDoorFx
import Derived.Test.YtimjlcnljefbbaaDoorRowFn
import Derived.StillTailTactics
import Derived.IntWalk
import Derived.Deep.RegionHeld3
namespace Go.Proofs.YtimjlcnljefbbaaDoor
open Go.RowKit
namespace Ints
open Lin (sumN)
open Fld (mod_any)

set_option maxHeartbeats 2000000 in
set_option maxRecDepth 100000 in
theorem spDot_any (p : Int) (n : Nat) (h2 : 2 ≤ p) (h97 : p ≤ 97) (hn : n ≤ 1000) (xa xb : Value) (a b : List Int) (w : World) (ha : Reads w 1 xa n (ofL a)) (hb : Reads w 1 xb n (ofL b)) (ea : ∀ i, i < n → 0 ≤ a[i]?.getD 0 ∧ a[i]?.getD 0 < p) (eb : ∀ i, i < n → 0 ≤ b[i]?.getD 0 ∧ b[i]?.getD 0 < p) :
    Calls Tryd.prog 62 #[.int .i64 p, xa, xb] w fun e w' => e = .returned (.int .i64 (Lin.dotN p a b n)) ∧ Below w.heap.size w w' := by
  obtain ⟨hal, aa, ca, rfl, ham, hac⟩ := open_reads ha
  obtain ⟨hbl, ab, cb, rfl, hbm, hbc⟩ := open_reads hb
  have HAC := Lib.hid hac
  have HBC := Lib.hid hbc
  have EA := Lib.hid ea
  have EB := Lib.hid eb
  have hp0 : (p == 0) = false := by simp; omega
  have hp1 : ¬ p = 0 := by omega
  clear ha hb hac hbc ea eb hal hbl
  go_enter Tryd.func62, Tryd.ntmps62
  go_wp2
  go_loopw [7, 11] (fun s i wr => ∃ k : Nat, k ≤ n ∧ i = .int .i64 k ∧ s = .int .i64 (Lin.dotN p a b k) ∧ Below w.heap.size w wr) (fun _ i _ => n + 1 - (intOf i).toNat)
  case atStart => exact ⟨0, by omega, rfl, rfl, Below.refl _ _⟩
  case round =>
    obtain ⟨k, hk, rfl, rfl, hb⟩ := hrel
    by_cases hlt : k < n
    · obtain ⟨ga, offa, rfl, hga, hcella⟩ := HAC.out (by omega)
      obtain ⟨gb, offb, rfl, hgb, hcellb⟩ := HBC.out (by omega)
      have hx : wr.cell? ⟨ga, offa + k, none⟩ = some (.int .i64 (a[k]?.getD 0)) := (hb.cell (p := ⟨ga, offa + k, none⟩) hga).trans (hcella k hlt)
      have hy : wr.cell? ⟨gb, offb + k, none⟩ = some (.int .i64 (b[k]?.getD 0)) := (hb.cell (p := ⟨gb, offb + k, none⟩) hgb).trans (hcellb k hlt)
      have hdb := Lin.dotN_bounds (p := p) h2 a b k
      have hab := EA.out k hlt
      have hbb := EB.out k hlt
      have hfk : Lin.dotN p a b (k + 1) = (Lin.dotN p a b k + a[k]?.getD 0 * b[k]?.getD 0) % p := rfl
      obtain ⟨m0, m1⟩ := Fld.mul_bounds h97 hab.1 hab.2 hbb.1 hbb.2
      obtain ⟨z, hz⟩ : ∃ z, Lin.dotN p a b (k + 1) = z := ⟨_, rfl⟩
      rw [hz] at hfk
      have HZ2 := Lib.hid hz
      generalize Lin.dotN p a b k = o at *
      generalize a[k]?.getD 0 = xk at *
      generalize b[k]?.getD 0 = y at *
      have HZ := Lib.hid hfk
      have hk0 : 0 ≤ (k : Int) := by omega
      have hki : (k : Int) < (n : Int) := by omega
      obtain ⟨t, ht⟩ : ∃ t, xk * y = t := ⟨_, rfl⟩
      rw [ht] at m0 m1 HZ
      have hw1 : IntKind.i64.wrap (xk * y) = t := by rw [ht]; exact IntWalk.i64_in _ (by omega)
      have hw2 : IntKind.i64.wrap (o + t) = o + t := IntWalk.i64_in _ (by omega)
      have hmod : (o + t).tmod p = z := by rw [Int.tmod_eq_emod_of_nonneg (by omega)]; exact HZ.out.symm
      have HBW := Lib.hid hb
      clear hb hz hfk hcella hcellb hab hbb ht hga hgb hdb
      go_wp2
      go_still_tail 13, (by kernel_rfl)
      change wpList _ _ _ _ _ wr.drew
      go_wp2
      go_roundw
      case rel => exact ⟨k + 1, by omega, by go_num, by rw [HZ2.out], HBW.out.drew⟩
      case measure => simp [intOf]; omega
    · have hkn : k = n := by omega
      rw [hkn] at hlt ⊢
      have HBW := Lib.hid hb
      clear hb hkn
      go_wp2
      go_ret
      exact ⟨rfl, HBW.out⟩

/-- The program's product: the sum first, then its remainder. -/
theorem dot_eq {p : Int} (h2 : 2 ≤ p) (u v : List Int) (k : Nat) : (sumN (fun t => u[t]?.getD 0 * v[t]?.getD 0) k) % p = Lin.dotN p u v k := by
  have h := (Lin.dotN_sum (p := p) u v k).mod_eq
  have hb := Lin.dotN_bounds (p := p) h2 u v k
  rw [Int.emod_eq_of_lt hb.1 hb.2] at h
  exact h.symm
theorem sum_bounds {p : Int} (h97 : p ≤ 97) (u v : List Int) (n : Nat) (eu : ∀ i, i < n → 0 ≤ u[i]?.getD 0 ∧ u[i]?.getD 0 < p) (ev : ∀ i, i < n → 0 ≤ v[i]?.getD 0 ∧ v[i]?.getD 0 < p) :
    ∀ k, k ≤ n → 0 ≤ sumN (fun t => u[t]?.getD 0 * v[t]?.getD 0) k ∧ sumN (fun t => u[t]?.getD 0 * v[t]?.getD 0) k ≤ 10000 * (k : Int)
  | 0, _ => by simp [sumN]
  | k + 1, hk => by
    obtain ⟨h1, h3⟩ := sum_bounds h97 u v n eu ev k (by omega)
    have a := eu k (by omega)
    have b := ev k (by omega)
    obtain ⟨m0, m1⟩ := Fld.mul_bounds h97 a.1 a.2 b.1 b.2
    simp only [sumN]
    constructor
    · omega
    · push_cast; omega

set_option maxHeartbeats 1000000 in
set_option maxRecDepth 100000 in
theorem dot_any (p : Int) (n : Nat) (h2 : 2 ≤ p) (h97 : p ≤ 97) (hn : n ≤ 1000) (xa xb : Value) (a b : List Int) (w : World) (ha : Reads w 1 xa n (ofL a)) (hb : Reads w 1 xb n (ofL b)) (ea : ∀ i, i < n → 0 ≤ a[i]?.getD 0 ∧ a[i]?.getD 0 < p) (eb : ∀ i, i < n → 0 ≤ b[i]?.getD 0 ∧ b[i]?.getD 0 < p) :
    Calls Tryd.prog 67 #[.int .i64 p, xa, xb] w fun e w' => e = .returned (.int .i64 (Lin.dotN p a b n)) ∧ Below w.heap.size w w' := by
  obtain ⟨hal, aa, ca, rfl, ham, hac⟩ := open_reads ha
  obtain ⟨hbl, ab, cb, rfl, hbm, hbc⟩ := open_reads hb
  have HAC := Lib.hid hac
  have HBC := Lib.hid hbc
  have EA := Lib.hid ea
  have EB := Lib.hid eb
  have HSB := Lib.hid (sum_bounds h97 a b n ea eb)
  have HDE := Lib.hid (dot_eq h2 a b n)
  clear ha hb hac hbc ea eb hal hbl
  go_enter Tryd.func67, Tryd.ntmps67
  go_wp2
  go_loopw [7, 12] (fun s i wr => ∃ k : Nat, k ≤ n ∧ i = .int .i64 k ∧ s = .int .i64 (sumN (fun t => a[t]?.getD 0 * b[t]?.getD 0) k) ∧ Below w.heap.size w wr) (fun _ i _ => n + 1 - (intOf i).toNat)
  case atStart => exact ⟨0, by omega, rfl, rfl, Below.refl _ _⟩
  case round =>
    obtain ⟨k, hk, rfl, rfl, hb⟩ := hrel
    by_cases hlt : k < n
    · obtain ⟨ga, offa, rfl, hga, hcella⟩ := HAC.out (by omega)
      obtain ⟨gb, offb, rfl, hgb, hcellb⟩ := HBC.out (by omega)
      have hx : wr.cell? ⟨ga, offa + k, none⟩ = some (.int .i64 (a[k]?.getD 0)) := (hb.cell (p := ⟨ga, offa + k, none⟩) hga).trans (hcella k hlt)
      have hy : wr.cell? ⟨gb, offb + k, none⟩ = some (.int .i64 (b[k]?.getD 0)) := (hb.cell (p := ⟨gb, offb + k, none⟩) hgb).trans (hcellb k hlt)
      have hab := EA.out k hlt
      have hbb := EB.out k hlt
      have hsb := HSB.out k (by omega)
      obtain ⟨m0, m1⟩ := Fld.mul_bounds h97 hab.1 hab.2 hbb.1 hbb.2
      have hfk : sumN (fun t => a[t]?.getD 0 * b[t]?.getD 0) (k + 1) = sumN (fun t => a[t]?.getD 0 * b[t]?.getD 0) k + a[k]?.getD 0 * b[k]?.getD 0 := rfl
      obtain ⟨z, hz⟩ : ∃ z, sumN (fun t => a[t]?.getD 0 * b[t]?.getD 0) (k + 1) = z := ⟨_, rfl⟩
      rw [hz] at hfk
      have HZ2 := Lib.hid hz
      generalize sumN (fun t => a[t]?.getD 0 * b[t]?.getD 0) k = o at *
      generalize a[k]?.getD 0 = xk at *
      generalize b[k]?.getD 0 = y at *
      have HZ := Lib.hid hfk
      have hk0 : 0 ≤ (k : Int) := by omega
      have hki : (k : Int) < (n : Int) := by omega
      obtain ⟨t, ht⟩ : ∃ t, xk * y = t := ⟨_, rfl⟩
      rw [ht] at m0 m1 HZ
      have hw1 : IntKind.i64.wrap (xk * y) = t := by rw [ht]; exact IntWalk.i64_in _ (by omega)
      have hw2 : IntKind.i64.wrap (o + t) = z := by rw [HZ.out]; exact IntWalk.i64_in _ (by omega)
      have HBW := Lib.hid hb
      clear hb hz hfk hcella hcellb hab hbb ht hga hgb hsb
      go_wp2
      go_roundw
      case rel => exact ⟨k + 1, by omega, by go_num, by rw [HZ2.out], HBW.out⟩
      case measure => simp [intOf]; omega
    · have hkn : k = n := by omega
      rw [hkn] at hlt ⊢
      have HBW := Lib.hid hb
      have hmod := Lib.hid (fun W => mod_any p (sumN (fun t => a[t]?.getD 0 * b[t]?.getD 0) n) h2 h97 W)
      rw [HDE.out] at hmod
      clear hb hkn
      go_wp2_with fail
      refine (hmod.out wr).mono ?_
      rintro e wr' ⟨rfl, rfl⟩
      go_wp2
      go_ret
      exact ⟨rfl, HBW.out⟩

end Ints
end Go.Proofs.YtimjlcnljefbbaaDoor
