/- The program's and the reference's functions on one list: zeros, copies, multiples. The reference's functions on one list that turn it in its place. -/
import Derived.Test.YtimjlcnljefbbaaDoorMemB
import Derived.Test.YtimjlcnljefbbaaDoorFx
import Derived.Deep.RegionHeld3
import Derived.Deep.AppendLies
import Derived.Deep.RegionLaw
namespace Go.Proofs.YtimjlcnljefbbaaDoor
open Go.RowKit
namespace Ints
open Fld (mod_any fdMul_any fdSub_any)

/-- A row of which the first k places have been turned. -/
def part (n k : Nat) (f g : Nat → Int) : List Int := rowT n fun j => if j < k then f j else g j
theorem part_zero {n : Nat} {f g : Nat → Int} : part n 0 f g = rowT n g := rowT_congr fun j _ => by simp
theorem part_end {n : Nat} {f g : Nat → Int} : part n n f g = rowT n f := rowT_congr fun j hj => by simp [hj]
theorem part_length {n k : Nat} {f g : Nat → Int} : (part n k f g).length = n := rowT_length _ _
theorem part_at {n k : Nat} {f g : Nat → Int} (h : k < n) : (part n k f g)[k]?.getD 0 = g k := by rw [part, rowT_at h]; simp
theorem part_set {n k : Nat} {f g : Nat → Int} : (part n k f g).set k (f k) = part n (k + 1) f g := by
  rw [part, rowT_set]
  apply rowT_congr
  intro j _
  by_cases e : j = k
  · subst e; simp
  · by_cases h : j < k
    · simp [e, h, show j < k + 1 by omega]
    · simp [e, h, show ¬ j < k + 1 by omega]
theorem part_start {l : List Int} {n : Nat} {f : Nat → Int} (h : l.length = n) : l = part n 0 f fun j => l[j]?.getD 0 := by rw [part_zero]; exact row_eq h

theorem zeros_any (n : Nat) (hn : n ≤ 1000) (w : World) :
    Calls Tryd.prog 80 #[.int .i64 n] w (NewInts w (rowT n fun _ => 0)) := by
  have hmk := run_make_row' (P := Tryd.prog) 41 3 (.int .i64 0) 8 Tryd.underlying41 infoI rfl .i64 .i64 n (by omega) (by omega)
  have hmade := owns_made w 3 (.int .i64 0) n (by unfold maxLen; omega)
  rw [← ofL_replicate] at hmade
  have H := Lib.hid hmade
  clear hmade
  go_enter Tryd.func80, Tryd.ntmps80
  go_wp2
  go_ret
  exact ⟨_, rfl, by rw [rowT_length]; exact H.out.1, H.out.2, (Below.refl _ _).alloc (Nat.le_refl _) _⟩

set_option maxHeartbeats 1000000 in
theorem clone_any (v : Value) (n : Nat) (l : List Int) (w : World) (h : Reads w 1 v n (ofL l)) (hn : n ≤ 1048576) : Calls Tryd.prog 86 #[v] w (NewInts w l) := by
  have hb := Lib.hid ((Below.refl w.heap.size w).alloc (Nat.le_refl _) (.cells #[] 3))
  have hsrc := Lib.hid (h.below hb.out)
  have hown := Lib.hid (World.ownsRow_lit (base := w.heap.size) (size := 1) (e := 3) w #[] 0 (Nat.le_refl _) (Nat.zero_le _) (by simp))
  have hl := Lib.hid h.1
  have hm1 := Lib.hid (show 0 + n ≤ maxLen by unfold maxLen; omega)
  have hm2 := Lib.hid (show (0 + n) * 8 ≤ 140737488355328 by omega)
  have hone : Hid (∀ u ∈ ofL l, u.oneCell' = true) := by intro u hu; simp [ofL] at hu; obtain ⟨x, _, rfl⟩ := hu; rfl
  obtain ⟨a, cap, rfl⟩ := h.form
  clear h
  go_enter Tryd.func86, Tryd.ntmps86
  go_wp2_with (at_builtin; refine wpList_append_reads _ rfl _ _ 41 rfl w.heap.size 3 (.int .i64 0) 1 8 Tryd.underlying41 infoI rfl (by decide) _ 0 [] (hown.out) _ n (ofL l) hsrc.out rfl rfl hone.out hm1.out hm2.out (by simp) ?_; intro v' w1 hown1 hg1)
  go_ret
  have h1 := owns_of_row hown1 hm1.out
  have hll : l.length = 0 + n := by have := hl.out; simp [ofL] at this; omega
  rw [List.nil_append, ← hll] at h1
  exact ⟨_, rfl, h1.1, h1.2, Below.grownRow hb.out hown.out hg1 (by simp)⟩

set_option maxHeartbeats 1000000 in
theorem l1Own_any (v : Value) (n : Nat) (l : List Int) (w : World) (h : Reads w 1 v n (ofL l)) (hn : n ≤ 1048576) : Calls Tryd.prog 107 #[v] w (NewInts w l) := by
  have hb := Lib.hid ((Below.refl w.heap.size w).alloc (Nat.le_refl _) (.cells #[] 3))
  have hsrc := Lib.hid (h.below hb.out)
  have hown := Lib.hid (World.ownsRow_lit (base := w.heap.size) (size := 1) (e := 3) w #[] 0 (Nat.le_refl _) (Nat.zero_le _) (by simp))
  have hl := Lib.hid h.1
  have hm1 := Lib.hid (show 0 + n ≤ maxLen by unfold maxLen; omega)
  have hm2 := Lib.hid (show (0 + n) * 8 ≤ 140737488355328 by omega)
  have hone : Hid (∀ u ∈ ofL l, u.oneCell' = true) := by intro u hu; simp [ofL] at hu; obtain ⟨x, _, rfl⟩ := hu; rfl
  obtain ⟨a, cap, rfl⟩ := h.form
  clear h
  go_enter Tryd.func107, Tryd.ntmps107
  go_wp2_with (at_builtin; refine wpList_append_reads _ rfl _ _ 41 rfl w.heap.size 3 (.int .i64 0) 1 8 Tryd.underlying41 infoI rfl (by decide) _ 0 [] (hown.out) _ n (ofL l) hsrc.out rfl rfl hone.out hm1.out hm2.out (by simp) ?_; intro v' w1 hown1 hg1)
  go_ret
  have h1 := owns_of_row hown1 hm1.out
  have hll : l.length = 0 + n := by have := hl.out; simp [ofL] at this; omega
  rw [List.nil_append, ← hll] at h1
  exact ⟨_, rfl, h1.1, h1.2, Below.grownRow hb.out hown.out hg1 (by simp)⟩

theorem unit_any (n k : Nat) (hn : n ≤ 1000) (hk : k < n) (w : World) :
    Calls Tryd.prog 45 #[.int .i64 n, .int .i64 k] w (NewInts w (rowT n fun j => if k = j then 1 else 0)) := by
  have hcall := Lib.hid (zeros_any n hn w)
  go_enter Tryd.func45, Tryd.ntmps45
  go_wp2_with fail
  refine hcall.out.mono ?_
  rintro e w1 ⟨v1, rfl, ho, hf, hb⟩
  rw [rowT_length] at ho
  obtain ⟨_, a, cap, rfl, hm, hc⟩ := open_owns ho
  obtain ⟨g, off, rfl, hg, hj⟩ := hc (by omega)
  have hx := (hj k hk).1
  have hfr := (hj k hk).2.1
  have hst := (hj k hk).2.2 1
  have hfg : w.heap.size ≤ g := hf g (ofL_ne.2 (List.length_pos_iff.1 (by rw [rowT_length]; omega))) rfl
  have e1 : (rowT n fun _ => (0 : Int)).set k 1 = rowT n fun j => if k = j then 1 else 0 := by
    rw [rowT_set]
    apply rowT_congr
    intro j _
    by_cases e : j = k
    · subst e; simp
    · simp [e, show ¬ k = j from fun h => e h.symm]
  rw [e1] at hst
  have H1 := Lib.hid hst
  have H2 := Lib.hid (hb.setCell (p := ⟨g, off + k, none⟩) hfg (.int .i64 1))
  clear hc hj hst hf hb ho e1 hcall
  generalize (rowT n fun _ => 0)[k]?.getD 0 = x at *
  have hk0 : 0 ≤ (k : Int) := by omega
  have hkn : (k : Int) < (n : Int) := by omega
  go_wp2
  go_ret
  refine ⟨_, rfl, by rw [rowT_length]; exact H1.out, fun g' _ hg' => ?_, H2.out⟩
  simp [Value.ownBlock] at hg'
  omega

theorem times_bounds {b x : Int} (hb : -10000 ≤ b) (hb' : b ≤ 10000) (hx : 0 ≤ x) (hx' : x < 97) : -970000 ≤ b * x ∧ b * x ≤ 970000 := by
  have h1 : b * x ≤ 10000 * x := Int.mul_le_mul_of_nonneg_right hb' hx
  have h2 : -10000 * x ≤ b * x := Int.mul_le_mul_of_nonneg_right hb hx
  omega

set_option maxHeartbeats 1000000 in
theorem addTimes_any (p b : Int) (h2 : 2 ≤ p) (h97 : p ≤ 97) (hb : -10000 ≤ b) (hb' : b ≤ 10000) (v u : Value) (n : Nat) (l m : List Int) (w : World)
    (ho : Owns w 3 1 v n (ofL l)) (hr : Reads w 1 u n (ofL m)) (hd : blkIn (fun g => v.ownBlock ≠ some g) u (ofL m))
    (hl : ∀ j, j < n → 0 ≤ l[j]?.getD 0 ∧ l[j]?.getD 0 < p) (hm : ∀ j, j < n → 0 ≤ m[j]?.getD 0 ∧ m[j]?.getD 0 < p) :
    Calls Tryd.prog 100 #[.int .i64 p, v, .int .i64 b, u] w fun e w' => e = .returned (.tuple #[]) ∧ Owns w' 3 1 v n (ofL (rowT n fun j => (l[j]?.getD 0 + b * m[j]?.getD 0) % p)) ∧ Chg (fun g => v.ownBlock = some g ∧ 0 < n) w w' := by
  have hll : l.length = n := by have := ho.1; rw [ofL_length] at this; omega
  obtain ⟨hml, au, cu, rfl, hmu, hcu⟩ := open_reads hr
  obtain ⟨av, cv, rfl⟩ := ho.form
  obtain ⟨f, hf⟩ : ∃ f : Nat → Int, (fun j : Nat => (l[j]?.getD 0 + b * m[j]?.getD 0) % p) = f := ⟨_, rfl⟩
  have hf' := Lib.hid hf
  have ho0 : Hid (Owns w 3 1 (.slice av n cv) n (ofL (part n 0 f fun j => l[j]?.getD 0))) := by rw [part_start (f := f) hll] at ho; exact ho
  rw [hf]
  have hcu' := Lib.hid hcu
  have hd' := Lib.hid hd
  have hl' := Lib.hid hl
  have hm' := Lib.hid hm
  have hml' := Lib.hid hml
  clear ho hr hcu hd hl hm hf hll hml
  go_enter Tryd.func100, Tryd.ntmps100
  go_wp2
  go_loopw [12] (fun i wr => ∃ k : Nat, k ≤ n ∧ i = .int .i64 k ∧ Owns wr 3 1 (.slice av n cv) n (ofL (part n k f fun j => l[j]?.getD 0)) ∧ Chg (fun g => (Value.slice av n cv).ownBlock = some g ∧ 0 < n) w wr) (fun i _ => n + 1 - (intOf i).toNat)
  case atStart => exact ⟨0, by omega, rfl, ho0.out, Chg.refl _ _⟩
  case round =>
    obtain ⟨k, hk, rfl, ho, hch⟩ := hrel
    by_cases hlt : k < n
    · obtain ⟨gu, offu, rfl, hgu, hcells⟩ := hcu'.out (by omega)
      have hne : (Value.slice av n cv).ownBlock ≠ some gu := hd'.out gu (ofL_ne.2 (List.length_pos_iff.1 (by have := hml'.out; omega))) rfl
      have hx : wr.cell? ⟨gu, offu + k, none⟩ = some (.int .i64 (m[k]?.getD 0)) := hch.keep (hcells k hlt) (fun h => hne h.1)
      obtain ⟨_, a2, c2, e, hmv, hc⟩ := open_owns ho
      simp only [Value.slice.injEq] at e
      obtain ⟨rfl, -, rfl⟩ := e
      obtain ⟨g, off, rfl, hg, hj⟩ := hc (by omega)
      have hy := (hj k hlt).1
      have hfr := (hj k hlt).2.1
      have hst := (hj k hlt).2.2 (f k)
      rw [part_set] at hst
      rw [part_at hlt] at hy
      have H1 := Lib.hid hst
      have H2 := Lib.hid (hch.setCell (p := ⟨g, off + k, none⟩) (fun _ => ⟨rfl, by omega⟩) (.int .i64 (f k)))
      have hfk : Hid (f k = (l[k]?.getD 0 + b * m[k]?.getD 0) % p) := by show _ = _; rw [← hf'.out]
      have hlk := hl'.out k hlt
      have hmk := hm'.out k hlt
      clear ho hch hcells hc hj hst hne hf'
      generalize l[k]?.getD 0 = x at *
      generalize m[k]?.getD 0 = y at *
      obtain ⟨z, hz⟩ : ∃ z, f k = z := ⟨_, rfl⟩
      rw [hz] at H1 H2 hfk
      clear hz
      obtain ⟨b0, b1⟩ := times_bounds (b := b) (x := y) hb hb' hmk.1 (by omega)
      have hcall := Lib.hid (fun W => mod_any p (x + b * y) h2 h97 W)
      rw [← hfk.out] at hcall
      clear hfk
      have hk0 : 0 ≤ (k : Int) := by omega
      have hkn : (k : Int) < (n : Int) := by omega
      go_wp2_with (go_at_call 98; ((with_reducible refine (hcall.out _).mono ?_); rintro e w' ⟨rfl, rfl⟩))
      go_roundw
      case rel => exact ⟨k + 1, by omega, by go_num, H1.out, H2.out⟩
      case measure => simp [intOf]; omega
    · obtain rfl : k = n := by omega
      have hfin : Hid (Owns wr 3 1 (.slice av k cv) k (ofL (rowT k f))) := by rw [part_end] at ho; exact ho
      have hch' := Lib.hid hch
      clear ho hch
      go_wp2
      go_end0
      exact ⟨rfl, hfin.out, hch'.out⟩

end Ints
end Go.Proofs.YtimjlcnljefbbaaDoor

namespace Go.Proofs.YtimjlcnljefbbaaDoor
open Go.RowKit
namespace Ints
open Fld (mod_any fdMul_any fdSub_any mul_bounds)

set_option maxHeartbeats 1000000 in
theorem mxScale_any (p b : Int) (h2 : 2 ≤ p) (h97 : p ≤ 97) (hb : 0 ≤ b) (hb' : b < p) (v : Value) (n : Nat) (l : List Int) (w : World)
    (ho : Owns w 3 1 v n (ofL l)) (hl : ∀ j, j < n → 0 ≤ l[j]?.getD 0 ∧ l[j]?.getD 0 < p) :
    Calls Tryd.prog 84 #[.int .i64 p, v, .int .i64 b] w fun e w' => e = .returned (.tuple #[]) ∧ Owns w' 3 1 v n (ofL (rowT n fun j => (l[j]?.getD 0 * b) % p)) ∧ Chg (fun g => v.ownBlock = some g ∧ 0 < n) w w' := by
  have hll : l.length = n := by have := ho.1; rw [ofL_length] at this; omega
  obtain ⟨av, cv, rfl⟩ := ho.form
  have hmv : n ≤ 9223372036854775807 := by obtain ⟨_, a, c, e, h1, h2, _⟩ := ho; simp only [Value.slice.injEq] at e; unfold maxLen at h2; omega
  obtain ⟨f, hf⟩ : ∃ f : Nat → Int, (fun j : Nat => (l[j]?.getD 0 * b) % p) = f := ⟨_, rfl⟩
  have hf' := Lib.hid hf
  have ho0 : Hid (Owns w 3 1 (.slice av n cv) n (ofL (part n 0 f fun j => l[j]?.getD 0))) := by rw [part_start (f := f) hll] at ho; exact ho
  rw [hf]
  have hl' := Lib.hid hl
  clear ho hl hf hll
  go_enter Tryd.func84, Tryd.ntmps84
  go_wp2
  go_loopw [9] (fun i wr => ∃ k : Nat, k ≤ n ∧ i = .int .i64 k ∧ Owns wr 3 1 (.slice av n cv) n (ofL (part n k f fun j => l[j]?.getD 0)) ∧ Chg (fun g => (Value.slice av n cv).ownBlock = some g ∧ 0 < n) w wr) (fun i _ => n + 1 - (intOf i).toNat)
  case atStart => exact ⟨0, by omega, rfl, ho0.out, Chg.refl _ _⟩
  case round =>
    obtain ⟨k, hk, rfl, ho, hch⟩ := hrel
    by_cases hlt : k < n
    · obtain ⟨_, a2, c2, e, _, hc⟩ := open_owns ho
      simp only [Value.slice.injEq] at e
      obtain ⟨rfl, -, rfl⟩ := e
      obtain ⟨g, off, rfl, hg, hj⟩ := hc (by omega)
      have hy := (hj k hlt).1
      have hfr := (hj k hlt).2.1
      have hst := (hj k hlt).2.2 (f k)
      rw [part_set] at hst
      rw [part_at hlt] at hy
      have H1 := Lib.hid hst
      have H2 := Lib.hid (hch.setCell (p := ⟨g, off + k, none⟩) (fun _ => ⟨rfl, by omega⟩) (.int .i64 (f k)))
      have hfk : Hid (f k = (l[k]?.getD 0 * b) % p) := by show _ = _; rw [← hf'.out]
      have hlk := hl'.out k hlt
      clear ho hch hc hj hst hf'
      generalize l[k]?.getD 0 = x at *
      obtain ⟨z, hz⟩ : ∃ z, f k = z := ⟨_, rfl⟩
      rw [hz] at H1 H2 hfk
      clear hz
      have hcall := Lib.hid (fun W => fdMul_any p x b h2 h97 hlk.1 hlk.2 hb hb' W)
      rw [← hfk.out] at hcall
      clear hfk
      have hk0 : 0 ≤ (k : Int) := by omega
      have hkn : (k : Int) < (n : Int) := by omega
      go_wp2_with (go_at_call 64; ((with_reducible refine (hcall.out _).mono ?_); rintro e w' ⟨rfl, rfl⟩))
      go_roundw
      case rel => exact ⟨k + 1, by omega, by go_num, H1.out, H2.out⟩
      case measure => simp [intOf]; omega
    · obtain rfl : k = n := by omega
      have hfin : Hid (Owns wr 3 1 (.slice av k cv) k (ofL (rowT k f))) := by rw [part_end] at ho; exact ho
      have hch' := Lib.hid hch
      clear ho hch
      go_wp2
      go_end0
      exact ⟨rfl, hfin.out, hch'.out⟩

theorem less_mod (p x b y : Int) : (x + p - (b * y % p)) % p = (x + -b * y) % p := by
  rw [show x + p - (b * y % p) = (x + -(b * y % p)) + p * 1 by omega, Int.add_mul_emod_self_left]
  have h := Int.emod_add_mul_ediv (b * y) p
  rw [show x + -b * y = x + -(b * y % p) + p * -(b * y / p) by rw [Int.neg_mul, Int.mul_neg]; omega, Int.add_mul_emod_self_left]

set_option maxHeartbeats 2000000 in
theorem mxLess_any (p b : Int) (h2 : 2 ≤ p) (h97 : p ≤ 97) (hb : 0 ≤ b) (hb' : b < p) (v u : Value) (n : Nat) (l m : List Int) (w : World)
    (ho : Owns w 3 1 v n (ofL l)) (hr : Reads w 1 u n (ofL m)) (hd : blkIn (fun g => v.ownBlock ≠ some g) u (ofL m))
    (hl : ∀ j, j < n → 0 ≤ l[j]?.getD 0 ∧ l[j]?.getD 0 < p) (hm : ∀ j, j < n → 0 ≤ m[j]?.getD 0 ∧ m[j]?.getD 0 < p) :
    Calls Tryd.prog 85 #[.int .i64 p, v, u, .int .i64 b] w fun e w' => e = .returned (.tuple #[]) ∧ Owns w' 3 1 v n (ofL (rowT n fun j => (l[j]?.getD 0 + -b * m[j]?.getD 0) % p)) ∧ Chg (fun g => v.ownBlock = some g ∧ 0 < n) w w' := by
  have hll : l.length = n := by have := ho.1; rw [ofL_length] at this; omega
  obtain ⟨hml, au, cu, rfl, hmu, hcu⟩ := open_reads hr
  obtain ⟨av, cv, rfl⟩ := ho.form
  obtain ⟨f, hf⟩ : ∃ f : Nat → Int, (fun j : Nat => (l[j]?.getD 0 + -b * m[j]?.getD 0) % p) = f := ⟨_, rfl⟩
  have hf' := Lib.hid hf
  have ho0 : Hid (Owns w 3 1 (.slice av n cv) n (ofL (part n 0 f fun j => l[j]?.getD 0))) := by rw [part_start (f := f) hll] at ho; exact ho
  rw [hf]
  have hcu' := Lib.hid hcu
  have hd' := Lib.hid hd
  have hl' := Lib.hid hl
  have hm' := Lib.hid hm
  have hml' := Lib.hid hml
  clear ho hr hcu hd hl hm hf hll hml
  go_enter Tryd.func85, Tryd.ntmps85
  go_wp2
  go_loopw [11] (fun i wr => ∃ k : Nat, k ≤ n ∧ i = .int .i64 k ∧ Owns wr 3 1 (.slice av n cv) n (ofL (part n k f fun j => l[j]?.getD 0)) ∧ Chg (fun g => (Value.slice av n cv).ownBlock = some g ∧ 0 < n) w wr) (fun i _ => n + 1 - (intOf i).toNat)
  case atStart => exact ⟨0, by omega, rfl, ho0.out, Chg.refl _ _⟩
  case round =>
    obtain ⟨k, hk, rfl, ho, hch⟩ := hrel
    by_cases hlt : k < n
    · obtain ⟨gu, offu, rfl, hgu, hcells⟩ := hcu'.out (by omega)
      have hne : (Value.slice av n cv).ownBlock ≠ some gu := hd'.out gu (ofL_ne.2 (List.length_pos_iff.1 (by have := hml'.out; omega))) rfl
      have hx : wr.cell? ⟨gu, offu + k, none⟩ = some (.int .i64 (m[k]?.getD 0)) := hch.keep (hcells k hlt) (fun h => hne h.1)
      obtain ⟨_, a2, c2, e, hmv, hc⟩ := open_owns ho
      simp only [Value.slice.injEq] at e
      obtain ⟨rfl, -, rfl⟩ := e
      obtain ⟨g, off, rfl, hg, hj⟩ := hc (by omega)
      have hy := (hj k hlt).1
      have hfr := (hj k hlt).2.1
      have hst := (hj k hlt).2.2 (f k)
      rw [part_set] at hst
      rw [part_at hlt] at hy
      have H1 := Lib.hid hst
      have H2 := Lib.hid (hch.setCell (p := ⟨g, off + k, none⟩) (fun _ => ⟨rfl, by omega⟩) (.int .i64 (f k)))
      have hfk : Hid (f k = (l[k]?.getD 0 + -b * m[k]?.getD 0) % p) := by show _ = _; rw [← hf'.out]
      have hlk := hl'.out k hlt
      have hmk := hm'.out k hlt
      clear ho hch hcells hc hj hst hne hf'
      generalize l[k]?.getD 0 = x at *
      generalize m[k]?.getD 0 = y at *
      obtain ⟨z, hz⟩ : ∃ z, f k = z := ⟨_, rfl⟩
      rw [hz] at H1 H2 hfk
      clear hz
      obtain ⟨t, ht⟩ : ∃ t, b * y % p = t := ⟨_, rfl⟩
      have ht0 : 0 ≤ t := by rw [← ht]; exact Int.emod_nonneg _ (by omega)
      have ht1 : t < p := by rw [← ht]; exact Int.emod_lt_of_pos _ (by omega)
      have hc1 := Lib.hid (fun W => fdMul_any p b y h2 h97 hb hb' hmk.1 hmk.2 W)
      have hc2 := Lib.hid (fun W => fdSub_any p x t h2 h97 hlk.1 hlk.2 ht0 ht1 W)
      rw [ht] at hc1
      rw [← ht, less_mod, ← hfk.out, ht] at hc2
      clear hfk ht
      have hk0 : 0 ≤ (k : Int) := by omega
      have hkn : (k : Int) < (n : Int) := by omega
      go_wp2
      go_region_law (first | (go_simp; (go_at_call 64; ((with_reducible refine (hc1.out _).mono ?_); rintro e w' ⟨rfl, rfl⟩))) | (go_simp; (go_at_call 109; ((with_reducible refine (hc2.out _).mono ?_); rintro e w' ⟨rfl, rfl⟩))))
      all_goals
        go_wp2
        go_roundw
        case rel => exact ⟨k + 1, by omega, by go_num, H1.out, H2.out.drew⟩
        case measure => simp [intOf]; omega
    · obtain rfl : k = n := by omega
      have hfin : Hid (Owns wr 3 1 (.slice av k cv) k (ofL (rowT k f))) := by rw [part_end] at ho; exact ho
      have hch' := Lib.hid hch
      clear ho hch
      go_wp2
      go_end0
      exact ⟨rfl, hfin.out, hch'.out⟩

end Ints
end Go.Proofs.YtimjlcnljefbbaaDoor
