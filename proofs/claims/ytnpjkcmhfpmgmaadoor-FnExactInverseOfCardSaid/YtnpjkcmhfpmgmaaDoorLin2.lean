/- Plain linear algebra: row reduction spans the same and ends in a reduced list. -/
import Derived.Test.YtnpjkcmhfpmgmaaDoorLin
namespace Go.Proofs.YtnpjkcmhfpmgmaaDoor
set_option linter.unusedVariables false
namespace Lin
open Ints

theorem inv_all : ∀ p, p < 98 → Fld.goodN p = true → ∀ a, a < p → 1 ≤ a → a * Fld.invN p a % p = 1 := by decide +kernel
theorem inv_mul {p a : Int} (hg : Fld.goodB p = true) (h1 : 1 ≤ a) (h2 : a < p) : a * invI p a % p = 1 := by
  obtain ⟨b1, b2⟩ := Fld.good_bounds hg
  obtain ⟨P, rfl⟩ : ∃ P : Nat, p = P := ⟨p.toNat, by omega⟩
  obtain ⟨A, rfl⟩ : ∃ A : Nat, a = A := ⟨a.toNat, by omega⟩
  rw [Fld.goodB_nat] at hg
  have h := inv_all P (by omega) hg A (by omega) (by omega)
  unfold invI
  simp only [Int.toNat_natCast]
  exact_mod_cast h
theorem inv_eqv {p a : Int} (hg : Fld.goodB p = true) (h1 : 1 ≤ a) (h2 : a < p) : Eqv p (a * invI p a) 1 := by
  have h := inv_mul hg h1 h2
  exact (Eqv.mod p _).symm.trans (Eqv.of_eq h)

theorem at2_swap {L : List (List Int)} {i j : Nat} (hi : i < L.length) (hj : j < L.length) (q t : Nat) : at2 (swapL L i j) q t = at2 L (if q = j then i else if q = i then j else q) t := by
  unfold at2
  rw [swapL_at hi hj]
  split
  · rfl
  · split <;> rfl
theorem at2_scaled {p : Int} {r c : Nat} {M L : List (List Int)} (hr : r < L.length) (q : Nat) {j : Nat} (hj : j < (lAt L r).length) :
    at2 (Red.scaled p r c M L) q j = if q = r then (at2 L r j * invI p (at2 M r c)) % p else at2 L q j := by
  unfold Red.scaled
  conv => lhs; unfold at2
  rw [lAt_set _ _ _ _ hr]
  by_cases e : r = q
  · subst e
    rw [if_pos rfl, if_pos rfl, scaleRow, rowT_at hj]
    rfl
  · rw [if_neg e, if_neg (fun h => e h.symm)]
    rfl
theorem at2_clear {p : Int} {r i : Nat} {X : Nat → Int} {L : List (List Int)} {q j : Nat} (hq : q < L.length) (hj : j < (lAt L q).length) :
    at2 (clearP p X r L i) q j = if q < i ∧ q ≠ r ∧ X q ≠ 0 then (at2 L q j + -X q * at2 L r j) % p else at2 L q j := by
  conv => lhs; unfold at2
  rw [clearP_at hq]
  by_cases e : q < i
  · rw [if_pos e, clearRow]
    by_cases e2 : q ≠ r ∧ X q ≠ 0
    · rw [if_pos e2, if_pos ⟨e, e2⟩, lessRow, rowT_at hj]
      rfl
    · rw [if_neg e2, if_neg (fun h => e2 h.2)]
      rfl
  · rw [if_neg e, if_neg (fun h => e h.1)]
    rfl

section
variable {p : Int} {n w : Nat} {L : List (List Int)}
theorem same_swap {i j : Nat} (hL : L.length = n) (hi : i < n) (hj : j < n) : Same p w n (at2 (swapL L i j)) n (at2 L) := by
  have e := fun q t => at2_swap (L := L) (i := i) (j := j) (by omega) (by omega) q t
  refine ⟨fun q hq => ?_, fun q hq => ?_⟩
  · refine (Span.row (M := at2 L) (i := if q = j then i else if q = i then j else q) ?_).congr fun t _ => Eqv.of_eq (e q t)
    split
    · exact hi
    · split <;> assumption
  · refine (Span.row (M := at2 (swapL L i j)) (i := if q = j then i else if q = i then j else q) ?_).congr fun t _ => Eqv.of_eq ?_
    · split
      · exact hi
      · split <;> assumption
    · rw [e]
      congr 1
      by_cases e1 : q = j
      · subst e1
        by_cases e2 : i = q
        · simp [e2]
        · simp [e2]
      · by_cases e2 : q = i
        · subst e2; simp [e1]
        · simp [e1, e2]
theorem same_scaled {r c : Nat} {M : List (List Int)} (hg : Fld.goodB p = true) (hL : ElemsT p n w L) (hr : r < n) (h1 : 1 ≤ at2 M r c) (h2 : at2 M r c < p) : Same p w n (at2 (Red.scaled p r c M L)) n (at2 L) := by
  have hl := (hL.2 r hr).1
  have e := fun q (j : Nat) (hj : j < w) => at2_scaled (p := p) (c := c) (M := M) (L := L) (r := r) (by rw [hL.1]; exact hr) q (j := j) (by rw [hl]; exact hj)
  have hi := inv_eqv hg h1 h2
  refine ⟨fun q hq => ?_, fun q hq => ?_⟩
  · by_cases e1 : q = r
    · subst e1
      refine ((Span.row (M := at2 L) hq).smul (invI p (at2 M q c))).congr fun j hj => ?_
      rw [e q j hj, if_pos rfl, Int.mul_comm (invI p _)]
      exact Eqv.mod _ _
    · exact (Span.row (M := at2 L) hq).congr fun j hj => Eqv.of_eq (by rw [e q j hj, if_neg e1])
  · by_cases e1 : q = r
    · subst e1
      refine ((Span.row (M := at2 (Red.scaled p q c M L)) hq).smul (at2 M q c)).congr fun j hj => ?_
      rw [e q j hj, if_pos rfl]
      refine Eqv.symm (((Eqv.refl p _).mul (Eqv.mod p _)).trans ?_)
      refine Eqv.trans (Eqv.of_eq ?_) (((Eqv.refl p (at2 L q j)).mul hi).trans (Eqv.of_eq (Int.mul_one _)))
      rw [Int.mul_left_comm]
    · exact (Span.row (M := at2 (Red.scaled p r c M L)) hq).congr fun j hj => Eqv.of_eq (by rw [e q j hj, if_neg e1])
theorem same_clear {r : Nat} {X : Nat → Int} (hL : ElemsT p n w L) (hr : r < n) : Same p w n (at2 (clearP p X r L L.length)) n (at2 L) := by
  have e := fun q (hq : q < n) (j : Nat) (hj : j < w) => at2_clear (p := p) (r := r) (i := L.length) (X := X) (L := L) (q := q) (j := j) (by rw [hL.1]; exact hq) (by rw [(hL.2 q hq).1]; exact hj)
  have er : ∀ j, j < w → at2 (clearP p X r L L.length) r j = at2 L r j := fun j hj => by rw [e r hr j hj, if_neg (fun h => h.2.1 rfl)]
  refine ⟨fun q hq => ?_, fun q hq => ?_⟩
  · by_cases e1 : q < L.length ∧ q ≠ r ∧ X q ≠ 0
    · refine ((Span.row (M := at2 L) hq).comb (Span.row (M := at2 L) hr) 1 (-X q)).congr fun j hj => ?_
      rw [e q hq j hj, if_pos e1, Int.one_mul]
      exact Eqv.mod _ _
    · exact (Span.row (M := at2 L) hq).congr fun j hj => Eqv.of_eq (by rw [e q hq j hj, if_neg e1])
  · by_cases e1 : q < L.length ∧ q ≠ r ∧ X q ≠ 0
    · refine ((Span.row (M := at2 (clearP p X r L L.length)) hq).comb (Span.row (M := at2 (clearP p X r L L.length)) hr) 1 (X q)).congr fun j hj => ?_
      rw [er j hj, e q hq j hj, if_pos e1, Int.one_mul]
      refine Eqv.symm (((Eqv.mod p _).add (Eqv.refl p _)).trans (Eqv.of_eq ?_))
      rw [Int.neg_mul]
      omega
    · exact (Span.row (M := at2 (clearP p X r L L.length)) hq).congr fun j hj => Eqv.of_eq (by rw [e q hq j hj, if_neg e1])
end

/-- The pivot, where one is found. -/
theorem pivot_in {p : Int} {n c d : Nat} {s : Red} (h : RedOk p n c d s) {j : Nat} (hj : j < c) (hk : seek s.M j s.r < s.M.length) :
    s.r < n ∧ seek s.M j s.r < n ∧ s.r ≤ seek s.M j s.r ∧ 1 ≤ at2 (swapL s.M s.r (seek s.M j s.r)) s.r j ∧ at2 (swapL s.M s.r (seek s.M j s.r)) s.r j < p := by
  obtain ⟨h1, h2, h3⟩ := h
  have hle := seek_le (M := s.M) (c := j) (k := s.r) (by rw [h1.1]; exact h3)
  have hne := seek_ne hk
  have hL := h1.1
  have hb := (h1.2 (seek s.M j s.r) (by omega)).2 j hj
  refine ⟨by omega, by omega, hle.1, ?_⟩
  rw [at2_swap (by omega) hk]
  by_cases e : s.r = seek s.M j s.r
  · rw [if_pos e]
    rw [← e] at hne hb
    omega
  · rw [if_neg e, if_pos rfl]
    omega

theorem same_step {p : Int} {n c d : Nat} {s : Red} (hg : Fld.goodB p = true) (h : RedOk p n c d s) {j : Nat} (hj : j < c) (hk : seek s.M j s.r < s.M.length) :
    Same p c n (at2 (Red.step p s j (seek s.M j s.r)).M) n (at2 s.M) ∧ Same p d n (at2 (Red.step p s j (seek s.M j s.r)).T) n (at2 s.T) := by
  obtain ⟨k1, k2, k3, k4, k5⟩ := pivot_in h hj hk
  obtain ⟨h1, h2, h3⟩ := h
  have hp := (Fld.good_bounds hg).1
  have m1 := elems_swap h1 k1 k2
  have t1 := elems_swap h2 k1 k2
  have m2 := elems_scaled hp (q := j) (M := swapL s.M s.r (seek s.M j s.r)) m1 k1
  have t2 := elems_scaled hp (q := j) (M := swapL s.M s.r (seek s.M j s.r)) t1 k1
  exact ⟨((same_clear m2 k1).trans (same_scaled hg m1 k1 k4 k5)).trans (same_swap h1.1 k1 k2), ((same_clear t2 k1).trans (same_scaled hg t1 k1 k4 k5)).trans (same_swap h2.1 k1 k2)⟩
theorem same_redN {p : Int} {n c d : Nat} {s : Red} (hg : Fld.goodB p = true) (h : RedOk p n c d s) : ∀ j, j ≤ c → Same p c n (at2 (redN p s j).M) n (at2 s.M) ∧ Same p d n (at2 (redN p s j).T) n (at2 s.T)
  | 0, _ => ⟨Same.refl, Same.refl⟩
  | j + 1, hj => by
    have hp := (Fld.good_bounds hg).1
    have ih := same_redN hg h j (by omega)
    have hok := redN_ok hp h j
    rw [redN_succ]
    by_cases hk : seek (redN p s j).M j (redN p s j).r < (redN p s j).M.length
    · rw [redCol_yes hk]
      have h1 := same_step hg hok (by omega) hk
      exact ⟨h1.1.trans ih.1, h1.2.trans ih.2⟩
    · have : redCol p (redN p s j) j = redN p s j := if_neg hk
      rw [this]
      exact ih

/-- The second list tells how the first one was made of what was there at the start. -/
def Made (p : Int) (n c : Nat) (M0 : List (List Int)) (s : Red) : Prop := ∀ i, i < n → ∀ j, j < c → Eqv p (at2 s.M i j) (sumN (fun k => at2 s.T i k * at2 M0 k j) n)
theorem made_step {p : Int} {n c : Nat} {M0 : List (List Int)} {s : Red} (hg : Fld.goodB p = true) (h : RedOk p n c n s) (hm : Made p n c M0 s) {j : Nat} (hj : j < c) (hk : seek s.M j s.r < s.M.length) :
    Made p n c M0 (Red.step p s j (seek s.M j s.r)) := by
  obtain ⟨k1, k2, k3, k4, k5⟩ := pivot_in h hj hk
  obtain ⟨h1, h2, h3⟩ := h
  have hp := (Fld.good_bounds hg).1
  generalize seek s.M j s.r = k at *
  have m1 := elems_swap h1 k1 k2
  have t1 := elems_swap h2 k1 k2
  have m2 := elems_scaled hp (q := j) (M := swapL s.M s.r k) m1 k1
  have t2 := elems_scaled hp (q := j) (M := swapL s.M s.r k) t1 k1
  have a1 : ∀ i, i < n → ∀ t, t < c → Eqv p (at2 (swapL s.M s.r k) i t) (sumN (fun q => at2 (swapL s.T s.r k) i q * at2 M0 q t) n) := by
    intro i hi t ht
    rw [at2_swap (by rw [h1.1]; exact k1) (by rw [h1.1]; exact k2)]
    refine (hm _ ?_ t ht).trans (sumN_eqv n fun q _ => Eqv.of_eq ?_)
    · split
      · exact k1
      · split <;> assumption
    · rw [at2_swap (by rw [h2.1]; exact k1) (by rw [h2.1]; exact k2)]
  have a2 : ∀ i, i < n → ∀ t, t < c → Eqv p (at2 (Red.scaled p s.r j (swapL s.M s.r k) (swapL s.M s.r k)) i t) (sumN (fun q => at2 (Red.scaled p s.r j (swapL s.M s.r k) (swapL s.T s.r k)) i q * at2 M0 q t) n) := by
    intro i hi t ht
    rw [at2_scaled (by rw [m1.1]; exact k1) i (by rw [(m1.2 _ k1).1]; exact ht)]
    by_cases e : i = s.r
    · rw [if_pos e]
      refine (Eqv.mod _ _).trans ?_
      refine ((a1 s.r k1 t ht).mul (Eqv.refl p (invI p (at2 (swapL s.M s.r k) s.r j)))).trans ?_
      rw [Int.mul_comm, ← sumN_mul]
      refine sumN_eqv n fun q hq => ?_
      rw [at2_scaled (by rw [t1.1]; exact k1) i (by rw [(t1.2 _ k1).1]; exact hq), if_pos e]
      refine Eqv.symm (((Eqv.mod p _).mul (Eqv.refl p _)).trans (Eqv.of_eq ?_))
      rw [Int.mul_comm (at2 (swapL s.T s.r k) s.r q), Int.mul_assoc]
    · rw [if_neg e]
      refine (a1 i hi t ht).trans (sumN_eqv n fun q hq => Eqv.of_eq ?_)
      rw [at2_scaled (by rw [t1.1]; exact k1) i (by rw [(t1.2 _ k1).1]; exact hq), if_neg e]
  intro i hi t ht
  show Eqv p (at2 (clearP _ _ _ _ _) i t) (sumN (fun q => at2 (clearP _ _ _ _ _) i q * at2 M0 q t) n)
  rw [at2_clear (by rw [m2.1]; exact hi) (by rw [(m2.2 i hi).1]; exact ht)]
  have et := fun q (hq : q < n) => at2_clear (p := p) (r := s.r) (i := (Red.scaled p s.r j (swapL s.M s.r k) (swapL s.T s.r k)).length) (X := Red.col j (Red.scaled p s.r j (swapL s.M s.r k) (swapL s.M s.r k))) (L := Red.scaled p s.r j (swapL s.M s.r k) (swapL s.T s.r k)) (q := i) (j := q) (by rw [t2.1]; exact hi) (by rw [(t2.2 i hi).1]; exact hq)
  rw [t2.1] at et
  rw [m2.1]
  by_cases e : i < n ∧ i ≠ s.r ∧ Red.col j (Red.scaled p s.r j (swapL s.M s.r k) (swapL s.M s.r k)) i ≠ 0
  · rw [if_pos e]
    refine (Eqv.mod _ _).trans ?_
    refine ((a2 i hi t ht).add ((Eqv.refl p _).mul (a2 s.r k1 t ht))).trans ?_
    rw [← sumN_mul, ← sumN_add]
    refine sumN_eqv n fun q hq => ?_
    rw [t2.1, et q hq, if_pos e]
    refine Eqv.symm (((Eqv.mod p _).mul (Eqv.refl p _)).trans (Eqv.of_eq ?_))
    rw [Int.add_mul, Int.mul_assoc]
  · rw [if_neg e]
    refine (a2 i hi t ht).trans (sumN_eqv n fun q hq => Eqv.of_eq ?_)
    rw [t2.1, et q hq, if_neg e]
theorem made_redN {p : Int} {n c : Nat} {M0 : List (List Int)} {s : Red} (hg : Fld.goodB p = true) (h : RedOk p n c n s) (hm : Made p n c M0 s) : ∀ j, j ≤ c → Made p n c M0 (redN p s j)
  | 0, _ => hm
  | j + 1, hj => by
    have hp := (Fld.good_bounds hg).1
    have ih := made_redN hg h hm j (by omega)
    have hok := redN_ok hp h j
    rw [redN_succ]
    by_cases hk : seek (redN p s j).M j (redN p s j).r < (redN p s j).M.length
    · rw [redCol_yes hk]
      exact made_step hg hok ih (by omega) hk
    · have : redCol p (redN p s j) j = redN p s j := if_neg hk
      rw [this]
      exact ih

/-- What holds once c columns are done: r rows have their leads, the others are 0 so far. -/
structure Upto (n c : Nat) (M : Nat → Nat → Int) (r : Nat) (ld : Nat → Nat) : Prop where
  lt : ∀ i, i < r → ld i < c
  mono : ∀ i k, i < k → k < r → ld i < ld k
  one : ∀ i, i < r → M i (ld i) = 1
  zero : ∀ i, i < r → ∀ j, j < ld i → M i j = 0
  col : ∀ i k, i < r → k < n → k ≠ i → M k (ld i) = 0
  low : ∀ k, r ≤ k → k < n → ∀ j, j < c → M k j = 0

theorem upto_step {p : Int} {n c d : Nat} {s : Red} {ld : Nat → Nat} (hg : Fld.goodB p = true) (h : RedOk p n c d s) {j : Nat} (hj : j < c) (hu : Upto n j (at2 s.M) s.r ld) (hk : seek s.M j s.r < s.M.length) :
    Upto n (j + 1) (at2 (Red.step p s j (seek s.M j s.r)).M) (s.r + 1) fun i => if i = s.r then j else ld i := by
  obtain ⟨k1, k2, k3, k4, k5⟩ := pivot_in h hj hk
  obtain ⟨h1, h2, h3⟩ := h
  have hp := (Fld.good_bounds hg).1
  have hinv := inv_mul hg k4 k5
  generalize hkk : seek s.M j s.r = k at *
  have m1 := elems_swap h1 k1 k2
  have m2 := elems_scaled hp (q := j) (M := swapL s.M s.r k) m1 k1
  have hs : ∀ q t, at2 (swapL s.M s.r k) q t = at2 s.M (if q = k then s.r else if q = s.r then k else q) t := fun q t => at2_swap (by rw [h1.1]; exact k1) (by rw [h1.1]; exact k2) q t
  have e2 : ∀ q t, t < c → at2 (Red.scaled p s.r j (swapL s.M s.r k) (swapL s.M s.r k)) q t = if q = s.r then (at2 (swapL s.M s.r k) s.r t * invI p (at2 (swapL s.M s.r k) s.r j)) % p else at2 (swapL s.M s.r k) q t :=
    fun q t ht => at2_scaled (by rw [m1.1]; exact k1) q (by rw [(m1.2 _ k1).1]; exact ht)
  have e3 : ∀ q, q < n → ∀ t, t < c → at2 (Red.step p s j k).M q t = if q < n ∧ q ≠ s.r ∧ Red.col j (Red.scaled p s.r j (swapL s.M s.r k) (swapL s.M s.r k)) q ≠ 0 then (at2 (Red.scaled p s.r j (swapL s.M s.r k) (swapL s.M s.r k)) q t + -Red.col j (Red.scaled p s.r j (swapL s.M s.r k) (swapL s.M s.r k)) q * at2 (Red.scaled p s.r j (swapL s.M s.r k) (swapL s.M s.r k)) s.r t) % p else at2 (Red.scaled p s.r j (swapL s.M s.r k) (swapL s.M s.r k)) q t := by
    intro q hq t ht
    have := at2_clear (p := p) (r := s.r) (i := (Red.scaled p s.r j (swapL s.M s.r k) (swapL s.M s.r k)).length) (X := Red.col j (Red.scaled p s.r j (swapL s.M s.r k) (swapL s.M s.r k))) (L := Red.scaled p s.r j (swapL s.M s.r k) (swapL s.M s.r k)) (q := q) (j := t) (by rw [m2.1]; exact hq) (by rw [(m2.2 q hq).1]; exact ht)
    rw [m2.1] at this
    rw [← this]
    show at2 (clearP _ _ _ _ _) q t = _
    rw [m2.1]
  have hb2 : ∀ q, q < n → ∀ t, t < c → 0 ≤ at2 (Red.scaled p s.r j (swapL s.M s.r k) (swapL s.M s.r k)) q t ∧ at2 (Red.scaled p s.r j (swapL s.M s.r k) (swapL s.M s.r k)) q t < p := fun q hq t ht => (m2.2 q hq).2 t ht
  -- the new row r: 0 before j, 1 at j
  have r0 : ∀ t, t < j → at2 (Red.scaled p s.r j (swapL s.M s.r k) (swapL s.M s.r k)) s.r t = 0 := by
    intro t ht
    rw [e2 _ _ (by omega), if_pos rfl, hs]
    have : (if s.r = k then s.r else if s.r = s.r then k else s.r) = k := by split <;> simp_all
    rw [this, hu.low k k3 k2 t ht, Int.zero_mul]
    rfl
  have r1 : at2 (Red.scaled p s.r j (swapL s.M s.r k) (swapL s.M s.r k)) s.r j = 1 := by
    rw [e2 _ _ hj, if_pos rfl]
    exact hinv
  -- the other rows: before j as they were
  have q0 : ∀ q, q < n → q ≠ s.r → ∀ t, t < j → at2 (Red.step p s j k).M q t = at2 (swapL s.M s.r k) q t := by
    intro q hq hne t ht
    have hx := hb2 q hq t (by omega)
    rw [e3 q hq t (by omega), r0 t ht, Int.mul_zero, Int.add_zero]
    rw [Int.emod_eq_of_lt hx.1 hx.2]
    rw [e2 q t (by omega), if_neg hne]
    split <;> rfl
  have q1 : ∀ q, q < n → q ≠ s.r → at2 (Red.step p s j k).M q j = 0 := by
    intro q hq hne
    rw [e3 q hq j hj, r1, Int.mul_one]
    by_cases e : Red.col j (Red.scaled p s.r j (swapL s.M s.r k) (swapL s.M s.r k)) q = 0
    · rw [if_neg (fun h => h.2.2 e)]
      exact e
    · rw [if_pos ⟨hq, hne, e⟩]
      show (at2 _ q j + -at2 _ q j) % p = 0
      rw [Int.add_right_neg]
      rfl
  have rr : ∀ t, t < c → at2 (Red.step p s j k).M s.r t = at2 (Red.scaled p s.r j (swapL s.M s.r k) (swapL s.M s.r k)) s.r t := by
    intro t ht
    rw [e3 s.r k1 t ht, if_neg (fun h => h.2.1 rfl)]
  have hold : ∀ i, i < s.r → ∀ t, t < j → at2 (Red.step p s j k).M i t = at2 s.M i t := by
    intro i hi t ht
    rw [q0 i (by omega) (by omega) t ht, hs, if_neg (by omega), if_neg (by omega)]
  refine ⟨fun i hi => ?_, fun i q hiq hq => ?_, fun i hi => ?_, fun i hi t ht => ?_, fun i q hi hq hne => ?_, fun q hrq hq t ht => ?_⟩
  · try dsimp only
    split
    · omega
    · have := hu.lt i (by omega); omega
  · try dsimp only
    rw [if_neg (by omega)]
    split
    · exact hu.lt i (by omega)
    · exact hu.mono i q hiq (by omega)
  · try dsimp only
    split
    · rename_i e; subst e; rw [rr j hj]; exact r1
    · have hl := hu.lt i (by omega)
      rw [hold i (by omega) _ hl]
      exact hu.one i (by omega)
  · try dsimp only at ht
    split at ht
    · rename_i e; subst e; rw [rr t (by omega)]; exact r0 t ht
    · have hl := hu.lt i (by omega)
      rw [hold i (by omega) _ (by omega)]
      exact hu.zero i (by omega) t ht
  · try dsimp only
    split
    · rename_i e; subst e; exact q1 q hq hne
    · have hl := hu.lt i (by omega)
      by_cases e : q = s.r
      · subst e
        rw [rr _ (by omega)]
        exact r0 _ hl
      · rw [q0 q hq e _ hl, hs]
        by_cases e2 : q = k
        · rw [if_pos e2]
          exact hu.col i s.r (by omega) k1 (by omega)
        · rw [if_neg e2, if_neg e]
          exact hu.col i q (by omega) hq hne
  · by_cases e : t = j
    · subst e; exact q1 q hq (by omega)
    · rw [q0 q hq (by omega) t (by omega), hs]
      by_cases e2 : q = k
      · rw [if_pos e2]
        exact hu.low s.r (Nat.le_refl _) k1 t (by omega)
      · rw [if_neg e2, if_neg (by omega)]
        exact hu.low q (by omega) hq t (by omega)

theorem upto_redN {p : Int} {n c d : Nat} {s : Red} (hg : Fld.goodB p = true) (h : RedOk p n c d s) (h0 : s.r = 0) : ∀ j, j ≤ c → ∃ ld, Upto n j (at2 (redN p s j).M) (redN p s j).r ld
  | 0, _ => ⟨fun _ => 0, by
    show Upto n 0 (at2 s.M) s.r _
    rw [h0]
    exact ⟨fun i hi => by omega, fun i k _ hk => by omega, fun i hi => by omega, fun i hi => by omega, fun i k hi => by omega, fun k _ _ j hj => by omega⟩⟩
  | j + 1, hj => by
    have hp := (Fld.good_bounds hg).1
    obtain ⟨ld, hu⟩ := upto_redN hg h h0 j (by omega)
    have hok := redN_ok hp h j
    rw [redN_succ]
    by_cases hk : seek (redN p s j).M j (redN p s j).r < (redN p s j).M.length
    · rw [redCol_yes hk]
      exact ⟨_, upto_step hg hok (by omega) hu hk⟩
    · have : redCol p (redN p s j) j = redN p s j := if_neg hk
      rw [this]
      refine ⟨ld, fun i hi => by have := hu.lt i hi; omega, hu.mono, hu.one, hu.zero, hu.col, fun k hrk hkn t ht => ?_⟩
      by_cases e : t = j
      · subst e
        have hl := seek_le (M := (redN p s t).M) (c := t) (k := (redN p s t).r) (by rw [hok.1.1]; exact hok.2.2)
        have hl2 := hok.1.1
        exact seek_zero k hrk (by omega)
      · exact hu.low k hrk hkn t (by omega)

theorem at2_take {L : List (List Int)} {r i : Nat} (h : i < r) (j : Nat) : at2 (L.take r) i j = at2 L i j := by
  unfold at2 lAt
  rw [List.getElem?_take, if_pos h]
theorem at2_drop (L : List (List Int)) (r i j : Nat) : at2 (L.drop r) i j = at2 L (r + i) j := by
  unfold at2 lAt
  rw [List.getElem?_drop]

/-- What a reduction ends in. -/
theorem red_end {p : Int} {n c d : Nat} {M T : List (List Int)} (hg : Fld.goodB p = true) (hM : ElemsT p n c M) (hT : ElemsT p n d T) :
    ∃ ld, Upto n c (at2 (redN p ⟨M, T, 0⟩ c).M) (redN p ⟨M, T, 0⟩ c).r ld ∧ RedOk p n c d (redN p ⟨M, T, 0⟩ c) ∧ Same p c n (at2 (redN p ⟨M, T, 0⟩ c).M) n (at2 M) ∧ Same p d n (at2 (redN p ⟨M, T, 0⟩ c).T) n (at2 T) := by
  have hp := (Fld.good_bounds hg).1
  have hok : RedOk p n c d ⟨M, T, 0⟩ := ⟨hM, hT, Nat.zero_le _⟩
  obtain ⟨ld, hu⟩ := upto_redN hg hok rfl c (Nat.le_refl c)
  have hs := same_redN hg hok c (Nat.le_refl c)
  exact ⟨ld, hu, redN_ok hp hok c, hs.1, hs.2⟩

theorem elems_nil {p : Int} {n : Nat} {M : List (List Int)} (h : M.length = n) : ElemsT p n 0 (M.map fun _ => []) := by
  refine ⟨by simp [h], fun i hi => ⟨?_, fun j hj => by omega⟩⟩
  simp [lAt, h, hi]
/-- The reduced rows: a reduced list that spans what the rows span. -/
theorem reduced_spec {p : Int} {n c : Nat} {M : List (List Int)} (hg : Fld.goodB p = true) (hM : ElemsT p n c M) :
    ∃ ld, Rref c (reducedL p c M).length (at2 (reducedL p c M)) ld ∧ ElemsT p (reducedL p c M).length c (reducedL p c M) ∧ (reducedL p c M).length ≤ n ∧ Same p c (reducedL p c M).length (at2 (reducedL p c M)) n (at2 M) := by
  obtain ⟨ld, hu, hok, hs, _⟩ := red_end hg hM (elems_nil (p := p) hM.1)
  have hl : (reducedL p c M).length = (redM p c M).r := by
    unfold reducedL redM
    rw [List.length_take, hok.1.1]
    have := hok.2.2
    omega
  have e : ∀ i, i < (redM p c M).r → ∀ j, at2 (reducedL p c M) i j = at2 (redM p c M).M i j := fun i hi j => at2_take hi j
  have hr : (redM p c M).r ≤ n := hok.2.2
  refine ⟨ld, ?_, ?_, by rw [hl]; exact hr, ?_⟩
  · rw [hl]
    refine ⟨hu.lt, hu.mono, fun i hi => by rw [e i hi]; exact hu.one i hi, fun i hi j hj => by rw [e i hi]; exact hu.zero i hi j hj, fun i k hi hk hne => ?_⟩
    rw [e k hk]
    exact hu.col i k hi (Nat.lt_of_lt_of_le hk hr) hne
  · refine ⟨rfl, fun i hi => ?_⟩
    rw [hl] at hi
    have h1 := hok.1.2 i (Nat.lt_of_lt_of_le hi hr)
    refine ⟨?_, fun j hj => by rw [e i hi]; exact h1.2 j hj⟩
    have e4 : lAt (reducedL p c M) i = lAt (redM p c M).M i := by
      unfold reducedL lAt
      rw [List.getElem?_take, if_pos hi]
    rw [e4]
    exact h1.1
  · refine Same.trans ?_ hs
    rw [hl]
    refine ⟨fun i hi => ?_, fun i hi => ?_⟩
    · exact (Span.row (M := at2 (redM p c M).M) (Nat.lt_of_lt_of_le hi hr)).congr fun j _ => Eqv.of_eq (e i hi j)
    · by_cases h1 : i < (redM p c M).r
      · exact (Span.row (M := at2 (reducedL p c M)) h1).congr fun j _ => Eqv.of_eq (e i h1 j).symm
      · exact Span.zero.congr fun j hj => Eqv.of_eq (hu.low i (Nat.le_of_not_lt h1) hi j hj)

theorem lists_eq {p : Int} {c : Nat} {L L' : List (List Int)} (hL : ElemsT p L.length c L) (hL' : ElemsT p L'.length c L') (hl : L.length = L'.length) (h : ∀ i, i < L.length → ∀ j, j < c → at2 L i j = at2 L' i j) : L = L' := by
  rw [tab_eq (L := L) rfl fun i hi => (hL.2 i hi).1, tab_eq (L := L') hl.symm fun i hi => (hL'.2 i (by omega)).1]
  exact tabT_congr fun i j hi hj => h i hi j hj
/-- Rows that span the same have the same reduced rows. -/
theorem reduced_same {p : Int} {n n' c : Nat} {M M' : List (List Int)} (hg : Fld.goodB p = true) (hM : ElemsT p n c M) (hM' : ElemsT p n' c M') (hs : Same p c n (at2 M) n' (at2 M')) : reducedL p c M = reducedL p c M' := by
  obtain ⟨ld, h1, h2, _, h3⟩ := reduced_spec hg hM
  obtain ⟨ld', h1', h2', _, h3'⟩ := reduced_spec hg hM'
  obtain ⟨e1, e2⟩ := h1.unique (Fld.good_bounds hg).1 h1' (fun i hi j hj => (h2.2 i hi).2 j hj) (fun i hi j hj => (h2'.2 i hi).2 j hj) ((h3.trans hs).trans h3'.symm)
  exact lists_eq h2 h2' e1 e2

end Lin
end Go.Proofs.YtnpjkcmhfpmgmaaDoor
