/- Plain words: row reduction, step by step. Plain linear algebra over a small prime field: sums, spans, reduced lists; a reduced list is known from its span. Plain linear algebra: row reduction spans the same and ends in a reduced list. Plain linear algebra: what solves a list of rows, from the left and from the right, and what solves that again. Plain words: kernels, as the program and as the reference make them; they are the same. Plain words: the determinant by the steps of a full reduction, and by the steps below the leads alone. -/
import Derived.Test.YtimjlcnljefbbaaMxPlain
namespace Go.Proofs.Ytimjlcnljefbbaa
set_option linter.unusedVariables false
namespace Ints

def lessRow (p b : Int) (l m : List Int) : List Int := rowT l.length fun j => (l[j]?.getD 0 + -b * m[j]?.getD 0) % p
def scaleRow (p b : Int) (l : List Int) : List Int := rowT l.length fun j => (l[j]?.getD 0 * b) % p
def swapL (L : List (List Int)) (i j : Nat) : List (List Int) := (L.set i (lAt L j)).set j (lAt L i)
def invI (p a : Int) : Int := (Fld.invN p.toNat a.toNat : Int)
/-- The first index from k on at which column c is not 0, at most f indices further. -/
def seekF (M : List (List Int)) (c : Nat) : Nat → Nat → Nat
  | 0, k => k
  | f + 1, k => if at2 M k c = 0 then seekF M c f (k + 1) else k
def seek (M : List (List Int)) (c k : Nat) : Nat := seekF M c (M.length - k) k
/-- Row q with a multiple of row r taken away. -/
def clearRow (p : Int) (X : Nat → Int) (r : Nat) (M : List (List Int)) (q : Nat) : List Int := if q ≠ r ∧ X q ≠ 0 then lessRow p (X q) (lAt M q) (lAt M r) else lAt M q
/-- The first i rows cleared. -/
def clearP (p : Int) (X : Nat → Int) (r : Nat) (M : List (List Int)) (i : Nat) : List (List Int) := (List.range M.length).map fun q => if q < i then clearRow p X r M q else lAt M q

structure Red where
  M : List (List Int)
  T : List (List Int)
  r : Nat

def Red.col (c : Nat) (M : List (List Int)) : Nat → Int := fun q => at2 M q c
def Red.scaled (p : Int) (r c : Nat) (M X : List (List Int)) : List (List Int) := X.set r (scaleRow p (invI p (at2 M r c)) (lAt X r))
def Red.step (p : Int) (s : Red) (c k : Nat) : Red :=
  let M1 := swapL s.M s.r k
  let M2 := Red.scaled p s.r c M1 M1
  let T2 := Red.scaled p s.r c M1 (swapL s.T s.r k)
  ⟨clearP p (Red.col c M2) s.r M2 M2.length, clearP p (Red.col c M2) s.r T2 T2.length, s.r + 1⟩
def redCol (p : Int) (s : Red) (c : Nat) : Red := if seek s.M c s.r < s.M.length then Red.step p s c (seek s.M c s.r) else s
def redN (p : Int) (s : Red) : Nat → Red
  | 0 => s
  | c + 1 => redCol p (redN p s c) c

theorem swapL_length (L : List (List Int)) (i j : Nat) : (swapL L i j).length = L.length := by simp [swapL]
theorem swapL_at {L : List (List Int)} {i j : Nat} (hi : i < L.length) (hj : j < L.length) (q : Nat) : lAt (swapL L i j) q = if q = j then lAt L i else if q = i then lAt L j else lAt L q := by
  unfold swapL
  rw [lAt_set _ _ _ _ (by simpa using hj), lAt_set _ _ _ _ hi]
  by_cases e : q = j
  · rw [if_pos e, if_pos e.symm]
  · rw [if_neg e, if_neg (fun h => e h.symm)]
    by_cases e2 : q = i
    · rw [if_pos e2, if_pos e2.symm]
    · rw [if_neg e2, if_neg (fun h => e2 h.symm)]
theorem swapL_same {L : List (List Int)} {i : Nat} (hi : i < L.length) : swapL L i i = L := by
  apply list_eq (swapL_length _ _ _)
  intro q _
  rw [swapL_at hi hi]
  by_cases e : q = i
  · subst e; simp
  · simp [e]
theorem lAt_set_self (L : List (List Int)) (i : Nat) : L.set i (lAt L i) = L := by
  by_cases h : i < L.length
  · apply list_eq (by simp)
    intro q _
    rw [lAt_set _ _ _ _ h]
    by_cases e : i = q
    · subst e; simp
    · simp [e]
  · rw [List.set_eq_of_length_le (by omega)]

theorem clearP_length (p : Int) (X : Nat → Int) (r : Nat) (M : List (List Int)) (i : Nat) : (clearP p X r M i).length = M.length := by simp [clearP]
theorem clearP_at {p : Int} {X : Nat → Int} {r : Nat} {M : List (List Int)} {i q : Nat} (h : q < M.length) : lAt (clearP p X r M i) q = if q < i then clearRow p X r M q else lAt M q := by
  unfold clearP
  conv => lhs; unfold lAt
  rw [List.getElem?_map, List.getElem?_range h]
  rfl
theorem clearP_zero (p : Int) (X : Nat → Int) (r : Nat) (M : List (List Int)) : clearP p X r M 0 = M := by
  apply list_eq (clearP_length _ _ _ _ _)
  intro q hq
  rw [clearP_length] at hq
  rw [clearP_at hq, if_neg (Nat.not_lt_zero q)]
theorem clearP_row {p : Int} {X : Nat → Int} {r : Nat} {M : List (List Int)} {i : Nat} (h : r < M.length) : lAt (clearP p X r M i) r = lAt M r := by
  rw [clearP_at h]
  split
  · rw [clearRow, if_neg (fun h => h.1 rfl)]
  · rfl
theorem clearP_next {p : Int} {X : Nat → Int} {r : Nat} {M : List (List Int)} {i : Nat} (h : i < M.length) : lAt (clearP p X r M i) i = lAt M i := by
  rw [clearP_at h, if_neg (Nat.lt_irrefl i)]
theorem clearP_step {p : Int} {X : Nat → Int} {r : Nat} {M : List (List Int)} {i : Nat} (h : i < M.length) : (clearP p X r M i).set i (clearRow p X r M i) = clearP p X r M (i + 1) := by
  apply list_eq (by simp [clearP_length])
  intro q hq
  rw [List.length_set, clearP_length] at hq
  rw [lAt_set _ _ _ _ (by rw [clearP_length]; exact h), clearP_at hq, clearP_at hq]
  by_cases e : i = q
  · subst e; simp
  · rw [if_neg e]
    by_cases e2 : q < i
    · rw [if_pos e2, if_pos (by omega)]
    · rw [if_neg e2, if_neg (by omega)]
theorem clearP_skip {p : Int} {X : Nat → Int} {r : Nat} {M : List (List Int)} {i : Nat} (h : i < M.length) (hs : i = r ∨ X i = 0) : clearP p X r M i = clearP p X r M (i + 1) := by
  rw [← clearP_step h]
  have e : clearRow p X r M i = lAt (clearP p X r M i) i := by
    rw [clearP_next h, clearRow, if_neg]
    rintro ⟨h1, h2⟩
    rcases hs with hs | hs
    · exact h1 hs
    · exact h2 hs
  rw [e, lAt_set_self]

theorem lessRow_length (p b : Int) (l m : List Int) : (lessRow p b l m).length = l.length := rowT_length _ _
theorem scaleRow_length (p b : Int) (l : List Int) : (scaleRow p b l).length = l.length := rowT_length _ _

theorem at2_lAt (L : List (List Int)) (i j : Nat) : (lAt L i)[j]?.getD 0 = at2 L i j := rfl
/-- Tables of field elements stay such. -/
theorem elems_iff {p : Int} {r c : Nat} {L : List (List Int)} (hl : L.length = r) (h : ∀ i, i < r → (lAt L i).length = c ∧ ∀ j, j < c → 0 ≤ at2 L i j ∧ at2 L i j < p) : ElemsT p r c L := ⟨hl, h⟩
theorem elems_swap {p : Int} {r c : Nat} {L : List (List Int)} {i j : Nat} (h : ElemsT p r c L) (hi : i < r) (hj : j < r) : ElemsT p r c (swapL L i j) := by
  refine ⟨by rw [swapL_length, h.1], fun q hq => ?_⟩
  have e := swapL_at (L := L) (i := i) (j := j) (by rw [h.1]; exact hi) (by rw [h.1]; exact hj) q
  unfold at2
  rw [e]
  split
  · exact h.2 i hi
  · split
    · exact h.2 j hj
    · exact h.2 q hq
theorem elems_set {p : Int} {r c : Nat} {L : List (List Int)} {i : Nat} {l : List Int} (h : ElemsT p r c L) (hi : i < r) (hl : l.length = c) (he : ∀ j, j < c → 0 ≤ l[j]?.getD 0 ∧ l[j]?.getD 0 < p) : ElemsT p r c (L.set i l) := by
  refine ⟨by simp [h.1], fun q hq => ?_⟩
  unfold at2
  rw [lAt_set _ _ _ _ (by rw [h.1]; exact hi)]
  split
  · exact ⟨hl, he⟩
  · exact h.2 q hq
theorem row_mod {p : Int} (hp : 2 ≤ p) (n : Nat) (f : Nat → Int) : ∀ j, j < n → 0 ≤ (rowT n fun j => f j % p)[j]?.getD 0 ∧ (rowT n fun j => f j % p)[j]?.getD 0 < p := by
  intro j hj
  rw [rowT_at hj]
  exact ⟨Int.emod_nonneg _ (by omega), Int.emod_lt_of_pos _ (by omega)⟩
theorem elems_scaled {p : Int} (hp : 2 ≤ p) {r c k q : Nat} {M L : List (List Int)} (h : ElemsT p r c L) (hk : k < r) : ElemsT p r c (Red.scaled p k q M L) := by
  have hl := (h.2 k hk).1
  refine elems_set h hk (by rw [scaleRow_length, hl]) ?_
  rw [scaleRow, hl]
  exact row_mod hp _ _
theorem elems_clear {p : Int} (hp : 2 ≤ p) {r c k i : Nat} {X : Nat → Int} {L : List (List Int)} (h : ElemsT p r c L) : ElemsT p r c (clearP p X k L i) := by
  refine ⟨by rw [clearP_length, h.1], fun q hq => ?_⟩
  have h1 := h.2 q hq
  unfold at2
  rw [clearP_at (by rw [h.1]; exact hq)]
  split
  · rw [clearRow]
    split
    · rw [lessRow, h1.1]
      exact ⟨rowT_length _ _, row_mod hp _ _⟩
    · exact h1
  · exact h1

theorem seekF_le (M : List (List Int)) (c f k : Nat) : k ≤ seekF M c f k ∧ seekF M c f k ≤ k + f := by
  induction f generalizing k with
  | zero => simp [seekF]
  | succ f ih =>
    unfold seekF
    split
    · have := ih (k + 1); omega
    · omega
theorem seekF_zero (M : List (List Int)) (c f k : Nat) : ∀ q, k ≤ q → q < seekF M c f k → at2 M q c = 0 := by
  induction f generalizing k with
  | zero => intro q h1 h2; simp [seekF] at h2; omega
  | succ f ih =>
    intro q h1 h2
    unfold seekF at h2
    split at h2
    · rename_i e
      by_cases e2 : q = k
      · subst e2; exact e
      · exact ih (k + 1) q (by omega) h2
    · omega
theorem seekF_ne (M : List (List Int)) (c f k : Nat) (h : seekF M c f k < k + f) : at2 M (seekF M c f k) c ≠ 0 := by
  induction f generalizing k with
  | zero => simp [seekF] at h
  | succ f ih =>
    unfold seekF at h ⊢
    split
    · rename_i e
      rw [if_pos e] at h
      exact ih (k + 1) (by omega)
    · rename_i e
      exact e
theorem seek_le {M : List (List Int)} {c k : Nat} (h : k ≤ M.length) : k ≤ seek M c k ∧ seek M c k ≤ M.length := by
  have := seekF_le M c (M.length - k) k
  unfold seek; omega
theorem seek_zero {M : List (List Int)} {c k : Nat} : ∀ q, k ≤ q → q < seek M c k → at2 M q c = 0 := seekF_zero M c _ k
theorem seek_ne {M : List (List Int)} {c k : Nat} (h : seek M c k < M.length) : at2 M (seek M c k) c ≠ 0 := by
  by_cases hk : k ≤ M.length
  · exact seekF_ne M c _ k (by unfold seek at h; omega)
  · have := seekF_le M c (M.length - k) k
    unfold seek at h; omega
/-- What was sought is found. -/
theorem seek_at {M : List (List Int)} {c r k : Nat} (hr : r ≤ k) (hk : k < M.length) (hz : ∀ q, r ≤ q → q < k → at2 M q c = 0) (hn : at2 M k c ≠ 0) : seek M c r = k := by
  have h1 := seek_le (M := M) (c := c) (k := r) (by omega)
  rcases Nat.lt_trichotomy (seek M c r) k with h | h | h
  · exact absurd (hz _ h1.1 h) (seek_ne (by omega))
  · exact h
  · exact absurd (seek_zero k hr h) hn
theorem seek_end {M : List (List Int)} {c r : Nat} (hr : r ≤ M.length) (hz : ∀ q, r ≤ q → q < M.length → at2 M q c = 0) : seek M c r = M.length := by
  have h1 := seek_le (M := M) (c := c) (k := r) hr
  rcases Nat.lt_or_ge (seek M c r) M.length with h | h
  · exact absurd (hz _ h1.1 h) (seek_ne h)
  · omega

/-- What stays the same in each step: the forms of both, and the rank. -/
def RedOk (p : Int) (n c d : Nat) (s : Red) : Prop := ElemsT p n c s.M ∧ ElemsT p n d s.T ∧ s.r ≤ n
theorem redCol_ok {p : Int} (hp : 2 ≤ p) {n c d : Nat} {s : Red} (h : RedOk p n c d s) (j : Nat) : RedOk p n c d (redCol p s j) := by
  unfold redCol
  split
  · rename_i hk
    obtain ⟨h1, h2, h3⟩ := h
    have hle := seek_le (M := s.M) (c := j) (k := s.r) (by rw [h1.1]; exact h3)
    rw [h1.1] at hk hle
    have hr : s.r < n := by omega
    refine ⟨elems_clear hp (elems_scaled hp (elems_swap h1 hr hk) hr), elems_clear hp (elems_scaled hp (elems_swap h2 hr hk) hr), ?_⟩
    show s.r + 1 ≤ n
    omega
  · exact h
theorem redN_ok {p : Int} (hp : 2 ≤ p) {n c d : Nat} {s : Red} (h : RedOk p n c d s) : ∀ j, RedOk p n c d (redN p s j)
  | 0 => h
  | j + 1 => redCol_ok hp (redN_ok hp h j) j
theorem redN_succ (p : Int) (s : Red) (j : Nat) : redN p s (j + 1) = redCol p (redN p s j) j := rfl
theorem redCol_no {p : Int} {s : Red} {c : Nat} (h : seek s.M c s.r = s.M.length) : redCol p s c = s := by
  unfold redCol
  rw [if_neg (by omega)]
theorem redCol_yes {p : Int} {s : Red} {c : Nat} (h : seek s.M c s.r < s.M.length) : redCol p s c = Red.step p s c (seek s.M c s.r) := if_pos h
/-- Once every row has its lead nothing happens any more. -/
theorem redN_full {p : Int} {s : Red} {j : Nat} (h : (redN p s j).r = (redN p s j).M.length) : ∀ i, redN p s (j + i) = redN p s j
  | 0 => rfl
  | i + 1 => by
    rw [← Nat.add_assoc, redN_succ, redN_full h i]
    refine redCol_no ?_
    have := seek_le (M := (redN p s j).M) (c := j + i) (k := (redN p s j).r) (by omega)
    omega
/-- The reduction of rows over c columns does not look at the second list. -/
theorem redCol_M {p : Int} {s s' : Red} (hM : s.M = s'.M) (hr : s.r = s'.r) (c : Nat) : (redCol p s c).M = (redCol p s' c).M ∧ (redCol p s c).r = (redCol p s' c).r := by
  unfold redCol
  rw [← hM, ← hr]
  split
  · refine ⟨?_, ?_⟩
    · show clearP _ _ _ _ _ = clearP _ _ _ _ _
      rw [hM, hr]
    · show s.r + 1 = s'.r + 1
      rw [hr]
  · exact ⟨hM, hr⟩
theorem redN_M {p : Int} {s s' : Red} (hM : s.M = s'.M) (hr : s.r = s'.r) : ∀ c, (redN p s c).M = (redN p s' c).M ∧ (redN p s c).r = (redN p s' c).r
  | 0 => ⟨hM, hr⟩
  | c + 1 => redCol_M (redN_M hM hr c).1 (redN_M hM hr c).2 c

/-- The reduced rows of M over c columns, and how many are not zero. -/
def redM (p : Int) (c : Nat) (M : List (List Int)) : Red := redN p ⟨M, M.map fun _ => [], 0⟩ c
def reducedL (p : Int) (c : Nat) (M : List (List Int)) : List (List Int) := (redM p c M).M.take (redM p c M).r
/-- The same, with the matrix of the steps. -/
def redI (p : Int) (c : Nat) (M : List (List Int)) : Red := redN p ⟨M, idT M.length, 0⟩ c
theorem redI_M (p : Int) (c : Nat) (M : List (List Int)) : (redI p c M).M = (redM p c M).M ∧ (redI p c M).r = (redM p c M).r := redN_M (s := ⟨M, idT M.length, 0⟩) (s' := ⟨M, M.map fun _ => [], 0⟩) rfl rfl c

end Ints
end Go.Proofs.Ytimjlcnljefbbaa

namespace Go.Proofs.Ytimjlcnljefbbaa
set_option linter.unusedVariables false
namespace Lin
open Ints

def sumN (f : Nat → Int) : Nat → Int
  | 0 => 0
  | k + 1 => sumN f k + f k
theorem sumN_congr {f g : Nat → Int} : ∀ n, (∀ i, i < n → f i = g i) → sumN f n = sumN g n
  | 0, _ => rfl
  | n + 1, h => by simp only [sumN]; rw [sumN_congr n fun i hi => h i (by omega), h n (by omega)]
theorem sumN_zero {f : Nat → Int} : ∀ n, (∀ i, i < n → f i = 0) → sumN f n = 0
  | 0, _ => rfl
  | n + 1, h => by simp only [sumN]; rw [sumN_zero n fun i hi => h i (by omega), h n (by omega)]; rfl
theorem sumN_add (f g : Nat → Int) : ∀ n, sumN (fun i => f i + g i) n = sumN f n + sumN g n
  | 0 => rfl
  | n + 1 => by simp only [sumN]; rw [sumN_add f g n]; omega
theorem sumN_mul (a : Int) (f : Nat → Int) : ∀ n, sumN (fun i => a * f i) n = a * sumN f n
  | 0 => by simp [sumN]
  | n + 1 => by simp only [sumN]; rw [sumN_mul a f n, Int.mul_add]
theorem sumN_comm (f : Nat → Nat → Int) (m : Nat) : ∀ n, sumN (fun i => sumN (fun j => f i j) m) n = sumN (fun j => sumN (fun i => f i j) n) m
  | 0 => by simp only [sumN]; exact (sumN_zero m fun _ _ => rfl).symm
  | n + 1 => by simp only [sumN]; rw [sumN_comm f m n, ← sumN_add]
theorem sumN_split (f : Nat → Int) (a : Nat) : ∀ b, sumN f (a + b) = sumN f a + sumN (fun i => f (a + i)) b
  | 0 => by simp [sumN]
  | b + 1 => by rw [← Nat.add_assoc]; simp only [sumN]; rw [sumN_split f a b]; omega

def Eqv (p a b : Int) : Prop := p ∣ a - b
theorem Eqv.refl (p a : Int) : Eqv p a a := by unfold Eqv; rw [Int.sub_self]; exact Int.dvd_zero p
theorem Eqv.of_eq {p a b : Int} (h : a = b) : Eqv p a b := by subst h; exact Eqv.refl _ _
theorem Eqv.symm {p a b : Int} (h : Eqv p a b) : Eqv p b a := by
  unfold Eqv at *
  obtain ⟨q, hq⟩ := h
  exact ⟨-q, by rw [Int.mul_neg]; omega⟩
theorem Eqv.trans {p a b c : Int} (h : Eqv p a b) (k : Eqv p b c) : Eqv p a c := by
  obtain ⟨q, hq⟩ := h
  obtain ⟨r, hr⟩ := k
  exact ⟨q + r, by rw [Int.mul_add]; omega⟩
theorem Eqv.add {p a b c d : Int} (h : Eqv p a b) (k : Eqv p c d) : Eqv p (a + c) (b + d) := by
  obtain ⟨q, hq⟩ := h
  obtain ⟨r, hr⟩ := k
  exact ⟨q + r, by rw [Int.mul_add]; omega⟩
theorem Eqv.mul {p a b c d : Int} (h : Eqv p a b) (k : Eqv p c d) : Eqv p (a * c) (b * d) := by
  obtain ⟨q, hq⟩ := h
  obtain ⟨r, hr⟩ := k
  refine ⟨q * c + b * r, ?_⟩
  have h1 : (a - b) * c = p * q * c := by rw [hq]
  have h2 : b * (c - d) = b * (p * r) := by rw [hr]
  rw [Int.sub_mul] at h1
  rw [Int.mul_sub] at h2
  rw [Int.mul_add, ← Int.mul_assoc, ← Int.mul_assoc, Int.mul_comm p b, Int.mul_assoc b p r]
  omega
theorem Eqv.neg {p a b : Int} (h : Eqv p a b) : Eqv p (-a) (-b) := by
  obtain ⟨q, hq⟩ := h
  exact ⟨-q, by rw [Int.mul_neg]; omega⟩
theorem Eqv.sub {p a b c d : Int} (h : Eqv p a b) (k : Eqv p c d) : Eqv p (a - c) (b - d) := by
  obtain ⟨q, hq⟩ := h
  obtain ⟨r, hr⟩ := k
  exact ⟨q - r, by rw [Int.mul_sub]; omega⟩
theorem Eqv.mod (p a : Int) : Eqv p (a % p) a := ⟨-(a / p), by have := Int.emod_add_mul_ediv a p; rw [Int.mul_neg]; omega⟩
theorem Eqv.eq {p a b : Int} (h : Eqv p a b) (ha : 0 ≤ a) (ha' : a < p) (hb : 0 ≤ b) (hb' : b < p) : a = b := by
  have h1 := Int.emod_emod_of_dvd
  have h2 := Int.emod_eq_emod_iff_emod_sub_eq_zero.2 (Int.emod_eq_zero_of_dvd h)
  rw [Int.emod_eq_of_lt ha ha', Int.emod_eq_of_lt hb hb'] at h2
  exact h2
theorem Eqv.mod_eq {p a b : Int} (h : Eqv p a b) : a % p = b % p := Int.emod_eq_emod_iff_emod_sub_eq_zero.2 (Int.emod_eq_zero_of_dvd h)
theorem eqv_one_zero {p : Int} (hp : 2 ≤ p) : ¬ Eqv p 1 0 := fun h => by
  have := h.eq (by omega) (by omega) (by omega) (by omega)
  omega

theorem sumN_eqv {p : Int} {f g : Nat → Int} : ∀ n, (∀ i, i < n → Eqv p (f i) (g i)) → Eqv p (sumN f n) (sumN g n)
  | 0, _ => Eqv.refl _ _
  | n + 1, h => by simp only [sumN]; exact (sumN_eqv n fun i hi => h i (by omega)).add (h n (by omega))
theorem sumN_eqv_zero {p : Int} {f : Nat → Int} (n : Nat) (h : ∀ i, i < n → Eqv p (f i) 0) : Eqv p (sumN f n) 0 := by
  have h1 := sumN_eqv (g := fun _ => 0) n h
  rw [sumN_zero n fun _ _ => rfl] at h1
  exact h1
theorem sumN_single {p : Int} {f : Nat → Int} {k : Nat} : ∀ n, k < n → (∀ i, i < n → i ≠ k → Eqv p (f i) 0) → Eqv p (sumN f n) (f k)
  | 0, h, _ => by omega
  | n + 1, h, hz => by
    simp only [sumN]
    by_cases e : k = n
    · subst e
      have h1 := sumN_eqv_zero (p := p) k fun i hi => hz i (by omega) (by omega)
      exact (h1.add (Eqv.refl p (f k))).trans (Eqv.of_eq (by omega))
    · have h1 := sumN_single n (by omega) fun i hi hne => hz i (by omega) hne
      exact (h1.add (hz n (by omega) (fun e' => e e'.symm))).trans (Eqv.of_eq (by omega))

/-- v is a linear combination of the first m rows, at the first n places. -/
def Span (p : Int) (n m : Nat) (M : Nat → Nat → Int) (v : Nat → Int) : Prop := ∃ c : Nat → Int, ∀ j, j < n → Eqv p (v j) (sumN (fun i => c i * M i j) m)
section
variable {p : Int} {n m m' : Nat} {M N : Nat → Nat → Int} {u v : Nat → Int}
theorem Span.row {i : Nat} (h : i < m) : Span p n m M (M i) := ⟨fun k => if k = i then 1 else 0, fun j _ => by
  refine ((sumN_single (p := p) (f := fun k => (if k = i then 1 else 0) * M k j) m h fun k _ hk => ?_).trans (Eqv.of_eq ?_)).symm
  · exact Eqv.of_eq (by simp [hk])
  · simp⟩
theorem Span.congr (h : Span p n m M v) (e : ∀ j, j < n → Eqv p (u j) (v j)) : Span p n m M u := by
  obtain ⟨c, hc⟩ := h
  exact ⟨c, fun j hj => (e j hj).trans (hc j hj)⟩
theorem Span.zero : Span p n m M fun _ => 0 := ⟨fun _ => 0, fun j _ => (Eqv.of_eq (sumN_zero m fun i _ => Int.zero_mul _)).symm⟩
theorem Span.comb (hu : Span p n m M u) (hv : Span p n m M v) (a b : Int) : Span p n m M fun j => a * u j + b * v j := by
  obtain ⟨c, hc⟩ := hu
  obtain ⟨d, hd⟩ := hv
  refine ⟨fun i => a * c i + b * d i, fun j hj => ?_⟩
  have e : sumN (fun i => (a * c i + b * d i) * M i j) m = a * sumN (fun i => c i * M i j) m + b * sumN (fun i => d i * M i j) m := by
    rw [← sumN_mul, ← sumN_mul, ← sumN_add]
    exact sumN_congr m fun i _ => by rw [Int.add_mul, Int.mul_assoc, Int.mul_assoc]
  rw [e]
  exact ((Eqv.refl p a).mul (hc j hj)).add ((Eqv.refl p b).mul (hd j hj))
theorem Span.smul (hu : Span p n m M u) (a : Int) : Span p n m M fun j => a * u j :=
  (hu.comb Span.zero a 0).congr fun j _ => Eqv.of_eq (by omega)
theorem Span.sum (c : Nat → Int) : ∀ k, (∀ i, i < k → Span p n m M (N i)) → Span p n m M fun j => sumN (fun i => c i * N i j) k
  | 0, _ => Span.zero
  | k + 1, h => ((Span.sum c k fun i hi => h i (by omega)).comb (h k (by omega)) 1 (c k)).congr fun j _ => Eqv.of_eq (by simp only [sumN]; rw [Int.one_mul])
theorem Span.trans (h : Span p n m' N v) (hN : ∀ i, i < m' → Span p n m M (N i)) : Span p n m M v := by
  obtain ⟨c, hc⟩ := h
  exact (Span.sum c m' hN).congr hc
end

/-- Both lists of rows span the same. -/
def Same (p : Int) (n m : Nat) (M : Nat → Nat → Int) (m' : Nat) (M' : Nat → Nat → Int) : Prop := (∀ i, i < m → Span p n m' M' (M i)) ∧ ∀ i, i < m' → Span p n m M (M' i)
section
variable {p : Int} {n m m' m'' : Nat} {M M' M'' : Nat → Nat → Int}
theorem Same.refl : Same p n m M m M := ⟨fun _ h => Span.row h, fun _ h => Span.row h⟩
theorem Same.symm (h : Same p n m M m' M') : Same p n m' M' m M := ⟨h.2, h.1⟩
theorem Same.trans (h : Same p n m M m' M') (k : Same p n m' M' m'' M'') : Same p n m M m'' M'' := ⟨fun i hi => (h.1 i hi).trans k.1, fun i hi => (k.2 i hi).trans h.2⟩
theorem Same.span {v : Nat → Int} (h : Same p n m M m' M') : Span p n m M v ↔ Span p n m' M' v := ⟨fun k => k.trans h.1, fun k => k.trans h.2⟩
theorem Same.of_span (h : ∀ v, Span p n m M v ↔ Span p n m' M' v) : Same p n m M m' M' := ⟨fun i hi => (h _).1 (Span.row hi), fun i hi => (h _).2 (Span.row hi)⟩
theorem Same.of_eq (hm : m = m') (h : ∀ i, i < m → ∀ j, j < n → Eqv p (M i j) (M' i j)) : Same p n m M m' M' := by
  subst hm
  exact ⟨fun i hi => (Span.row hi).congr fun j hj => h i hi j hj, fun i hi => (Span.row hi).congr fun j hj => (h i hi j hj).symm⟩
end

/-- A reduced list: m rows of n places, with their leads. -/
structure Rref (n m : Nat) (M : Nat → Nat → Int) (ld : Nat → Nat) : Prop where
  lt : ∀ i, i < m → ld i < n
  mono : ∀ i k, i < k → k < m → ld i < ld k
  one : ∀ i, i < m → M i (ld i) = 1
  zero : ∀ i, i < m → ∀ j, j < ld i → M i j = 0
  col : ∀ i k, i < m → k < m → k ≠ i → M k (ld i) = 0

section
variable {p : Int} {n m m' : Nat} {M M' : Nat → Nat → Int} {ld ld' : Nat → Nat} {v : Nat → Int}
theorem Rref.coef (h : Rref n m M ld) {c : Nat → Int} (hc : ∀ j, j < n → Eqv p (v j) (sumN (fun i => c i * M i j) m)) {i : Nat} (hi : i < m) : Eqv p (v (ld i)) (c i) := by
  refine (hc _ (h.lt i hi)).trans ((sumN_single m hi fun k hk hne => Eqv.of_eq ?_).trans (Eqv.of_eq ?_))
  · rw [h.col i k hi hk hne, Int.mul_zero]
  · rw [h.one i hi, Int.mul_one]
/-- The first place of a combination that is not 0 is a lead. -/
theorem Rref.lead (h : Rref n m M ld) (hv : Span p n m M v) {j0 : Nat} (hj : j0 < n) (hne : ¬ Eqv p (v j0) 0) (hz : ∀ j, j < j0 → Eqv p (v j) 0) : ∃ i, i < m ∧ ld i = j0 := by
  obtain ⟨c, hc⟩ := hv
  have hex : ∀ k, k ≤ m → (∀ i, i < k → Eqv p (c i) 0) ∨ ∃ i, i < m ∧ ¬ Eqv p (c i) 0 ∧ ∀ q, q < i → Eqv p (c q) 0 := by
    intro k
    induction k with
    | zero => intro _; exact .inl fun i hi => by omega
    | succ k ih =>
      intro hk
      rcases ih (by omega) with h1 | h1
      · by_cases e : Eqv p (c k) 0
        · refine .inl fun i hi => ?_
          by_cases e2 : i = k
          · subst e2; exact e
          · exact h1 i (by omega)
        · exact .inr ⟨k, by omega, e, h1⟩
      · exact .inr h1
  rcases hex m (Nat.le_refl m) with h1 | ⟨i, hi, hci, hq⟩
  · exfalso
    refine hne ((hc j0 hj).trans (sumN_eqv_zero m fun i hi => ?_))
    exact ((h1 i hi).mul (Eqv.refl p (M i j0))).trans (Eqv.of_eq (Int.zero_mul _))
  · refine ⟨i, hi, ?_⟩
    have h2 : ∀ j, j < ld i → Eqv p (v j) 0 := by
      intro j hj2
      have := h.lt i hi
      refine (hc j (by omega)).trans (sumN_eqv_zero m fun k hk => ?_)
      by_cases e : k < i
      · exact ((hq k e).mul (Eqv.refl p (M k j))).trans (Eqv.of_eq (Int.zero_mul _))
      · have h3 : j < ld k := by
          by_cases e2 : k = i
          · subst e2; exact hj2
          · have := h.mono i k (by omega) hk; omega
        exact Eqv.of_eq (by rw [h.zero k hk j h3, Int.mul_zero])
    have h3 : ¬ Eqv p (v (ld i)) 0 := fun e => hci ((h.coef hc hi).symm.trans e)
    rcases Nat.lt_trichotomy (ld i) j0 with e | e | e
    · exact absurd (hz _ e) h3
    · exact e
    · exact absurd (h2 _ e) hne

theorem mono_unique (h1 : ∀ i k, i < k → k < m → ld i < ld k) (h2 : ∀ i k, i < k → k < m' → ld' i < ld' k)
    (h3 : ∀ i, i < m → ∃ k, k < m' ∧ ld' k = ld i) (h4 : ∀ k, k < m' → ∃ i, i < m ∧ ld i = ld' k) : m = m' ∧ ∀ i, i < m → ld i = ld' i := by
  have key : ∀ i, i < m → i < m' → ld i = ld' i := by
    intro i
    induction i using Nat.strongRecOn with
    | ind i ih =>
      intro hi hi'
      obtain ⟨k, hk, ek⟩ := h3 i hi
      obtain ⟨q, hq, eq⟩ := h4 i hi'
      have a1 : ld' i ≤ ld i := by
        rcases Nat.lt_trichotomy k i with e | e | e
        · have := ih k e (by omega) hk
          have := h1 k i e hi
          omega
        · subst e; omega
        · have := h2 i k e hk; omega
      have a2 : ld i ≤ ld' i := by
        rcases Nat.lt_trichotomy q i with e | e | e
        · have := ih q e hq (by omega)
          have := h2 q i e hi'
          omega
        · subst e; omega
        · have := h1 i q e hq; omega
      omega
  rcases Nat.lt_trichotomy m m' with e | e | e
  · exfalso
    obtain ⟨i, hi, ei⟩ := h4 m e
    have := key i hi (by omega)
    have := h2 i m hi e
    omega
  · subst e; exact ⟨rfl, fun i hi => key i hi hi⟩
  · exfalso
    obtain ⟨k, hk, ek⟩ := h3 m' e
    have := key k (by omega) hk
    have := h1 k m' hk e
    omega

def InP (p : Int) (n m : Nat) (M : Nat → Nat → Int) : Prop := ∀ i, i < m → ∀ j, j < n → 0 ≤ M i j ∧ M i j < p

theorem Rref.leads (hp : 2 ≤ p) (h : Rref n m M ld) (h' : Rref n m' M' ld') (hs : ∀ i, i < m → Span p n m' M' (M i)) : ∀ i, i < m → ∃ k, k < m' ∧ ld' k = ld i := by
  intro i hi
  refine h'.lead (hs i hi) (h.lt i hi) ?_ fun j hj => Eqv.of_eq (h.zero i hi j hj)
  rw [h.one i hi]
  exact eqv_one_zero hp

/-- Two reduced lists that span the same are the same. -/
theorem Rref.unique (hp : 2 ≤ p) (h : Rref n m M ld) (h' : Rref n m' M' ld') (hin : InP p n m M) (hin' : InP p n m' M') (hs : Same p n m M m' M') :
    m = m' ∧ ∀ i, i < m → ∀ j, j < n → M i j = M' i j := by
  obtain ⟨e, hl⟩ := mono_unique h.mono h'.mono (h.leads hp h' hs.1) (h'.leads hp h hs.2)
  subst e
  refine ⟨rfl, fun i hi j hj => ?_⟩
  obtain ⟨c, hc⟩ := hs.1 i hi
  refine Eqv.eq (p := p) ?_ (hin i hi j hj).1 (hin i hi j hj).2 (hin' i hi j hj).1 (hin' i hi j hj).2
  refine (hc j hj).trans ((sumN_single m hi fun k hk hne => ?_).trans ?_)
  · have h1 := h'.coef hc hk
    rw [← hl k hk, h.col k i hk hi (fun e => hne e.symm)] at h1
    exact (h1.symm.mul (Eqv.refl p (M' k j))).trans (Eqv.of_eq (Int.zero_mul _))
  · have h1 := h'.coef hc hi
    rw [← hl i hi, h.one i hi] at h1
    exact (h1.symm.mul (Eqv.refl p (M' i j))).trans (Eqv.of_eq (Int.one_mul _))
end

end Lin
end Go.Proofs.Ytimjlcnljefbbaa

namespace Go.Proofs.Ytimjlcnljefbbaa
set_option linter.unusedVariables false
namespace Lin
open Ints

theorem inv_all : ∀ p, p < 98 → Fld.goodN p = true → ∀ a, a < p → 1 ≤ a → a * Fld.invN p a % p = 1 := by decide +kernel
theorem inv_mul {p a : Int} (hg : Fld.goodB p = true) (h1 : 1 ≤ a) (h2 : a < p) : a * invI p a % p = 1 := by
  obtain ⟨b1, b2⟩ := Fld.good_bounds hg
  obtain ⟨P, rfl⟩ : ∃ P : Nat, p = P := ⟨p.toNat, by omega⟩
  obtain ⟨A, rfl⟩ : ∃ A : Nat, a = A := ⟨a.toNat, by omega⟩
  rw [Fld.goodB_nat] at hg
  have h := inv_all P (by omega) hg A (by omega) (by omega)
  unfold invI
  simp only [Int.toNat_natCast]
  exact_mod_cast h
theorem inv_eqv {p a : Int} (hg : Fld.goodB p = true) (h1 : 1 ≤ a) (h2 : a < p) : Eqv p (a * invI p a) 1 := by
  have h := inv_mul hg h1 h2
  exact (Eqv.mod p _).symm.trans (Eqv.of_eq h)

theorem at2_swap {L : List (List Int)} {i j : Nat} (hi : i < L.length) (hj : j < L.length) (q t : Nat) : at2 (swapL L i j) q t = at2 L (if q = j then i else if q = i then j else q) t := by
  unfold at2
  rw [swapL_at hi hj]
  split
  · rfl
  · split <;> rfl
theorem at2_scaled {p : Int} {r c : Nat} {M L : List (List Int)} (hr : r < L.length) (q : Nat) {j : Nat} (hj : j < (lAt L r).length) :
    at2 (Red.scaled p r c M L) q j = if q = r then (at2 L r j * invI p (at2 M r c)) % p else at2 L q j := by
  unfold Red.scaled
  conv => lhs; unfold at2
  rw [lAt_set _ _ _ _ hr]
  by_cases e : r = q
  · subst e
    rw [if_pos rfl, if_pos rfl, scaleRow, rowT_at hj]
    rfl
  · rw [if_neg e, if_neg (fun h => e h.symm)]
    rfl
theorem at2_clear {p : Int} {r i : Nat} {X : Nat → Int} {L : List (List Int)} {q j : Nat} (hq : q < L.length) (hj : j < (lAt L q).length) :
    at2 (clearP p X r L i) q j = if q < i ∧ q ≠ r ∧ X q ≠ 0 then (at2 L q j + -X q * at2 L r j) % p else at2 L q j := by
  conv => lhs; unfold at2
  rw [clearP_at hq]
  by_cases e : q < i
  · rw [if_pos e, clearRow]
    by_cases e2 : q ≠ r ∧ X q ≠ 0
    · rw [if_pos e2, if_pos ⟨e, e2⟩, lessRow, rowT_at hj]
      rfl
    · rw [if_neg e2, if_neg (fun h => e2 h.2)]
      rfl
  · rw [if_neg e, if_neg (fun h => e h.1)]
    rfl

section
variable {p : Int} {n w : Nat} {L : List (List Int)}
theorem same_swap {i j : Nat} (hL : L.length = n) (hi : i < n) (hj : j < n) : Same p w n (at2 (swapL L i j)) n (at2 L) := by
  have e := fun q t => at2_swap (L := L) (i := i) (j := j) (by omega) (by omega) q t
  refine ⟨fun q hq => ?_, fun q hq => ?_⟩
  · refine (Span.row (M := at2 L) (i := if q = j then i else if q = i then j else q) ?_).congr fun t _ => Eqv.of_eq (e q t)
    split
    · exact hi
    · split <;> assumption
  · refine (Span.row (M := at2 (swapL L i j)) (i := if q = j then i else if q = i then j else q) ?_).congr fun t _ => Eqv.of_eq ?_
    · split
      · exact hi
      · split <;> assumption
    · rw [e]
      congr 1
      by_cases e1 : q = j
      · subst e1
        by_cases e2 : i = q
        · simp [e2]
        · simp [e2]
      · by_cases e2 : q = i
        · subst e2; simp [e1]
        · simp [e1, e2]
theorem same_scaled {r c : Nat} {M : List (List Int)} (hg : Fld.goodB p = true) (hL : ElemsT p n w L) (hr : r < n) (h1 : 1 ≤ at2 M r c) (h2 : at2 M r c < p) : Same p w n (at2 (Red.scaled p r c M L)) n (at2 L) := by
  have hl := (hL.2 r hr).1
  have e := fun q (j : Nat) (hj : j < w) => at2_scaled (p := p) (c := c) (M := M) (L := L) (r := r) (by rw [hL.1]; exact hr) q (j := j) (by rw [hl]; exact hj)
  have hi := inv_eqv hg h1 h2
  refine ⟨fun q hq => ?_, fun q hq => ?_⟩
  · by_cases e1 : q = r
    · subst e1
      refine ((Span.row (M := at2 L) hq).smul (invI p (at2 M q c))).congr fun j hj => ?_
      rw [e q j hj, if_pos rfl, Int.mul_comm (invI p _)]
      exact Eqv.mod _ _
    · exact (Span.row (M := at2 L) hq).congr fun j hj => Eqv.of_eq (by rw [e q j hj, if_neg e1])
  · by_cases e1 : q = r
    · subst e1
      refine ((Span.row (M := at2 (Red.scaled p q c M L)) hq).smul (at2 M q c)).congr fun j hj => ?_
      rw [e q j hj, if_pos rfl]
      refine Eqv.symm (((Eqv.refl p _).mul (Eqv.mod p _)).trans ?_)
      refine Eqv.trans (Eqv.of_eq ?_) (((Eqv.refl p (at2 L q j)).mul hi).trans (Eqv.of_eq (Int.mul_one _)))
      rw [Int.mul_left_comm]
    · exact (Span.row (M := at2 (Red.scaled p r c M L)) hq).congr fun j hj => Eqv.of_eq (by rw [e q j hj, if_neg e1])
theorem same_clear {r : Nat} {X : Nat → Int} (hL : ElemsT p n w L) (hr : r < n) : Same p w n (at2 (clearP p X r L L.length)) n (at2 L) := by
  have e := fun q (hq : q < n) (j : Nat) (hj : j < w) => at2_clear (p := p) (r := r) (i := L.length) (X := X) (L := L) (q := q) (j := j) (by rw [hL.1]; exact hq) (by rw [(hL.2 q hq).1]; exact hj)
  have er : ∀ j, j < w → at2 (clearP p X r L L.length) r j = at2 L r j := fun j hj => by rw [e r hr j hj, if_neg (fun h => h.2.1 rfl)]
  refine ⟨fun q hq => ?_, fun q hq => ?_⟩
  · by_cases e1 : q < L.length ∧ q ≠ r ∧ X q ≠ 0
    · refine ((Span.row (M := at2 L) hq).comb (Span.row (M := at2 L) hr) 1 (-X q)).congr fun j hj => ?_
      rw [e q hq j hj, if_pos e1, Int.one_mul]
      exact Eqv.mod _ _
    · exact (Span.row (M := at2 L) hq).congr fun j hj => Eqv.of_eq (by rw [e q hq j hj, if_neg e1])
  · by_cases e1 : q < L.length ∧ q ≠ r ∧ X q ≠ 0
    · refine ((Span.row (M := at2 (clearP p X r L L.length)) hq).comb (Span.row (M := at2 (clearP p X r L L.length)) hr) 1 (X q)).congr fun j hj => ?_
      rw [er j hj, e q hq j hj, if_pos e1, Int.one_mul]
      refine Eqv.symm (((Eqv.mod p _).add (Eqv.refl p _)).trans (Eqv.of_eq ?_))
      rw [Int.neg_mul]
      omega
    · exact (Span.row (M := at2 (clearP p X r L L.length)) hq).congr fun j hj => Eqv.of_eq (by rw [e q hq j hj, if_neg e1])
end

/-- The pivot, where one is found. -/
theorem pivot_in {p : Int} {n c d : Nat} {s : Red} (h : RedOk p n c d s) {j : Nat} (hj : j < c) (hk : seek s.M j s.r < s.M.length) :
    s.r < n ∧ seek s.M j s.r < n ∧ s.r ≤ seek s.M j s.r ∧ 1 ≤ at2 (swapL s.M s.r (seek s.M j s.r)) s.r j ∧ at2 (swapL s.M s.r (seek s.M j s.r)) s.r j < p := by
  obtain ⟨h1, h2, h3⟩ := h
  have hle := seek_le (M := s.M) (c := j) (k := s.r) (by rw [h1.1]; exact h3)
  have hne := seek_ne hk
  have hL := h1.1
  have hb := (h1.2 (seek s.M j s.r) (by omega)).2 j hj
  refine ⟨by omega, by omega, hle.1, ?_⟩
  rw [at2_swap (by omega) hk]
  by_cases e : s.r = seek s.M j s.r
  · rw [if_pos e]
    rw [← e] at hne hb
    omega
  · rw [if_neg e, if_pos rfl]
    omega

theorem same_step {p : Int} {n c d : Nat} {s : Red} (hg : Fld.goodB p = true) (h : RedOk p n c d s) {j : Nat} (hj : j < c) (hk : seek s.M j s.r < s.M.length) :
    Same p c n (at2 (Red.step p s j (seek s.M j s.r)).M) n (at2 s.M) ∧ Same p d n (at2 (Red.step p s j (seek s.M j s.r)).T) n (at2 s.T) := by
  obtain ⟨k1, k2, k3, k4, k5⟩ := pivot_in h hj hk
  obtain ⟨h1, h2, h3⟩ := h
  have hp := (Fld.good_bounds hg).1
  have m1 := elems_swap h1 k1 k2
  have t1 := elems_swap h2 k1 k2
  have m2 := elems_scaled hp (q := j) (M := swapL s.M s.r (seek s.M j s.r)) m1 k1
  have t2 := elems_scaled hp (q := j) (M := swapL s.M s.r (seek s.M j s.r)) t1 k1
  exact ⟨((same_clear m2 k1).trans (same_scaled hg m1 k1 k4 k5)).trans (same_swap h1.1 k1 k2), ((same_clear t2 k1).trans (same_scaled hg t1 k1 k4 k5)).trans (same_swap h2.1 k1 k2)⟩
theorem same_redN {p : Int} {n c d : Nat} {s : Red} (hg : Fld.goodB p = true) (h : RedOk p n c d s) : ∀ j, j ≤ c → Same p c n (at2 (redN p s j).M) n (at2 s.M) ∧ Same p d n (at2 (redN p s j).T) n (at2 s.T)
  | 0, _ => ⟨Same.refl, Same.refl⟩
  | j + 1, hj => by
    have hp := (Fld.good_bounds hg).1
    have ih := same_redN hg h j (by omega)
    have hok := redN_ok hp h j
    rw [redN_succ]
    by_cases hk : seek (redN p s j).M j (redN p s j).r < (redN p s j).M.length
    · rw [redCol_yes hk]
      have h1 := same_step hg hok (by omega) hk
      exact ⟨h1.1.trans ih.1, h1.2.trans ih.2⟩
    · have : redCol p (redN p s j) j = redN p s j := if_neg hk
      rw [this]
      exact ih

/-- The second list tells how the first one was made of what was there at the start. -/
def Made (p : Int) (n c : Nat) (M0 : List (List Int)) (s : Red) : Prop := ∀ i, i < n → ∀ j, j < c → Eqv p (at2 s.M i j) (sumN (fun k => at2 s.T i k * at2 M0 k j) n)
theorem made_step {p : Int} {n c : Nat} {M0 : List (List Int)} {s : Red} (hg : Fld.goodB p = true) (h : RedOk p n c n s) (hm : Made p n c M0 s) {j : Nat} (hj : j < c) (hk : seek s.M j s.r < s.M.length) :
    Made p n c M0 (Red.step p s j (seek s.M j s.r)) := by
  obtain ⟨k1, k2, k3, k4, k5⟩ := pivot_in h hj hk
  obtain ⟨h1, h2, h3⟩ := h
  have hp := (Fld.good_bounds hg).1
  generalize seek s.M j s.r = k at *
  have m1 := elems_swap h1 k1 k2
  have t1 := elems_swap h2 k1 k2
  have m2 := elems_scaled hp (q := j) (M := swapL s.M s.r k) m1 k1
  have t2 := elems_scaled hp (q := j) (M := swapL s.M s.r k) t1 k1
  have a1 : ∀ i, i < n → ∀ t, t < c → Eqv p (at2 (swapL s.M s.r k) i t) (sumN (fun q => at2 (swapL s.T s.r k) i q * at2 M0 q t) n) := by
    intro i hi t ht
    rw [at2_swap (by rw [h1.1]; exact k1) (by rw [h1.1]; exact k2)]
    refine (hm _ ?_ t ht).trans (sumN_eqv n fun q _ => Eqv.of_eq ?_)
    · split
      · exact k1
      · split <;> assumption
    · rw [at2_swap (by rw [h2.1]; exact k1) (by rw [h2.1]; exact k2)]
  have a2 : ∀ i, i < n → ∀ t, t < c → Eqv p (at2 (Red.scaled p s.r j (swapL s.M s.r k) (swapL s.M s.r k)) i t) (sumN (fun q => at2 (Red.scaled p s.r j (swapL s.M s.r k) (swapL s.T s.r k)) i q * at2 M0 q t) n) := by
    intro i hi t ht
    rw [at2_scaled (by rw [m1.1]; exact k1) i (by rw [(m1.2 _ k1).1]; exact ht)]
    by_cases e : i = s.r
    · rw [if_pos e]
      refine (Eqv.mod _ _).trans ?_
      refine ((a1 s.r k1 t ht).mul (Eqv.refl p (invI p (at2 (swapL s.M s.r k) s.r j)))).trans ?_
      rw [Int.mul_comm, ← sumN_mul]
      refine sumN_eqv n fun q hq => ?_
      rw [at2_scaled (by rw [t1.1]; exact k1) i (by rw [(t1.2 _ k1).1]; exact hq), if_pos e]
      refine Eqv.symm (((Eqv.mod p _).mul (Eqv.refl p _)).trans (Eqv.of_eq ?_))
      rw [Int.mul_comm (at2 (swapL s.T s.r k) s.r q), Int.mul_assoc]
    · rw [if_neg e]
      refine (a1 i hi t ht).trans (sumN_eqv n fun q hq => Eqv.of_eq ?_)
      rw [at2_scaled (by rw [t1.1]; exact k1) i (by rw [(t1.2 _ k1).1]; exact hq), if_neg e]
  intro i hi t ht
  show Eqv p (at2 (clearP _ _ _ _ _) i t) (sumN (fun q => at2 (clearP _ _ _ _ _) i q * at2 M0 q t) n)
  rw [at2_clear (by rw [m2.1]; exact hi) (by rw [(m2.2 i hi).1]; exact ht)]
  have et := fun q (hq : q < n) => at2_clear (p := p) (r := s.r) (i := (Red.scaled p s.r j (swapL s.M s.r k) (swapL s.T s.r k)).length) (X := Red.col j (Red.scaled p s.r j (swapL s.M s.r k) (swapL s.M s.r k))) (L := Red.scaled p s.r j (swapL s.M s.r k) (swapL s.T s.r k)) (q := i) (j := q) (by rw [t2.1]; exact hi) (by rw [(t2.2 i hi).1]; exact hq)
  rw [t2.1] at et
  rw [m2.1]
  by_cases e : i < n ∧ i ≠ s.r ∧ Red.col j (Red.scaled p s.r j (swapL s.M s.r k) (swapL s.M s.r k)) i ≠ 0
  · rw [if_pos e]
    refine (Eqv.mod _ _).trans ?_
    refine ((a2 i hi t ht).add ((Eqv.refl p _).mul (a2 s.r k1 t ht))).trans ?_
    rw [← sumN_mul, ← sumN_add]
    refine sumN_eqv n fun q hq => ?_
    rw [t2.1, et q hq, if_pos e]
    refine Eqv.symm (((Eqv.mod p _).mul (Eqv.refl p _)).trans (Eqv.of_eq ?_))
    rw [Int.add_mul, Int.mul_assoc]
  · rw [if_neg e]
    refine (a2 i hi t ht).trans (sumN_eqv n fun q hq => Eqv.of_eq ?_)
    rw [t2.1, et q hq, if_neg e]
theorem made_redN {p : Int} {n c : Nat} {M0 : List (List Int)} {s : Red} (hg : Fld.goodB p = true) (h : RedOk p n c n s) (hm : Made p n c M0 s) : ∀ j, j ≤ c → Made p n c M0 (redN p s j)
  | 0, _ => hm
  | j + 1, hj => by
    have hp := (Fld.good_bounds hg).1
    have ih := made_redN hg h hm j (by omega)
    have hok := redN_ok hp h j
    rw [redN_succ]
    by_cases hk : seek (redN p s j).M j (redN p s j).r < (redN p s j).M.length
    · rw [redCol_yes hk]
      exact made_step hg hok ih (by omega) hk
    · have : redCol p (redN p s j) j = redN p s j := if_neg hk
      rw [this]
      exact ih

/-- What holds once c columns are done: r rows have their leads, the others are 0 so far. -/
structure Upto (n c : Nat) (M : Nat → Nat → Int) (r : Nat) (ld : Nat → Nat) : Prop where
  lt : ∀ i, i < r → ld i < c
  mono : ∀ i k, i < k → k < r → ld i < ld k
  one : ∀ i, i < r → M i (ld i) = 1
  zero : ∀ i, i < r → ∀ j, j < ld i → M i j = 0
  col : ∀ i k, i < r → k < n → k ≠ i → M k (ld i) = 0
  low : ∀ k, r ≤ k → k < n → ∀ j, j < c → M k j = 0

theorem upto_step {p : Int} {n c d : Nat} {s : Red} {ld : Nat → Nat} (hg : Fld.goodB p = true) (h : RedOk p n c d s) {j : Nat} (hj : j < c) (hu : Upto n j (at2 s.M) s.r ld) (hk : seek s.M j s.r < s.M.length) :
    Upto n (j + 1) (at2 (Red.step p s j (seek s.M j s.r)).M) (s.r + 1) fun i => if i = s.r then j else ld i := by
  obtain ⟨k1, k2, k3, k4, k5⟩ := pivot_in h hj hk
  obtain ⟨h1, h2, h3⟩ := h
  have hp := (Fld.good_bounds hg).1
  have hinv := inv_mul hg k4 k5
  generalize hkk : seek s.M j s.r = k at *
  have m1 := elems_swap h1 k1 k2
  have m2 := elems_scaled hp (q := j) (M := swapL s.M s.r k) m1 k1
  have hs : ∀ q t, at2 (swapL s.M s.r k) q t = at2 s.M (if q = k then s.r else if q = s.r then k else q) t := fun q t => at2_swap (by rw [h1.1]; exact k1) (by rw [h1.1]; exact k2) q t
  have e2 : ∀ q t, t < c → at2 (Red.scaled p s.r j (swapL s.M s.r k) (swapL s.M s.r k)) q t = if q = s.r then (at2 (swapL s.M s.r k) s.r t * invI p (at2 (swapL s.M s.r k) s.r j)) % p else at2 (swapL s.M s.r k) q t :=
    fun q t ht => at2_scaled (by rw [m1.1]; exact k1) q (by rw [(m1.2 _ k1).1]; exact ht)
  have e3 : ∀ q, q < n → ∀ t, t < c → at2 (Red.step p s j k).M q t = if q < n ∧ q ≠ s.r ∧ Red.col j (Red.scaled p s.r j (swapL s.M s.r k) (swapL s.M s.r k)) q ≠ 0 then (at2 (Red.scaled p s.r j (swapL s.M s.r k) (swapL s.M s.r k)) q t + -Red.col j (Red.scaled p s.r j (swapL s.M s.r k) (swapL s.M s.r k)) q * at2 (Red.scaled p s.r j (swapL s.M s.r k) (swapL s.M s.r k)) s.r t) % p else at2 (Red.scaled p s.r j (swapL s.M s.r k) (swapL s.M s.r k)) q t := by
    intro q hq t ht
    have := at2_clear (p := p) (r := s.r) (i := (Red.scaled p s.r j (swapL s.M s.r k) (swapL s.M s.r k)).length) (X := Red.col j (Red.scaled p s.r j (swapL s.M s.r k) (swapL s.M s.r k))) (L := Red.scaled p s.r j (swapL s.M s.r k) (swapL s.M s.r k)) (q := q) (j := t) (by rw [m2.1]; exact hq) (by rw [(m2.2 q hq).1]; exact ht)
    rw [m2.1] at this
    rw [← this]
    show at2 (clearP _ _ _ _ _) q t = _
    rw [m2.1]
  have hb2 : ∀ q, q < n → ∀ t, t < c → 0 ≤ at2 (Red.scaled p s.r j (swapL s.M s.r k) (swapL s.M s.r k)) q t ∧ at2 (Red.scaled p s.r j (swapL s.M s.r k) (swapL s.M s.r k)) q t < p := fun q hq t ht => (m2.2 q hq).2 t ht
  -- the new row r: 0 before j, 1 at j
  have r0 : ∀ t, t < j → at2 (Red.scaled p s.r j (swapL s.M s.r k) (swapL s.M s.r k)) s.r t = 0 := by
    intro t ht
    rw [e2 _ _ (by omega), if_pos rfl, hs]
    have : (if s.r = k then s.r else if s.r = s.r then k else s.r) = k := by split <;> simp_all
    rw [this, hu.low k k3 k2 t ht, Int.zero_mul]
    rfl
  have r1 : at2 (Red.scaled p s.r j (swapL s.M s.r k) (swapL s.M s.r k)) s.r j = 1 := by
    rw [e2 _ _ hj, if_pos rfl]
    exact hinv
  -- the other rows: before j as they were
  have q0 : ∀ q, q < n → q ≠ s.r → ∀ t, t < j → at2 (Red.step p s j k).M q t = at2 (swapL s.M s.r k) q t := by
    intro q hq hne t ht
    have hx := hb2 q hq t (by omega)
    rw [e3 q hq t (by omega), r0 t ht, Int.mul_zero, Int.add_zero]
    rw [Int.emod_eq_of_lt hx.1 hx.2]
    rw [e2 q t (by omega), if_neg hne]
    split <;> rfl
  have q1 : ∀ q, q < n → q ≠ s.r → at2 (Red.step p s j k).M q j = 0 := by
    intro q hq hne
    rw [e3 q hq j hj, r1, Int.mul_one]
    by_cases e : Red.col j (Red.scaled p s.r j (swapL s.M s.r k) (swapL s.M s.r k)) q = 0
    · rw [if_neg (fun h => h.2.2 e)]
      exact e
    · rw [if_pos ⟨hq, hne, e⟩]
      show (at2 _ q j + -at2 _ q j) % p = 0
      rw [Int.add_right_neg]
      rfl
  have rr : ∀ t, t < c → at2 (Red.step p s j k).M s.r t = at2 (Red.scaled p s.r j (swapL s.M s.r k) (swapL s.M s.r k)) s.r t := by
    intro t ht
    rw [e3 s.r k1 t ht, if_neg (fun h => h.2.1 rfl)]
  have hold : ∀ i, i < s.r → ∀ t, t < j → at2 (Red.step p s j k).M i t = at2 s.M i t := by
    intro i hi t ht
    rw [q0 i (by omega) (by omega) t ht, hs, if_neg (by omega), if_neg (by omega)]
  refine ⟨fun i hi => ?_, fun i q hiq hq => ?_, fun i hi => ?_, fun i hi t ht => ?_, fun i q hi hq hne => ?_, fun q hrq hq t ht => ?_⟩
  · try dsimp only
    split
    · omega
    · have := hu.lt i (by omega); omega
  · try dsimp only
    rw [if_neg (by omega)]
    split
    · exact hu.lt i (by omega)
    · exact hu.mono i q hiq (by omega)
  · try dsimp only
    split
    · rename_i e; subst e; rw [rr j hj]; exact r1
    · have hl := hu.lt i (by omega)
      rw [hold i (by omega) _ hl]
      exact hu.one i (by omega)
  · try dsimp only at ht
    split at ht
    · rename_i e; subst e; rw [rr t (by omega)]; exact r0 t ht
    · have hl := hu.lt i (by omega)
      rw [hold i (by omega) _ (by omega)]
      exact hu.zero i (by omega) t ht
  · try dsimp only
    split
    · rename_i e; subst e; exact q1 q hq hne
    · have hl := hu.lt i (by omega)
      by_cases e : q = s.r
      · subst e
        rw [rr _ (by omega)]
        exact r0 _ hl
      · rw [q0 q hq e _ hl, hs]
        by_cases e2 : q = k
        · rw [if_pos e2]
          exact hu.col i s.r (by omega) k1 (by omega)
        · rw [if_neg e2, if_neg e]
          exact hu.col i q (by omega) hq hne
  · by_cases e : t = j
    · subst e; exact q1 q hq (by omega)
    · rw [q0 q hq (by omega) t (by omega), hs]
      by_cases e2 : q = k
      · rw [if_pos e2]
        exact hu.low s.r (Nat.le_refl _) k1 t (by omega)
      · rw [if_neg e2, if_neg (by omega)]
        exact hu.low q (by omega) hq t (by omega)

theorem upto_redN {p : Int} {n c d : Nat} {s : Red} (hg : Fld.goodB p = true) (h : RedOk p n c d s) (h0 : s.r = 0) : ∀ j, j ≤ c → ∃ ld, Upto n j (at2 (redN p s j).M) (redN p s j).r ld
  | 0, _ => ⟨fun _ => 0, by
    show Upto n 0 (at2 s.M) s.r _
    rw [h0]
    exact ⟨fun i hi => by omega, fun i k _ hk => by omega, fun i hi => by omega, fun i hi => by omega, fun i k hi => by omega, fun k _ _ j hj => by omega⟩⟩
  | j + 1, hj => by
    have hp := (Fld.good_bounds hg).1
    obtain ⟨ld, hu⟩ := upto_redN hg h h0 j (by omega)
    have hok := redN_ok hp h j
    rw [redN_succ]
    by_cases hk : seek (redN p s j).M j (redN p s j).r < (redN p s j).M.length
    · rw [redCol_yes hk]
      exact ⟨_, upto_step hg hok (by omega) hu hk⟩
    · have : redCol p (redN p s j) j = redN p s j := if_neg hk
      rw [this]
      refine ⟨ld, fun i hi => by have := hu.lt i hi; omega, hu.mono, hu.one, hu.zero, hu.col, fun k hrk hkn t ht => ?_⟩
      by_cases e : t = j
      · subst e
        have hl := seek_le (M := (redN p s t).M) (c := t) (k := (redN p s t).r) (by rw [hok.1.1]; exact hok.2.2)
        have hl2 := hok.1.1
        exact seek_zero k hrk (by omega)
      · exact hu.low k hrk hkn t (by omega)

theorem at2_take {L : List (List Int)} {r i : Nat} (h : i < r) (j : Nat) : at2 (L.take r) i j = at2 L i j := by
  unfold at2 lAt
  rw [List.getElem?_take, if_pos h]
theorem at2_drop (L : List (List Int)) (r i j : Nat) : at2 (L.drop r) i j = at2 L (r + i) j := by
  unfold at2 lAt
  rw [List.getElem?_drop]

/-- What a reduction ends in. -/
theorem red_end {p : Int} {n c d : Nat} {M T : List (List Int)} (hg : Fld.goodB p = true) (hM : ElemsT p n c M) (hT : ElemsT p n d T) :
    ∃ ld, Upto n c (at2 (redN p ⟨M, T, 0⟩ c).M) (redN p ⟨M, T, 0⟩ c).r ld ∧ RedOk p n c d (redN p ⟨M, T, 0⟩ c) ∧ Same p c n (at2 (redN p ⟨M, T, 0⟩ c).M) n (at2 M) ∧ Same p d n (at2 (redN p ⟨M, T, 0⟩ c).T) n (at2 T) := by
  have hp := (Fld.good_bounds hg).1
  have hok : RedOk p n c d ⟨M, T, 0⟩ := ⟨hM, hT, Nat.zero_le _⟩
  obtain ⟨ld, hu⟩ := upto_redN hg hok rfl c (Nat.le_refl c)
  have hs := same_redN hg hok c (Nat.le_refl c)
  exact ⟨ld, hu, redN_ok hp hok c, hs.1, hs.2⟩

theorem elems_nil {p : Int} {n : Nat} {M : List (List Int)} (h : M.length = n) : ElemsT p n 0 (M.map fun _ => []) := by
  refine ⟨by simp [h], fun i hi => ⟨?_, fun j hj => by omega⟩⟩
  simp [lAt, h, hi]
/-- The reduced rows: a reduced list that spans what the rows span. -/
theorem reduced_spec {p : Int} {n c : Nat} {M : List (List Int)} (hg : Fld.goodB p = true) (hM : ElemsT p n c M) :
    ∃ ld, Rref c (reducedL p c M).length (at2 (reducedL p c M)) ld ∧ ElemsT p (reducedL p c M).length c (reducedL p c M) ∧ (reducedL p c M).length ≤ n ∧ Same p c (reducedL p c M).length (at2 (reducedL p c M)) n (at2 M) := by
  obtain ⟨ld, hu, hok, hs, _⟩ := red_end hg hM (elems_nil (p := p) hM.1)
  have hl : (reducedL p c M).length = (redM p c M).r := by
    unfold reducedL redM
    rw [List.length_take, hok.1.1]
    have := hok.2.2
    omega
  have e : ∀ i, i < (redM p c M).r → ∀ j, at2 (reducedL p c M) i j = at2 (redM p c M).M i j := fun i hi j => at2_take hi j
  have hr : (redM p c M).r ≤ n := hok.2.2
  refine ⟨ld, ?_, ?_, by rw [hl]; exact hr, ?_⟩
  · rw [hl]
    refine ⟨hu.lt, hu.mono, fun i hi => by rw [e i hi]; exact hu.one i hi, fun i hi j hj => by rw [e i hi]; exact hu.zero i hi j hj, fun i k hi hk hne => ?_⟩
    rw [e k hk]
    exact hu.col i k hi (Nat.lt_of_lt_of_le hk hr) hne
  · refine ⟨rfl, fun i hi => ?_⟩
    rw [hl] at hi
    have h1 := hok.1.2 i (Nat.lt_of_lt_of_le hi hr)
    refine ⟨?_, fun j hj => by rw [e i hi]; exact h1.2 j hj⟩
    have e4 : lAt (reducedL p c M) i = lAt (redM p c M).M i := by
      unfold reducedL lAt
      rw [List.getElem?_take, if_pos hi]
    rw [e4]
    exact h1.1
  · refine Same.trans ?_ hs
    rw [hl]
    refine ⟨fun i hi => ?_, fun i hi => ?_⟩
    · exact (Span.row (M := at2 (redM p c M).M) (Nat.lt_of_lt_of_le hi hr)).congr fun j _ => Eqv.of_eq (e i hi j)
    · by_cases h1 : i < (redM p c M).r
      · exact (Span.row (M := at2 (reducedL p c M)) h1).congr fun j _ => Eqv.of_eq (e i h1 j).symm
      · exact Span.zero.congr fun j hj => Eqv.of_eq (hu.low i (Nat.le_of_not_lt h1) hi j hj)

theorem lists_eq {p : Int} {c : Nat} {L L' : List (List Int)} (hL : ElemsT p L.length c L) (hL' : ElemsT p L'.length c L') (hl : L.length = L'.length) (h : ∀ i, i < L.length → ∀ j, j < c → at2 L i j = at2 L' i j) : L = L' := by
  rw [tab_eq (L := L) rfl fun i hi => (hL.2 i hi).1, tab_eq (L := L') hl.symm fun i hi => (hL'.2 i (by omega)).1]
  exact tabT_congr fun i j hi hj => h i hi j hj
/-- Rows that span the same have the same reduced rows. -/
theorem reduced_same {p : Int} {n n' c : Nat} {M M' : List (List Int)} (hg : Fld.goodB p = true) (hM : ElemsT p n c M) (hM' : ElemsT p n' c M') (hs : Same p c n (at2 M) n' (at2 M')) : reducedL p c M = reducedL p c M' := by
  obtain ⟨ld, h1, h2, _, h3⟩ := reduced_spec hg hM
  obtain ⟨ld', h1', h2', _, h3'⟩ := reduced_spec hg hM'
  obtain ⟨e1, e2⟩ := h1.unique (Fld.good_bounds hg).1 h1' (fun i hi j hj => (h2.2 i hi).2 j hj) (fun i hi j hj => (h2'.2 i hi).2 j hj) ((h3.trans hs).trans h3'.symm)
  exact lists_eq h2 h2' e1 e2

end Lin
end Go.Proofs.Ytimjlcnljefbbaa

namespace Go.Proofs.Ytimjlcnljefbbaa
set_option linter.unusedVariables false
namespace Lin
open Ints

/-- Every one of m rows has product 0 with v. -/
def Solves (p : Int) (n m : Nat) (L : Nat → Nat → Int) (v : Nat → Int) : Prop := ∀ i, i < m → Eqv p (sumN (fun j => L i j * v j) n) 0

section
variable {p : Int} {n m m' : Nat} {L L' : Nat → Nat → Int} {u v : Nat → Int}
theorem dot_comb (c : Nat → Int) : sumN (fun j => sumN (fun i => c i * L i j) m * v j) n = sumN (fun i => c i * sumN (fun j => L i j * v j) n) m := by
  have h : sumN (fun j => sumN (fun i => c i * L i j) m * v j) n = sumN (fun j => sumN (fun i => c i * (L i j * v j)) m) n := by
    refine sumN_congr n fun j _ => ?_
    rw [Int.mul_comm, ← sumN_mul]
    exact sumN_congr m fun i _ => by rw [Int.mul_comm (v j), Int.mul_assoc]
  rw [h, sumN_comm]
  exact sumN_congr m fun i _ => sumN_mul _ _ _
theorem Solves.span (h : Solves p n m L v) {w : Nat → Int} (hw : Span p n m L w) : Eqv p (sumN (fun j => w j * v j) n) 0 := by
  obtain ⟨c, hc⟩ := hw
  refine (sumN_eqv n fun j hj => (hc j hj).mul (Eqv.refl p (v j))).trans ?_
  rw [dot_comb]
  refine sumN_eqv_zero m fun i hi => ?_
  exact ((Eqv.refl p (c i)).mul (h i hi)).trans (Eqv.of_eq (Int.mul_zero _))
theorem Solves.same (hs : Same p n m L m' L') (h : Solves p n m L v) : Solves p n m' L' v := fun i hi => h.span (hs.2 i hi)
theorem solves_same (hs : Same p n m L m' L') : Solves p n m L v ↔ Solves p n m' L' v := ⟨Solves.same hs, Solves.same hs.symm⟩
theorem Solves.congr (h : Solves p n m L v) (e : ∀ j, j < n → Eqv p (u j) (v j)) : Solves p n m L u := fun i hi =>
  (sumN_eqv n fun j hj => (Eqv.refl p (L i j)).mul (e j hj)).trans (h i hi)
/-- What is 0 against rows is so against all that they span, the other way round. -/
theorem Solves.turn (h : ∀ k, k < m' → Solves p n m L (L' k)) (hv : Span p n m' L' v) : Solves p n m L v := by
  intro i hi
  have h1 : Solves p n m' L' (L i) := fun k hk => (Eqv.of_eq (sumN_congr n fun j _ => Int.mul_comm _ _)).trans (h k hk i hi)
  exact (Eqv.of_eq (sumN_congr n fun j _ => Int.mul_comm _ _)).trans (h1.span hv)
end

theorem at2_id {n i j : Nat} (hi : i < n) (hj : j < n) : at2 (idT n) i j = if i = j then 1 else 0 := by
  unfold at2 idT
  rw [tabT_at hi, rowT_at hj]
theorem span_id {p : Int} {n : Nat} (v : Nat → Int) : Span p n n (at2 (idT n)) v := ⟨v, fun j hj => by
  refine Eqv.symm ((sumN_single n hj fun i hi hne => Eqv.of_eq ?_).trans (Eqv.of_eq ?_))
  · rw [at2_id hi hj, if_neg hne, Int.mul_zero]
  · rw [at2_id hj hj, if_pos rfl, Int.mul_one]⟩
theorem made_start {p : Int} {n c : Nat} {M : List (List Int)} : Made p n c M ⟨M, idT n, 0⟩ := by
  intro i hi j _
  refine Eqv.symm ((sumN_single n hi fun k hk hne => Eqv.of_eq ?_).trans (Eqv.of_eq ?_))
  · show at2 (idT n) i k * _ = 0
    rw [at2_id hi hk, if_neg (fun e => hne e.symm), Int.zero_mul]
  · show at2 (idT n) i i * _ = _
    rw [at2_id hi hi, if_pos rfl, Int.one_mul]

/-- The rows of the matrix of the steps behind the rank span all that has product 0 with every column. -/
theorem leftKernel_span {p : Int} {n c : Nat} {M : List (List Int)} (hg : Fld.goodB p = true) (hM : ElemsT p n c M) (v : Nat → Int) :
    Span p n ((redI p c M).T.drop (redI p c M).r).length (at2 ((redI p c M).T.drop (redI p c M).r)) v ↔ ∀ j, j < c → Eqv p (sumN (fun k => v k * at2 M k j) n) 0 := by
  have hp := (Fld.good_bounds hg).1
  have hl := hM.1
  obtain ⟨ld, hu, hok, _, hT⟩ := red_end hg hM (elems_id hp n)
  have hmade := made_redN (M0 := M) hg (s := ⟨M, idT n, 0⟩) ⟨hM, elems_id hp n, Nat.zero_le _⟩ made_start c (Nat.le_refl c)
  have er : redI p c M = redN p ⟨M, idT n, 0⟩ c := by unfold redI; rw [hl]
  rw [er]
  generalize redN p ⟨M, idT n, 0⟩ c = s at *
  have hr := hok.2.2
  have hdl : (s.T.drop s.r).length = n - s.r := by rw [List.length_drop, hok.2.1.1]
  rw [hdl]
  constructor
  · rintro ⟨y, hy⟩ j hj
    refine (sumN_eqv n fun k hk => (hy k hk).mul (Eqv.refl p _)).trans ?_
    rw [dot_comb (v := fun k => at2 M k j)]
    refine sumN_eqv_zero _ fun i hi => ?_
    refine ((Eqv.refl p (y i)).mul ?_).trans (Eqv.of_eq (Int.mul_zero _))
    refine Eqv.trans (Eqv.of_eq (sumN_congr n fun k _ => by rw [at2_drop])) ((hmade (s.r + i) (by omega) j hj).symm.trans (Eqv.of_eq (hu.low _ (by omega) (by omega) j hj)))
  · intro h
    obtain ⟨y, hy⟩ := (hT.symm.span).1 (span_id v)
    have hz : ∀ j, j < c → Eqv p (sumN (fun i => y i * at2 s.M i j) n) 0 := by
      intro j hj
      refine Eqv.trans ?_ (h j hj)
      refine Eqv.symm ((sumN_eqv n fun k hk => (hy k hk).mul (Eqv.refl p _)).trans ?_)
      rw [dot_comb (v := fun k => at2 M k j)]
      exact sumN_eqv n fun i hi => (Eqv.refl p (y i)).mul (hmade i hi j hj).symm
    have hy0 : ∀ i, i < s.r → Eqv p (y i) 0 := by
      intro i hi
      have h1 := hz (ld i) (hu.lt i hi)
      have h2 := sumN_single (p := p) (f := fun q => y q * at2 s.M q (ld i)) (k := i) n (by omega) fun q hq hne => Eqv.of_eq (by rw [hu.col i q hi hq hne, Int.mul_zero])
      rw [hu.one i hi, Int.mul_one] at h2
      exact h2.symm.trans h1
    refine ⟨fun i => y (s.r + i), fun j hj => ?_⟩
    refine (hy j hj).trans ?_
    have e : n = s.r + (n - s.r) := by omega
    rw [show sumN (fun i => y i * at2 s.T i j) n = sumN (fun i => y i * at2 s.T i j) (s.r + (n - s.r)) by rw [← e], sumN_split]
    refine (Eqv.add (sumN_eqv_zero _ fun i hi => ((hy0 i hi).mul (Eqv.refl p _)).trans (Eqv.of_eq (Int.zero_mul _))) (Eqv.refl p _)).trans (Eqv.of_eq ?_)
    rw [Int.zero_add]
    exact sumN_congr _ fun i _ => by rw [at2_drop]

def isLead (m : Nat) (ld : Nat → Nat) (j : Nat) : Prop := ∃ i, i < m ∧ ld i = j
/-- For each index that is no lead a vector that solves a reduced list; 0 for a lead. -/
structure FreeV (p : Int) (n m : Nat) (R : Nat → Nat → Int) (ld : Nat → Nat) (W : Nat → Nat → Int) : Prop where
  lead : ∀ j k, j < n → k < n → isLead m ld j → W j k = 0
  one : ∀ j, j < n → ¬ isLead m ld j → W j j = 1
  atl : ∀ j i, j < n → i < m → ¬ isLead m ld j → Eqv p (W j (ld i)) (-R i j)
  off : ∀ j k, j < n → k < n → ¬ isLead m ld j → k ≠ j → ¬ isLead m ld k → W j k = 0

section
variable {p : Int} {n m : Nat} {R W : Nat → Nat → Int} {ld : Nat → Nat} {v : Nat → Int}
theorem sumN_two {f : Nat → Int} {a b : Nat} (hab : a ≠ b) (n : Nat) (ha : a < n) (hb : b < n) (h : ∀ i, i < n → i ≠ a → i ≠ b → Eqv p (f i) 0) : Eqv p (sumN f n) (f a + f b) := by
  have e : sumN f n = sumN (fun i => (if i = a then f i else 0) + (if i = a then 0 else f i)) n := sumN_congr n fun i _ => by split <;> omega
  rw [e, sumN_add]
  refine Eqv.add ?_ ?_
  · refine (sumN_single n ha fun i hi hne => Eqv.of_eq (by rw [if_neg hne])).trans (Eqv.of_eq (by rw [if_pos rfl]))
  · refine (sumN_single n hb fun i hi hne => ?_).trans (Eqv.of_eq (by rw [if_neg (fun e => hab e.symm)]))
    by_cases e2 : i = a
    · rw [if_pos e2]; exact Eqv.refl _ _
    · rw [if_neg e2]; exact h i hi e2 hne
theorem free_solves (hR : Rref n m R ld) (hW : FreeV p n m R ld W) {j : Nat} (hj : j < n) : Solves p n m R (W j) := by
  intro i hi
  by_cases e : isLead m ld j
  · exact sumN_eqv_zero n fun k hk => Eqv.of_eq (by rw [hW.lead j k hj hk e, Int.mul_zero])
  · have hne : j ≠ ld i := fun h => e ⟨i, hi, h.symm⟩
    refine (sumN_two hne n hj (hR.lt i hi) fun k hk h1 h2 => ?_).trans ?_
    · by_cases e2 : isLead m ld k
      · obtain ⟨q, hq, rfl⟩ := e2
        exact Eqv.of_eq (by rw [hR.col q i hq hi (fun e => h2 (by rw [e])), Int.zero_mul])
      · exact Eqv.of_eq (by rw [hW.off j k hj hk e h1 e2, Int.mul_zero])
    · rw [hW.one j hj e, hR.one i hi, Int.mul_one, Int.one_mul]
      exact ((Eqv.refl p (R i j)).add (hW.atl j i hj hi e)).trans (Eqv.of_eq (by omega))
/-- The free vectors span all that solves a reduced list. -/
theorem free_span (hR : Rref n m R ld) (hW : FreeV p n m R ld W) : Span p n n W v ↔ Solves p n m R v := by
  constructor
  · intro h
    exact Solves.turn (fun k hk => free_solves hR hW hk) h
  · intro h
    refine ⟨v, fun k hk => ?_⟩
    by_cases e : isLead m ld k
    · obtain ⟨i, hi, rfl⟩ := e
      have h1 := h i hi
      have h2 : Eqv p (sumN (fun j => v j * W j (ld i)) n + sumN (fun j => R i j * v j) n) (v (ld i)) := by
        rw [← sumN_add]
        refine (sumN_single n hk fun j hj hne => ?_).trans ?_
        · by_cases e2 : isLead m ld j
          · obtain ⟨q, hq, rfl⟩ := e2
            exact Eqv.of_eq (by rw [hW.lead _ _ hj hk ⟨q, hq, rfl⟩, hR.col q i hq hi (fun e => hne (by rw [e])), Int.mul_zero, Int.zero_mul]; rfl)
          · refine (((Eqv.refl p (v j)).mul (hW.atl j i hj hi e2)).add (Eqv.refl p _)).trans (Eqv.of_eq ?_)
            rw [Int.mul_neg, Int.mul_comm (R i j)]
            omega
        · exact Eqv.of_eq (by rw [hW.lead _ _ hk hk ⟨i, hi, rfl⟩, hR.one i hi, Int.mul_zero, Int.one_mul]; omega)
      have h3 := (Eqv.refl p (sumN (fun j => v j * W j (ld i)) n)).add h1
      exact h2.symm.trans (h3.trans (Eqv.of_eq (by omega)))
    · refine Eqv.symm ((sumN_single n hk fun j hj hne => ?_).trans (Eqv.of_eq (by rw [hW.one k hk e, Int.mul_one])))
      by_cases e2 : isLead m ld j
      · exact Eqv.of_eq (by rw [hW.lead j k hj hk e2, Int.mul_zero])
      · exact Eqv.of_eq (by rw [hW.off j k hj hk e2 (fun h => hne h.symm) e, Int.mul_zero])
/-- What solves the free vectors is spanned by the reduced list. -/
theorem free_back (hR : Rref n m R ld) (hW : FreeV p n m R ld W) : Solves p n n W v ↔ Span p n m R v := by
  have hRW : ∀ i, i < m → Solves p n n W (R i) := fun i hi j hj => (Eqv.of_eq (sumN_congr n fun k _ => Int.mul_comm _ _)).trans (free_solves hR hW hj i hi)
  constructor
  · intro h
    refine ⟨fun i => v (ld i), fun j hj => ?_⟩
    have hS : Span p n m R fun j => sumN (fun i => v (ld i) * R i j) m := Span.sum _ m fun i hi => Span.row hi
    have hlead : ∀ i, i < m → Eqv p (sumN (fun q => v (ld q) * R q (ld i)) m) (v (ld i)) := fun i hi =>
      (sumN_single m hi fun q hq hne => Eqv.of_eq (by rw [hR.col i q hi hq hne, Int.mul_zero])).trans (Eqv.of_eq (by rw [hR.one i hi, Int.mul_one]))
    by_cases e : isLead m ld j
    · obtain ⟨i, hi, rfl⟩ := e
      exact (hlead i hi).symm
    · have h1 := h j hj
      have h2 := Solves.turn hRW hS j hj
      have h3 : Eqv p (sumN (fun k => W j k * v k) n - sumN (fun k => W j k * sumN (fun i => v (ld i) * R i k) m) n) (v j - sumN (fun i => v (ld i) * R i j) m) := by
        have e3 : sumN (fun k => W j k * v k) n - sumN (fun k => W j k * sumN (fun i => v (ld i) * R i k) m) n = sumN (fun k => W j k * (v k - sumN (fun i => v (ld i) * R i k) m)) n := by
          have e4 : sumN (fun k => W j k * (v k - sumN (fun i => v (ld i) * R i k) m)) n = sumN (fun k => W j k * v k + (-1) * (W j k * sumN (fun i => v (ld i) * R i k) m)) n :=
            sumN_congr n fun k _ => by rw [Int.mul_sub]; omega
          rw [e4, sumN_add, sumN_mul]
          omega
        rw [e3]
        refine (sumN_single n hj fun k hk hne => ?_).trans (Eqv.of_eq (by rw [hW.one j hj e, Int.one_mul]))
        by_cases e2 : isLead m ld k
        · obtain ⟨q, hq, rfl⟩ := e2
          exact ((Eqv.refl p _).mul (((Eqv.refl p (v (ld q))).sub (hlead q hq)).trans (Eqv.of_eq (Int.sub_self _)))).trans (Eqv.of_eq (Int.mul_zero _))
        · exact Eqv.of_eq (by rw [hW.off j k hj hk e hne e2, Int.zero_mul])
      have h4 := h3.symm.trans ((h1.sub h2).trans (Eqv.of_eq (Int.sub_self 0)))
      exact ((h4.add (Eqv.refl p (sumN (fun i => v (ld i) * R i j) m))).trans (Eqv.of_eq (Int.zero_add _))) |> fun h5 => (Eqv.of_eq (by omega)).trans h5
  · intro h
    exact Solves.turn hRW h
end

end Lin
end Go.Proofs.Ytimjlcnljefbbaa

namespace Go.Proofs.Ytimjlcnljefbbaa
set_option linter.unusedVariables false
namespace Lin
open Ints

/-- The index of the first element other than 0, the length if there is none. -/
def leadOf : List Int → Nat
  | [] => 0
  | x :: l => if x = 0 then leadOf l + 1 else 0
theorem leadOf_le : ∀ l : List Int, leadOf l ≤ l.length
  | [] => Nat.le_refl _
  | x :: l => by
    unfold leadOf
    have := leadOf_le l
    split <;> simp <;> omega
theorem leadOf_zero : ∀ (l : List Int) (j : Nat), j < leadOf l → l[j]?.getD 0 = 0
  | [], j, h => by simp [leadOf] at h
  | x :: l, j, h => by
    unfold leadOf at h
    split at h
    · rename_i e
      cases j with
      | zero => simpa using e
      | succ j => simpa using leadOf_zero l j (by omega)
    · omega
theorem leadOf_ne : ∀ l : List Int, leadOf l < l.length → l[leadOf l]?.getD 0 ≠ 0
  | [], h => by simp at h
  | x :: l, h => by
    unfold leadOf at h ⊢
    split
    · rename_i e
      rw [if_pos e] at h
      simpa using leadOf_ne l (by simpa using h)
    · rename_i e
      simpa using e
theorem leadOf_at {l : List Int} {k : Nat} (hz : ∀ j, j < k → l[j]?.getD 0 = 0) (hn : l[k]?.getD 0 ≠ 0) : leadOf l = k := by
  have hk : k < l.length := by
    rcases Nat.lt_or_ge k l.length with h | h
    · exact h
    · simp [List.getElem?_eq_none h] at hn
  have h1 := leadOf_le l
  rcases Nat.lt_trichotomy (leadOf l) k with h | h | h
  · exact absurd (hz _ h) (leadOf_ne l (by omega))
  · exact h
  · exact absurd (leadOf_zero l k h) hn
theorem leadOf_end {l : List Int} (hz : ∀ j, j < l.length → l[j]?.getD 0 = 0) : leadOf l = l.length := by
  have h1 := leadOf_le l
  rcases Nat.lt_or_ge (leadOf l) l.length with h | h
  · exact absurd (hz _ h) (leadOf_ne l h)
  · omega

/-- Where which row has its lead: -1 where none has. -/
def leadArr (n : Nat) (R : List (List Int)) : Nat → List Int
  | 0 => rowT n fun _ => -1
  | i + 1 => (leadArr n R i).set (leadOf (lAt R i)) i
/-- The vector of a free index j after i rows. -/
def freeFill (p : Int) (n : Nat) (R : List (List Int)) (j : Nat) : Nat → List Int
  | 0 => (rowT n fun _ => 0).set j 1
  | i + 1 => (freeFill p n R j i).set (leadOf (lAt R i)) ((-(at2 R i j)) % p)
def nullUpto (p : Int) (n : Nat) (R : List (List Int)) : Nat → List (List Int)
  | 0 => []
  | j + 1 => if 0 ≤ (leadArr n R R.length)[j]?.getD 0 then nullUpto p n R j else nullUpto p n R j ++ [freeFill p n R j R.length]
/-- As the reference makes it. -/
def nullL (p : Int) (n : Nat) (L : List (List Int)) : List (List Int) := reducedL p n (nullUpto p n (reducedL p n L) n)
/-- As the program makes it. -/
def kernelL (p : Int) (c : Nat) (M : List (List Int)) : List (List Int) := reducedL p M.length ((redI p c M).T.drop (redI p c M).r)

theorem leadArr_length (n : Nat) (R : List (List Int)) : ∀ i, (leadArr n R i).length = n
  | 0 => rowT_length _ _
  | i + 1 => by unfold leadArr; rw [List.length_set, leadArr_length n R i]
theorem freeFill_length (p : Int) (n : Nat) (R : List (List Int)) (j : Nat) : ∀ i, (freeFill p n R j i).length = n
  | 0 => by unfold freeFill; rw [List.length_set, rowT_length]
  | i + 1 => by unfold freeFill; rw [List.length_set, freeFill_length p n R j i]
theorem set_getD (l : List Int) (a k : Nat) (u : Int) : (l.set a u)[k]?.getD 0 = if k = a ∧ a < l.length then u else l[k]?.getD 0 := by
  rw [List.getElem?_set]
  by_cases e : a = k
  · subst e
    by_cases h : a < l.length
    · simp [h]
    · simp [h]
  · rw [if_neg e, if_neg (fun h => e h.1.symm)]

section
variable {p : Int} {n : Nat} {R : List (List Int)} {ld : Nat → Nat}
theorem lead_ref (hR : Rref n R.length (at2 R) ld) {i : Nat} (hi : i < R.length) : leadOf (lAt R i) = ld i := by
  refine leadOf_at (fun j hj => hR.zero i hi j hj) ?_
  show at2 R i (ld i) ≠ 0
  rw [hR.one i hi]
  decide
theorem rref_inj (hR : Rref n R.length (at2 R) ld) {i k : Nat} (hi : i < R.length) (hk : k < R.length) (h : ld i = ld k) : i = k := by
  rcases Nat.lt_trichotomy i k with e | e | e
  · have := hR.mono i k e hk; omega
  · exact e
  · have := hR.mono k i e hi; omega
theorem leadArr_at (hR : Rref n R.length (at2 R) ld) {j : Nat} (hj : j < n) : ∀ k, k ≤ R.length →
    (∀ i, i < k → ld i = j → (leadArr n R k)[j]?.getD 0 = i) ∧ ((∀ i, i < k → ld i ≠ j) → (leadArr n R k)[j]?.getD 0 = -1)
  | 0, _ => ⟨fun i hi => by omega, fun _ => rowT_at hj⟩
  | k + 1, hk => by
    have ih := leadArr_at hR hj k (by omega)
    have el := lead_ref hR (i := k) (by omega)
    have e : (leadArr n R (k + 1))[j]?.getD 0 = if j = ld k then (k : Int) else (leadArr n R k)[j]?.getD 0 := by
      show ((leadArr n R k).set (leadOf (lAt R k)) k)[j]?.getD 0 = _
      rw [set_getD, el, leadArr_length]
      have := hR.lt k (by omega)
      by_cases e : j = ld k
      · rw [if_pos ⟨e, this⟩, if_pos e]
      · rw [if_neg (fun h => e h.1), if_neg e]
    rw [e]
    refine ⟨fun i hi h => ?_, fun h => ?_⟩
    · by_cases e2 : j = ld k
      · rw [if_pos e2]
        have := rref_inj hR (i := i) (k := k) (by omega) (by omega) (h.trans e2)
        omega
      · rw [if_neg e2]
        refine ih.1 i ?_ h
        rcases Nat.lt_or_ge i k with h2 | h2
        · exact h2
        · have : i = k := by omega
          subst this
          exact absurd h.symm e2
    · rw [if_neg (fun h2 => h k (by omega) h2.symm)]
      exact ih.2 fun i hi => h i (by omega)
theorem leadArr_test (hR : Rref n R.length (at2 R) ld) {j : Nat} (hj : j < n) : 0 ≤ (leadArr n R R.length)[j]?.getD 0 ↔ isLead R.length ld j := by
  have h := leadArr_at hR hj R.length (Nat.le_refl _)
  constructor
  · intro h0
    by_cases e : isLead R.length ld j
    · exact e
    · rw [h.2 fun i hi e2 => e ⟨i, hi, e2⟩] at h0
      omega
  · rintro ⟨i, hi, e⟩
    rw [h.1 i hi e]
    omega
theorem freeFill_at (hR : Rref n R.length (at2 R) ld) {j q : Nat} (hj : j < n) (hq : q < n) : ∀ k, k ≤ R.length →
    (∀ i, i < k → ld i = q → (freeFill p n R j k)[q]?.getD 0 = (-(at2 R i j)) % p) ∧ ((∀ i, i < k → ld i ≠ q) → (freeFill p n R j k)[q]?.getD 0 = if q = j then 1 else 0)
  | 0, _ => ⟨fun i hi => by omega, fun _ => by
    show ((rowT n fun _ => (0 : Int)).set j 1)[q]?.getD 0 = _
    rw [set_getD, rowT_length, rowT_at hq]
    by_cases e : q = j
    · rw [if_pos ⟨e, hj⟩, if_pos e]
    · rw [if_neg (fun h => e h.1), if_neg e]⟩
  | k + 1, hk => by
    have ih := freeFill_at hR hj hq k (by omega)
    have el := lead_ref hR (i := k) (by omega)
    have e : (freeFill p n R j (k + 1))[q]?.getD 0 = if q = ld k then (-(at2 R k j)) % p else (freeFill p n R j k)[q]?.getD 0 := by
      show ((freeFill p n R j k).set (leadOf (lAt R k)) ((-(at2 R k j)) % p))[q]?.getD 0 = _
      rw [set_getD, el, freeFill_length]
      have := hR.lt k (by omega)
      by_cases e : q = ld k
      · rw [if_pos ⟨e, this⟩, if_pos e]
      · rw [if_neg (fun h => e h.1), if_neg e]
    rw [e]
    refine ⟨fun i hi h => ?_, fun h => ?_⟩
    · by_cases e2 : q = ld k
      · rw [if_pos e2]
        have := rref_inj hR (i := i) (k := k) (by omega) (by omega) (h.trans e2)
        rw [this]
      · rw [if_neg e2]
        refine ih.1 i ?_ h
        rcases Nat.lt_or_ge i k with h2 | h2
        · exact h2
        · have : i = k := by omega
          subst this
          exact absurd h.symm e2
    · rw [if_neg (fun h2 => h k (by omega) h2.symm)]
      exact ih.2 fun i hi => h i (by omega)

open Classical in
/-- The free vectors as a table. -/
noncomputable def freeW (p : Int) (n : Nat) (R : List (List Int)) (ld : Nat → Nat) (j k : Nat) : Int := if isLead R.length ld j then 0 else (freeFill p n R j R.length)[k]?.getD 0
theorem freeW_ok (hR : Rref n R.length (at2 R) ld) : FreeV p n R.length (at2 R) ld (freeW p n R ld) := by
  refine ⟨fun j k _ _ h => if_pos h, fun j hj h => ?_, fun j i hj hi h => ?_, fun j k hj hk h hne hk2 => ?_⟩
  · unfold freeW
    rw [if_neg h, (freeFill_at hR hj hj R.length (Nat.le_refl _)).2 fun i hi e => h ⟨i, hi, e⟩, if_pos rfl]
  · unfold freeW
    rw [if_neg h, (freeFill_at hR hj (hR.lt i hi) R.length (Nat.le_refl _)).1 i hi rfl]
    exact Eqv.mod _ _
  · unfold freeW
    rw [if_neg h, (freeFill_at hR hj hk R.length (Nat.le_refl _)).2 fun i hi e => hk2 ⟨i, hi, e⟩, if_neg hne]
theorem freeFill_in (hp : 2 ≤ p) (j : Nat) : ∀ k q, q < n → 0 ≤ (freeFill p n R j k)[q]?.getD 0 ∧ (freeFill p n R j k)[q]?.getD 0 < p
  | 0, q, hq => by
    show 0 ≤ ((rowT n fun _ => (0 : Int)).set j 1)[q]?.getD 0 ∧ ((rowT n fun _ => (0 : Int)).set j 1)[q]?.getD 0 < p
    rw [set_getD, rowT_at hq]
    split <;> omega
  | k + 1, q, hq => by
    have ih := freeFill_in hp j k q hq
    show 0 ≤ ((freeFill p n R j k).set (leadOf (lAt R k)) ((-(at2 R k j)) % p))[q]?.getD 0 ∧ ((freeFill p n R j k).set (leadOf (lAt R k)) ((-(at2 R k j)) % p))[q]?.getD 0 < p
    rw [set_getD]
    split
    · exact ⟨Int.emod_nonneg _ (by omega), Int.emod_lt_of_pos _ (by omega)⟩
    · exact ih
theorem nullUpto_rows (hR : Rref n R.length (at2 R) ld) : ∀ j, j ≤ n → (∀ t, t < (nullUpto p n R j).length → ∃ k, k < j ∧ ¬ isLead R.length ld k ∧ lAt (nullUpto p n R j) t = freeFill p n R k R.length) ∧
    (∀ k, k < j → ¬ isLead R.length ld k → ∃ t, t < (nullUpto p n R j).length ∧ lAt (nullUpto p n R j) t = freeFill p n R k R.length) ∧ (nullUpto p n R j).length ≤ j
  | 0, _ => ⟨fun t ht => by simp [nullUpto] at ht, fun k hk => by omega, by simp [nullUpto]⟩
  | j + 1, hj => by
    have ih := nullUpto_rows hR j (by omega)
    have ht := leadArr_test hR (j := j) (by omega)
    unfold nullUpto
    by_cases e : isLead R.length ld j
    · rw [if_pos (ht.2 e)]
      refine ⟨fun t h => ?_, fun k hk hn => ?_, by omega⟩
      · obtain ⟨k, h1, h2⟩ := ih.1 t h
        exact ⟨k, by omega, h2⟩
      · refine ih.2.1 k ?_ hn
        rcases Nat.lt_or_ge k j with h | h
        · exact h
        · have : k = j := by omega
          subst this
          exact absurd e hn
    · rw [if_neg (fun h => e (ht.1 h))]
      refine ⟨fun t h => ?_, fun k hk hn => ?_, by simp; omega⟩
      · by_cases e2 : t < (nullUpto p n R j).length
        · obtain ⟨k, h1, h2, h3⟩ := ih.1 t e2
          exact ⟨k, by omega, h2, by rw [lAt_snoc_lt e2]; exact h3⟩
        · have : t = (nullUpto p n R j).length := by simp at h; omega
          subst this
          exact ⟨j, by omega, e, lAt_snoc_at⟩
      · by_cases e2 : k = j
        · subst e2
          exact ⟨(nullUpto p n R k).length, by simp, lAt_snoc_at⟩
        · obtain ⟨t, h1, h2⟩ := ih.2.1 k (by omega) hn
          exact ⟨t, by simp; omega, by rw [lAt_snoc_lt h1]; exact h2⟩
theorem nullUpto_elems (hp : 2 ≤ p) (hR : Rref n R.length (at2 R) ld) : ElemsT p (nullUpto p n R n).length n (nullUpto p n R n) := by
  refine ⟨rfl, fun t ht => ?_⟩
  obtain ⟨k, _, _, h3⟩ := (nullUpto_rows hR n (Nat.le_refl n)).1 t ht
  unfold at2
  rw [h3]
  exact ⟨freeFill_length _ _ _ _ _, fun q hq => freeFill_in hp k _ q hq⟩
theorem nullUpto_same (hR : Rref n R.length (at2 R) ld) : Same p n (nullUpto p n R n).length (at2 (nullUpto p n R n)) n (freeW p n R ld) := by
  have h := nullUpto_rows (p := p) hR n (Nat.le_refl n)
  refine ⟨fun t ht => ?_, fun k hk => ?_⟩
  · obtain ⟨k, h1, h2, h3⟩ := h.1 t ht
    refine (Span.row (M := freeW p n R ld) h1).congr fun j _ => Eqv.of_eq ?_
    unfold at2 freeW
    rw [h3, if_neg h2]
  · by_cases e : isLead R.length ld k
    · exact Span.zero.congr fun j _ => Eqv.of_eq (if_pos e)
    · obtain ⟨t, h1, h2⟩ := h.2.1 k hk e
      refine (Span.row (M := at2 (nullUpto p n R n)) h1).congr fun j _ => Eqv.of_eq ?_
      unfold at2 freeW
      rw [h2, if_neg e]
end

section
variable {p : Int} {n m c : Nat} {L M : List (List Int)} {v : Nat → Int}
/-- The reference's kernel spans all that solves the rows; what solves it is what the rows span. -/
theorem null_facts (hg : Fld.goodB p = true) (hL : ElemsT p m n L) :
    (∃ k, ElemsT p k n (nullUpto p n (reducedL p n L) n) ∧ Same p n k (at2 (nullUpto p n (reducedL p n L) n)) (nullL p n L).length (at2 (nullL p n L))) ∧ ElemsT p (nullL p n L).length n (nullL p n L) ∧ (nullL p n L).length ≤ n ∧
      ∀ v, (Span p n (nullL p n L).length (at2 (nullL p n L)) v ↔ Solves p n m (at2 L) v) ∧ (Solves p n (nullL p n L).length (at2 (nullL p n L)) v ↔ Span p n m (at2 L) v) := by
  have hp := (Fld.good_bounds hg).1
  obtain ⟨ld, h1, h2, h3, h4⟩ := reduced_spec hg hL
  have h5 := nullUpto_elems hp h1
  obtain ⟨ld2, k1, k2, k3, k4⟩ := reduced_spec hg h5
  have h6 := nullUpto_same (p := p) h1
  have hW := freeW_ok (p := p) h1
  have hl := (nullUpto_rows (p := p) h1 n (Nat.le_refl n)).2.2
  refine ⟨⟨_, h5, k4.symm⟩, k2, by unfold nullL; omega, fun v => ⟨?_, ?_⟩⟩
  · exact ((k4.trans h6).span.trans (free_span h1 hW)).trans (solves_same h4)
  · exact ((solves_same (k4.trans h6)).trans (free_back h1 hW)).trans h4.span
theorem drop_elems (hg : Fld.goodB p = true) (hM : ElemsT p m c M) : ElemsT p (m - (redI p c M).r) m ((redI p c M).T.drop (redI p c M).r) ∧ (redI p c M).r ≤ m ∧ RedOk p m c m (redI p c M) := by
  have hp := (Fld.good_bounds hg).1
  obtain ⟨_, _, hok, _⟩ := red_end hg hM (elems_id hp m)
  have er : redI p c M = redN p ⟨M, idT m, 0⟩ c := by unfold redI; rw [hM.1]
  rw [er]
  generalize redN p ⟨M, idT m, 0⟩ c = s at *
  refine ⟨⟨by rw [List.length_drop, hok.2.1.1], fun i hi => ?_⟩, hok.2.2, hok⟩
  have h1 := hok.2.1.2 (s.r + i) (by omega)
  have e : lAt (s.T.drop s.r) i = lAt s.T (s.r + i) := by unfold lAt; rw [List.getElem?_drop]
  unfold at2
  rw [e]
  exact h1
theorem kernel_facts (hg : Fld.goodB p = true) (hM : ElemsT p m c M) :
    ElemsT p (kernelL p c M).length m (kernelL p c M) ∧ (kernelL p c M).length ≤ m ∧ ∀ v, Span p m (kernelL p c M).length (at2 (kernelL p c M)) v ↔ ∀ j, j < c → Eqv p (sumN (fun k => v k * at2 M k j) m) 0 := by
  obtain ⟨h1, h2, _⟩ := drop_elems hg hM
  obtain ⟨ld, k1, k2, k3, k4⟩ := reduced_spec hg h1
  have hl := hM.1
  have e : kernelL p c M = reducedL p m ((redI p c M).T.drop (redI p c M).r) := by unfold kernelL; rw [hl]
  rw [e]
  refine ⟨k2, by omega, fun v => ?_⟩
  have h3 := leftKernel_span hg hM v
  rw [h1.1] at h3
  exact k4.span.trans h3
theorem kernel_turn (v : Nat → Int) (hM : ElemsT p m c M) : (∀ j, j < c → Eqv p (sumN (fun k => v k * at2 M k j) m) 0) ↔ Solves p m c (at2 (turnT c M)) v := by
  have e : ∀ j, j < c → sumN (fun k => at2 (turnT c M) j k * v k) m = sumN (fun k => v k * at2 M k j) m := fun j hj => sumN_congr m fun k hk => by
    have : at2 (turnT c M) j k = at2 M k j := by
      show (lAt (tabT c M.length fun j i => at2 M i j) j)[k]?.getD 0 = _
      rw [tabT_at hj, rowT_at (by rw [hM.1]; exact hk)]
    rw [this, Int.mul_comm]
  constructor
  · intro h j hj
    rw [e j hj]
    exact h j hj
  · intro h j hj
    rw [← e j hj]
    exact h j hj
theorem turn_elems (hM : ElemsT p m c M) : ElemsT p c m (turnT c M) := by
  have := elems_tab (p := p) (r := c) (c := M.length) (f := fun j i => at2 M i j) fun j i hj hi => (hM.2 i (by rw [← hM.1]; exact hi)).2 j hj
  rw [hM.1] at this
  unfold turnT
  rw [hM.1]
  exact this
/-- Reduced lists that are made of what spans the same. -/
theorem reduced_span {p : Int} {a b n : Nat} {A B : List (List Int)} (hg : Fld.goodB p = true) (hA : ElemsT p a n A) (hB : ElemsT p b n B) (h : ∀ v, Span p n a (at2 A) v ↔ Span p n b (at2 B) v) : reducedL p n A = reducedL p n B :=
  reduced_same hg hA hB (Same.of_span h)
/-- Lists that are reduced already. -/
theorem reduced_fix {p : Int} {n : Nat} {A B : List (List Int)} {a b : Nat} (hg : Fld.goodB p = true) (hA : ElemsT p a n A) (hB : ElemsT p b n B) (h : ∀ v, Span p n (reducedL p n A).length (at2 (reducedL p n A)) v ↔ Span p n (reducedL p n B).length (at2 (reducedL p n B)) v) : reducedL p n A = reducedL p n B := by
  obtain ⟨ld, h1, h2, _, h3⟩ := reduced_spec hg hA
  obtain ⟨ld', h1', h2', _, h3'⟩ := reduced_spec hg hB
  exact reduced_span hg hA hB fun v => (h3.span.symm.trans (h v)).trans h3'.span
/-- The kernel of a matrix, both ways. -/
theorem kernel_eq (hg : Fld.goodB p = true) (hM : ElemsT p m c M) : kernelL p c M = nullL p m (turnT c M) := by
  obtain ⟨d1, d2, _⟩ := drop_elems hg hM
  obtain ⟨⟨k, n1, _⟩, _, _, nv⟩ := null_facts hg (turn_elems hM)
  have kv := (kernel_facts hg hM).2.2
  have hl := hM.1
  have e : kernelL p c M = reducedL p m ((redI p c M).T.drop (redI p c M).r) := by unfold kernelL; rw [hl]
  rw [e] at kv ⊢
  exact reduced_fix hg d1 n1 fun v => ((kv v).trans (kernel_turn v hM)).trans (nv v).1.symm
/-- The orthogonal of rows, both ways. -/
theorem orthogonal_eq (hg : Fld.goodB p = true) (hL : ElemsT p m n L) : kernelL p m (turnT n L) = nullL p n L := by
  rw [kernel_eq hg (turn_elems hL)]
  congr 1
  have hl := hL.1
  have e : L = tabT m n (at2 L) := tab_eq hl fun i hi => (hL.2 i hi).1
  unfold turnT
  rw [tabT_length]
  conv => rhs; rw [e]
  refine tabT_congr fun i j hi hj => ?_
  rw [hl]
  unfold at2
  rw [tabT_at hj, rowT_at hi]
end

end Lin
end Go.Proofs.Ytimjlcnljefbbaa

namespace Go.Proofs.Ytimjlcnljefbbaa
set_option linter.unusedVariables false
namespace Lin
open Ints

/-- The reference's: the determinant of the steps beside the full reduction. -/
structure Det where
  s : Red
  det : Int
def negI (p a : Int) : Int := (-a) % p
def detCol (p : Int) (d : Det) (c : Nat) : Det :=
  let k := seek d.s.M c d.s.r
  if k < d.s.M.length then ⟨Red.step p d.s c k, ((if d.s.r < k then negI p d.det else d.det) * at2 d.s.M k c) % p⟩ else d
def detN (p : Int) (d : Det) : Nat → Det
  | 0 => d
  | c + 1 => detCol p (detN p d c) c
theorem detCol_s (p : Int) (d : Det) (c : Nat) : (detCol p d c).s = redCol p d.s c := by
  unfold detCol redCol
  simp only
  split <;> rfl
theorem detN_s (p : Int) (d : Det) : ∀ c, (detN p d c).s = redN p d.s c
  | 0 => rfl
  | c + 1 => by
    show (detCol p (detN p d c) c).s = redCol p (redN p d.s c) c
    rw [detCol_s, detN_s p d c]

/-- The program's: rows behind row c cleared in column c, each by the multiple of the row as it stands. -/
def lowRow (p b : Int) (c : Nat) (M : List (List Int)) (q : Nat) : List Int := lessRow p (at2 M q c * b) (lAt M q) (lAt M c)
def lowP (p b : Int) (c : Nat) (M : List (List Int)) (i : Nat) : List (List Int) := (List.range M.length).map fun q => if c < q ∧ q < i then lowRow p b c M q else lAt M q
/-- One column; none where no row has a lead there. -/
def lowCol (p : Int) (c : Nat) (x : List (List Int) × Int) : Option (List (List Int) × Int) :=
  let k := seek x.1 c c
  if k < x.1.length then
    let M1 := swapL x.1 c k
    let d1 := if c < k then negI p x.2 else x.2
    some (lowP p (invI p (at2 M1 c c)) c M1 M1.length, (d1 * at2 M1 c c) % p)
  else none
def lowN (p : Int) (x : List (List Int) × Int) : Nat → Option (List (List Int) × Int)
  | 0 => some x
  | c + 1 => (lowN p x c).bind (lowCol p c)

theorem lowP_length (p b : Int) (c : Nat) (M : List (List Int)) (i : Nat) : (lowP p b c M i).length = M.length := by simp [lowP]
theorem lowP_at {p b : Int} {c : Nat} {M : List (List Int)} {i q : Nat} (h : q < M.length) : lAt (lowP p b c M i) q = if c < q ∧ q < i then lowRow p b c M q else lAt M q := by
  unfold lowP
  conv => lhs; unfold lAt
  rw [List.getElem?_map, List.getElem?_range h]
  rfl
theorem lowP_zero (p b : Int) (c : Nat) (M : List (List Int)) : lowP p b c M (c + 1) = M := by
  apply list_eq (lowP_length _ _ _ _ _)
  intro q hq
  rw [lowP_length] at hq
  rw [lowP_at hq, if_neg (by omega)]
theorem lowP_row {p b : Int} {c : Nat} {M : List (List Int)} {i : Nat} (h : c < M.length) : lAt (lowP p b c M i) c = lAt M c := by
  rw [lowP_at h, if_neg (by omega)]
theorem lowP_next {p b : Int} {c : Nat} {M : List (List Int)} {i : Nat} (h : i < M.length) : lAt (lowP p b c M i) i = lAt M i := by
  rw [lowP_at h, if_neg (by omega)]
theorem lowP_step {p b : Int} {c : Nat} {M : List (List Int)} {i : Nat} (h : i < M.length) (hc : c < i) : (lowP p b c M i).set i (lowRow p b c M i) = lowP p b c M (i + 1) := by
  apply list_eq (by simp [lowP_length])
  intro q hq
  rw [List.length_set, lowP_length] at hq
  rw [lAt_set _ _ _ _ (by rw [lowP_length]; exact h), lowP_at hq, lowP_at hq]
  by_cases e : i = q
  · subst e; simp [hc]
  · rw [if_neg e]
    by_cases e2 : c < q ∧ q < i
    · rw [if_pos e2, if_pos (by omega)]
    · rw [if_neg e2, if_neg (by omega)]
theorem elems_low {p b : Int} (hp : 2 ≤ p) {r w c i : Nat} {L : List (List Int)} (h : ElemsT p r w L) : ElemsT p r w (lowP p b c L i) := by
  refine ⟨by rw [lowP_length, h.1], fun q hq => ?_⟩
  have h1 := h.2 q hq
  unfold at2
  rw [lowP_at (by rw [h.1]; exact hq)]
  split
  · rw [lowRow, lessRow, h1.1]
    exact ⟨rowT_length _ _, row_mod hp _ _⟩
  · exact h1

theorem seekF_congr {M M' : List (List Int)} {c : Nat} : ∀ f k, (∀ q, k ≤ q → q < k + f → at2 M q c = at2 M' q c) → seekF M c f k = seekF M' c f k
  | 0, _, _ => rfl
  | f + 1, k, h => by
    unfold seekF
    rw [h k (Nat.le_refl k) (by omega), seekF_congr f (k + 1) fun q h1 h2 => h q (by omega) (by omega)]

/-- The rows from c on are the same in both, as long as each column had its lead. -/
theorem low_det {p : Int} {n : Nat} {M : List (List Int)} (hg : Fld.goodB p = true) (hM : ElemsT p n n M) : ∀ c, c ≤ n →
    (∃ x, lowN p (M, 1) c = some x ∧ ElemsT p n n x.1 ∧ (detN p ⟨⟨M, idT n, 0⟩, 1⟩ c).s.r = c ∧ x.2 = (detN p ⟨⟨M, idT n, 0⟩, 1⟩ c).det ∧ ∀ q, c ≤ q → q < n → lAt x.1 q = lAt (detN p ⟨⟨M, idT n, 0⟩, 1⟩ c).s.M q) ∨
    (lowN p (M, 1) c = none ∧ (detN p ⟨⟨M, idT n, 0⟩, 1⟩ c).s.r < c)
  | 0, _ => .inl ⟨(M, 1), rfl, hM, rfl, rfl, fun q _ _ => rfl⟩
  | c + 1, hc => by
    have hp := (Fld.good_bounds hg).1
    have ih := low_det hg hM c (by omega)
    have hs := detN_s p ⟨⟨M, idT n, 0⟩, 1⟩ c
    have hok : RedOk p n n n (detN p ⟨⟨M, idT n, 0⟩, 1⟩ c).s := by rw [hs]; exact redN_ok hp ⟨hM, elems_id hp n, Nat.zero_le _⟩ c
    show (∃ x, (lowN p (M, 1) c).bind (lowCol p c) = some x ∧ ElemsT p n n x.1 ∧ (detCol p (detN p ⟨⟨M, idT n, 0⟩, 1⟩ c) c).s.r = c + 1 ∧ x.2 = (detCol p (detN p ⟨⟨M, idT n, 0⟩, 1⟩ c) c).det ∧ ∀ q, c + 1 ≤ q → q < n → lAt x.1 q = lAt (detCol p (detN p ⟨⟨M, idT n, 0⟩, 1⟩ c) c).s.M q) ∨
      ((lowN p (M, 1) c).bind (lowCol p c) = none ∧ (detCol p (detN p ⟨⟨M, idT n, 0⟩, 1⟩ c) c).s.r < c + 1)
    generalize detN p ⟨⟨M, idT n, 0⟩, 1⟩ c = d at *
    clear hs
    rcases ih with ⟨x, hx, hxE, hr, hdet, hrows⟩ | ⟨hx, hr⟩
    · rw [hx, Option.bind_some]
      have hlen : x.1.length = d.s.M.length := by rw [hxE.1, hok.1.1]
      have hat : ∀ q, c ≤ q → q < n → ∀ t, at2 x.1 q t = at2 d.s.M q t := fun q h1 h2 t => by unfold at2; rw [hrows q h1 h2]
      have hseek : seek x.1 c c = seek d.s.M c d.s.r := by
        unfold seek
        rw [hr, hlen]
        refine seekF_congr _ _ fun q h1 h2 => hat q h1 ?_ c
        rw [hok.1.1] at h2
        omega
      by_cases hk : seek d.s.M c d.s.r < d.s.M.length
      · left
        obtain ⟨k1, k2, k3, k4, k5⟩ := pivot_in hok (by omega : c < n) hk
        unfold lowCol detCol
        simp only
        rw [hseek, if_pos (by rw [hlen]; exact hk), if_pos hk]
        rw [hr] at k1 k2 k3 k4 k5 ⊢
        generalize seek d.s.M c c = k at *
        have m1 := elems_swap hok.1 k1 k2
        have x1 := elems_swap hxE k1 k2
        have m2 := elems_scaled hp (q := c) (M := swapL d.s.M c k) m1 k1
        have hswap : ∀ q, c ≤ q → q < n → lAt (swapL x.1 c k) q = lAt (swapL d.s.M c k) q := by
          intro q h1 h2
          rw [swapL_at (by rw [hxE.1]; exact k1) (by rw [hxE.1]; exact k2), swapL_at (by rw [hok.1.1]; exact k1) (by rw [hok.1.1]; exact k2), hrows c (Nat.le_refl c) k1, hrows k k3 k2, hrows q h1 h2]
        have hpiv : at2 (swapL x.1 c k) c c = at2 (swapL d.s.M c k) c c := by unfold at2; rw [hswap c (Nat.le_refl c) k1]
        refine ⟨_, rfl, elems_low hp x1, ?_, ?_, fun q h1 h2 => ?_⟩
        · show d.s.r + 1 = c + 1
          rw [hr]
        · show (if c < k then negI p x.2 else x.2) * at2 (swapL x.1 c k) c c % p = (if c < k then negI p d.det else d.det) * at2 d.s.M k c % p
          rw [hdet, hpiv, at2_swap (by rw [hok.1.1]; exact k1) (by rw [hok.1.1]; exact k2)]
          congr 2
          by_cases e : c = k
          · rw [if_pos e, e]
          · rw [if_neg e, if_pos rfl]
        · show lAt (lowP _ _ _ _ _) q = lAt (Red.step p d.s c k).M q
          unfold Red.step
          simp only
          rw [hr]
          rw [lowP_at (by rw [x1.1]; exact h2), clearP_at (by rw [m2.1]; exact h2), if_pos ⟨by omega, by rw [x1.1]; exact h2⟩, if_pos (by rw [m2.1]; exact h2)]
          have hq : lAt (Red.scaled p c c (swapL d.s.M c k) (swapL d.s.M c k)) q = lAt (swapL d.s.M c k) q := by
            unfold Red.scaled
            rw [lAt_set _ _ _ _ (by rw [m1.1]; exact k1), if_neg (by omega)]
          have hq2 : at2 (Red.scaled p c c (swapL d.s.M c k) (swapL d.s.M c k)) q c = at2 (swapL d.s.M c k) q c := by unfold at2; rw [hq]
          have hc2 : ∀ t, t < n → at2 (Red.scaled p c c (swapL d.s.M c k) (swapL d.s.M c k)) c t = (at2 (swapL d.s.M c k) c t * invI p (at2 (swapL d.s.M c k) c c)) % p := by
            intro t ht
            rw [at2_scaled (by rw [m1.1]; exact k1) c (by rw [(m1.2 c k1).1]; exact ht), if_pos rfl]
          have hlq := (m1.2 q h2).1
          unfold lowRow clearRow Red.col
          rw [hq2, hq, hpiv]
          have hat1 : at2 (swapL x.1 c k) q c = at2 (swapL d.s.M c k) q c := by unfold at2; rw [hswap q (by omega) h2]
          rw [hat1, hswap q (by omega) h2, hswap c (Nat.le_refl c) k1]
          by_cases e : at2 (swapL d.s.M c k) q c = 0
          · rw [e, if_neg (fun h => h.2 rfl)]
            unfold lessRow
            rw [hlq]
            conv => rhs; rw [row_eq hlq]
            refine rowT_congr fun t ht => ?_
            rw [Int.zero_mul, Int.neg_zero, Int.zero_mul, Int.add_zero]
            have := (m1.2 q h2).2 t ht
            exact Int.emod_eq_of_lt this.1 this.2
          · rw [if_pos ⟨by omega, e⟩]
            unfold lessRow
            rw [hlq]
            refine rowT_congr fun t ht => ?_
            have h3 := hc2 t ht
            unfold at2 at h3 ⊢
            rw [h3]
            refine Eqv.mod_eq ((Eqv.refl p _).add ?_)
            rw [Int.neg_mul, Int.neg_mul]
            refine Eqv.neg ?_
            rw [Int.mul_assoc]
            refine (Eqv.refl p _).mul ?_
            rw [Int.mul_comm]
            exact (Eqv.mod p _).symm
      · right
        have hn : lowCol p c x = none := by
          unfold lowCol
          simp only
          rw [hseek, if_neg (by rw [hlen]; exact hk)]
        have hd : detCol p d c = d := by
          unfold detCol
          simp only
          rw [if_neg hk]
        rw [hn, hd]
        exact ⟨rfl, by omega⟩
    · right
      rw [hx]
      refine ⟨rfl, ?_⟩
      rw [detCol_s]
      unfold redCol
      split
      · show d.s.r + 1 < c + 1
        omega
      · omega

end Lin
end Go.Proofs.Ytimjlcnljefbbaa
