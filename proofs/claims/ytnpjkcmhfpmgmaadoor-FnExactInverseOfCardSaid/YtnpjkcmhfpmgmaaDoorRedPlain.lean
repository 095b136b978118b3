/- Plain words: row reduction, step by step. -/
import Derived.Test.YtnpjkcmhfpmgmaaDoorMxPlain
namespace Go.Proofs.YtnpjkcmhfpmgmaaDoor
namespace Ints

def lessRow (p b : Int) (l m : List Int) : List Int := rowT l.length fun j => (l[j]?.getD 0 + -b * m[j]?.getD 0) % p
def scaleRow (p b : Int) (l : List Int) : List Int := rowT l.length fun j => (l[j]?.getD 0 * b) % p
def swapL (L : List (List Int)) (i j : Nat) : List (List Int) := (L.set i (lAt L j)).set j (lAt L i)
def invI (p a : Int) : Int := (Fld.invN p.toNat a.toNat : Int)
/-- The first index from k on at which column c is not 0, at most f indices further. -/
def seekF (M : List (List Int)) (c : Nat) : Nat → Nat → Nat
  | 0, k => k
  | f + 1, k => if at2 M k c = 0 then seekF M c f (k + 1) else k
def seek (M : List (List Int)) (c k : Nat) : Nat := seekF M c (M.length - k) k
/-- Row q with a multiple of row r taken away. -/
def clearRow (p : Int) (X : Nat → Int) (r : Nat) (M : List (List Int)) (q : Nat) : List Int := if q ≠ r ∧ X q ≠ 0 then lessRow p (X q) (lAt M q) (lAt M r) else lAt M q
/-- The first i rows cleared. -/
def clearP (p : Int) (X : Nat → Int) (r : Nat) (M : List (List Int)) (i : Nat) : List (List Int) := (List.range M.length).map fun q => if q < i then clearRow p X r M q else lAt M q

structure Red where
  M : List (List Int)
  T : List (List Int)
  r : Nat

def Red.col (c : Nat) (M : List (List Int)) : Nat → Int := fun q => at2 M q c
def Red.scaled (p : Int) (r c : Nat) (M X : List (List Int)) : List (List Int) := X.set r (scaleRow p (invI p (at2 M r c)) (lAt X r))
def Red.step (p : Int) (s : Red) (c k : Nat) : Red :=
  let M1 := swapL s.M s.r k
  let M2 := Red.scaled p s.r c M1 M1
  let T2 := Red.scaled p s.r c M1 (swapL s.T s.r k)
  ⟨clearP p (Red.col c M2) s.r M2 M2.length, clearP p (Red.col c M2) s.r T2 T2.length, s.r + 1⟩
def redCol (p : Int) (s : Red) (c : Nat) : Red := if seek s.M c s.r < s.M.length then Red.step p s c (seek s.M c s.r) else s
def redN (p : Int) (s : Red) : Nat → Red
  | 0 => s
  | c + 1 => redCol p (redN p s c) c

theorem swapL_length (L : List (List Int)) (i j : Nat) : (swapL L i j).length = L.length := by simp [swapL]
theorem swapL_at {L : List (List Int)} {i j : Nat} (hi : i < L.length) (hj : j < L.length) (q : Nat) : lAt (swapL L i j) q = if q = j then lAt L i else if q = i then lAt L j else lAt L q := by
  unfold swapL
  rw [lAt_set _ _ _ _ (by simpa using hj), lAt_set _ _ _ _ hi]
  by_cases e : q = j
  · rw [if_pos e, if_pos e.symm]
  · rw [if_neg e, if_neg (fun h => e h.symm)]
    by_cases e2 : q = i
    · rw [if_pos e2, if_pos e2.symm]
    · rw [if_neg e2, if_neg (fun h => e2 h.symm)]
theorem swapL_same {L : List (List Int)} {i : Nat} (hi : i < L.length) : swapL L i i = L := by
  apply list_eq (swapL_length _ _ _)
  intro q _
  rw [swapL_at hi hi]
  by_cases e : q = i
  · subst e; simp
  · simp [e]
theorem lAt_set_self (L : List (List Int)) (i : Nat) : L.set i (lAt L i) = L := by
  by_cases h : i < L.length
  · apply list_eq (by simp)
    intro q _
    rw [lAt_set _ _ _ _ h]
    by_cases e : i = q
    · subst e; simp
    · simp [e]
  · rw [List.set_eq_of_length_le (by omega)]

theorem clearP_length (p : Int) (X : Nat → Int) (r : Nat) (M : List (List Int)) (i : Nat) : (clearP p X r M i).length = M.length := by simp [clearP]
theorem clearP_at {p : Int} {X : Nat → Int} {r : Nat} {M : List (List Int)} {i q : Nat} (h : q < M.length) : lAt (clearP p X r M i) q = if q < i then clearRow p X r M q else lAt M q := by
  unfold clearP
  conv => lhs; unfold lAt
  rw [List.getElem?_map, List.getElem?_range h]
  rfl
theorem clearP_zero (p : Int) (X : Nat → Int) (r : Nat) (M : List (List Int)) : clearP p X r M 0 = M := by
  apply list_eq (clearP_length _ _ _ _ _)
  intro q hq
  rw [clearP_length] at hq
  rw [clearP_at hq, if_neg (Nat.not_lt_zero q)]
theorem clearP_row {p : Int} {X : Nat → Int} {r : Nat} {M : List (List Int)} {i : Nat} (h : r < M.length) : lAt (clearP p X r M i) r = lAt M r := by
  rw [clearP_at h]
  split
  · rw [clearRow, if_neg (fun h => h.1 rfl)]
  · rfl
theorem clearP_next {p : Int} {X : Nat → Int} {r : Nat} {M : List (List Int)} {i : Nat} (h : i < M.length) : lAt (clearP p X r M i) i = lAt M i := by
  rw [clearP_at h, if_neg (Nat.lt_irrefl i)]
theorem clearP_step {p : Int} {X : Nat → Int} {r : Nat} {M : List (List Int)} {i : Nat} (h : i < M.length) : (clearP p X r M i).set i (clearRow p X r M i) = clearP p X r M (i + 1) := by
  apply list_eq (by simp [clearP_length])
  intro q hq
  rw [List.length_set, clearP_length] at hq
  rw [lAt_set _ _ _ _ (by rw [clearP_length]; exact h), clearP_at hq, clearP_at hq]
  by_cases e : i = q
  · subst e; simp
  · rw [if_neg e]
    by_cases e2 : q < i
    · rw [if_pos e2, if_pos (by omega)]
    · rw [if_neg e2, if_neg (by omega)]
theorem clearP_skip {p : Int} {X : Nat → Int} {r : Nat} {M : List (List Int)} {i : Nat} (h : i < M.length) (hs : i = r ∨ X i = 0) : clearP p X r M i = clearP p X r M (i + 1) := by
  rw [← clearP_step h]
  have e : clearRow p X r M i = lAt (clearP p X r M i) i := by
    rw [clearP_next h, clearRow, if_neg]
    rintro ⟨h1, h2⟩
    rcases hs with hs | hs
    · exact h1 hs
    · exact h2 hs
  rw [e, lAt_set_self]

theorem lessRow_length (p b : Int) (l m : List Int) : (lessRow p b l m).length = l.length := rowT_length _ _
theorem scaleRow_length (p b : Int) (l : List Int) : (scaleRow p b l).length = l.length := rowT_length _ _

theorem at2_lAt (L : List (List Int)) (i j : Nat) : (lAt L i)[j]?.getD 0 = at2 L i j := rfl
/-- Tables of field elements stay such. -/
theorem elems_iff {p : Int} {r c : Nat} {L : List (List Int)} (hl : L.length = r) (h : ∀ i, i < r → (lAt L i).length = c ∧ ∀ j, j < c → 0 ≤ at2 L i j ∧ at2 L i j < p) : ElemsT p r c L := ⟨hl, h⟩
theorem elems_swap {p : Int} {r c : Nat} {L : List (List Int)} {i j : Nat} (h : ElemsT p r c L) (hi : i < r) (hj : j < r) : ElemsT p r c (swapL L i j) := by
  refine ⟨by rw [swapL_length, h.1], fun q hq => ?_⟩
  have e := swapL_at (L := L) (i := i) (j := j) (by rw [h.1]; exact hi) (by rw [h.1]; exact hj) q
  unfold at2
  rw [e]
  split
  · exact h.2 i hi
  · split
    · exact h.2 j hj
    · exact h.2 q hq
theorem elems_set {p : Int} {r c : Nat} {L : List (List Int)} {i : Nat} {l : List Int} (h : ElemsT p r c L) (hi : i < r) (hl : l.length = c) (he : ∀ j, j < c → 0 ≤ l[j]?.getD 0 ∧ l[j]?.getD 0 < p) : ElemsT p r c (L.set i l) := by
  refine ⟨by simp [h.1], fun q hq => ?_⟩
  unfold at2
  rw [lAt_set _ _ _ _ (by rw [h.1]; exact hi)]
  split
  · exact ⟨hl, he⟩
  · exact h.2 q hq
theorem row_mod {p : Int} (hp : 2 ≤ p) (n : Nat) (f : Nat → Int) : ∀ j, j < n → 0 ≤ (rowT n fun j => f j % p)[j]?.getD 0 ∧ (rowT n fun j => f j % p)[j]?.getD 0 < p := by
  intro j hj
  rw [rowT_at hj]
  exact ⟨Int.emod_nonneg _ (by omega), Int.emod_lt_of_pos _ (by omega)⟩
theorem elems_scaled {p : Int} (hp : 2 ≤ p) {r c k q : Nat} {M L : List (List Int)} (h : ElemsT p r c L) (hk : k < r) : ElemsT p r c (Red.scaled p k q M L) := by
  have hl := (h.2 k hk).1
  refine elems_set h hk (by rw [scaleRow_length, hl]) ?_
  rw [scaleRow, hl]
  exact row_mod hp _ _
theorem elems_clear {p : Int} (hp : 2 ≤ p) {r c k i : Nat} {X : Nat → Int} {L : List (List Int)} (h : ElemsT p r c L) : ElemsT p r c (clearP p X k L i) := by
  refine ⟨by rw [clearP_length, h.1], fun q hq => ?_⟩
  have h1 := h.2 q hq
  unfold at2
  rw [clearP_at (by rw [h.1]; exact hq)]
  split
  · rw [clearRow]
    split
    · rw [lessRow, h1.1]
      exact ⟨rowT_length _ _, row_mod hp _ _⟩
    · exact h1
  · exact h1

theorem seekF_le (M : List (List Int)) (c f k : Nat) : k ≤ seekF M c f k ∧ seekF M c f k ≤ k + f := by
  induction f generalizing k with
  | zero => simp [seekF]
  | succ f ih =>
    unfold seekF
    split
    · have := ih (k + 1); omega
    · omega
theorem seekF_zero (M : List (List Int)) (c f k : Nat) : ∀ q, k ≤ q → q < seekF M c f k → at2 M q c = 0 := by
  induction f generalizing k with
  | zero => intro q h1 h2; simp [seekF] at h2; omega
  | succ f ih =>
    intro q h1 h2
    unfold seekF at h2
    split at h2
    · rename_i e
      by_cases e2 : q = k
      · subst e2; exact e
      · exact ih (k + 1) q (by omega) h2
    · omega
theorem seekF_ne (M : List (List Int)) (c f k : Nat) (h : seekF M c f k < k + f) : at2 M (seekF M c f k) c ≠ 0 := by
  induction f generalizing k with
  | zero => simp [seekF] at h
  | succ f ih =>
    unfold seekF at h ⊢
    split
    · rename_i e
      rw [if_pos e] at h
      exact ih (k + 1) (by omega)
    · rename_i e
      exact e
theorem seek_le {M : List (List Int)} {c k : Nat} (h : k ≤ M.length) : k ≤ seek M c k ∧ seek M c k ≤ M.length := by
  have := seekF_le M c (M.length - k) k
  unfold seek; omega
theorem seek_zero {M : List (List Int)} {c k : Nat} : ∀ q, k ≤ q → q < seek M c k → at2 M q c = 0 := seekF_zero M c _ k
theorem seek_ne {M : List (List Int)} {c k : Nat} (h : seek M c k < M.length) : at2 M (seek M c k) c ≠ 0 := by
  by_cases hk : k ≤ M.length
  · exact seekF_ne M c _ k (by unfold seek at h; omega)
  · have := seekF_le M c (M.length - k) k
    unfold seek at h; omega
/-- What was sought is found. -/
theorem seek_at {M : List (List Int)} {c r k : Nat} (hr : r ≤ k) (hk : k < M.length) (hz : ∀ q, r ≤ q → q < k → at2 M q c = 0) (hn : at2 M k c ≠ 0) : seek M c r = k := by
  have h1 := seek_le (M := M) (c := c) (k := r) (by omega)
  rcases Nat.lt_trichotomy (seek M c r) k with h | h | h
  · exact absurd (hz _ h1.1 h) (seek_ne (by omega))
  · exact h
  · exact absurd (seek_zero k hr h) hn
theorem seek_end {M : List (List Int)} {c r : Nat} (hr : r ≤ M.length) (hz : ∀ q, r ≤ q → q < M.length → at2 M q c = 0) : seek M c r = M.length := by
  have h1 := seek_le (M := M) (c := c) (k := r) hr
  rcases Nat.lt_or_ge (seek M c r) M.length with h | h
  · exact absurd (hz _ h1.1 h) (seek_ne h)
  · omega

/-- What stays the same in each step: the forms of both, and the rank. -/
def RedOk (p : Int) (n c d : Nat) (s : Red) : Prop := ElemsT p n c s.M ∧ ElemsT p n d s.T ∧ s.r ≤ n
theorem redCol_ok {p : Int} (hp : 2 ≤ p) {n c d : Nat} {s : Red} (h : RedOk p n c d s) (j : Nat) : RedOk p n c d (redCol p s j) := by
  unfold redCol
  split
  · rename_i hk
    obtain ⟨h1, h2, h3⟩ := h
    have hle := seek_le (M := s.M) (c := j) (k := s.r) (by rw [h1.1]; exact h3)
    rw [h1.1] at hk hle
    have hr : s.r < n := by omega
    refine ⟨elems_clear hp (elems_scaled hp (elems_swap h1 hr hk) hr), elems_clear hp (elems_scaled hp (elems_swap h2 hr hk) hr), ?_⟩
    show s.r + 1 ≤ n
    omega
  · exact h
theorem redN_ok {p : Int} (hp : 2 ≤ p) {n c d : Nat} {s : Red} (h : RedOk p n c d s) : ∀ j, RedOk p n c d (redN p s j)
  | 0 => h
  | j + 1 => redCol_ok hp (redN_ok hp h j) j
theorem redN_succ (p : Int) (s : Red) (j : Nat) : redN p s (j + 1) = redCol p (redN p s j) j := rfl
theorem redCol_no {p : Int} {s : Red} {c : Nat} (h : seek s.M c s.r = s.M.length) : redCol p s c = s := by
  unfold redCol
  rw [if_neg (by omega)]
theorem redCol_yes {p : Int} {s : Red} {c : Nat} (h : seek s.M c s.r < s.M.length) : redCol p s c = Red.step p s c (seek s.M c s.r) := if_pos h
/-- Once every row has its lead nothing happens any more. -/
theorem redN_full {p : Int} {s : Red} {j : Nat} (h : (redN p s j).r = (redN p s j).M.length) : ∀ i, redN p s (j + i) = redN p s j
  | 0 => rfl
  | i + 1 => by
    rw [← Nat.add_assoc, redN_succ, redN_full h i]
    refine redCol_no ?_
    have := seek_le (M := (redN p s j).M) (c := j + i) (k := (redN p s j).r) (by omega)
    omega
/-- The reduction of rows over c columns does not look at the second list. -/
theorem redCol_M {p : Int} {s s' : Red} (hM : s.M = s'.M) (hr : s.r = s'.r) (c : Nat) : (redCol p s c).M = (redCol p s' c).M ∧ (redCol p s c).r = (redCol p s' c).r := by
  unfold redCol
  rw [← hM, ← hr]
  split
  · refine ⟨?_, ?_⟩
    · show clearP _ _ _ _ _ = clearP _ _ _ _ _
      rw [hM, hr]
    · show s.r + 1 = s'.r + 1
      rw [hr]
  · exact ⟨hM, hr⟩
theorem redN_M {p : Int} {s s' : Red} (hM : s.M = s'.M) (hr : s.r = s'.r) : ∀ c, (redN p s c).M = (redN p s' c).M ∧ (redN p s c).r = (redN p s' c).r
  | 0 => ⟨hM, hr⟩
  | c + 1 => redCol_M (redN_M hM hr c).1 (redN_M hM hr c).2 c

/-- The reduced rows of M over c columns, and how many are not zero. -/
def redM (p : Int) (c : Nat) (M : List (List Int)) : Red := redN p ⟨M, M.map fun _ => [], 0⟩ c
def reducedL (p : Int) (c : Nat) (M : List (List Int)) : List (List Int) := (redM p c M).M.take (redM p c M).r
/-- The same, with the matrix of the steps. -/
def redI (p : Int) (c : Nat) (M : List (List Int)) : Red := redN p ⟨M, idT M.length, 0⟩ c
theorem redI_M (p : Int) (c : Nat) (M : List (List Int)) : (redI p c M).M = (redM p c M).M ∧ (redI p c M).r = (redM p c M).r := redN_M (s := ⟨M, idT M.length, 0⟩) (s' := ⟨M, M.map fun _ => [], 0⟩) rfl rfl c

end Ints
end Go.Proofs.YtnpjkcmhfpmgmaaDoor
