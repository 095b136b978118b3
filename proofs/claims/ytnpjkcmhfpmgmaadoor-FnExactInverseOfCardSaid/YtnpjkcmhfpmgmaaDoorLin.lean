/- Plain linear algebra over a small prime field: sums, spans, reduced lists; a reduced list is known from its span. -/
import Derived.Test.YtnpjkcmhfpmgmaaDoorRedPlain
namespace Go.Proofs.YtnpjkcmhfpmgmaaDoor
set_option linter.unusedVariables false
namespace Lin
open Ints

def sumN (f : Nat → Int) : Nat → Int
  | 0 => 0
  | k + 1 => sumN f k + f k
theorem sumN_congr {f g : Nat → Int} : ∀ n, (∀ i, i < n → f i = g i) → sumN f n = sumN g n
  | 0, _ => rfl
  | n + 1, h => by simp only [sumN]; rw [sumN_congr n fun i hi => h i (by omega), h n (by omega)]
theorem sumN_zero {f : Nat → Int} : ∀ n, (∀ i, i < n → f i = 0) → sumN f n = 0
  | 0, _ => rfl
  | n + 1, h => by simp only [sumN]; rw [sumN_zero n fun i hi => h i (by omega), h n (by omega)]; rfl
theorem sumN_add (f g : Nat → Int) : ∀ n, sumN (fun i => f i + g i) n = sumN f n + sumN g n
  | 0 => rfl
  | n + 1 => by simp only [sumN]; rw [sumN_add f g n]; omega
theorem sumN_mul (a : Int) (f : Nat → Int) : ∀ n, sumN (fun i => a * f i) n = a * sumN f n
  | 0 => by simp [sumN]
  | n + 1 => by simp only [sumN]; rw [sumN_mul a f n, Int.mul_add]
theorem sumN_comm (f : Nat → Nat → Int) (m : Nat) : ∀ n, sumN (fun i => sumN (fun j => f i j) m) n = sumN (fun j => sumN (fun i => f i j) n) m
  | 0 => by simp only [sumN]; exact (sumN_zero m fun _ _ => rfl).symm
  | n + 1 => by simp only [sumN]; rw [sumN_comm f m n, ← sumN_add]
theorem sumN_split (f : Nat → Int) (a : Nat) : ∀ b, sumN f (a + b) = sumN f a + sumN (fun i => f (a + i)) b
  | 0 => by simp [sumN]
  | b + 1 => by rw [← Nat.add_assoc]; simp only [sumN]; rw [sumN_split f a b]; omega

def Eqv (p a b : Int) : Prop := p ∣ a - b
theorem Eqv.refl (p a : Int) : Eqv p a a := by unfold Eqv; rw [Int.sub_self]; exact Int.dvd_zero p
theorem Eqv.of_eq {p a b : Int} (h : a = b) : Eqv p a b := by subst h; exact Eqv.refl _ _
theorem Eqv.symm {p a b : Int} (h : Eqv p a b) : Eqv p b a := by
  unfold Eqv at *
  obtain ⟨q, hq⟩ := h
  exact ⟨-q, by rw [Int.mul_neg]; omega⟩
theorem Eqv.trans {p a b c : Int} (h : Eqv p a b) (k : Eqv p b c) : Eqv p a c := by
  obtain ⟨q, hq⟩ := h
  obtain ⟨r, hr⟩ := k
  exact ⟨q + r, by rw [Int.mul_add]; omega⟩
theorem Eqv.add {p a b c d : Int} (h : Eqv p a b) (k : Eqv p c d) : Eqv p (a + c) (b + d) := by
  obtain ⟨q, hq⟩ := h
  obtain ⟨r, hr⟩ := k
  exact ⟨q + r, by rw [Int.mul_add]; omega⟩
theorem Eqv.mul {p a b c d : Int} (h : Eqv p a b) (k : Eqv p c d) : Eqv p (a * c) (b * d) := by
  obtain ⟨q, hq⟩ := h
  obtain ⟨r, hr⟩ := k
  refine ⟨q * c + b * r, ?_⟩
  have h1 : (a - b) * c = p * q * c := by rw [hq]
  have h2 : b * (c - d) = b * (p * r) := by rw [hr]
  rw [Int.sub_mul] at h1
  rw [Int.mul_sub] at h2
  rw [Int.mul_add, ← Int.mul_assoc, ← Int.mul_assoc, Int.mul_comm p b, Int.mul_assoc b p r]
  omega
theorem Eqv.neg {p a b : Int} (h : Eqv p a b) : Eqv p (-a) (-b) := by
  obtain ⟨q, hq⟩ := h
  exact ⟨-q, by rw [Int.mul_neg]; omega⟩
theorem Eqv.sub {p a b c d : Int} (h : Eqv p a b) (k : Eqv p c d) : Eqv p (a - c) (b - d) := by
  obtain ⟨q, hq⟩ := h
  obtain ⟨r, hr⟩ := k
  exact ⟨q - r, by rw [Int.mul_sub]; omega⟩
theorem Eqv.mod (p a : Int) : Eqv p (a % p) a := ⟨-(a / p), by have := Int.emod_add_mul_ediv a p; rw [Int.mul_neg]; omega⟩
theorem Eqv.eq {p a b : Int} (h : Eqv p a b) (ha : 0 ≤ a) (ha' : a < p) (hb : 0 ≤ b) (hb' : b < p) : a = b := by
  have h1 := Int.emod_emod_of_dvd
  have h2 := Int.emod_eq_emod_iff_emod_sub_eq_zero.2 (Int.emod_eq_zero_of_dvd h)
  rw [Int.emod_eq_of_lt ha ha', Int.emod_eq_of_lt hb hb'] at h2
  exact h2
theorem Eqv.mod_eq {p a b : Int} (h : Eqv p a b) : a % p = b % p := Int.emod_eq_emod_iff_emod_sub_eq_zero.2 (Int.emod_eq_zero_of_dvd h)
theorem eqv_one_zero {p : Int} (hp : 2 ≤ p) : ¬ Eqv p 1 0 := fun h => by
  have := h.eq (by omega) (by omega) (by omega) (by omega)
  omega

theorem sumN_eqv {p : Int} {f g : Nat → Int} : ∀ n, (∀ i, i < n → Eqv p (f i) (g i)) → Eqv p (sumN f n) (sumN g n)
  | 0, _ => Eqv.refl _ _
  | n + 1, h => by simp only [sumN]; exact (sumN_eqv n fun i hi => h i (by omega)).add (h n (by omega))
theorem sumN_eqv_zero {p : Int} {f : Nat → Int} (n : Nat) (h : ∀ i, i < n → Eqv p (f i) 0) : Eqv p (sumN f n) 0 := by
  have h1 := sumN_eqv (g := fun _ => 0) n h
  rw [sumN_zero n fun _ _ => rfl] at h1
  exact h1
theorem sumN_single {p : Int} {f : Nat → Int} {k : Nat} : ∀ n, k < n → (∀ i, i < n → i ≠ k → Eqv p (f i) 0) → Eqv p (sumN f n) (f k)
  | 0, h, _ => by omega
  | n + 1, h, hz => by
    simp only [sumN]
    by_cases e : k = n
    · subst e
      have h1 := sumN_eqv_zero (p := p) k fun i hi => hz i (by omega) (by omega)
      exact (h1.add (Eqv.refl p (f k))).trans (Eqv.of_eq (by omega))
    · have h1 := sumN_single n (by omega) fun i hi hne => hz i (by omega) hne
      exact (h1.add (hz n (by omega) (fun e' => e e'.symm))).trans (Eqv.of_eq (by omega))

/-- v is a linear combination of the first m rows, at the first n places. -/
def Span (p : Int) (n m : Nat) (M : Nat → Nat → Int) (v : Nat → Int) : Prop := ∃ c : Nat → Int, ∀ j, j < n → Eqv p (v j) (sumN (fun i => c i * M i j) m)
section
variable {p : Int} {n m m' : Nat} {M N : Nat → Nat → Int} {u v : Nat → Int}
theorem Span.row {i : Nat} (h : i < m) : Span p n m M (M i) := ⟨fun k => if k = i then 1 else 0, fun j _ => by
  refine ((sumN_single (p := p) (f := fun k => (if k = i then 1 else 0) * M k j) m h fun k _ hk => ?_).trans (Eqv.of_eq ?_)).symm
  · exact Eqv.of_eq (by simp [hk])
  · simp⟩
theorem Span.congr (h : Span p n m M v) (e : ∀ j, j < n → Eqv p (u j) (v j)) : Span p n m M u := by
  obtain ⟨c, hc⟩ := h
  exact ⟨c, fun j hj => (e j hj).trans (hc j hj)⟩
theorem Span.zero : Span p n m M fun _ => 0 := ⟨fun _ => 0, fun j _ => (Eqv.of_eq (sumN_zero m fun i _ => Int.zero_mul _)).symm⟩
theorem Span.comb (hu : Span p n m M u) (hv : Span p n m M v) (a b : Int) : Span p n m M fun j => a * u j + b * v j := by
  obtain ⟨c, hc⟩ := hu
  obtain ⟨d, hd⟩ := hv
  refine ⟨fun i => a * c i + b * d i, fun j hj => ?_⟩
  have e : sumN (fun i => (a * c i + b * d i) * M i j) m = a * sumN (fun i => c i * M i j) m + b * sumN (fun i => d i * M i j) m := by
    rw [← sumN_mul, ← sumN_mul, ← sumN_add]
    exact sumN_congr m fun i _ => by rw [Int.add_mul, Int.mul_assoc, Int.mul_assoc]
  rw [e]
  exact ((Eqv.refl p a).mul (hc j hj)).add ((Eqv.refl p b).mul (hd j hj))
theorem Span.smul (hu : Span p n m M u) (a : Int) : Span p n m M fun j => a * u j :=
  (hu.comb Span.zero a 0).congr fun j _ => Eqv.of_eq (by omega)
theorem Span.sum (c : Nat → Int) : ∀ k, (∀ i, i < k → Span p n m M (N i)) → Span p n m M fun j => sumN (fun i => c i * N i j) k
  | 0, _ => Span.zero
  | k + 1, h => ((Span.sum c k fun i hi => h i (by omega)).comb (h k (by omega)) 1 (c k)).congr fun j _ => Eqv.of_eq (by simp only [sumN]; rw [Int.one_mul])
theorem Span.trans (h : Span p n m' N v) (hN : ∀ i, i < m' → Span p n m M (N i)) : Span p n m M v := by
  obtain ⟨c, hc⟩ := h
  exact (Span.sum c m' hN).congr hc
end

/-- Both lists of rows span the same. -/
def Same (p : Int) (n m : Nat) (M : Nat → Nat → Int) (m' : Nat) (M' : Nat → Nat → Int) : Prop := (∀ i, i < m → Span p n m' M' (M i)) ∧ ∀ i, i < m' → Span p n m M (M' i)
section
variable {p : Int} {n m m' m'' : Nat} {M M' M'' : Nat → Nat → Int}
theorem Same.refl : Same p n m M m M := ⟨fun _ h => Span.row h, fun _ h => Span.row h⟩
theorem Same.symm (h : Same p n m M m' M') : Same p n m' M' m M := ⟨h.2, h.1⟩
theorem Same.trans (h : Same p n m M m' M') (k : Same p n m' M' m'' M'') : Same p n m M m'' M'' := ⟨fun i hi => (h.1 i hi).trans k.1, fun i hi => (k.2 i hi).trans h.2⟩
theorem Same.span {v : Nat → Int} (h : Same p n m M m' M') : Span p n m M v ↔ Span p n m' M' v := ⟨fun k => k.trans h.1, fun k => k.trans h.2⟩
theorem Same.of_span (h : ∀ v, Span p n m M v ↔ Span p n m' M' v) : Same p n m M m' M' := ⟨fun i hi => (h _).1 (Span.row hi), fun i hi => (h _).2 (Span.row hi)⟩
theorem Same.of_eq (hm : m = m') (h : ∀ i, i < m → ∀ j, j < n → Eqv p (M i j) (M' i j)) : Same p n m M m' M' := by
  subst hm
  exact ⟨fun i hi => (Span.row hi).congr fun j hj => h i hi j hj, fun i hi => (Span.row hi).congr fun j hj => (h i hi j hj).symm⟩
end

/-- A reduced list: m rows of n places, with their leads. -/
structure Rref (n m : Nat) (M : Nat → Nat → Int) (ld : Nat → Nat) : Prop where
  lt : ∀ i, i < m → ld i < n
  mono : ∀ i k, i < k → k < m → ld i < ld k
  one : ∀ i, i < m → M i (ld i) = 1
  zero : ∀ i, i < m → ∀ j, j < ld i → M i j = 0
  col : ∀ i k, i < m → k < m → k ≠ i → M k (ld i) = 0

section
variable {p : Int} {n m m' : Nat} {M M' : Nat → Nat → Int} {ld ld' : Nat → Nat} {v : Nat → Int}
theorem Rref.coef (h : Rref n m M ld) {c : Nat → Int} (hc : ∀ j, j < n → Eqv p (v j) (sumN (fun i => c i * M i j) m)) {i : Nat} (hi : i < m) : Eqv p (v (ld i)) (c i) := by
  refine (hc _ (h.lt i hi)).trans ((sumN_single m hi fun k hk hne => Eqv.of_eq ?_).trans (Eqv.of_eq ?_))
  · rw [h.col i k hi hk hne, Int.mul_zero]
  · rw [h.one i hi, Int.mul_one]
/-- The first place of a combination that is not 0 is a lead. -/
theorem Rref.lead (h : Rref n m M ld) (hv : Span p n m M v) {j0 : Nat} (hj : j0 < n) (hne : ¬ Eqv p (v j0) 0) (hz : ∀ j, j < j0 → Eqv p (v j) 0) : ∃ i, i < m ∧ ld i = j0 := by
  obtain ⟨c, hc⟩ := hv
  have hex : ∀ k, k ≤ m → (∀ i, i < k → Eqv p (c i) 0) ∨ ∃ i, i < m ∧ ¬ Eqv p (c i) 0 ∧ ∀ q, q < i → Eqv p (c q) 0 := by
    intro k
    induction k with
    | zero => intro _; exact .inl fun i hi => by omega
    | succ k ih =>
      intro hk
      rcases ih (by omega) with h1 | h1
      · by_cases e : Eqv p (c k) 0
        · refine .inl fun i hi => ?_
          by_cases e2 : i = k
          · subst e2; exact e
          · exact h1 i (by omega)
        · exact .inr ⟨k, by omega, e, h1⟩
      · exact .inr h1
  rcases hex m (Nat.le_refl m) with h1 | ⟨i, hi, hci, hq⟩
  · exfalso
    refine hne ((hc j0 hj).trans (sumN_eqv_zero m fun i hi => ?_))
    exact ((h1 i hi).mul (Eqv.refl p (M i j0))).trans (Eqv.of_eq (Int.zero_mul _))
  · refine ⟨i, hi, ?_⟩
    have h2 : ∀ j, j < ld i → Eqv p (v j) 0 := by
      intro j hj2
      have := h.lt i hi
      refine (hc j (by omega)).trans (sumN_eqv_zero m fun k hk => ?_)
      by_cases e : k < i
      · exact ((hq k e).mul (Eqv.refl p (M k j))).trans (Eqv.of_eq (Int.zero_mul _))
      · have h3 : j < ld k := by
          by_cases e2 : k = i
          · subst e2; exact hj2
          · have := h.mono i k (by omega) hk; omega
        exact Eqv.of_eq (by rw [h.zero k hk j h3, Int.mul_zero])
    have h3 : ¬ Eqv p (v (ld i)) 0 := fun e => hci ((h.coef hc hi).symm.trans e)
    rcases Nat.lt_trichotomy (ld i) j0 with e | e | e
    · exact absurd (hz _ e) h3
    · exact e
    · exact absurd (h2 _ e) hne

theorem mono_unique (h1 : ∀ i k, i < k → k < m → ld i < ld k) (h2 : ∀ i k, i < k → k < m' → ld' i < ld' k)
    (h3 : ∀ i, i < m → ∃ k, k < m' ∧ ld' k = ld i) (h4 : ∀ k, k < m' → ∃ i, i < m ∧ ld i = ld' k) : m = m' ∧ ∀ i, i < m → ld i = ld' i := by
  have key : ∀ i, i < m → i < m' → ld i = ld' i := by
    intro i
    induction i using Nat.strongRecOn with
    | ind i ih =>
      intro hi hi'
      obtain ⟨k, hk, ek⟩ := h3 i hi
      obtain ⟨q, hq, eq⟩ := h4 i hi'
      have a1 : ld' i ≤ ld i := by
        rcases Nat.lt_trichotomy k i with e | e | e
        · have := ih k e (by omega) hk
          have := h1 k i e hi
          omega
        · subst e; omega
        · have := h2 i k e hk; omega
      have a2 : ld i ≤ ld' i := by
        rcases Nat.lt_trichotomy q i with e | e | e
        · have := ih q e hq (by omega)
          have := h2 q i e hi'
          omega
        · subst e; omega
        · have := h1 i q e hq; omega
      omega
  rcases Nat.lt_trichotomy m m' with e | e | e
  · exfalso
    obtain ⟨i, hi, ei⟩ := h4 m e
    have := key i hi (by omega)
    have := h2 i m hi e
    omega
  · subst e; exact ⟨rfl, fun i hi => key i hi hi⟩
  · exfalso
    obtain ⟨k, hk, ek⟩ := h3 m' e
    have := key k (by omega) hk
    have := h1 k m' hk e
    omega

def InP (p : Int) (n m : Nat) (M : Nat → Nat → Int) : Prop := ∀ i, i < m → ∀ j, j < n → 0 ≤ M i j ∧ M i j < p

theorem Rref.leads (hp : 2 ≤ p) (h : Rref n m M ld) (h' : Rref n m' M' ld') (hs : ∀ i, i < m → Span p n m' M' (M i)) : ∀ i, i < m → ∃ k, k < m' ∧ ld' k = ld i := by
  intro i hi
  refine h'.lead (hs i hi) (h.lt i hi) ?_ fun j hj => Eqv.of_eq (h.zero i hi j hj)
  rw [h.one i hi]
  exact eqv_one_zero hp

/-- Two reduced lists that span the same are the same. -/
theorem Rref.unique (hp : 2 ≤ p) (h : Rref n m M ld) (h' : Rref n m' M' ld') (hin : InP p n m M) (hin' : InP p n m' M') (hs : Same p n m M m' M') :
    m = m' ∧ ∀ i, i < m → ∀ j, j < n → M i j = M' i j := by
  obtain ⟨e, hl⟩ := mono_unique h.mono h'.mono (h.leads hp h' hs.1) (h'.leads hp h hs.2)
  subst e
  refine ⟨rfl, fun i hi j hj => ?_⟩
  obtain ⟨c, hc⟩ := hs.1 i hi
  refine Eqv.eq (p := p) ?_ (hin i hi j hj).1 (hin i hi j hj).2 (hin' i hi j hj).1 (hin' i hi j hj).2
  refine (hc j hj).trans ((sumN_single m hi fun k hk hne => ?_).trans ?_)
  · have h1 := h'.coef hc hk
    rw [← hl k hk, h.col k i hk hi (fun e => hne e.symm)] at h1
    exact (h1.symm.mul (Eqv.refl p (M' k j))).trans (Eqv.of_eq (Int.zero_mul _))
  · have h1 := h'.coef hc hi
    rw [← hl i hi, h.one i hi] at h1
    exact (h1.symm.mul (Eqv.refl p (M' i j))).trans (Eqv.of_eq (Int.one_mul _))
end

end Lin
end Go.Proofs.YtnpjkcmhfpmgmaaDoor
