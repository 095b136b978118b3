/- Spaces, the plain laws: meet, image under a kernel, preimage. -/
import Derived.Test.YtimjlcnljefbbaaDoorLinAll
namespace Go.Proofs.YtimjlcnljefbbaaDoor
set_option linter.unusedVariables false
namespace Lin
open Ints

theorem at2_app (A B : List (List Int)) (k j : Nat) : at2 (A ++ B) k j = if k < A.length then at2 A k j else at2 B (k - A.length) j := by
  unfold at2 lAt
  rw [List.getElem?_append]
  split <;> rfl
theorem lAt_app (A B : List (List Int)) (k : Nat) : lAt (A ++ B) k = if k < A.length then lAt A k else lAt B (k - A.length) := by
  unfold lAt
  rw [List.getElem?_append]
  split <;> rfl
theorem elems_app {p : Int} {a b n : Nat} {A B : List (List Int)} (hA : ElemsT p a n A) (hB : ElemsT p b n B) : ElemsT p (a + b) n (A ++ B) := by
  refine ⟨by rw [List.length_append, hA.1, hB.1], fun i hi => ?_⟩
  unfold at2
  rw [lAt_app, hA.1]
  split
  · rename_i h; exact hA.2 i h
  · exact hB.2 (i - a) (by omega)
theorem solves_app {p : Int} {a b n : Nat} {A B : List (List Int)} (hA : A.length = a) (v : Nat → Int) : Solves p n (a + b) (at2 (A ++ B)) v ↔ Solves p n a (at2 A) v ∧ Solves p n b (at2 B) v := by
  constructor
  · intro h
    refine ⟨fun i hi => ?_, fun i hi => ?_⟩
    · have := h i (by omega)
      rwa [sumN_congr n fun j _ => by rw [at2_app, if_pos (by omega)]] at this
    · have := h (a + i) (by omega)
      rwa [sumN_congr n fun j _ => by rw [at2_app, if_neg (by omega), show a + i - A.length = i by omega]] at this
  · intro h i hi
    by_cases hlt : i < a
    · rw [sumN_congr n fun j _ => by rw [at2_app, if_pos (by omega)]]
      exact h.1 i hlt
    · rw [sumN_congr n fun j _ => by rw [at2_app, if_neg (by omega), show i - A.length = i - a by omega]]
      exact h.2 (i - a) (by omega)
theorem sum_app {a b : Nat} {A B : List (List Int)} (hA : A.length = a) (x : Nat → Int) (j : Nat) : sumN (fun k => x k * at2 (A ++ B) k j) (a + b) = sumN (fun k => x k * at2 A k j) a + sumN (fun k => x (a + k) * at2 B k j) b := by
  rw [sumN_split]
  congr 1
  · exact sumN_congr a fun i hi => by rw [at2_app, if_pos (by omega)]
  · exact sumN_congr b fun i hi => by rw [at2_app, if_neg (by omega), show a + i - A.length = i by omega]

/-- What the vectors of a space become under a matrix. -/
theorem span_img {p : Int} {m k a n : Nat} {K R T : Nat → Nat → Int} (P : (Nat → Int) → Prop) (ha : a ≤ m) (hK : ∀ x, Span p m k K x ↔ P x)
    (hR : ∀ i, i < k → ∀ j, j < n → Eqv p (R i j) (sumN (fun t => K i t * T t j) a)) (v : Nat → Int) :
    Span p n k R v ↔ ∃ x, P x ∧ ∀ j, j < n → Eqv p (v j) (sumN (fun t => x t * T t j) a) := by
  constructor
  · rintro ⟨e, he⟩
    refine ⟨fun t => sumN (fun i => e i * K i t) k, (hK _).1 ⟨e, fun j _ => Eqv.refl _ _⟩, fun j hj => ?_⟩
    refine (he j hj).trans ((sumN_eqv k fun i hi => (Eqv.refl p (e i)).mul (hR i hi j hj)).trans (Eqv.of_eq ?_))
    exact (dot_comb (L := K) (v := fun t => T t j) e).symm
  · rintro ⟨x, hx, hv⟩
    obtain ⟨e, he⟩ := (hK x).2 hx
    refine ⟨e, fun j hj => (hv j hj).trans ?_⟩
    refine (sumN_eqv a fun t ht => (he t (by omega)).mul (Eqv.refl p (T t j))).trans ((Eqv.of_eq (dot_comb (L := K) (v := fun t => T t j) e)).trans ?_)
    exact sumN_eqv k fun i hi => (Eqv.refl p (e i)).mul (hR i hi j hj).symm
theorem dotP_sum {p : Int} (x : List Int) (B : List (List Int)) (j : Nat) : ∀ k, Eqv p (dotP p x B j k) (sumN (fun t => x[t]?.getD 0 * at2 B t j) k)
  | 0 => Eqv.refl _ _
  | k + 1 => by
    simp only [dotP, sumN]
    exact (Eqv.mod p _).trans ((dotP_sum x B j k).add (Eqv.refl _ _))
theorem map_at2 {L : List (List Int)} (f : List Int → List Int) {i : Nat} (hi : i < L.length) (j : Nat) : at2 (L.map f) i j = (f (lAt L i))[j]?.getD 0 := by
  unfold at2
  conv => lhs; unfold lAt
  rw [List.getElem?_map]
  rw [List.getElem?_eq_getElem hi]
  simp [lAt, hi]
theorem map_lAt {L : List (List Int)} (f : List Int → List Int) {i : Nat} (hi : i < L.length) : lAt (L.map f) i = f (lAt L i) := by
  unfold lAt
  rw [List.getElem?_map]
  rw [List.getElem?_eq_getElem hi]
  rfl
theorem elems_map {p : Int} {k n : Nat} {L : List (List Int)} {f : List Int → List Int} (hl : L.length = k) (h : ∀ i, i < k → (f (lAt L i)).length = n ∧ ∀ j, j < n → 0 ≤ (f (lAt L i))[j]?.getD 0 ∧ (f (lAt L i))[j]?.getD 0 < p) : ElemsT p k n (L.map f) := by
  refine ⟨by rw [List.length_map, hl], fun i hi => ?_⟩
  rw [map_lAt f (by omega)]
  refine ⟨(h i hi).1, fun j hj => ?_⟩
  rw [map_at2 f (by omega)]
  exact (h i hi).2 j hj

/-- The rows from which the program makes a meet. -/
def meetRows (p : Int) (n : Nat) (A B : List (List Int)) : List (List Int) := (kernelL p n (A ++ B)).map fun x => mulRow p n A (x.take A.length)
theorem meetRows_elems {p : Int} {n : Nat} {A B : List (List Int)} (hp : 2 ≤ p) : ElemsT p (meetRows p n A B).length n (meetRows p n A B) := by
  unfold meetRows
  refine elems_map (by simp) fun i hi => ⟨rowT_length _ _, fun j hj => ?_⟩
  rw [mulRow, rowT_at hj]
  exact dotP_bounds hp _ _ _ _

variable {p : Int} {a b n m : Nat} {A B M : List (List Int)}
theorem meet_eq (hg : Fld.goodB p = true) (hA : ElemsT p a n A) (hB : ElemsT p b n B) : reducedL p n (meetRows p n A B) = nullL p n (nullL p n A ++ nullL p n B) := by
  have hp := (Fld.good_bounds hg).1
  obtain ⟨_, nA2, _, nAv⟩ := null_facts hg hA
  obtain ⟨_, nB2, _, nBv⟩ := null_facts hg hB
  have hNN := elems_app nA2 nB2
  obtain ⟨⟨k0, n1, _⟩, _, _, nv⟩ := null_facts hg hNN
  have hAB := elems_app hA hB
  obtain ⟨k1, _, k3⟩ := kernel_facts hg hAB
  have hR := meetRows_elems (p := p) (n := n) (A := A) (B := B) hp
  obtain ⟨_, _, _, _, hs⟩ := reduced_spec hg hR
  have hl : (meetRows p n A B).length = (kernelL p n (A ++ B)).length := by unfold meetRows; simp
  refine reduced_fix hg hR n1 fun v => (hs.span.trans ?_).trans ((nv v).1.trans ((solves_app rfl v).trans (and_congr (nAv v).2 (nBv v).2))).symm
  rw [hl]
  refine (span_img (T := at2 A) (a := a) (fun x => ∀ j, j < n → Eqv p (sumN (fun k => x k * at2 (A ++ B) k j) (a + b)) 0) (Nat.le_add_right a b) k3 (fun i hi j hj => ?_) v).trans ?_
  · unfold meetRows
    rw [map_at2 _ hi, mulRow, rowT_at hj]
    have hlen : ((lAt (kernelL p n (A ++ B)) i).take A.length).length = a := by rw [List.length_take, (k1.2 i hi).1, hA.1]; omega
    rw [hlen]
    refine (dotP_sum _ _ _ _).trans (Eqv.of_eq (sumN_congr a fun t ht => ?_))
    rw [List.getElem?_take, if_pos (by rw [hA.1]; exact ht)]
    rfl
  · constructor
    · rintro ⟨x, hx, hv⟩
      refine ⟨⟨x, hv⟩, ⟨fun t => -x (a + t), fun j hj => (hv j hj).trans ?_⟩⟩
      have h0 := hx j hj
      rw [sum_app hA.1] at h0
      rw [sumN_congr b (fun t _ => (show -x (a + t) * at2 B t j = -1 * (x (a + t) * at2 B t j) by rw [Int.neg_mul, Int.neg_mul, Int.one_mul])), sumN_mul]
      have h1 := h0.sub (Eqv.refl p (sumN (fun k => x (a + k) * at2 B k j) b))
      rw [Int.add_sub_cancel, Int.zero_sub] at h1
      rwa [Int.neg_mul, Int.one_mul]
    · rintro ⟨⟨c, hc⟩, ⟨d, hd⟩⟩
      refine ⟨fun t => if t < a then c t else -d (t - a), fun j hj => ?_, fun j hj => (hc j hj).trans (Eqv.of_eq (sumN_congr a fun t ht => by simp only; rw [if_pos ht]))⟩
      rw [sum_app hA.1]
      rw [sumN_congr a (fun t ht => (show (if t < a then c t else -d (t - a)) * at2 A t j = c t * at2 A t j by rw [if_pos ht]))]
      rw [sumN_congr b (fun t _ => (show (if a + t < a then c (a + t) else -d (a + t - a)) * at2 B t j = -1 * (d t * at2 B t j) by rw [if_neg (by omega), show a + t - a = t by omega, Int.neg_mul, Int.neg_mul, Int.one_mul])), sumN_mul]
      have h1 := (hc j hj).symm.sub (hd j hj).symm
      rw [Int.sub_self] at h1
      rw [Int.neg_mul, Int.one_mul, ← Int.sub_eq_add_neg]
      exact h1

/-- The rows from which the program makes a preimage. -/
def preRows (p : Int) (c : Nat) (M S : List (List Int)) : List (List Int) := (kernelL p c (M ++ S)).map fun x => x.take M.length
/-- A product of two lists, one element after the other. -/
def dotN (p : Int) (u v : List Int) : Nat → Int
  | 0 => 0
  | k + 1 => (dotN p u v k + u[k]?.getD 0 * v[k]?.getD 0) % p
theorem dotN_sum {p : Int} (u v : List Int) : ∀ k, Eqv p (dotN p u v k) (sumN (fun t => u[t]?.getD 0 * v[t]?.getD 0) k)
  | 0 => Eqv.refl _ _
  | k + 1 => by
    simp only [dotN, sumN]
    exact (Eqv.mod p _).trans ((dotN_sum u v k).add (Eqv.refl _ _))
theorem dotN_bounds (hp : 2 ≤ p) (u v : List Int) (k : Nat) : 0 ≤ dotN p u v k ∧ dotN p u v k < p := by
  cases k with
  | zero => exact ⟨Int.le_refl _, by show (0 : Int) < p; omega⟩
  | succ k => exact ⟨Int.emod_nonneg _ (by omega), Int.emod_lt_of_pos _ (by omega)⟩
/-- The conditions from which the reference makes a preimage. -/
def condRow (p : Int) (c : Nat) (M : List (List Int)) (w : List Int) : List Int := rowT M.length fun i => dotN p (lAt M i) w c
def condRows (p : Int) (c : Nat) (M S : List (List Int)) : List (List Int) := (nullL p c S).map (condRow p c M)
theorem preRows_elems {c : Nat} {S : List (List Int)} (hg : Fld.goodB p = true) (hM : ElemsT p n c M) (hS : ElemsT p b c S) : ElemsT p (preRows p c M S).length n (preRows p c M S) := by
  obtain ⟨k1, _, k3⟩ := kernel_facts hg (elems_app hM hS)
  unfold preRows
  refine elems_map (by simp) fun i hi => ?_
  simp only [List.length_map] at hi
  refine ⟨by rw [List.length_take, (k1.2 i hi).1, hM.1]; omega, fun j hj => ?_⟩
  rw [List.getElem?_take, if_pos (by rw [hM.1]; exact hj)]
  exact (k1.2 i hi).2 j (by omega)
theorem condRows_elems {c : Nat} {S : List (List Int)} (hp : 2 ≤ p) (hM : ElemsT p n c M) : ElemsT p (condRows p c M S).length n (condRows p c M S) := by
  unfold condRows
  refine elems_map (by simp) fun i hi => ⟨by rw [condRow, rowT_length, hM.1], fun j hj => ?_⟩
  rw [condRow, rowT_at (by rw [hM.1]; exact hj)]
  exact dotN_bounds hp _ _ _
theorem pre_eq {c : Nat} {S : List (List Int)} (hg : Fld.goodB p = true) (hM : ElemsT p n c M) (hS : ElemsT p b c S) : reducedL p n (preRows p c M S) = nullL p n (condRows p c M S) := by
  have hp := (Fld.good_bounds hg).1
  obtain ⟨k1, _, k3⟩ := kernel_facts hg (elems_app hM hS)
  have hR := preRows_elems hg hM hS
  have hC := condRows_elems (S := S) hp hM
  obtain ⟨_, nS2, _, nSv⟩ := null_facts hg hS
  obtain ⟨⟨k0, n1, _⟩, _, _, nv⟩ := null_facts hg hC
  obtain ⟨_, _, _, _, hs⟩ := reduced_spec hg hR
  have hl : (preRows p c M S).length = (kernelL p c (M ++ S)).length := by unfold preRows; simp
  have hlc : (condRows p c M S).length = (nullL p c S).length := by unfold condRows; simp
  refine reduced_fix hg hR n1 fun v => (hs.span.trans ?_).trans ((nv v).1).symm
  rw [hl]
  -- both say: the product of v with M lies in the span of S
  have hmid : Solves p n (condRows p c M S).length (at2 (condRows p c M S)) v ↔ Span p c b (at2 S) (fun j => sumN (fun k => v k * at2 M k j) n) := by
    refine Iff.trans ?_ (nSv _).2
    rw [hlc]
    have he : ∀ i, i < (nullL p c S).length → Eqv p (sumN (fun j => at2 (condRows p c M S) i j * v j) n) (sumN (fun j => at2 (nullL p c S) i j * sumN (fun k => v k * at2 M k j) n) c) := fun i hi => by
      have h1 : Eqv p (sumN (fun j => at2 (condRows p c M S) i j * v j) n) (sumN (fun k => v k * sumN (fun j => at2 M k j * at2 (nullL p c S) i j) c) n) := by
        refine sumN_eqv n fun k hk => ?_
        unfold condRows
        rw [map_at2 _ hi, condRow, rowT_at (by rw [hM.1]; exact hk)]
        refine ((dotN_sum _ _ c).mul (Eqv.refl p (v k))).trans (Eqv.of_eq ?_)
        rw [Int.mul_comm]
        rfl
      refine h1.trans (Eqv.of_eq ?_)
      rw [← dot_comb (L := at2 M) (v := fun j => at2 (nullL p c S) i j) v]
      exact sumN_congr c fun j _ => Int.mul_comm _ _
    exact ⟨fun h i hi => (he i hi).symm.trans (h i hi), fun h i hi => (he i hi).trans (h i hi)⟩
  refine Iff.trans ?_ hmid.symm
  refine (span_img (T := fun t j => if t = j then 1 else 0) (a := n) (fun x => ∀ j, j < c → Eqv p (sumN (fun k => x k * at2 (M ++ S) k j) (n + b)) 0) (Nat.le_add_right n b) k3 (fun i hi j hj => ?_) v).trans ?_
  · unfold preRows
    rw [map_at2 _ hi, List.getElem?_take, if_pos (by rw [hM.1]; exact hj)]
    refine ((sumN_single n hj fun t ht hne => Eqv.of_eq (by rw [if_neg hne, Int.mul_zero])).trans (Eqv.of_eq ?_)).symm
    rw [if_pos rfl, Int.mul_one]
    rfl
  · have hone : ∀ (x : Nat → Int) j, j < n → Eqv p (sumN (fun t => x t * (if t = j then 1 else 0)) n) (x j) := fun x j hj =>
      (sumN_single n hj fun t ht hne => Eqv.of_eq (by rw [if_neg hne, Int.mul_zero])).trans (Eqv.of_eq (by rw [if_pos rfl, Int.mul_one]))
    constructor
    · rintro ⟨x, hx, hv⟩
      refine ⟨fun t => -x (n + t), fun j hj => ?_⟩
      have h0 := hx j hj
      rw [sum_app hM.1] at h0
      have h2 : Eqv p (sumN (fun k => v k * at2 M k j) n) (sumN (fun k => x k * at2 M k j) n) := sumN_eqv n fun k hk => ((hv k hk).trans (hone x k hk)).mul (Eqv.refl _ _)
      refine h2.trans ?_
      rw [sumN_congr b (fun t _ => (show -x (n + t) * at2 S t j = -1 * (x (n + t) * at2 S t j) by rw [Int.neg_mul, Int.neg_mul, Int.one_mul])), sumN_mul]
      have h1 := h0.sub (Eqv.refl p (sumN (fun k => x (n + k) * at2 S k j) b))
      rw [Int.add_sub_cancel, Int.zero_sub] at h1
      rwa [Int.neg_mul, Int.one_mul]
    · rintro ⟨d, hd⟩
      refine ⟨fun t => if t < n then v t else -d (t - n), fun j hj => ?_, fun j hj => ((hone _ j hj).trans (Eqv.of_eq (show (if j < n then v j else -d (j - n)) = v j by rw [if_pos hj]))).symm⟩
      rw [sum_app hM.1]
      rw [sumN_congr n (fun t ht => (show (if t < n then v t else -d (t - n)) * at2 M t j = v t * at2 M t j by rw [if_pos ht]))]
      rw [sumN_congr b (fun t _ => (show (if n + t < n then v (n + t) else -d (n + t - n)) * at2 S t j = -1 * (d t * at2 S t j) by rw [if_neg (by omega), show n + t - n = t by omega, Int.neg_mul, Int.neg_mul, Int.one_mul])), sumN_mul]
      have h1 := (hd j hj).sub (Eqv.refl p (sumN (fun k => d k * at2 S k j) b))
      rw [Int.sub_self] at h1
      rw [Int.neg_mul, Int.one_mul, ← Int.sub_eq_add_neg]
      exact h1

end Lin
end Go.Proofs.YtimjlcnljefbbaaDoor
