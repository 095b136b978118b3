/- Plain words on matrices: tables, products. -/
import Derived.Test.YtoegbphkheohoaaPredPlain
import Derived.Test.YtoegbphkheohoaaRowsB
namespace Go.Proofs.Ytoegbphkheohoaa
namespace Ints

def at2 (L : List (List Int)) (i j : Nat) : Int := (lAt L i)[j]?.getD 0
/-- A row, a table given by what stands at each place. -/
def rowT (c : Nat) (g : Nat → Int) : List Int := (List.range c).map g
def tabT (r c : Nat) (f : Nat → Nat → Int) : List (List Int) := (List.range r).map fun i => rowT c (f i)

theorem rowT_length (c : Nat) (g : Nat → Int) : (rowT c g).length = c := by simp [rowT]
theorem rowT_at {c : Nat} {g : Nat → Int} {j : Nat} (h : j < c) : (rowT c g)[j]?.getD 0 = g j := by simp [rowT, h]
theorem tabT_length (r c : Nat) (f : Nat → Nat → Int) : (tabT r c f).length = r := by simp [tabT]
theorem tabT_at {r c : Nat} {f : Nat → Nat → Int} {i : Nat} (h : i < r) : lAt (tabT r c f) i = rowT c (f i) := by simp [tabT, lAt, h]
theorem rowT_congr {c : Nat} {g g' : Nat → Int} (h : ∀ j, j < c → g j = g' j) : rowT c g = rowT c g' := by
  apply List.map_congr_left
  intro j hj
  exact h j (List.mem_range.1 hj)
theorem tabT_congr {r c : Nat} {f f' : Nat → Nat → Int} (h : ∀ i j, i < r → j < c → f i j = f' i j) : tabT r c f = tabT r c f' := by
  apply List.map_congr_left
  intro i hi
  exact rowT_congr fun j hj => h i j (List.mem_range.1 hi) hj
theorem row_eq {l : List Int} {c : Nat} (h : l.length = c) : l = rowT c fun j => l[j]?.getD 0 := by
  subst h
  apply List.ext_getElem (by simp [rowT])
  intro j h1 h2
  simp [rowT, h1]
theorem list_eq {L M : List (List Int)} (hl : L.length = M.length) (h : ∀ i, i < L.length → lAt L i = lAt M i) : L = M := by
  apply List.ext_getElem hl
  intro i h1 h2
  have := h i h1
  simpa [lAt, h1, h2] using this
theorem tab_eq {L : List (List Int)} {r c : Nat} (hr : L.length = r) (hc : ∀ i, i < r → (lAt L i).length = c) : L = tabT r c (at2 L) := by
  apply list_eq (by rw [hr, tabT_length])
  intro i hi
  rw [tabT_at (by omega)]
  exact row_eq (hc i (by omega))
theorem rowT_set {c : Nat} {g : Nat → Int} {j : Nat} (u : Int) : (rowT c g).set j u = rowT c fun q => if q = j then u else g q := by
  apply List.ext_getElem (by simp [rowT])
  intro q h1 h2
  rw [List.getElem_set]
  simp only [rowT, List.getElem_map, List.getElem_range]
  by_cases e : j = q
  · subst e; simp
  · rw [if_neg e, if_neg (fun e' => e e'.symm)]
theorem tabT_set {r c : Nat} {f : Nat → Nat → Int} {i : Nat} (g : Nat → Int) (h : i < r) : (tabT r c f).set i (rowT c g) = tabT r c fun p q => if p = i then g q else f p q := by
  apply list_eq (by simp [tabT_length])
  intro p hp
  rw [List.length_set, tabT_length] at hp
  rw [lAt_set _ _ _ _ (by rw [tabT_length]; exact h), tabT_at hp, tabT_at hp]
  by_cases e : i = p
  · subst e
    rw [if_pos rfl]
    apply rowT_congr
    intro q _
    rw [if_pos rfl]
  · rw [if_neg e]
    apply rowT_congr
    intro q _
    rw [if_neg (fun e' => e e'.symm)]
/-- One place of a table turned. -/
theorem tabT_set2 {r c : Nat} {f : Nat → Nat → Int} {i j : Nat} (u : Int) (hi : i < r) :
    (tabT r c f).set i ((lAt (tabT r c f) i).set j u) = tabT r c fun p q => if p = i ∧ q = j then u else f p q := by
  rw [tabT_at hi, rowT_set u, tabT_set _ hi]
  apply tabT_congr
  intro p q _ _
  by_cases e : p = i
  · subst e; simp
  · rw [if_neg e, if_neg (fun h => e h.1)]
theorem replicate_row (c : Nat) : List.replicate c (0 : Int) = rowT c fun _ => 0 := by
  apply List.ext_getElem (by simp [rowT])
  intro q h1 h2
  simp [rowT]
theorem ofL_replicate (c : Nat) : ofL (rowT c fun _ => 0) = List.replicate c (Value.int .i64 0) := by
  rw [← replicate_row]; simp [ofL]

def zeroT (r c : Nat) : List (List Int) := tabT r c fun _ _ => 0
def idT (n : Nat) : List (List Int) := tabT n n fun i j => if i = j then 1 else 0
def turnT (c : Nat) (L : List (List Int)) : List (List Int) := tabT c L.length fun j i => at2 L i j
def addT (p : Int) (c : Nat) (A B : List (List Int)) : List (List Int) := tabT A.length c fun i j => (at2 A i j + at2 B i j) % p
/-- The product of a list with a column: what the first k places give. -/
def dotP (p : Int) (x : List Int) (B : List (List Int)) (j : Nat) : Nat → Int
  | 0 => 0
  | k + 1 => (dotP p x B j k + x[k]?.getD 0 * at2 B k j) % p
def mulRow (p : Int) (c : Nat) (B : List (List Int)) (x : List Int) : List Int := rowT c fun j => dotP p x B j x.length
def mulT (p : Int) (c : Nat) (A B : List (List Int)) : List (List Int) := A.map (mulRow p c B)

theorem dotP_bounds {p : Int} (hp : 2 ≤ p) (x : List Int) (B : List (List Int)) (j k : Nat) : 0 ≤ dotP p x B j k ∧ dotP p x B j k < p := by
  cases k with
  | zero => simp only [dotP]; omega
  | succ k => exact ⟨Int.emod_nonneg _ (by omega), Int.emod_lt_of_pos _ (by omega)⟩
/-- A table of field elements. -/
def ElemsT (p : Int) (r c : Nat) (L : List (List Int)) : Prop := L.length = r ∧ ∀ i, i < r → (lAt L i).length = c ∧ ∀ j, j < c → 0 ≤ at2 L i j ∧ at2 L i j < p
theorem elems_tab {p : Int} {r c : Nat} {f : Nat → Nat → Int} (h : ∀ i j, i < r → j < c → 0 ≤ f i j ∧ f i j < p) : ElemsT p r c (tabT r c f) := by
  refine ⟨tabT_length _ _ _, fun i hi => ⟨?_, fun j hj => ?_⟩⟩
  · rw [tabT_at hi, rowT_length]
  · unfold at2
    rw [tabT_at hi, rowT_at hj]
    exact h i j hi hj
theorem elems_mul {p : Int} {r c n : Nat} (hp : 2 ≤ p) {A B : List (List Int)} (hA : ElemsT p r n A) : ElemsT p r c (mulT p c A B) := by
  refine ⟨by simp [mulT, hA.1], fun i hi => ?_⟩
  have e : lAt (mulT p c A B) i = mulRow p c B (lAt A i) := by
    simp [lAt, mulT, show i < A.length by rw [hA.1]; exact hi]
  refine ⟨by rw [e, mulRow, rowT_length], fun j hj => ?_⟩
  unfold at2
  rw [e, mulRow, rowT_at hj]
  exact dotP_bounds hp _ _ _ _
theorem elems_id {p : Int} (hp : 2 ≤ p) (n : Nat) : ElemsT p n n (idT n) := elems_tab fun i j _ _ => by split <;> omega
theorem mat_elems {p c : Int} {L : List (List Int)} (h : matB p c L = true) : ElemsT p L.length c.toNat L := by
  obtain ⟨_, ⟨h0, _⟩, _, h3⟩ := mat_parts h
  refine ⟨rfl, fun i hi => ⟨by have := (h3 i hi).1; omega, fun j hj => ?_⟩⟩
  exact (h3 i hi).2 j (by have := (h3 i hi).1; omega)
/-- What a matrix's predicate says, in numbers. -/
theorem mat_nats {p c : Int} {L : List (List Int)} (h : matB p c L = true) : ∃ n : Nat, c = n ∧ n ≤ 24 ∧ L.length ≤ 24 ∧ (2 ≤ p ∧ p ≤ 97) ∧ ElemsT p L.length n L := by
  obtain ⟨h1, ⟨h2, h3⟩, h4, _⟩ := mat_parts h
  refine ⟨c.toNat, by omega, by omega, h4, Fld.good_bounds h1, mat_elems h⟩

theorem elems_tot {p : Int} {r c : Nat} {L : List (List Int)} (h : ElemsT p r c L) (hr : r ≤ 24) (hc : c ≤ 24) : tot L ≤ 1048576 := by
  have h1 : ∀ M : List (List Int), (∀ l ∈ M, l.length ≤ 24) → (M.map List.length).sum ≤ M.length * 24 := by
    intro M
    induction M with
    | nil => intro _; simp
    | cons l M ih =>
      intro hM
      have h2 := ih fun x hx => hM x (List.mem_cons_of_mem _ hx)
      have h3 := hM l List.mem_cons_self
      simp only [List.map_cons, List.sum_cons, List.length_cons, Nat.add_mul, Nat.one_mul]
      omega
  have h2 := h1 L fun l hl => by
    obtain ⟨i, hi, rfl⟩ := List.getElem_of_mem hl
    have := (h.2 i (by rw [← h.1]; exact hi)).1
    rw [show lAt L i = L[i] by simp [lAt, hi]] at this
    omega
  have h3 := h.1
  unfold tot
  rw [h3] at h2 ⊢
  omega
theorem lAt_map_take (L : List (List Int)) (f : List Int → List Int) (k : Nat) (h : k < L.length) : (L.take (k + 1)).map f = (L.take k).map f ++ [f (lAt L k)] := by
  rw [take_oneL L k h, List.map_append]; rfl

end Ints
end Go.Proofs.Ytoegbphkheohoaa
