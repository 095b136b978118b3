/- Plain words: powers of a matrix. -/
import Derived.Test.YtnpjkcmhfpmgmaaDoorMulF
namespace Go.Proofs.YtnpjkcmhfpmgmaaDoor
namespace Ints

/-- By squaring: what m, out and base still make. -/
def powT (p : Int) (n m : Nat) (X Y : List (List Int)) : List (List Int) :=
  if h : m = 0 then X else powT p n (m / 2) (if m % 2 = 1 then mulT p n X Y else X) (mulT p n Y Y)
termination_by m
decreasing_by omega
theorem powT_zero (p : Int) (n : Nat) (X Y : List (List Int)) : powT p n 0 X Y = X := by rw [powT]; simp
theorem powT_step {p : Int} {n m : Nat} (hm : 0 < m) (X Y : List (List Int)) : powT p n m X Y = powT p n (m / 2) (if m % 2 = 1 then mulT p n X Y else X) (mulT p n Y Y) := by
  rw [powT]
  rw [dif_neg (by omega)]
theorem powT_odd {p : Int} {n m : Nat} (h : m % 2 = 1) (X Y : List (List Int)) : powT p n m X Y = powT p n (m / 2) (mulT p n X Y) (mulT p n Y Y) := by rw [powT_step (by omega), if_pos h]
theorem powT_even {p : Int} {n m : Nat} (hm : 0 < m) (h : m % 2 = 0) (X Y : List (List Int)) : powT p n m X Y = powT p n (m / 2) X (mulT p n Y Y) := by rw [powT_step hm, if_neg (by omega)]
theorem elems_sq {p : Int} (hp : 2 ≤ p) {n : Nat} {X Y : List (List Int)} (hX : ElemsT p n n X) : ElemsT p n n (mulT p n X Y) := elems_mul hp hX
theorem elems_pow {p : Int} (hp : 2 ≤ p) {n : Nat} : ∀ m X Y, ElemsT p n n X → ElemsT p n n Y → ElemsT p n n (powT p n m X Y) := by
  intro m
  induction m using Nat.strongRecOn with
  | ind m ih =>
    intro X Y hX hY
    by_cases h : m = 0
    · subst h; rw [powT_zero]; exact hX
    · rw [powT_step (by omega)]
      refine ih _ (by omega) _ _ ?_ (elems_sq hp hY)
      split
      · exact elems_sq hp hX
      · exact hX
def powB (p c m : Int) (L : List (List Int)) : Bool := matB p c L && decide ((L.length : Int) = c) && Fld.inR m 0 1000
def powOut (p c m : Int) (L : List (List Int)) : List (List Int) := if powB p c m L then powT p c.toNat m.toNat (idT c.toNat) L else []
def powCols (p c m : Int) (L : List (List Int)) : Int := if powB p c m L then c else 0
theorem powB_parts {p c m : Int} {L : List (List Int)} (h : powB p c m L = true) : ∃ n k : Nat, c = n ∧ m = k ∧ n ≤ 24 ∧ k ≤ 1000 ∧ L.length = n ∧ (2 ≤ p ∧ p ≤ 97) ∧ ElemsT p n n L := by
  simp only [powB, Bool.and_eq_true, decide_eq_true_eq] at h
  obtain ⟨⟨h1, h2⟩, h3⟩ := h
  obtain ⟨n, e1, hn, hl, hp, hA⟩ := mat_nats h1
  have h4 := Fld.inR_true h3
  have hl2 : L.length = n := by omega
  rw [hl2] at hA
  exact ⟨n, m.toNat, e1, by omega, hn, by omega, hl2, hp, hA⟩
theorem powOut_ctr (p c m : Int) (L : List (List Int)) : (1 : Int) + (sumL (powOut p c m L) : Int) ≤ 1000000000 := by
  unfold powOut
  split
  · rename_i h
    obtain ⟨n, k, rfl, rfl, hn, hk, hl, hp, hA⟩ := powB_parts h
    exact ctr_elems (elems_pow hp.1 _ _ _ (elems_id hp.1 n) hA) (by omega) (by omega)
  · exact ctr_nil

end Ints
end Go.Proofs.YtnpjkcmhfpmgmaaDoor
