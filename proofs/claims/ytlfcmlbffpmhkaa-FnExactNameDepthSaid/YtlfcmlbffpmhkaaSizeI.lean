/- How large a term is with its names spelled out: the program. -/
import Derived.Test.YtlfcmlbffpmhkaaSizeS
import Derived.Test.YtlfcmlbffpmhkaaMapS
import Derived.Test.YtlfcmlbffpmhkaaTypeInF
import Derived.Deep.RegionHeld3
namespace Go.Proofs.Ytlfcmlbffpmhkaa
open Go.RowKit Go.ChangeMaps Go.WideMaps
namespace Ints
open Fld (inR)

def intRead : Value → Option (DataW Unit × List MemPlace)
  | .int .i64 a => some (.lit (.int .i64 a), [])
  | _ => none
/-- map[string]int -/
def intE : Elem Int where
  t := 71
  e := 3
  read := intRead
  dat := fun p => .lit (.int .i64 p)
  val := fun p => .int .i64 p
  z := 0
  ht := Try.underlying71
  hz := fun w => by kernel_rfl
  good := fun _ => True
  hgz := trivial
  hread := fun a _ => rfl
  hinv := fun v a ps h => by
    unfold intRead at h
    split at h
    · simp only [Option.some.injEq, Prod.mk.injEq, DataW.lit.injEq, Lit.int.injEq, true_and] at h
      rw [h.1]
    · cases h

/-- What the map of the first k sizes says. -/
def lookS (ds : List DefL) (l : List Int) (k : Nat) (x : List UInt8) : Option Int := ((ds.take k).findIdx? fun d => d.name.toList == x).map fun i => l[i]?.getD 0
theorem lookS_zero (ds : List DefL) (l : List Int) : lookS ds l 0 = fun _ => none := rfl
theorem lookS_succ {ds : List DefL} (h : newN ds) (l : List Int) (v : Int) (k : Nat) (hl : l.length = k) (hk : k < ds.length) : lookS ds (l ++ [v]) (k + 1) = putL (lookS ds l k) (dAt ds k).name.toList v := by
  funext x
  have h1 := h k hk
  unfold findD at h1
  have hlt : (ds.take k).length = k := by rw [List.length_take]; omega
  unfold putL
  unfold lookS
  rw [take_oneD ds k hk, List.findIdx?_append, hlt]
  by_cases hx : x = (dAt ds k).name.toList
  · subst hx
    rw [h1, if_pos rfl]
    simp [← hl]
  · rw [if_neg hx]
    have h2 : [dAt ds k].findIdx? (fun d => d.name.toList == x) = none := by
      rw [List.findIdx?_eq_none_iff]
      intro y hy
      simp only [List.mem_singleton] at hy
      subst hy
      simpa using fun e => hx e.symm
    rw [h2]
    cases h3 : (ds.take k).findIdx? (fun d => d.name.toList == x) with
    | none => simp
    | some i =>
      have hi : i < k := by
        rw [List.findIdx?_eq_some_iff_getElem] at h3
        have := h3.1
        omega
      simp [List.getElem?_append, hl, hi]
theorem sizeN_congr {f g : ByteArray → Int} (ns : List NodeL) (h : ∀ k, k < ns.length → (nAt ns k).kind = 17 → f (nAt ns k).name = g (nAt ns k).name) : sizeN f ns = sizeN g ns := by
  have : ∀ k, k ≤ ns.length → sizeN f (ns.take k) = sizeN g (ns.take k) := by
    intro k
    induction k with
    | zero => intro _; rfl
    | succ k ih =>
      intro hk
      rw [sizeN_succ f ns k (by omega), sizeN_succ g ns k (by omega), ih (by omega)]
      congr 1
      unfold unitS
      by_cases h17 : (nAt ns k).kind = 17
      · rw [if_pos h17, if_pos h17]
        exact h k (by omega) h17
      · rw [if_neg h17, if_neg h17]
  have := this ns.length (Nat.le_refl _)
  rwa [List.take_length] at this
/-- The map and the list say the same of names that are known. -/
theorem lookS_at {ds : List DefL} {l : List Int} {k : Nat} {s : ByteArray} {i : Nat} (h : findD (ds.take k) s = some i) : (lookS ds l k s.toList).getD 0 = atD ds l s := by
  have h2 := (find_take h).1
  unfold atD lookS
  unfold findD at h
  rw [h, h2]
  rfl
theorem lookS_rng {ds : List DefL} {l : List Int} (hl : rngS l) (k : Nat) (x : List UInt8) : 0 ≤ (lookS ds l k x).getD 0 ∧ (lookS ds l k x).getD 0 ≤ 1000001 := by
  unfold lookS
  cases (ds.take k).findIdx? (fun d => d.name.toList == x) with
  | none => exact ⟨Int.le_refl 0, by show (0 : Int) ≤ 1000001; decide⟩
  | some i => exact at_rng hl i

/-- The map and the list say the same of a body's names. -/
theorem size_same {ds : List DefL} {k : Nat} {ns : List NodeL} {p : Int × Int} (l : List Int) (h : typeOf (ds.take k) ns = some p) : sizeN (fun s => (lookS ds l k s.toList).getD 0) ns = sizeN (atD ds l) ns :=
  sizeN_congr ns fun j hj h17 => by
    obtain ⟨i, hi⟩ := typeOf_named h j hj h17
    exact lookS_at hi

end Ints
end Go.Proofs.Ytlfcmlbffpmhkaa
