/- How deep the names of a library lie: the plain law. -/
import Derived.Test.YtlfcmlbffpmhkaaSizeP
namespace Go.Proofs.Ytlfcmlbffpmhkaa
open Go.RowKit
namespace Ints

/-- One node more; the depth of a body is one more than that of the deepest name in it. -/
def stepD (f : ByteArray → Int) (acc : Int) (n : NodeL) : Int := if n.kind = 17 then (if acc < f n.name + 1 then f n.name + 1 else acc) else acc
def depthN (f : ByteArray → Int) (ns : List NodeL) : Int := ns.foldl (stepD f) 1
def depthsD (ds : List DefL) : Nat → List Int
  | 0 => []
  | k + 1 => depthsD ds k ++ [depthN (atD ds (depthsD ds k)) (dAt ds k).body]
theorem depthsD_length (ds : List DefL) : ∀ k, (depthsD ds k).length = k
  | 0 => rfl
  | k + 1 => by
    show (depthsD ds k ++ [_]).length = k + 1
    rw [List.length_append, depthsD_length ds k]
    rfl
theorem depthN_succ (f : ByteArray → Int) (ns : List NodeL) (k : Nat) (h : k < ns.length) : depthN f (ns.take (k + 1)) = stepD f (depthN f (ns.take k)) (nAt ns k) := by
  unfold depthN
  rw [take_oneN ns k h, List.foldl_append]
  rfl
theorem stepD_rng {f : ByteArray → Int} {B : Int} (hf : ∀ s, 0 ≤ f s ∧ f s ≤ B) {a : Int} (h1 : 1 ≤ a) (h2 : a ≤ B + 1) (n : NodeL) : 1 ≤ stepD f a n ∧ stepD f a n ≤ B + 1 := by
  have := hf n.name
  unfold stepD
  split
  · split <;> omega
  · omega
theorem foldD_rng {f : ByteArray → Int} {B : Int} (hf : ∀ s, 0 ≤ f s ∧ f s ≤ B) : ∀ (ns : List NodeL) (a : Int), 1 ≤ a → a ≤ B + 1 → 1 ≤ ns.foldl (stepD f) a ∧ ns.foldl (stepD f) a ≤ B + 1
  | [], a, h1, h2 => ⟨h1, h2⟩
  | n :: ns, a, h1, h2 => by
    have := stepD_rng hf h1 h2 n
    exact foldD_rng hf ns _ this.1 this.2
theorem depthN_rng {f : ByteArray → Int} {B : Int} (hB : 0 ≤ B) (hf : ∀ s, 0 ≤ f s ∧ f s ≤ B) (ns : List NodeL) : 1 ≤ depthN f ns ∧ depthN f ns ≤ B + 1 := foldD_rng hf ns 1 (by omega) (by omega)
theorem at_rngB {l : List Int} {B : Int} (hB : 0 ≤ B) (h : ∀ x ∈ l, 0 ≤ x ∧ x ≤ B) (i : Nat) : 0 ≤ l[i]?.getD 0 ∧ l[i]?.getD 0 ≤ B := by
  by_cases hi : i < l.length
  · rw [List.getElem?_eq_getElem hi]
    exact h _ (List.getElem_mem _)
  · rw [List.getElem?_eq_none (by omega)]
    exact ⟨Int.le_refl 0, hB⟩
theorem depthsD_rng (ds : List DefL) : ∀ k, ∀ x ∈ depthsD ds k, 0 ≤ x ∧ x ≤ (k : Int)
  | 0 => fun x hx => by cases hx
  | k + 1 => fun x hx => by
    have h : x ∈ depthsD ds k ++ [depthN (atD ds (depthsD ds k)) (dAt ds k).body] := hx
    rw [List.mem_append, List.mem_singleton] at h
    rcases h with h | h
    · have := depthsD_rng ds k x h
      omega
    · have := depthN_rng (B := (k : Int)) (by omega) (fun s => at_rngB (by omega) (depthsD_rng ds k) ((findD ds s).getD 0)) (dAt ds k).body
      rw [h]
      unfold atD
      omega
/-- The depth of a name, as the functions return it. -/
def depP (ds : List DefL) (s : ByteArray) : Int × Bool :=
  if libB ds = true then (match findD ds s with
    | some i => ((depthsD ds ds.length)[i]?.getD 0, true)
    | none => (0, false)) else (0, false)
theorem depthN_congr {f g : ByteArray → Int} (ns : List NodeL) (h : ∀ k, k < ns.length → (nAt ns k).kind = 17 → f (nAt ns k).name = g (nAt ns k).name) : depthN f ns = depthN g ns := by
  have : ∀ k, k ≤ ns.length → depthN f (ns.take k) = depthN g (ns.take k) := by
    intro k
    induction k with
    | zero => intro _; rfl
    | succ k ih =>
      intro hk
      rw [depthN_succ f ns k (by omega), depthN_succ g ns k (by omega), ih (by omega)]
      unfold stepD
      by_cases h17 : (nAt ns k).kind = 17
      · rw [if_pos h17, if_pos h17, h k (by omega) h17]
      · rw [if_neg h17, if_neg h17]
  have := this ns.length (Nat.le_refl _)
  rwa [List.take_length] at this

end Ints
end Go.Proofs.Ytlfcmlbffpmhkaa
