/- A term with all names spelled out: the plain law. -/
import Derived.Test.YtlfcmlbffpmhkaaInlS
namespace Go.Proofs.Ytlfcmlbffpmhkaa
open Go.RowKit
namespace Ints

def exN (ds : List DefL) : Nat → List NodeL → List NodeL
  | 0, ns => ns
  | k + 1, ns => exN ds k (inlN (dAt ds k) ns)
theorem exN_append (ds : List DefL) : ∀ (k : Nat) (a b : List NodeL), exN ds k (a ++ b) = exN ds k a ++ exN ds k b
  | 0, _, _ => rfl
  | k + 1, a, b => by
    show exN ds k (inlN (dAt ds k) (a ++ b)) = _
    rw [inlN_append, exN_append ds k]
    rfl
theorem exN_nil (ds : List DefL) : ∀ k, exN ds k [] = []
  | 0 => rfl
  | k + 1 => exN_nil ds k
theorem inlN_one (d : DefL) (n : NodeL) : inlN d [n] = inlS d n := by simp [inlN]
theorem exN_leaf (ds : List DefL) {n : NodeL} (h : n.kind ≠ 17) : ∀ k, exN ds k [n] = [n]
  | 0 => rfl
  | k + 1 => by
    show exN ds k (inlN (dAt ds k) [n]) = _
    rw [inlN_one]
    unfold inlS
    rw [if_neg (fun e => h e.1)]
    exact exN_leaf ds h k
theorem names_differ {ds : List DefL} (hn : newN ds) {i k : Nat} (hik : i < k) (hk : k < ds.length) : (dAt ds i).name.toList ≠ (dAt ds k).name.toList := by
  intro e
  have h := hn k hk
  unfold findD at h
  rw [List.findIdx?_eq_none_iff] at h
  have hm : dAt ds i ∈ ds.take k := by
    rw [dAt_eq ds i (by omega)]
    exact List.mem_take_iff_getElem.2 ⟨i, by omega, rfl⟩
  have := h _ hm
  simp [e] at this
theorem exN_name {ds : List DefL} (hn : newN ds) {n : NodeL} (h17 : n.kind = 17) {i : Nat} (hf : findD ds n.name = some i) : ∀ k, k ≤ ds.length → i < k → exN ds k [n] = exN ds i (dAt ds i).body
  | 0, _, h => by omega
  | k + 1, hk, h => by
    show exN ds k (inlN (dAt ds k) [n]) = _
    have hnm := findD_name hf
    rw [inlN_one]
    unfold inlS
    by_cases e : i = k
    · subst e
      rw [if_pos ⟨h17, by rw [hnm]⟩]
    · rw [if_neg (fun q => names_differ hn (i := i) (k := k) (by omega) (by omega) (by rw [hnm]; exact q.2))]
      exact exN_name hn h17 hf k (by omega) (by omega)
theorem exN_flat (ds : List DefL) (k : Nat) (ns : List NodeL) : exN ds k ns = (ns.map fun n => exN ds k [n]).flatten := by
  induction ns with
  | nil => simp [exN_nil]
  | cons n ns ih =>
    have : n :: ns = [n] ++ ns := rfl
    rw [this, exN_append, ih]
    simp
theorem exN_succ (ds : List DefL) (k : Nat) (ns : List NodeL) (j : Nat) (h : j < ns.length) : exN ds k (ns.take (j + 1)) = exN ds k (ns.take j) ++ exN ds k [nAt ns j] := by
  rw [take_oneN ns j h, exN_append]
theorem exN_part (ds : List DefL) (k : Nat) (ns : List NodeL) (j : Nat) : (exN ds k (ns.take j)).length ≤ (exN ds k ns).length := by
  have h : exN ds k ns = exN ds k (ns.take j) ++ exN ds k (ns.drop j) := by rw [← exN_append, List.take_append_drop]
  rw [h, List.length_append]
  omega
theorem inlN_ge {d : DefL} (hb : 1 ≤ d.body.length) (ns : List NodeL) : ns.length ≤ (inlN d ns).length := by
  induction ns with
  | nil => simp
  | cons n ns ih =>
    have h1 : 1 ≤ (inlS d n).length := by
      unfold inlS
      split
      · exact hb
      · simp
    have h2 : inlN d (n :: ns) = inlS d n ++ inlN d ns := by simp [inlN]
    rw [h2, List.length_append, List.length_cons]
    omega
theorem exN_ge {ds : List DefL} (hb : ∀ j, j < ds.length → 1 ≤ (dAt ds j).body.length) : ∀ (k : Nat) (_ : k ≤ ds.length) (ns : List NodeL), ns.length ≤ (exN ds k ns).length
  | 0, _, _ => Nat.le_refl _
  | k + 1, hk, ns => Nat.le_trans (inlN_ge (hb k (by omega)) ns) (exN_ge hb k (by omega) _)
theorem body_one {ds : List DefL} (h : libB ds = true) (k : Nat) (hk : k < ds.length) : 1 ≤ (dAt ds k).body.length := by
  have h2 := (defB_parts ((libB_all h).2.1 k hk)).2.2
  unfold typeOf at h2
  split at h2
  · omega
  · cases h2

/-- A length as the sizes count it. -/
def capN (x : Nat) : Int := if x < 1000001 then (x : Int) else 1000001
theorem addS_cap (a b : Nat) : addS (capN a) (capN b) = capN (a + b) := by
  unfold addS capN
  repeat' split
  all_goals omega
theorem sizeN_flat (f : ByteArray → Int) (g : NodeL → List NodeL) (ns : List NodeL) (h : ∀ j, j < ns.length → unitS f (nAt ns j) = capN (g (nAt ns j)).length) : sizeN f ns = capN ((ns.map g).flatten).length := by
  have : ∀ k, k ≤ ns.length → sizeN f (ns.take k) = capN (((ns.take k).map g).flatten).length := by
    intro k
    induction k with
    | zero => intro _; rfl
    | succ k ih =>
      intro hk
      rw [sizeN_succ f ns k (by omega), ih (by omega), h k (by omega), addS_cap, take_oneN ns k (by omega)]
      simp
  have := this ns.length (Nat.le_refl _)
  rwa [List.take_length] at this
theorem size_of {ds : List DefL} (hn : newN ds) {k m : Nat} (hk : k ≤ ds.length) {l : List Int} (hl : ∀ i, i < k → l[i]?.getD 0 = capN (exN ds i (dAt ds i).body).length) {ns : List NodeL} (hnm : namedIn ds m ns) (hm : m ≤ k) : sizeN (atD ds l) ns = capN (exN ds k ns).length := by
  rw [exN_flat]
  refine sizeN_flat _ _ _ fun j hj => ?_
  unfold unitS
  by_cases h17 : (nAt ns j).kind = 17
  · rw [if_pos h17]
    obtain ⟨i, hi, him⟩ := hnm j hj h17
    unfold atD
    rw [hi, Option.getD_some, hl i (by omega), exN_name hn h17 hi k hk (by omega)]
  · rw [if_neg h17, exN_leaf ds h17 k]
    rfl
theorem sizes_ex {ds : List DefL} (hlib : libB ds = true) : ∀ k, k ≤ ds.length → ∀ i, i < k → (sizesD ds k)[i]?.getD 0 = capN (exN ds i (dAt ds i).body).length
  | 0, _, i, h => by omega
  | k + 1, hk, i, h => by
    have hl := sizesD_length ds k
    have ih := sizes_ex hlib k (by omega)
    have e : sizesD ds (k + 1) = sizesD ds k ++ [sizeN (atD ds (sizesD ds k)) (dAt ds k).body] := rfl
    rw [e]
    by_cases hik : i < k
    · rw [List.getElem?_append_left (by omega)]
      exact ih i hik
    · obtain rfl : i = k := by omega
      rw [List.getElem?_append_right (by omega), hl, Nat.sub_self]
      show sizeN _ _ = _
      exact size_of (libB_all hlib).2.2.2 (by omega) ih (named_body ((libB_all hlib).2.1 i (by omega))) (Nat.le_refl _)
theorem size_term {ds : List DefL} (hlib : libB ds = true) {ns : List NodeL} (hnm : namedIn ds ds.length ns) : sizeN (atD ds (sizesD ds ds.length)) ns = capN (exN ds ds.length ns).length :=
  size_of (libB_all hlib).2.2.2 (Nat.le_refl _) (sizes_ex hlib ds.length (Nat.le_refl _)) hnm (Nat.le_refl _)
/-- The expanded term, where it has at most 400 nodes. -/
def exO (ds : List DefL) (ns : List NodeL) : Option (List NodeL) := if (typI ds ns).isSome = true then (if (exN ds ds.length ns).length ≤ 400 then some (exN ds ds.length ns) else none) else none
def exR (ds : List DefL) (ns : List NodeL) : List NodeL := (exO ds ns).getD []
def exB (ds : List DefL) (ns : List NodeL) : Bool := (exO ds ns).isSome
theorem exR_len (ds : List DefL) (ns : List NodeL) : (exR ds ns).length ≤ 400 := by
  unfold exR exO
  split
  · split
    · simpa using by assumption
    · exact Nat.zero_le _
  · exact Nat.zero_le _

end Ints
end Go.Proofs.Ytlfcmlbffpmhkaa
