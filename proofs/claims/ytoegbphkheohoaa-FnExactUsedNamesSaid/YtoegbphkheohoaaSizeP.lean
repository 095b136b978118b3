/- How large a term is with its names spelled out: the plain law. -/
import Derived.Test.YtoegbphkheohoaaGoodP
namespace Go.Proofs.Ytoegbphkheohoaa
open Go.RowKit
namespace Ints

def addS (a b : Int) : Int := if a + b < 1000001 then a + b else 1000001
def unitS (f : ByteArray → Int) (n : NodeL) : Int := if n.kind = 17 then f n.name else 1
def sizeN (f : ByteArray → Int) (ns : List NodeL) : Int := ns.foldl (fun acc n => addS acc (unitS f n)) 0
def atD (ds : List DefL) (l : List Int) (s : ByteArray) : Int := l[(findD ds s).getD 0]?.getD 0
/-- The sizes of the first definitions. -/
def sizesD (ds : List DefL) : Nat → List Int
  | 0 => []
  | k + 1 => sizesD ds k ++ [sizeN (atD ds (sizesD ds k)) (dAt ds k).body]
def rngS (l : List Int) : Prop := ∀ x ∈ l, 0 ≤ x ∧ x ≤ 1000001
theorem addS_rng {a b : Int} (ha : 0 ≤ a) (hb : 0 ≤ b) : 0 ≤ addS a b ∧ addS a b ≤ 1000001 := by
  unfold addS
  split <;> omega
theorem sizesD_length (ds : List DefL) : ∀ k, (sizesD ds k).length = k
  | 0 => rfl
  | k + 1 => by
    show (sizesD ds k ++ [_]).length = k + 1
    rw [List.length_append, sizesD_length ds k]
    rfl
theorem sizeN_succ (f : ByteArray → Int) (ns : List NodeL) (k : Nat) (h : k < ns.length) : sizeN f (ns.take (k + 1)) = addS (sizeN f (ns.take k)) (unitS f (nAt ns k)) := by
  unfold sizeN
  rw [take_oneN ns k h, List.foldl_append]
  rfl
theorem at_rng {l : List Int} (h : rngS l) (i : Nat) : 0 ≤ l[i]?.getD 0 ∧ l[i]?.getD 0 ≤ 1000001 := by
  by_cases hi : i < l.length
  · rw [List.getElem?_eq_getElem hi]
    exact h _ (List.getElem_mem _)
  · rw [List.getElem?_eq_none (by omega)]
    decide
theorem unit_rng {f : ByteArray → Int} (hf : ∀ s, 0 ≤ f s ∧ f s ≤ 1000001) (n : NodeL) : 0 ≤ unitS f n ∧ unitS f n ≤ 1000001 := by
  unfold unitS
  split
  · exact hf _
  · decide
theorem fold_rng {f : ByteArray → Int} (hf : ∀ s, 0 ≤ f s ∧ f s ≤ 1000001) : ∀ (ns : List NodeL) (a : Int), 0 ≤ a → a ≤ 1000001 → 0 ≤ ns.foldl (fun acc n => addS acc (unitS f n)) a ∧ ns.foldl (fun acc n => addS acc (unitS f n)) a ≤ 1000001
  | [], a, h1, h2 => ⟨h1, h2⟩
  | n :: ns, a, h1, _ => by
    have := addS_rng h1 (unit_rng hf n).1
    exact fold_rng hf ns _ this.1 this.2
theorem sizeN_rng {f : ByteArray → Int} (hf : ∀ s, 0 ≤ f s ∧ f s ≤ 1000001) (ns : List NodeL) : 0 ≤ sizeN f ns ∧ sizeN f ns ≤ 1000001 := fold_rng hf ns 0 (by decide) (by decide)
theorem sizesD_rng (ds : List DefL) : ∀ k, rngS (sizesD ds k)
  | 0 => fun x hx => by cases hx
  | k + 1 => fun x hx => by
    have h : x ∈ sizesD ds k ++ [sizeN (atD ds (sizesD ds k)) (dAt ds k).body] := hx
    rw [List.mem_append, List.mem_singleton] at h
    rcases h with h | h
    · exact sizesD_rng ds k x h
    · rw [h]
      exact sizeN_rng (fun s => at_rng (sizesD_rng ds k) _) _
/-- A term that has a type names definitions of the library alone. -/
theorem runT_named {ds : List DefL} {ns : List NodeL} {st : List (Int × Int)} (h : runT ds ns = some st) (k : Nat) (hk : k < ns.length) (h17 : (nAt ns k).kind = 17) : ∃ i, findD ds (nAt ns k).name = some i := by
  cases hst : runT ds (ns.take k) with
  | none => rw [runT_none hst] at h; cases h
  | some s1 =>
    have h2 := runT_succ ds ns k hk
    rw [hst, Option.bind_some] at h2
    cases hs : stepT ds s1 (nAt ns k) with
    | none =>
      rw [hs] at h2
      rw [runT_none h2] at h
      cases h
    | some s2 =>
      cases hf : findD ds (nAt ns k).name with
      | some i => exact ⟨i, rfl⟩
      | none =>
        exfalso
        unfold stepT wireOf at hs
        simp [h17, hf] at hs
theorem typeOf_named {ds : List DefL} {ns : List NodeL} {p : Int × Int} (h : typeOf ds ns = some p) (k : Nat) (hk : k < ns.length) (h17 : (nAt ns k).kind = 17) : ∃ i, findD ds (nAt ns k).name = some i := by
  cases hr : runT ds ns with
  | none => rw [typeOf_none hr] at h; cases h
  | some st => exact runT_named hr k hk h17
theorem find_take {ds : List DefL} {k i : Nat} {s : ByteArray} (h : findD (ds.take k) s = some i) : findD ds s = some i ∧ i < k := by
  unfold findD at h ⊢
  rw [List.findIdx?_eq_some_iff_getElem] at h ⊢
  obtain ⟨h1, h2, h3⟩ := h
  rw [List.length_take] at h1
  refine ⟨⟨by omega, by simpa using h2, fun j hj => by simpa using h3 j hj⟩, by omega⟩

end Ints
end Go.Proofs.Ytoegbphkheohoaa
