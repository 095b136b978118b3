/- A valid library: the plain law. -/
import Derived.Test.YtoegbphkheohoaaTyped
namespace Go.Proofs.Ytoegbphkheohoaa
open Go.RowKit
namespace Ints
open Fld (inR)

def defB (ds : List DefL) (k : Nat) : Bool := nameB (dAt ds k).name && (findD (ds.take k) (dAt ds k).name).isNone && (typeOf (ds.take k) (dAt ds k).body == some ((dAt ds k).inp, (dAt ds k).out))
def libB (ds : List DefL) : Bool := decide (ds.length ≤ 12) && (List.range ds.length).all (defB ds)
theorem dAt_take (ds : List DefL) {j k : Nat} (h : j < k) : dAt (ds.take k) j = dAt ds j := by
  unfold dAt
  rw [List.getElem?_take, if_pos h]
theorem take_take' (ds : List DefL) {j k : Nat} (h : j ≤ k) : (ds.take k).take j = ds.take j := by
  rw [List.take_take, Nat.min_eq_left h]
theorem defB_parts {ds : List DefL} {k : Nat} (h : defB ds k = true) : nameB (dAt ds k).name = true ∧ findD (ds.take k) (dAt ds k).name = none ∧ typeOf (ds.take k) (dAt ds k).body = some ((dAt ds k).inp, (dAt ds k).out) := by
  unfold defB at h
  simp only [Bool.and_eq_true, Option.isNone_iff_eq_none, beq_iff_eq] at h
  exact ⟨h.1.1, h.1.2, h.2⟩
theorem prefix_good {ds : List DefL} : ∀ k, k ≤ ds.length → (∀ j, j < k → defB ds j = true) → bndD (ds.take k) ∧ newN (ds.take k) := by
  intro k
  induction k with
  | zero => intro _ _; exact ⟨fun j hj => by simp at hj, fun j hj => by simp at hj⟩
  | succ k ih =>
    intro hk h
    obtain ⟨h1, h2⟩ := ih (by omega) fun j hj => h j (by omega)
    obtain ⟨p1, p2, p3⟩ := defB_parts (h k (by omega))
    have hl : (ds.take (k + 1)).length = k + 1 := by rw [List.length_take]; omega
    have hl2 : (ds.take k).length = k := by rw [List.length_take]; omega
    refine ⟨fun j hj => ?_, fun j hj => ?_⟩
    · rw [hl] at hj
      rw [dAt_take ds hj]
      by_cases hjk : j < k
      · have := h1 j (by rw [hl2]; exact hjk)
        rw [dAt_take ds hjk] at this
        exact this
      · obtain rfl : j = k := by omega
        exact typeOf_bnd h1 p3
    · rw [hl] at hj
      rw [dAt_take ds hj, take_take' ds (by omega)]
      by_cases hjk : j < k
      · have := h2 j (by rw [hl2]; exact hjk)
        rw [dAt_take ds hjk, take_take' ds (by omega)] at this
        exact this
      · obtain rfl : j = k := by omega
        exact p2
theorem libB_all {ds : List DefL} (h : libB ds = true) : ds.length ≤ 12 ∧ (∀ j, j < ds.length → defB ds j = true) ∧ bndD ds ∧ newN ds := by
  unfold libB at h
  rw [Bool.and_eq_true, decide_eq_true_eq, List.all_eq_true] at h
  have h2 : ∀ j, j < ds.length → defB ds j = true := fun j hj => h.2 j (List.mem_range.2 hj)
  have h3 := prefix_good ds.length (Nat.le_refl _) h2
  rw [List.take_length] at h3
  exact ⟨h.1, h2, h3⟩
theorem libB_no {ds : List DefL} {k : Nat} (hk : k < ds.length) (h : defB ds k = false) : libB ds = false := by
  have : (List.range ds.length).all (defB ds) = false := by
    rw [List.all_eq_false]
    exact ⟨k, List.mem_range.2 hk, by simp [h]⟩
  unfold libB
  rw [this, Bool.and_false]
theorem libB_yes {ds : List DefL} (hl : ds.length ≤ 12) (h : ∀ j, j < ds.length → defB ds j = true) : libB ds = true := by
  unfold libB
  rw [decide_eq_true hl, Bool.true_and, List.all_eq_true]
  exact fun j hj => h j (List.mem_range.1 hj)
theorem libB_long {ds : List DefL} (hl : ¬ ds.length ≤ 12) : libB ds = false := by
  unfold libB
  rw [decide_eq_false hl]
  rfl
theorem big_take {ds : List DefL} (h : bigNames ds) (k : Nat) : bigNames (ds.take k) := by
  refine ⟨Nat.le_trans (List.length_take_le' k ds) h.1, fun j hj => ?_⟩
  have hj2 : j < k ∧ j < ds.length := by rw [List.length_take] at hj; omega
  rw [dAt_take ds hj2.1]
  exact h.2 j hj2.2
/-- The first definitions, in the same slice. -/
theorem reads_take {w : World} {a : Option Addr} {n cap : Nat} {ds : List DefL} (h : ReadsD w (.slice a n cap) ds) {k : Nat} (hk : k ≤ ds.length) : n = ds.length ∧ k ≤ cap ∧ ReadsD w (.slice a k cap) (ds.take k) := by
  obtain ⟨a', cap', e, h1, h2, h3⟩ := h.take hk
  simp only [Value.slice.injEq] at e
  obtain ⟨rfl, rfl, rfl⟩ := e
  exact ⟨rfl, by omega, h3⟩

end Ints
end Go.Proofs.Ytoegbphkheohoaa
