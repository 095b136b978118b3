/- A library without one definition: the plain law; the library's Delete. -/
import Derived.Test.YtlfcmlbffpmhkaaAddD
import Derived.Test.YtlfcmlbffpmhkaaMarkD
namespace Go.Proofs.Ytlfcmlbffpmhkaa
open Go.RowKit
namespace Ints

def eraseD (ds : List DefL) (k : Nat) : List DefL := ds.take k ++ ds.drop (k + 1)
def remR (ds : List DefL) (s : ByteArray) : List DefL := if libB ds = true then (match findD ds s with
  | some k => libO (eraseD ds k)
  | none => []) else []
def remB (ds : List DefL) (s : ByteArray) : Bool := libB ds && (match findD ds s with
  | some k => libB (eraseD ds k)
  | none => false)
theorem eraseD_length (ds : List DefL) (k : Nat) (h : k < ds.length) : (eraseD ds k).length + 1 = ds.length := by
  unfold eraseD
  rw [List.length_append, List.length_take, List.length_drop]
  omega
theorem eraseD_tot (ds : List DefL) (k : Nat) : totD (eraseD ds k) ≤ totD ds := by
  by_cases h : k < ds.length
  · have e : ds = ds.take k ++ (dAt ds k :: ds.drop (k + 1)) := by
      rw [dAt_eq ds k h, ← List.drop_eq_getElem_cons h, List.take_append_drop]
    unfold totD eraseD
    conv => rhs; rw [e]
    simp
    omega
  · unfold eraseD
    rw [List.take_of_length_le (by omega), List.drop_eq_nil_of_le (by omega), List.append_nil]
    exact Nat.le_refl _
theorem eraseD_at (ds : List DefL) (k i : Nat) (h : k < ds.length) : dAt (eraseD ds k) i = dAt ds (if i < k then i else i + 1) := by
  unfold eraseD dAt
  by_cases e : i < k
  · rw [if_pos e, List.getElem?_append_left (by rw [List.length_take]; omega), List.getElem?_take, if_pos e]
  · rw [if_neg e, List.getElem?_append_right (by rw [List.length_take]; omega), List.length_take, List.getElem?_drop]
    congr 2
    omega
theorem eraseV_at (Bs : List Value) (k i : Nat) (h : k < Bs.length) : vAt (Bs.take k ++ Bs.drop (k + 1)) i = vAt Bs (if i < k then i else i + 1) := by
  unfold vAt
  by_cases e : i < k
  · rw [if_pos e, List.getElem?_append_left (by rw [List.length_take]; omega), List.getElem?_take, if_pos e]
  · rw [if_neg e, List.getElem?_append_right (by rw [List.length_take]; omega), List.length_take, List.getElem?_drop]
    congr 2
    omega
theorem ofD_take : ∀ (ds : List DefL) (Bs : List Value) (k : Nat), Bs.length = ds.length → (ofD ds Bs).take (k * 4) = ofD (ds.take k) (Bs.take k)
  | [], [], k, _ => by simp [ofD]
  | d :: ds, B :: Bs, 0, _ => by simp [ofD]
  | d :: ds, B :: Bs, k + 1, h => by
    have := ofD_take ds Bs k (by simpa using h)
    simp only [ofD, List.take_succ_cons]
    rw [← this, show (k + 1) * 4 = (cellsV d B).length + k * 4 by simp [cellsV]; omega, List.take_length_add_append]
theorem ofD_drop : ∀ (ds : List DefL) (Bs : List Value) (k : Nat), Bs.length = ds.length → (ofD ds Bs).drop (k * 4) = ofD (ds.drop k) (Bs.drop k)
  | [], [], k, _ => by simp [ofD]
  | d :: ds, B :: Bs, 0, _ => by simp [ofD]
  | d :: ds, B :: Bs, k + 1, h => by
    have := ofD_drop ds Bs k (by simpa using h)
    simp only [ofD, List.drop_succ_cons]
    rw [← this, show (k + 1) * 4 = (cellsV d B).length + k * 4 by simp [cellsV]; omega, List.drop_length_add_append]
theorem ofD_erase (ds : List DefL) (Bs : List Value) (k : Nat) (h : Bs.length = ds.length) : ofD (ds.take k) (Bs.take k) ++ ofD (ds.drop (k + 1)) (Bs.drop (k + 1)) = ofD (eraseD ds k) (Bs.take k ++ Bs.drop (k + 1)) := by
  unfold eraseD
  rw [ofD_append _ _ _ _ (by rw [List.length_take, List.length_take, h])]
theorem BodsOwn.erase {S : Nat → Prop} {w : World} {Bs : List Value} {ds : List DefL} (h : BodsOwn S w Bs ds) {k : Nat} (hk : k < ds.length) : BodsOwn S w (Bs.take k ++ Bs.drop (k + 1)) (eraseD ds k) := by
  obtain ⟨h1, h2, h3⟩ := h
  have hl := eraseD_length ds k hk
  refine ⟨?_, fun i hi => ?_, fun i j hij hj hi' hj' => ?_⟩
  · unfold eraseD
    simp only [List.length_append, List.length_take, List.length_drop, h1]
  · rw [eraseD_at ds k i hk, eraseV_at Bs k i (by omega)]
    refine h2 _ ?_
    split <;> omega
  · rw [eraseD_at ds k i hk] at hi'
    rw [eraseD_at ds k j hk] at hj'
    rw [eraseV_at Bs k i (by omega), eraseV_at Bs k j (by omega)]
    refine h3 _ _ ?_ ?_ hi' hj'
    · split <;> split <;> omega
    · split <;> omega
/-- The part of a slice behind an index. -/
def dropA (size : Nat) (a : Option Addr) (cap l : Nat) : Option Addr := if cap = l then a else a.map (·.add (l * size))
theorem Reads.tail {w : World} {size : Nat} {a : Option Addr} {n cap l : Nat} {xs : List Value} (h : Reads w size (.slice a n cap) n xs) (hl : l ≤ n) : Reads w size (.slice (dropA size a cap l) (n - l) (cap - l)) (n - l) (xs.drop (l * size)) := by
  obtain ⟨h1, a', cap', e, h2, h3, h4⟩ := h
  simp only [Value.slice.injEq, true_and] at e
  obtain ⟨rfl, rfl⟩ := e
  refine ⟨by rw [List.length_drop, h1, Nat.sub_mul], _, _, rfl, by omega, by omega, fun hp => ?_⟩
  rw [List.length_drop, h1] at hp
  have hln : l < n := by
    rcases Nat.lt_or_ge l n with q | q
    · exact q
    · have := Nat.mul_le_mul_right size q
      omega
  obtain ⟨g, off, rfl, hc⟩ := h4 (by rw [h1]; omega)
  refine ⟨g, off + l * size, ?_, fun j hj => ?_⟩
  · unfold dropA
    rw [if_neg (by omega), Option.map_some, Go.WideShapes.add_plain]
  · rw [List.length_drop, h1] at hj
    have := hc (l * size + j) (by omega)
    rw [Nat.add_assoc, this, List.getElem?_drop]
theorem Reads.head {w : World} {size : Nat} {a : Option Addr} {n cap l : Nat} {xs : List Value} (h : Reads w size (.slice a n cap) n xs) (hl : l ≤ n) : Reads w size (.slice a l cap) l (xs.take (l * size)) := by
  obtain ⟨h1, a', cap', e, h2, h3, h4⟩ := h
  simp only [Value.slice.injEq, true_and] at e
  obtain ⟨rfl, rfl⟩ := e
  have hm := Nat.mul_le_mul_right size hl
  refine ⟨by rw [List.length_take, h1]; omega, _, _, rfl, by omega, h3, fun hp => ?_⟩
  rw [List.length_take, h1] at hp
  obtain ⟨g, off, rfl, hc⟩ := h4 (by omega)
  refine ⟨g, off, rfl, fun j hj => ?_⟩
  rw [List.length_take, h1] at hj
  rw [hc j (by omega), List.getElem?_take, if_pos (by omega)]

end Ints
end Go.Proofs.Ytlfcmlbffpmhkaa
