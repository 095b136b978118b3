/- A library in which a definition has another name: the plain law, and what a round leaves. -/
import Derived.Test.YtlfcmlbffpmhkaaAddD
import Derived.Test.YtlfcmlbffpmhkaaMarkD
namespace Go.Proofs.Ytlfcmlbffpmhkaa
open Go.RowKit
namespace Ints

def renS (a b s : ByteArray) : ByteArray := if s.toList = a.toList then b else s
def renN (a b : ByteArray) (n : NodeL) : NodeL := if n.kind = 17 ∧ n.name.toList = a.toList then ⟨n.kind, n.value, b⟩ else n
def renD (a b : ByteArray) (d : DefL) : DefL := ⟨renS a b d.name, d.inp, d.out, d.body.map (renN a b)⟩
def renR (ds : List DefL) (a b : ByteArray) : List DefL := if libB ds = true ∧ (findD ds a).isSome = true then libO (ds.map (renD a b)) else []
def renB (ds : List DefL) (a b : ByteArray) : Bool := libB ds && (findD ds a).isSome && libB (ds.map (renD a b))
/-- The first j nodes are renamed. -/
def halfRN (a b : ByteArray) (ns : List NodeL) (j : Nat) : List NodeL := (ns.take j).map (renN a b) ++ ns.drop j
theorem halfRN_zero (a b : ByteArray) (ns : List NodeL) : halfRN a b ns 0 = ns := by simp [halfRN]
theorem halfRN_all (a b : ByteArray) (ns : List NodeL) : halfRN a b ns ns.length = ns.map (renN a b) := by
  unfold halfRN
  rw [List.drop_length, List.append_nil, List.take_length]
theorem halfRN_length (a b : ByteArray) (ns : List NodeL) (j : Nat) : (halfRN a b ns j).length = ns.length := by
  unfold halfRN
  rw [List.length_append, List.length_map, List.length_take, List.length_drop]
  omega
theorem halfRN_at (a b : ByteArray) (ns : List NodeL) (j : Nat) (h : j < ns.length) : nAt (halfRN a b ns j) j = nAt ns j := by
  unfold halfRN nAt
  have hl : ((ns.take j).map (renN a b)).length = j := by rw [List.length_map, List.length_take]; omega
  rw [List.getElem?_append_right (by omega), hl, Nat.sub_self, List.getElem?_drop, Nat.add_zero]
theorem halfRN_succ (a b : ByteArray) (ns : List NodeL) (j : Nat) (h : j < ns.length) : (halfRN a b ns j).set j (renN a b (nAt ns j)) = halfRN a b ns (j + 1) := by
  unfold halfRN
  have hl : ((ns.take j).map (renN a b)).length = j := by rw [List.length_map, List.length_take]; omega
  rw [List.set_append, if_neg (by omega), hl, Nat.sub_self, take_oneN _ j h, List.drop_eq_getElem_cons h, List.set_cons_zero, List.map_append, List.append_assoc]
  rfl
theorem halfRN_same (a b : ByteArray) (ns : List NodeL) (j : Nat) (h : j < ns.length) (hs : renN a b (nAt ns j) = nAt ns j) : halfRN a b ns (j + 1) = halfRN a b ns j := by
  rw [← halfRN_succ a b ns j h, hs]
  have hl : j < (halfRN a b ns j).length := by rw [halfRN_length]; exact h
  have h1 := halfRN_at a b ns j h
  rw [nAt_eq _ j hl] at h1
  rw [← h1]
  exact List.set_getElem_self hl
/-- The first j definitions are renamed. -/
def halfRD (a b : ByteArray) (ds : List DefL) (j : Nat) : List DefL := (ds.take j).map (renD a b) ++ ds.drop j
theorem halfRD_zero (a b : ByteArray) (ds : List DefL) : halfRD a b ds 0 = ds := by simp [halfRD]
theorem halfRD_all (a b : ByteArray) (ds : List DefL) : halfRD a b ds ds.length = ds.map (renD a b) := by
  unfold halfRD
  rw [List.drop_length, List.append_nil, List.take_length]
theorem halfRD_length (a b : ByteArray) (ds : List DefL) (j : Nat) : (halfRD a b ds j).length = ds.length := by
  unfold halfRD
  rw [List.length_append, List.length_map, List.length_take, List.length_drop]
  omega
theorem halfRD_at (a b : ByteArray) (ds : List DefL) (j : Nat) (h : j < ds.length) : dAt (halfRD a b ds j) j = dAt ds j := by
  unfold halfRD dAt
  have hl : ((ds.take j).map (renD a b)).length = j := by rw [List.length_map, List.length_take]; omega
  rw [List.getElem?_append_right (by omega), hl, Nat.sub_self, List.getElem?_drop, Nat.add_zero]
theorem halfRD_succ (a b : ByteArray) (ds : List DefL) (j : Nat) (h : j < ds.length) : (halfRD a b ds j).set j (renD a b (dAt ds j)) = halfRD a b ds (j + 1) := by
  unfold halfRD
  have hl : ((ds.take j).map (renD a b)).length = j := by rw [List.length_map, List.length_take]; omega
  rw [List.set_append, if_neg (by omega), hl, Nat.sub_self, take_oneD _ j h, List.drop_eq_getElem_cons h, List.set_cons_zero, List.map_append, List.append_assoc]
  rfl
theorem set_same {cs : Array Value} {i : Nat} {x : Value} (h : cs[i]? = some x) : cs.setIfInBounds i x = cs := by
  apply Array.ext_getElem?
  intro j
  by_cases e : i = j
  · subst e
    rw [h]
    exact Array.getElem?_setIfInBounds_self_of_lt (Array.getElem?_eq_some_iff.1 h).1
  · exact Array.getElem?_setIfInBounds_ne e
theorem set_cell_same {w : World} {g i : Nat} {cs : Array Value} {ty : TypeId} {x : Value} (hg : w.heap[g]? = some (.cells cs ty (0, 0))) (hx : cs[i]? = some x) : w.setCell ⟨g, i, none⟩ x = w := by
  have h1 := Go.Joins.block_setCell (g := g) (i := i) hg x
  rw [set_same hx] at h1
  have hlt := (Array.getElem?_eq_some_iff.1 hg).1
  have hc := Chg.set1 w ⟨g, i, none⟩ x
  have hh : (w.setCell ⟨g, i, none⟩ x).heap = w.heap := by
    apply Array.ext_getElem?
    intro k
    by_cases e : k = g
    · subst e
      rw [h1, hg]
    · by_cases hk : k < w.heap.size
      · exact hc.block k hk e
      · have hs : (w.setCell ⟨g, i, none⟩ x).heap.size = w.heap.size := by simp
        rw [Array.getElem?_eq_none (by omega), Array.getElem?_eq_none (by omega)]
  have e : w.setCell ⟨g, i, none⟩ x = { w with heap := (w.setCell ⟨g, i, none⟩ x).heap } := rfl
  rw [e, hh]
theorem renN_names (a b : ByteArray) (ns : List NodeL) : totN (ns.map (renN a b)) ≤ totN ns + ns.length * b.size := by
  induction ns with
  | nil => simp [totN]
  | cons n ns ih =>
    have h1 : (renN a b n).name.size ≤ n.name.size + b.size := by unfold renN; split <;> (try dsimp only) <;> omega
    unfold totN at *
    simp only [List.map_cons, List.sum_cons, List.length_cons, Nat.add_mul, Nat.one_mul] at *
    omega
theorem renD_tot (a b : ByteArray) (ds : List DefL) : totD (ds.map (renD a b)) ≤ totD ds + totD ds * b.size := by
  induction ds with
  | nil => simp [totD]
  | cons d ds ih =>
    have h1 : (renS a b d.name).size ≤ d.name.size + b.size := by unfold renS; split <;> omega
    have h2 := renN_names a b d.body
    have h3 : cellsD (renD a b d) ≤ cellsD d + (1 + d.body.length) * b.size := by
      unfold cellsD renD
      dsimp only
      rw [Nat.add_mul, Nat.one_mul]
      omega
    have h4 : (1 + d.body.length) ≤ 1 + cellsD d := by unfold cellsD totN; omega
    have h5 := Nat.mul_le_mul_right b.size h4
    unfold totD at *
    simp only [List.map_cons, List.sum_cons, List.length_cons] at *
    have h6 : (ds.length + 1 + (cellsD d + (ds.map cellsD).sum)) * b.size = (ds.length + (ds.map cellsD).sum) * b.size + (1 + cellsD d) * b.size := by rw [← Nat.add_mul]; congr 1; omega
    rw [h6]
    omega
theorem renD_sum (a b : ByteArray) (ds : List DefL) : sumDS (ds.map (renD a b)) = sumDS ds := by
  unfold sumDS
  rw [List.map_map]
  congr 1
  apply List.map_congr_left
  intro d _
  simp [renD, sumN]

theorem renR_ctr (ds : List DefL) (a b : ByteArray) (h : totD ds ≤ 1048576) : (1 : Int) + (sumDS (renR ds a b) : Int) ≤ 1000000000 := by
  have h1 := sumDS_tot ds
  have h2 := renD_sum a b ds
  unfold renR
  split
  · unfold libO
    split
    · omega
    · simp [sumDS]
  · simp [sumDS]

end Ints
end Go.Proofs.Ytlfcmlbffpmhkaa
