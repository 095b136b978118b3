/- The laws' helpers that write into results and look whether it stands there: definitions. -/
import Derived.Test.YtlfcmlbffpmhkaaDoorMark
namespace Go.Proofs.YtlfcmlbffpmhkaaDoor
open Go.RowKit
namespace Ints

def sumDS (ds : List DefL) : Nat := (ds.map fun d => 3 + sumN d.body).sum
def markD (k : Int) (d : DefL) : DefL := ⟨mtx k, k + 1, k + 2, marksN (k + 3) d.body⟩
def marksD (k : Int) : List DefL → List DefL
  | [] => []
  | d :: ds => markD k d :: marksD (k + (3 + sumN d.body : Nat)) ds
theorem marksD_length (ds : List DefL) : ∀ k, (marksD k ds).length = ds.length := by
  induction ds with
  | nil => intro _; rfl
  | cons d ds ih => intro k; simp [marksD, ih]
theorem marksD_at (ds : List DefL) : ∀ k j, j < ds.length → dAt (marksD k ds) j = markD (k + sumDS (ds.take j)) (dAt ds j) := by
  induction ds with
  | nil => intro _ _ h; simp at h
  | cons d ds ih =>
    intro k j hj
    cases j with
    | zero => simp [marksD, dAt, sumDS]
    | succ j =>
      have hj2 : j < ds.length := by simpa using hj
      have h1 := ih (k + (3 + sumN d.body : Nat)) j hj2
      have h2 : dAt (marksD k (d :: ds)) (j + 1) = dAt (marksD (k + (3 + sumN d.body : Nat)) ds) j := by simp [marksD, dAt]
      have h3 : dAt (d :: ds) (j + 1) = dAt ds j := by simp [dAt]
      have h4 : sumDS ((d :: ds).take (j + 1)) = 3 + sumN d.body + sumDS (ds.take j) := by simp only [sumDS, List.take_succ_cons, List.map_cons, List.sum_cons]
      rw [h2, h1, h3, h4]
      congr 1
      omega
theorem sumDS_succ (ds : List DefL) (j : Nat) (h : j < ds.length) : sumDS (ds.take (j + 1)) = sumDS (ds.take j) + 3 + 3 * (dAt ds j).body.length := by
  unfold sumDS
  rw [take_oneD ds j h]
  simp [sumN]
  omega
theorem sumDS_le (ds : List DefL) (j : Nat) : sumDS (ds.take j) ≤ sumDS ds := by
  have h : sumDS ds = sumDS (ds.take j) + sumDS (ds.drop j) := by
    unfold sumDS
    conv => lhs; rw [← List.take_append_drop j ds]
    rw [List.map_append, List.sum_append_nat]
  omega
theorem sumN_tot (ns : List NodeL) : sumN ns ≤ 3 * totN ns := by unfold sumN totN; omega
theorem sumDS_tot (ds : List DefL) : sumDS ds ≤ 3 * totD ds := by
  induction ds with
  | nil => simp [sumDS]
  | cons d ds ih =>
    unfold sumDS totD cellsD totN sumN at *
    simp only [List.map_cons, List.sum_cons, List.length_cons]
    omega
def halfD (k : Int) (ds : List DefL) (j : Nat) : List DefL := (marksD k ds).take j ++ ds.drop j
theorem halfD_zero (k : Int) (ds : List DefL) : halfD k ds 0 = ds := by simp [halfD]
theorem halfD_all (k : Int) (ds : List DefL) : halfD k ds ds.length = marksD k ds := by
  unfold halfD
  rw [List.drop_length, List.append_nil, ← marksD_length ds k, List.take_length]
theorem halfD_length (k : Int) (ds : List DefL) (j : Nat) (h : j ≤ ds.length) : (halfD k ds j).length = ds.length := by
  unfold halfD
  rw [List.length_append, List.length_take, List.length_drop, marksD_length]
  omega
theorem halfD_at (k : Int) (ds : List DefL) (j : Nat) (h : j < ds.length) : dAt (halfD k ds j) j = dAt ds j := by
  unfold halfD dAt
  have hl : ((marksD k ds).take j).length = j := by rw [List.length_take, marksD_length]; omega
  rw [List.getElem?_append_right (by omega), hl, Nat.sub_self, List.getElem?_drop, Nat.add_zero]
theorem halfD_succ (k : Int) (ds : List DefL) (j : Nat) (h : j < ds.length) : (halfD k ds j).set j (dAt (marksD k ds) j) = halfD k ds (j + 1) := by
  unfold halfD
  have hl : ((marksD k ds).take j).length = j := by rw [List.length_take, marksD_length]; omega
  rw [List.set_append, if_neg (by omega), hl, Nat.sub_self, take_oneD _ j (by rw [marksD_length]; exact h), List.drop_eq_getElem_cons h, List.set_cons_zero, List.append_assoc]
  rfl
theorem dAt_set (ds : List DefL) (i j : Nat) (d : DefL) (h : i < ds.length) : dAt (ds.set i d) j = if i = j then d else dAt ds j := by
  unfold dAt
  rw [List.getElem?_set]
  by_cases e : i = j
  · subst e
    rw [if_pos rfl, if_pos rfl, if_pos h]
    rfl
  · rw [if_neg e, if_neg e]
theorem OwnsN.blk {S : Nat → Prop} {w : World} {v : Value} {ns : List NodeL} (h : OwnsN S w v ns) (hne : ns ≠ []) : ∃ g cs, v.ownBlock = some g ∧ S g ∧ w.heap[g]? = some (.cells cs 73 (0, 0)) := by
  obtain ⟨⟨_, a, cap, rfl, _, _, h4⟩, hb⟩ := h
  have hp := List.length_pos_iff.2 (ofN_ne.2 hne)
  obtain ⟨g, off, cs, rfl, hg, _⟩ := h4 hp
  exact ⟨g, cs, rfl, hb g (ofN_ne.2 hne) rfl, hg⟩
/-- One definition of a slice of the call's own: its cells, its body, and what stores leave. -/
theorem OwnsD.openAt {S : Nat → Prop} {w : World} {v : Value} {ds : List DefL} (h : OwnsD S w v ds) {j : Nat} (hj : j < ds.length) :
    ∃ g off cap cs B, v = .slice (some ⟨g, off, none⟩) ds.length cap ∧ ds.length ≤ 9223372036854775807 ∧ S g ∧ w.heap[g]? = some (.cells cs 44 (0, 0)) ∧
      cs[off + j * 4]? = some (.string (dAt ds j).name) ∧ cs[off + j * 4 + 1]? = some (.int .i64 (dAt ds j).inp) ∧ cs[off + j * 4 + 2]? = some (.int .i64 (dAt ds j).out) ∧ cs[off + j * 4 + 3]? = some B ∧
      OwnsN S w B (dAt ds j).body ∧ (∀ g', B.ownBlock = some g' → (dAt ds j).body ≠ [] → g' ≠ g) ∧
      ∀ w' d, d.body.length = (dAt ds j).body.length → w'.heap[g]? = some (.cells (((cs.setIfInBounds (off + j * 4) (.string d.name)).setIfInBounds (off + j * 4 + 1) (.int .i64 d.inp)).setIfInBounds (off + j * 4 + 2) (.int .i64 d.out)) 44 (0, 0)) →
        OwnsN S w' B d.body → Chg (fun g' => g' = g ∨ (B.ownBlock = some g' ∧ (dAt ds j).body ≠ [])) w w' → OwnsD S w' v (ds.set j d) := by
  obtain ⟨a, cap, Bs, rfl, h2, h3, h4, h5⟩ := h
  obtain ⟨g, off, cs, e, hS, hg, c0, c1, c2, c3, h6⟩ := h4 j hj
  subst e
  have hne : ∀ i (hi : i < ds.length) g', (vAt Bs i).ownBlock = some g' → (dAt ds i).body ≠ [] → g' ≠ g := by
    intro i hi g' hg' hb e
    subst e
    obtain ⟨g2, off2, cs2, e2, _, hg2, _, _, _, _, h7⟩ := h4 i hi
    obtain ⟨g3, cs3, q1, _, q3⟩ := h7.blk hb
    rw [hg'] at q1
    obtain rfl := Option.some.inj q1
    rw [hg] at q3
    simp at q3
  have hm : ds.length ≤ 9223372036854775807 := by unfold maxLen at h3; omega
  refine ⟨g, off, cap, cs, vAt Bs j, rfl, hm, hS, hg, c0, c1, c2, c3, h6, hne j hj, fun w' d hl hg' ho hc => ⟨_, cap, Bs, by rw [List.length_set], by rw [List.length_set]; exact h2, h3, fun i hi => ?_, ?_⟩⟩
  · rw [List.length_set] at hi
    rw [dAt_set ds j i d hj]
    have i0 := (Array.getElem?_eq_some_iff.1 c0).1
    have i1 := (Array.getElem?_eq_some_iff.1 c1).1
    have i2 := (Array.getElem?_eq_some_iff.1 c2).1
    refine ⟨g, off, _, rfl, hS, hg', ?_⟩
    by_cases e : j = i
    · subst e
      rw [if_pos rfl]
      refine ⟨?_, ?_, ?_, ?_, ho⟩
      · rw [Array.getElem?_setIfInBounds_ne (by omega), Array.getElem?_setIfInBounds_ne (by omega)]
        exact Array.getElem?_setIfInBounds_self_of_lt i0
      · rw [Array.getElem?_setIfInBounds_ne (by omega)]
        exact Array.getElem?_setIfInBounds_self_of_lt (by simp; omega)
      · exact Array.getElem?_setIfInBounds_self_of_lt (by simp; omega)
      · rw [Array.getElem?_setIfInBounds_ne (by omega), Array.getElem?_setIfInBounds_ne (by omega), Array.getElem?_setIfInBounds_ne (by omega)]
        exact c3
    · rw [if_neg e]
      obtain ⟨g2, off2, cs2, e2, _, hg2, k0, k1, k2, k3, h7⟩ := h4 i hi
      simp only [Option.some.injEq, Addr.mk.injEq, and_true] at e2
      obtain ⟨rfl, rfl⟩ := e2
      rw [hg] at hg2
      simp only [Option.some.injEq, Obj.cells.injEq, and_true] at hg2
      subst hg2
      refine ⟨?_, ?_, ?_, ?_, ?_⟩
      · rw [Array.getElem?_setIfInBounds_ne (by omega), Array.getElem?_setIfInBounds_ne (by omega), Array.getElem?_setIfInBounds_ne (by omega)]; exact k0
      · rw [Array.getElem?_setIfInBounds_ne (by omega), Array.getElem?_setIfInBounds_ne (by omega), Array.getElem?_setIfInBounds_ne (by omega)]; exact k1
      · rw [Array.getElem?_setIfInBounds_ne (by omega), Array.getElem?_setIfInBounds_ne (by omega), Array.getElem?_setIfInBounds_ne (by omega)]; exact k2
      · rw [Array.getElem?_setIfInBounds_ne (by omega), Array.getElem?_setIfInBounds_ne (by omega), Array.getElem?_setIfInBounds_ne (by omega)]; exact k3
      · refine ⟨h7.1.chg hc fun g' hx hg3 => ?_, h7.2⟩
        rintro (q | ⟨q, hb⟩)
        · exact hne i hi g' hg3 (ofN_ne.1 hx) q
        · rcases Nat.lt_or_gt_of_ne e with q2 | q2
          · exact h5 j i q2 hi hb (ofN_ne.1 hx) (q.trans hg3.symm)
          · exact h5 i j q2 hj (ofN_ne.1 hx) hb (hg3.trans q.symm)
  · have hemp : ∀ x, (dAt (ds.set j d) x).body ≠ [] → (dAt ds x).body ≠ [] := by
      intro x hx
      rw [dAt_set ds j x d hj] at hx
      by_cases e : j = x
      · subst e
        rw [if_pos rfl] at hx
        rw [← List.length_pos_iff] at hx ⊢
        omega
      · rw [if_neg e] at hx
        exact hx
    intro x y hxy hy hx' hy'
    rw [List.length_set] at hy
    exact h5 x y hxy hy (hemp x hx') (hemp y hy')

end Ints
end Go.Proofs.YtlfcmlbffpmhkaaDoor
