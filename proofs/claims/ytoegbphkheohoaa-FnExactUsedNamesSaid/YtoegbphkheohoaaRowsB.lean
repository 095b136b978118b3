/- Copies of lists and of lists of lists; comparing, marking, looking after the marks. Lists of lists compared, marked, and looked after. Lists and lists of lists of the call's own, opened for walks that write into them. The laws' own helpers over matrices: measuring, copying, comparing, marking, looking after the marks. -/
import Derived.Test.YtoegbphkheohoaaRowsA
namespace Go.Proofs.Ytoegbphkheohoaa
open Go.RowKit
namespace Ints

/-- A list in new memory. -/
def NewInts (w : World) (l : List Int) (e : Ending) (w' : World) : Prop :=
  ∃ v, e = .returned v ∧ Owns w' 3 1 v l.length (ofL l) ∧ blkIn (w.heap.size ≤ ·) v (ofL l) ∧ Below w.heap.size w w'
/-- A list of lists in new memory. -/
def NewRows (w : World) (L : List (List Int)) (e : Ending) (w' : World) : Prop :=
  ∃ v, e = .returned v ∧ OwnsM (w.heap.size ≤ ·) w' v L ∧ Below w.heap.size w w'

theorem ofL_take_succ (l : List Int) (k : Nat) (h : k < l.length) : ofL (l.take (k + 1)) = ofL (l.take k) ++ [.int .i64 (l[k]?.getD 0)] := by
  rw [take_one l k h]; simp [ofL]
theorem ofL_take_length (l : List Int) (k : Nat) (h : k ≤ l.length) : (ofL (l.take k)).length = k := by simp [ofL]; omega

theorem RowsOwn.grown {S : Nat → Prop} {w w' : World} {rs : List Value} {L : List (List Int)} {base n : Nat} {v : Value} {xs : List Value} (h : RowsOwn S w rs L) (hown : w.ownsRow base 65 1 v n xs) (hg : w.grownBy w' v.ownBlock) : RowsOwn S w' rs L :=
  ⟨h.1, fun i hi => ⟨(h.2.1 i hi).1.chg (chg_of_grown hg) ((h.2.1 i hi).1.apartRow hown (by decide)), (h.2.1 i hi).2⟩, h.2.2⟩

theorem lAt_take (L : List (List Int)) (k i : Nat) (h : i < k) : lAt (L.take k) i = lAt L i := by simp [lAt, h]
theorem take_oneL (L : List (List Int)) (k : Nat) (h : k < L.length) : L.take (k + 1) = L.take k ++ [lAt L k] := by
  rw [List.take_succ_eq_append_getElem h]
  simp [lAt, h]

end Ints
end Go.Proofs.Ytoegbphkheohoaa

namespace Go.Proofs.Ytoegbphkheohoaa
open Go.RowKit
namespace Ints

theorem split_at (L : List (List Int)) (k : Nat) (h : k < L.length) : ∃ y, L = L.take k ++ lAt L k :: y :=
  ⟨L.drop (k + 1), by
    have := take_oneL L k h
    rw [show lAt L k :: L.drop (k + 1) = [lAt L k] ++ L.drop (k + 1) from rfl, ← List.append_assoc, ← this, List.take_append_drop]⟩

/-- The lists as marking leaves them, from k on. -/
def marksL (k : Int) : List (List Int) → List (List Int)
  | [] => []
  | l :: L => marks k l.length :: marksL (k + l.length) L
def sumL (L : List (List Int)) : Nat := (L.map List.length).sum
theorem marksL_length (L : List (List Int)) : ∀ k, (marksL k L).length = L.length := by
  induction L with
  | nil => intro k; rfl
  | cons l L ih => intro k; simp [marksL, ih]
theorem marksL_at (L : List (List Int)) : ∀ k j, j < L.length → lAt (marksL k L) j = marks (k + sumL (L.take j)) (lAt L j).length := by
  induction L with
  | nil => intro k j h; simp at h
  | cons l L ih =>
    intro k j h
    cases j with
    | zero => simp [marksL, lAt, sumL]
    | succ j =>
      have h1 := ih (k + l.length) j (by simpa using h)
      have h2 : lAt (marksL k (l :: L)) (j + 1) = lAt (marksL (k + l.length) L) j := by simp [marksL, lAt]
      have h3 : lAt (l :: L) (j + 1) = lAt L j := by simp [lAt]
      have h4 : sumL ((l :: L).take (j + 1)) = l.length + sumL (L.take j) := by simp only [sumL, List.take_succ_cons, List.map_cons, List.sum_cons]
      rw [h2, h1, h3, h4]
      congr 1
      omega

theorem RowsOwn.ext {S : Nat → Prop} {w : World} {rs : List Value} {L L' : List (List Int)} (h : RowsOwn S w rs L) (hl : L'.length = L.length) (he : ∀ i, i < L.length → lAt L' i = lAt L i) : RowsOwn S w rs L' := by
  refine ⟨h.1.trans hl.symm, fun i hi => ?_, fun i j hij hj hi1 hj1 => ?_⟩
  · rw [he i (by omega)]; exact h.2.1 i (by omega)
  · rw [he i (by omega)] at hi1
    rw [he j (by omega)] at hj1
    exact h.2.2 i j hij (by omega) hi1 hj1

/-- One row turned in its place. -/
theorem RowsOwn.turn {S : Nat → Prop} {w w' : World} {rs : List Value} {L L' : List (List Int)} {j : Nat} (h : RowsOwn S w rs L) (hj : j < L.length)
    (hc : Chg (fun g => (vAt rs j).ownBlock = some g ∧ 0 < (lAt L j).length) w w') (hl : L'.length = L.length) (hlen : (lAt L' j).length = (lAt L j).length)
    (he : ∀ i, i < L.length → i ≠ j → lAt L' i = lAt L i) (ho : Owns w' 3 1 (vAt rs j) (lAt L' j).length (ofL (lAt L' j))) : RowsOwn S w' rs L' := by
  have hne : ∀ i, i < L.length → (lAt L' i ≠ [] ↔ lAt L i ≠ []) := by
    intro i hi
    by_cases e : i = j
    · subst e
      rw [← List.length_pos_iff, ← List.length_pos_iff, hlen]
    · rw [he i hi e]
  refine ⟨h.1.trans hl.symm, fun i hi => ?_, fun i k hik hk hi1 hk1 => ?_⟩
  · by_cases e : i = j
    · subst e
      refine ⟨ho, fun g hx hg => (h.2.1 i hj).2 g ?_ hg⟩
      rw [ofL_ne] at hx ⊢
      exact (hne i hj).1 hx
    · rw [he i (by omega) e]
      refine ⟨(h.2.1 i (by omega)).1.chg hc fun g hx hg => ?_, (h.2.1 i (by omega)).2⟩
      rintro ⟨h1, h2⟩
      have hi0 := ofL_ne.1 hx
      have hj0 := List.length_pos_iff.1 h2
      rcases Nat.lt_or_gt_of_ne e with h3 | h3
      · exact h.2.2 i j h3 hj hi0 hj0 (hg.trans h1.symm)
      · exact h.2.2 j i h3 (by omega) hj0 hi0 (h1.trans hg.symm)
  · exact h.2.2 i k hik (by omega) ((hne i (by omega)).1 hi1) ((hne k (by omega)).1 hk1)

/-- Half marked: the first j lists are marked. -/
def halfL (k : Int) (L : List (List Int)) (j : Nat) : List (List Int) := (List.range L.length).map fun i => if i < j then lAt (marksL k L) i else lAt L i
theorem halfL_length (k : Int) (L : List (List Int)) (j : Nat) : (halfL k L j).length = L.length := by simp [halfL]
theorem halfL_at (k : Int) (L : List (List Int)) (j i : Nat) (h : i < L.length) : lAt (halfL k L j) i = if i < j then lAt (marksL k L) i else lAt L i := by
  unfold halfL
  conv => lhs; unfold lAt
  rw [List.getElem?_map, List.getElem?_range h]
  rfl

end Ints
end Go.Proofs.Ytoegbphkheohoaa

namespace Go.Proofs.Ytoegbphkheohoaa
open Go.RowKit
namespace Ints

theorem ofL_set (l : List Int) (j : Nat) (u : Int) : ofL (l.set j u) = (ofL l).set j (.int .i64 u) := by simp [ofL]

theorem Owns.set {w : World} {t : TypeId} {n : Nat} {v : Value} {xs : List Value} (h : Owns w t 1 v n xs) : ∃ a cap, v = .slice a n cap ∧ n ≤ 9223372036854775807 ∧ (0 < n → ∃ g off, a = some ⟨g, off, none⟩ ∧ g < w.heap.size ∧ ∀ j, j < n →
    w.cell? ⟨g, off + j, none⟩ = some (xs[j]?.getD undef) ∧ w.frozen? ⟨g, off + j, none⟩ = false ∧ ∀ u, Owns (w.setCell ⟨g, off + j, none⟩ u) t 1 v n (xs.set j u)) := by
  have hr := h.reads
  obtain ⟨h1, a, cap, rfl, h2, h3, h4⟩ := h
  refine ⟨a, cap, rfl, by unfold maxLen at h3; omega, fun hp => ?_⟩
  obtain ⟨g, off, cs, rfl, hg, hc⟩ := h4 (by omega)
  refine ⟨g, off, rfl, (Array.getElem?_eq_some_iff.1 hg).1, fun j hj => ⟨?_, frozen_of_row w g (off + j) cs t hg, fun u => ?_⟩⟩
  · rw [cell_of_row w g (off + j) cs t (0, 0) hg]
    exact hc j (by omega)
  · refine ⟨by simp [h1], _, cap, rfl, h2, h3, fun _ => ⟨g, off, _, rfl, heap_setCell_at u hg, fun q hq => ?_⟩⟩
    rw [List.length_set] at hq
    rw [Array.getElem?_setIfInBounds]
    by_cases e : q = j
    · subst e
      have := (Array.getElem?_eq_some_iff.1 (hc q hq)).1
      rw [if_pos rfl, if_pos this]
      simp [hq]
    · rw [if_neg (by omega), hc q hq, List.getElem?_set_ne (fun e' => e e'.symm)]

/-- A list of integers of the call's own: what a walk wants. -/
theorem open_owns {w : World} {v : Value} {n : Nat} {l : List Int} (h : Owns w 3 1 v n (ofL l)) :
    l.length = n ∧ ∃ a cap, v = .slice a n cap ∧ n ≤ 9223372036854775807 ∧ (0 < n → ∃ g off, a = some ⟨g, off, none⟩ ∧ g < w.heap.size ∧ ∀ j, j < n →
    w.cell? ⟨g, off + j, none⟩ = some (.int .i64 (l[j]?.getD 0)) ∧ w.frozen? ⟨g, off + j, none⟩ = false ∧ ∀ u, Owns (w.setCell ⟨g, off + j, none⟩ (.int .i64 u)) 3 1 v n (ofL (l.set j u))) := by
  have hl : l.length = n := by have := h.1; rw [ofL_length] at this; omega
  obtain ⟨a, cap, rfl, hm, hc⟩ := Owns.set h
  refine ⟨hl, a, cap, rfl, hm, fun hp => ?_⟩
  obtain ⟨g, off, rfl, hg, hj⟩ := hc hp
  refine ⟨g, off, rfl, hg, fun j hjn => ⟨?_, (hj j hjn).2.1, fun u => ?_⟩⟩
  · rw [(hj j hjn).1, ofL_at l j (by omega)]
  · rw [ofL_set]; exact (hj j hjn).2.2 _

theorem lAt_set (L : List (List Int)) (i j : Nat) (l : List Int) (h : i < L.length) : lAt (L.set i l) j = if i = j then l else lAt L j := by
  unfold lAt
  rw [List.getElem?_set]
  split
  · rename_i e
    subst e
    simp
  · rfl
theorem vAt_set (L : List Value) (i j : Nat) (l : Value) (h : i < L.length) : vAt (L.set i l) j = if i = j then l else vAt L j := by
  unfold vAt
  rw [List.getElem?_set]
  split
  · rename_i e
    subst e
    simp
  · rfl

/-- Row i of a list of lists of the call's own; what the whole is when this row is turned in its place. -/
theorem OwnsM.openRow {S : Nat → Prop} {w : World} {v : Value} {L : List (List Int)} (h : OwnsM S w v L) {i : Nat} (hi : i < L.length) :
    ∃ g off cap r, v = .slice (some ⟨g, off, none⟩) L.length cap ∧ L.length ≤ 9223372036854775807 ∧ w.cell? ⟨g, off + i, none⟩ = some r ∧ Owns w 3 1 r (lAt L i).length (ofL (lAt L i)) ∧ blkIn S r (ofL (lAt L i)) ∧
      ∀ w' l', l'.length = (lAt L i).length → Chg (fun g => r.ownBlock = some g ∧ 0 < (lAt L i).length) w w' → Owns w' 3 1 r l'.length (ofL l') → OwnsM S w' v (L.set i l') := by
  obtain ⟨rs, h1, h2, h3⟩ := h
  obtain ⟨a, cap, rfl, hm, hc⟩ := Owns.set h1
  obtain ⟨g, off, rfl, hg, hj⟩ := hc (by omega)
  refine ⟨g, off, cap, vAt rs i, rfl, hm, (hj i hi).1, (h3.2.1 i hi).1, (h3.2.1 i hi).2, fun w' l' hl hch ho => ⟨rs, ?_, h2, ?_⟩⟩
  · rw [List.length_set]
    refine h1.chg hch fun g' hx hg' => ?_
    rintro ⟨e1, e2⟩
    exact h1.apart (h3.2.1 i hi).1 (by decide) hx (ofL_ne.2 (List.length_pos_iff.1 e2)) (hg'.trans e1.symm)
  · refine h3.turn (j := i) hi hch (by simp) ?_ ?_ ?_
    · rw [lAt_set _ _ _ _ hi, if_pos rfl, hl]
    · intro q hq hne
      rw [lAt_set _ _ _ _ hi, if_neg (fun e => hne e.symm)]
    · rw [lAt_set _ _ _ _ hi, if_pos rfl]; exact ho

/-- Two rows of the call's own exchanged: the values in the outer block change places. -/
theorem RowsOwn.swap {S : Nat → Prop} {w : World} {rs : List Value} {L : List (List Int)} (h : RowsOwn S w rs L) {i j : Nat} (hi : i < L.length) (hj : j < L.length) :
    RowsOwn S w ((rs.set i (vAt rs j)).set j (vAt rs i)) ((L.set i (lAt L j)).set j (lAt L i)) := by
  have hl : rs.length = L.length := h.1
  let f : Nat → Nat := fun k => if j = k then i else if i = k then j else k
  have hv : ∀ k, vAt ((rs.set i (vAt rs j)).set j (vAt rs i)) k = vAt rs (f k) := by
    intro k
    rw [vAt_set _ _ _ _ (by simp; omega), vAt_set _ _ _ _ (by omega)]
    show _ = vAt rs (if j = k then i else if i = k then j else k)
    split
    · rfl
    · split <;> rfl
  have hL : ∀ k, lAt ((L.set i (lAt L j)).set j (lAt L i)) k = lAt L (f k) := by
    intro k
    rw [lAt_set _ _ _ _ (by simp; omega), lAt_set _ _ _ _ hi]
    show _ = lAt L (if j = k then i else if i = k then j else k)
    split
    · rfl
    · split <;> rfl
  have hf : ∀ k, k < L.length → f k < L.length := by
    intro k hk
    show (if j = k then i else if i = k then j else k) < L.length
    split
    · exact hi
    · split <;> assumption
  have hinj : ∀ k q, k ≠ q → f k ≠ f q := by
    intro k q hne
    show (if j = k then i else if i = k then j else k) ≠ (if j = q then i else if i = q then j else q)
    split <;> split <;> (try split) <;> (try split) <;> omega
  refine ⟨by simp [hl], fun k hk => ?_, fun k q hkq hq => ?_⟩
  · rw [hv, hL]
    exact h.2.1 (f k) (hf k (by simpa using hk))
  · rw [hv, hv, hL, hL]
    have hq' : q < L.length := by simpa using hq
    intro h1 h2
    rcases Nat.lt_or_gt_of_ne (hinj k q (Nat.ne_of_lt hkq)) with h3 | h3
    · exact h.2.2 _ _ h3 (hf q hq') h1 h2
    · exact fun e => h.2.2 _ _ h3 (hf k (by omega)) h2 h1 e.symm

/-- A matrix of the call's own opened for an exchange of two rows: the cells, and what the two stores leave. -/
theorem OwnsM.openSwap {S : Nat → Prop} {w : World} {v : Value} {L : List (List Int)} (h : OwnsM S w v L) {i j : Nat} (hi : i < L.length) (hj : j < L.length) :
    ∃ g off cap ri rj, v = .slice (some ⟨g, off, none⟩) L.length cap ∧ L.length ≤ 9223372036854775807 ∧ S g ∧ w.cell? ⟨g, off + i, none⟩ = some ri ∧ w.cell? ⟨g, off + j, none⟩ = some rj ∧
      w.frozen? ⟨g, off + i, none⟩ = false ∧ w.frozen? ⟨g, off + j, none⟩ = false ∧ (∃ a n c, ri = .slice a n c) ∧ (∃ a n c, rj = .slice a n c) ∧
      OwnsM S ((w.setCell ⟨g, off + i, none⟩ rj).setCell ⟨g, off + j, none⟩ ri) v ((L.set i (lAt L j)).set j (lAt L i)) := by
  obtain ⟨rs, h1, h2, h3⟩ := h
  have h10 := h1
  obtain ⟨a, cap, rfl, hm, hc⟩ := Owns.set h1
  obtain ⟨g, off, rfl, hg, hjj⟩ := hc (by omega)
  have hne : rs ≠ [] := by intro e; subst e; have := h3.1; simp at this; omega
  have hS : S g := h2 g hne rfl
  have ho2 := (hjj i hi).2.2 (vAt rs j)
  obtain ⟨a', cap', e, _, hc2⟩ := Owns.set ho2
  obtain ⟨g', off', e', _, hj2⟩ := hc2 (by omega)
  simp only [Value.slice.injEq] at e
  obtain ⟨rfl, -, -⟩ := e
  simp at e'
  obtain ⟨rfl, rfl⟩ := e'
  have ho3 := (hj2 j hj).2.2 (vAt rs i)
  obtain ⟨ai, ci, hri⟩ := (h3.2.1 i hi).1.form
  obtain ⟨aj, cj, hrj⟩ := (h3.2.1 j hj).1.form
  refine ⟨g, off, cap, vAt rs i, vAt rs j, rfl, hm, hS, (hjj i hi).1, (hjj j hj).1, (hjj i hi).2.1, (hjj j hj).2.1, ⟨ai, _, ci, hri⟩, ⟨aj, _, cj, hrj⟩, _, by simpa using ho3, fun g' _ hg' => h2 g' hne hg', ?_⟩
  have hch : Chg (fun k => k = g) w ((w.setCell ⟨g, off + i, none⟩ (vAt rs j)).setCell ⟨g, off + j, none⟩ (vAt rs i)) := ((Chg.refl (fun k => k = g) w).setCell (p := ⟨g, off + i, none⟩) (fun _ => rfl) _).setCell (p := ⟨g, off + j, none⟩) (fun _ => rfl) _
  have h4 : RowsOwn S ((w.setCell ⟨g, off + i, none⟩ (vAt rs j)).setCell ⟨g, off + j, none⟩ (vAt rs i)) rs L := by
    refine ⟨h3.1, fun k hk => ⟨(h3.2.1 k hk).1.chg hch fun g' hx hg' e => ?_, (h3.2.1 k hk).2⟩, h3.2.2⟩
    subst e
    exact h10.apart (h3.2.1 k hk).1 (by decide) hne hx (by rw [hg']; rfl)
  exact h4.swap hi hj

end Ints
end Go.Proofs.Ytoegbphkheohoaa

namespace Go.Proofs.Ytoegbphkheohoaa
open Go.RowKit
namespace Ints

/-- A matrix (a struct of a number and a list of lists) in new memory. -/
def NewMat (w : World) (c : Int) (L : List (List Int)) (e : Ending) (w' : World) : Prop :=
  ∃ v, e = .returned (.agg #[.int .i64 c, v]) ∧ OwnsM (w.heap.size ≤ ·) w' v L ∧ Below w.heap.size w w'

end Ints
end Go.Proofs.Ytoegbphkheohoaa
