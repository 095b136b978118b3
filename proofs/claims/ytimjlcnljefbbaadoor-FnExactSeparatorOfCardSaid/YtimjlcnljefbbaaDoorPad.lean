/- pad: a row of at most 24 elements in an array of 48. -/
import Derived.Test.YtimjlcnljefbbaaDoorMatBox
import Derived.Deep.DeepCutAuto
import Derived.Laws.CopyOwn
import Derived.ChangeKeysEq
import Derived.Laws.Tables
import Derived.Laws.Rows
import Derived.Great.Walk
namespace Go.Proofs.YtimjlcnljefbbaaDoor
open Go.RowKit Go.Great
namespace Ints

def padL (l : List Int) : List Int := l ++ List.replicate (48 - l.length) 0
def zs48 : List Value := List.replicate 48 (.int .i64 0)

theorem pad_cells (l : List Int) : splice zs48 0 (ofL l) = ofL (padL l) := by
  unfold splice padL zs48 ofL
  rw [List.take_zero, List.nil_append, List.drop_replicate, List.map_append, List.map_replicate, List.length_map, Nat.zero_add]
theorem padL_length (l : List Int) (h : l.length ≤ 48) : (padL l).length = 48 := by rw [padL, List.length_append, List.length_replicate]; omega
theorem ones_ofL (l : List Int) : ∀ v ∈ ofL l, v.oneCell' = true := by
  intro v hv
  simp only [ofL, List.mem_map] at hv
  obtain ⟨x, _, rfl⟩ := hv
  rfl

set_option maxHeartbeats 400000 in
set_option maxRecDepth 100000 in
theorem pad_any (v : Value) (n : Nat) (l : List Int) (w : World) (hn : n ≤ 24) (h : Reads w 1 v n (ofL l)) :
    Calls Tryd.prog 111 #[v] w fun e w' => e = .returned (.agg (ofL (padL l)).toArray) ∧ Below w.heap.size w w' := by
  obtain ⟨hl, a, cap, rfl, hm, hc⟩ := open_reads h
  have hu := Tryd.underlying122
  have hsz48 : (Tryd.prog.info? 122).map (·.size) = some 48 := by kernel_rfl
  go_enter Tryd.func111, Tryd.ntmps111
  refine wp_seq ?_
  refine wp_region_lit ?_
  refine wpList_runTo rfl _ rfl (.pointer (some ⟨w.heap.size, 0, none⟩)) (w.alloc (.cells zs48.toArray 122)) (by as_aux_lemma => kernel_rfl) ?_
  refine wpList_nil ?_
  obtain ⟨w1, hw1⟩ : ∃ W, W = w.alloc (.cells zs48.toArray 122) := ⟨_, rfl⟩
  have hs1 : w1.heap.size = w.heap.size + 1 := by rw [hw1]; simp
  have hb1 : Below w.heap.size w w1 := by rw [hw1]; exact (Below.refl _ _).alloc (Nat.le_refl _) _
  have hr1 : w1.heap[w.heap.size]? = some (.cells zs48.toArray 122 (0, 0)) := by rw [hw1]; exact heap_alloc_new _ _
  rw [← hw1]
  clear hw1
  show Code.wp _ _ _ _ _
  refine wp_seq ?_
  refine wp_region_lit ?_
  refine wpList_runTo rfl _ rfl (.agg zs48.toArray) w1 (by as_aux_lemma => kernel_rfl) ?_
  refine wpList_runTo rfl _ rfl (.pointer (some ⟨w1.heap.size, 0, none⟩)) (w1.alloc (.cells zs48.toArray 122)) (by as_aux_lemma => kernel_rfl) ?_
  obtain ⟨w2, hw2⟩ : ∃ W, W = w1.alloc (.cells zs48.toArray 122) := ⟨_, rfl⟩
  have hs2 : w2.heap.size = w.heap.size + 2 := by rw [hw2]; simp; omega
  have hb2 : Below w1.heap.size w1 w2 := by rw [hw2]; exact (Below.refl _ _).alloc (Nat.le_refl _) _
  have hr2 : w2.heap[w1.heap.size]? = some (.cells zs48.toArray 122 (0, 0)) := by rw [hw2]; exact heap_alloc_new _ _
  rw [← hw2]
  clear hw2
  rw [hs1] at hb2 hr2 ⊢
  refine wpList_store_row rfl 122 (.tmp 3) (.tmp 4) rfl (w.heap.size + 1) zs48.toArray (by as_aux_lemma => kernel_rfl) (by as_aux_lemma => kernel_rfl) 122 zs48.toArray hr2 hsz48 rfl (by as_aux_lemma => kernel_rfl) ?_
  refine wpList_nil ?_
  obtain ⟨w3, hw3⟩ : ∃ W, W = w2.setRow (w.heap.size + 1) zs48.toArray := ⟨_, rfl⟩
  have hb3 : Below (w.heap.size + 1) w1 w3 := by rw [hw3]; exact below_setRow hb2 (Nat.le_refl _) _
  have hr3 : w3.heap[w.heap.size + 1]? = some (.cells zs48.toArray 122 (0, 0)) := by rw [hw3]; exact setRow_heap w2 _ _ _ _ _ hr2
  rw [← hw3]
  clear hw3 hr2 hb2 hs2
  show Code.wp _ _ _ _ _
  refine wp_seq ?_
  refine wp_region_lit ?_
  refine wpList_runTo rfl _ rfl (.slice (some ⟨w.heap.size + 1, 0, none⟩) 48 48) w3 (by as_aux_lemma => kernel_rfl) ?_
  refine wpList_runTo rfl _ rfl (.slice a n cap) w3 (by as_aux_lemma => kernel_rfl) ?_
  have hball : Below w.heap.size w w3 := hb1.trans (hb3.mono (Nat.le_succ _))
  refine wpList_copy_splice rfl (.tmp 5) (.tmp 6) 41 41 rfl 3 Tryd.underlying41 (by as_aux_lemma => kernel_rfl) (some ⟨w.heap.size + 1, 0, none⟩) a 48 48 n cap (by as_aux_lemma => kernel_rfl) (by as_aux_lemma => kernel_rfl)
    (w.heap.size + 1) 0 zs48 122 hr3 (ofL l) ?hn ?hpos ?hfit (ones_ofL l) (w.heap.size + 1) w3 (Below.refl _ _) (Nat.le_refl _) ?rest
  case hn => rw [ofL_length, hl]; exact (Nat.min_eq_left (show n ≤ 48 by omega)).symm
  case hpos =>
    intro hp
    rw [ofL_length] at hp
    obtain ⟨g, off, rfl, hg, hcell⟩ := hc (by omega)
    refine ⟨rfl, _, rfl, fun j v hj => ?_⟩
    have hjn : j < n := by
      have := List.getElem?_eq_some_iff.1 hj
      obtain ⟨h1, _⟩ := this
      rw [ofL_length] at h1
      omega
    have h1 := hcell j hjn
    rw [show (⟨g, off, none⟩ : Addr).add j = ⟨g, off + j, none⟩ by unfold Addr.add; split <;> simp_all]
    rw [(hball.cell (p := ⟨g, off + j, none⟩) hg).trans h1]
    rw [ofL, List.getElem?_map] at hj
    cases e : l[j]? with
    | none => rw [e] at hj; simp at hj
    | some x => rw [e] at hj; simpa using hj
  case hfit => rw [ofL_length, hl]; show 0 + n ≤ 48; omega
  case rest =>
  intro w4 hg4 hb4
  have hg4 := hg4.out
  rw [pad_cells l] at hg4
  refine wpList_nil ?_
  show Code.wp _ _ _ _ _
  refine wp_seq ?_
  refine wp_region_lit ?_
  have hcs : (ofL (padL l)).toArray.size = 48 := by rw [List.size_toArray, ofL_length, padL_length l (by omega)]
  refine wpList_load_row rfl 122 (.tmp 3) rfl (w.heap.size + 1) (by as_aux_lemma => kernel_rfl) 122 _ (0, 0) _ hg4 hu rfl (by rw [hcs]; exact hsz48) ?_
  have hr4 : w4.heap[w.heap.size]? = some (.cells zs48.toArray 122 (0, 0)) := by
    rw [hb4.block _ (Nat.lt_succ_self _), hb3.block _ (Nat.lt_succ_self _)]; exact hr1
  refine wpList_store_row rfl 122 (.tmp 2) (.tmp 8) rfl w.heap.size (ofL (padL l)).toArray (by as_aux_lemma => kernel_rfl) (by as_aux_lemma => kernel_rfl) 122 zs48.toArray hr4 (by rw [hcs]; exact hsz48) (by rw [hcs]; rfl)
    (by rw [Array.all_eq_true_iff_forall_mem]; intro v hv; exact ones_ofL _ v (by simpa using hv)) ?_
  refine wpList_nil ?_
  have hr5 : (w4.setRow w.heap.size (ofL (padL l)).toArray).heap[w.heap.size]? = some (.cells (ofL (padL l)).toArray 122 (0, 0)) := setRow_heap w4 _ _ _ _ _ hr4
  have hb5 : Below w.heap.size w (w4.setRow w.heap.size (ofL (padL l)).toArray) := below_setRow (hball.trans (hb4.mono (Nat.le_succ _))) (Nat.le_refl _) _
  refine wp_ret ?_
  refine bodyPost_ret (results_cell_row Tryd.results111 _ _ w.heap.size 122 _ (0, 0) _ (by as_aux_lemma => kernel_rfl) hr5 hu rfl (by rw [hcs]; exact hsz48)) rfl ?_
  exact ⟨rfl, hb5⟩

end Ints
end Go.Proofs.YtimjlcnljefbbaaDoor
