/- More on what is kept and what is turned: cells besides a region, one place of a matrix of the call's own. -/
import Derived.Test.YtmingbiiahoojaaDoorMxPlain
import Derived.Test.YtmingbiiahoojaaDoorMat
import Derived.RegionTactic
import Derived.ChangeAlike
namespace Go.Proofs.YtmingbiiahoojaaDoor
open Go.RowKit
theorem Chg.set1 (w : World) (p : Addr) (u : Value) : Chg (fun g => g = p.block) w (w.setCell p u) := (Chg.refl (fun g => g = p.block) w).setCell (fun _ => rfl) u
theorem Chg.keep {S : Nat → Prop} {w w' : World} (hc : Chg S w w') {p : Addr} {v : Value} (h : w.cell? p = some v) (hp : ¬ S p.block) : w'.cell? p = some v := (hc.cell (lt_of_cell h) hp).trans h
theorem Chg.keepF {S : Nat → Prop} {w w' : World} (hc : Chg S w w') {p : Addr} (h : w.frozen? p = false) (hlt : p.block < w.heap.size) (hp : ¬ S p.block) : w'.frozen? p = false := (hc.frozen hlt hp).trans h

namespace Ints

theorem ownsRow_chg {S : Nat → Prop} {w w' : World} {base : Nat} {e : TypeId} {size n : Nat} {v : Value} {xs : List Value} (h : w.ownsRow base e size v n xs) (hc : Chg S w w') (hS : ∀ g, S g → g < base) : w'.ownsRow base e size v n xs := by
  refine ⟨h.1, ?_⟩
  rcases h.2 with h2 | ⟨g, cap, cur, hv, hg, hh, r⟩
  · exact Or.inl h2
  · refine Or.inr ⟨g, cap, cur, hv, hg, ?_, r⟩
    rw [hc.block g (Array.getElem?_eq_some_iff.1 hh).1 (fun hs => by have := hS g hs; omega)]
    exact hh

theorem ownsRow_keep {S : Nat → Prop} {w w' : World} {base : Nat} {e : TypeId} {size n : Nat} {v : Value} {xs : List Value} (h : w.ownsRow base e size v n xs) (hc : Chg S w w') (hS : ∀ g, v.ownBlock = some g → ¬ S g) : w'.ownsRow base e size v n xs := by
  refine ⟨h.1, ?_⟩
  rcases h.2 with h2 | ⟨g, cap, cur, hv, hg, hh, r⟩
  · exact Or.inl h2
  · refine Or.inr ⟨g, cap, cur, hv, hg, ?_, r⟩
    rw [hc.block g (Array.getElem?_eq_some_iff.1 hh).1 (hS g (by rw [hv]; rfl))]
    exact hh

/-- One row more, whose block lies behind those of the others. -/
theorem RowsOwn.push {S : Nat → Prop} {w : World} {rs : List Value} {L : List (List Int)} {v : Value} {l : List Int} {B : Nat} (h : RowsOwn (fun g => S g ∧ g < B) w rs L)
    (ho : Owns w 3 1 v l.length (ofL l)) (hf : blkIn (fun g => S g ∧ B ≤ g) v (ofL l)) : RowsOwn S w (rs ++ [v]) (L ++ [l]) := by
  refine ⟨by simp [h.1], fun i hi => ?_, fun i j hij hj hi1 hj1 => ?_⟩
  · by_cases e : i < L.length
    · rw [vAt_snoc_lt (by rw [h.1]; exact e), lAt_snoc_lt e]
      exact ⟨(h.2.1 i e).1, (h.2.1 i e).2.mono fun g hg => hg.1⟩
    · have : i = L.length := by simp at hi; omega
      subst this
      rw [← h.1, vAt_snoc_at, h.1, lAt_snoc_at]
      exact ⟨ho, hf.mono fun g hg => hg.1⟩
  · have hi' : i < L.length := by simp at hj; omega
    rw [vAt_snoc_lt (by rw [h.1]; exact hi')]
    rw [lAt_snoc_lt hi'] at hi1
    by_cases e : j < L.length
    · rw [vAt_snoc_lt (by rw [h.1]; exact e)]
      rw [lAt_snoc_lt e] at hj1
      exact h.2.2 i j hij e hi1 hj1
    · have : j = L.length := by simp at hj; omega
      subst this
      rw [lAt_snoc_at] at hj1
      rw [← h.1, vAt_snoc_at]
      intro he
      cases hv : v.ownBlock with
      | none =>
        obtain ⟨_, a, cap, rfl, _, _, h4⟩ := ho
        obtain ⟨g, off, cs, rfl, _⟩ := h4 (List.length_pos_iff.2 (ofL_ne.2 hj1))
        simp [Value.ownBlock] at hv
      | some g =>
        have h2 := (hf g (ofL_ne.2 hj1) hv).2
        have h3 := ((h.2.1 i hi').2 g (ofL_ne.2 hi1) (he.trans hv)).2
        omega
theorem RowsOwn.bound {S : Nat → Prop} {w : World} {rs : List Value} {L : List (List Int)} (h : RowsOwn S w rs L) : RowsOwn (fun g => S g ∧ g < w.heap.size) w rs L :=
  ⟨h.1, fun i hi => ⟨(h.2.1 i hi).1, fun g hx hg => ⟨(h.2.1 i hi).2 g hx hg, (h.2.1 i hi).1.reads.lt g hx hg⟩⟩, h.2.2⟩

theorem RowsOwn.drew {S : Nat → Prop} {w : World} {rs : List Value} {L : List (List Int)} (h : RowsOwn S w rs L) : RowsOwn S w.drew rs L := h.chg (T := fun _ => False) (Chg.refl _ _).drew (fun _ _ => id)
theorem owns_made (w : World) (t : TypeId) (z : Value) (n : Nat) (hn : n ≤ maxLen) :
    Owns (w.alloc (.cells (madeCells #[z] n) t)) t 1 (.slice (some ⟨w.heap.size, 0, none⟩) n n) n (List.replicate n z) ∧ blkIn (w.heap.size ≤ ·) (.slice (some ⟨w.heap.size, 0, none⟩) n n) (List.replicate n z) := by
  have h := World.ownsRow_lit (base := w.heap.size) (size := 1) (e := t) w (madeCells #[z] n) n (Nat.le_refl _) hn (by rw [size_madeCells, Nat.mul_one])
  rw [toList_madeCells_one] at h
  exact owns_of_row h hn

theorem OwnsM.bound {S : Nat → Prop} {w : World} {v : Value} {L : List (List Int)} (h : OwnsM S w v L) : OwnsM (fun g => S g ∧ g < w.heap.size) w v L := by
  obtain ⟨rs, h1, h2, h3⟩ := h
  exact ⟨rs, h1, fun g hx hg => ⟨h2 g hx hg, h1.reads.lt g hx hg⟩, h3.1, fun i hi => ⟨(h3.2.1 i hi).1, fun g hx hg => ⟨(h3.2.1 i hi).2 g hx hg, (h3.2.1 i hi).1.reads.lt g hx hg⟩⟩, h3.2.2⟩

/-- One place of a matrix of the call's own: the cells that lead there, and what a store leaves. -/
theorem OwnsM.openAt {S : Nat → Prop} {w : World} {v : Value} {L : List (List Int)} (h : OwnsM S w v L) {i j : Nat} (hi : i < L.length) (hj : j < (lAt L i).length) :
    ∃ g off cap g2 off2 cap2, v = .slice (some ⟨g, off, none⟩) L.length cap ∧ L.length ≤ 9223372036854775807 ∧ (lAt L i).length ≤ 9223372036854775807 ∧ w.cell? ⟨g, off + i, none⟩ = some (.slice (some ⟨g2, off2, none⟩) (lAt L i).length cap2) ∧
      w.cell? ⟨g2, off2 + j, none⟩ = some (.int .i64 (at2 L i j)) ∧ w.frozen? ⟨g2, off2 + j, none⟩ = false ∧ S g2 ∧ g2 < w.heap.size ∧
      ∀ u, OwnsM S (w.setCell ⟨g2, off2 + j, none⟩ (.int .i64 u)) v (L.set i ((lAt L i).set j u)) := by
  obtain ⟨g, off, cap, r, rfl, hm, hcell, ho, hb, hK⟩ := h.openRow hi
  obtain ⟨_, a, cap2, rfl, hm2, hc⟩ := open_owns ho
  obtain ⟨g2, off2, rfl, hg2, hjj⟩ := hc (by omega)
  have hS : S g2 := hb g2 (ofL_ne.2 (List.length_pos_iff.1 (by omega))) rfl
  refine ⟨g, off, cap, g2, off2, cap2, rfl, hm, hm2, hcell, (hjj j hj).1, (hjj j hj).2.1, hS, hg2, fun u => ?_⟩
  refine hK _ _ (by simp) ?_ (by rw [List.length_set]; exact (hjj j hj).2.2 u)
  exact (Chg.refl _ w).setCell (p := ⟨g2, off2 + j, none⟩) (fun _ => ⟨rfl, by omega⟩) _

end Ints
end Go.Proofs.YtmingbiiahoojaaDoor
