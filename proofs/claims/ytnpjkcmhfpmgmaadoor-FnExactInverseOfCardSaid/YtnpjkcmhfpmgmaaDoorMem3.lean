/- Two rows of a matrix of the call's own: one to be written, one to be read. -/
import Derived.Test.YtnpjkcmhfpmgmaaDoorMem2
namespace Go.Proofs.YtnpjkcmhfpmgmaaDoor
open Go.RowKit
namespace Ints

/-- Rows i and k of the same length: i may be turned in its place, k reads meanwhile. -/
theorem OwnsM.openTwo {S : Nat → Prop} {w : World} {v : Value} {L : List (List Int)} (h : OwnsM S w v L) {i k : Nat} (hi : i < L.length) (hk : k < L.length) (hne : i ≠ k) (hlen : (lAt L i).length = (lAt L k).length) :
    ∃ g off cap ri rk, v = .slice (some ⟨g, off, none⟩) L.length cap ∧ L.length ≤ 9223372036854775807 ∧ w.cell? ⟨g, off + i, none⟩ = some ri ∧ w.cell? ⟨g, off + k, none⟩ = some rk ∧ S g ∧
      Owns w 3 1 ri (lAt L i).length (ofL (lAt L i)) ∧ blkIn S ri (ofL (lAt L i)) ∧ Reads w 1 rk (lAt L i).length (ofL (lAt L k)) ∧ blkIn (fun g => ri.ownBlock ≠ some g) rk (ofL (lAt L k)) ∧
      (0 < (lAt L i).length → ri.ownBlock ≠ some g) ∧
      ∀ w' l', l'.length = (lAt L i).length → Chg (fun g => ri.ownBlock = some g ∧ 0 < (lAt L i).length) w w' → Owns w' 3 1 ri l'.length (ofL l') → OwnsM S w' v (L.set i l') := by
  obtain ⟨rs, h1, h2, h3⟩ := h
  have hrs : rs ≠ [] := by intro e; subst e; have := h3.1; simp at this; omega
  obtain ⟨a, cap, rfl, hm, hc⟩ := Owns.set h1
  obtain ⟨g, off, rfl, hg, hj⟩ := hc (by omega)
  have hS : S g := h2 g hrs rfl
  have hap : 0 < (lAt L i).length → (vAt rs i).ownBlock ≠ some g := fun hp e => h1.apart (h3.2.1 i hi).1 (by decide) hrs (ofL_ne.2 (List.length_pos_iff.1 hp)) (by rw [e]; rfl)
  refine ⟨g, off, cap, vAt rs i, vAt rs k, rfl, hm, (hj i hi).1, (hj k hk).1, hS, (h3.2.1 i hi).1, (h3.2.1 i hi).2, ?_, ?_, hap, ?_⟩
  · rw [hlen]; exact (h3.2.1 k hk).1.reads
  · intro g' hx hg' e
    have hk0 := ofL_ne.1 hx
    have hi0 : lAt L i ≠ [] := by rw [← List.length_pos_iff, hlen, List.length_pos_iff]; exact hk0
    rcases Nat.lt_or_gt_of_ne hne with h4 | h4
    · exact h3.2.2 i k h4 hk hi0 hk0 (e.trans hg'.symm)
    · exact h3.2.2 k i h4 hi hk0 hi0 (hg'.trans e.symm)
  · intro w' l' hl hch ho
    refine ⟨rs, ?_, h2, ?_⟩
    · rw [List.length_set]
      refine h1.chg hch fun g' hx hg' => ?_
      rintro ⟨e1, e2⟩
      exact h1.apart (h3.2.1 i hi).1 (by decide) hx (ofL_ne.2 (List.length_pos_iff.1 e2)) (hg'.trans e1.symm)
    · refine h3.turn (j := i) hi hch (by simp) ?_ ?_ ?_
      · rw [lAt_set _ _ _ _ hi, if_pos rfl, hl]
      · intro q hq hne
        rw [lAt_set _ _ _ _ hi, if_neg (fun e => hne e.symm)]
      · rw [lAt_set _ _ _ _ hi, if_pos rfl]; exact ho

theorem OwnsM.openRow2 {S : Nat → Prop} {w : World} {v : Value} {L : List (List Int)} (h : OwnsM S w v L) {i : Nat} (hi : i < L.length) :
    ∃ g off cap r, v = .slice (some ⟨g, off, none⟩) L.length cap ∧ L.length ≤ 9223372036854775807 ∧ w.cell? ⟨g, off + i, none⟩ = some r ∧ S g ∧ Owns w 3 1 r (lAt L i).length (ofL (lAt L i)) ∧ blkIn S r (ofL (lAt L i)) ∧ (0 < (lAt L i).length → r.ownBlock ≠ some g) ∧
      ∀ w' l', l'.length = (lAt L i).length → Chg (fun g => r.ownBlock = some g ∧ 0 < (lAt L i).length) w w' → Owns w' 3 1 r l'.length (ofL l') → OwnsM S w' v (L.set i l') := by
  obtain ⟨rs, h1, h2, h3⟩ := h
  have hrs : rs ≠ [] := by intro e; subst e; have := h3.1; simp at this; omega
  obtain ⟨a, cap, rfl, hm, hc⟩ := Owns.set h1
  obtain ⟨g, off, rfl, hg, hj⟩ := hc (by omega)
  refine ⟨g, off, cap, vAt rs i, rfl, hm, (hj i hi).1, h2 g hrs rfl, (h3.2.1 i hi).1, (h3.2.1 i hi).2, fun hp e => h1.apart (h3.2.1 i hi).1 (by decide) hrs (ofL_ne.2 (List.length_pos_iff.1 hp)) (by rw [e]; rfl), fun w' l' hl hch ho => ⟨rs, ?_, h2, ?_⟩⟩
  · rw [List.length_set]
    refine h1.chg hch fun g' hx hg' => ?_
    rintro ⟨e1, e2⟩
    exact h1.apart (h3.2.1 i hi).1 (by decide) hx (ofL_ne.2 (List.length_pos_iff.1 e2)) (hg'.trans e1.symm)
  · refine h3.turn (j := i) hi hch (by simp) ?_ ?_ ?_
    · rw [lAt_set _ _ _ _ hi, if_pos rfl, hl]
    · intro q hq hne
      rw [lAt_set _ _ _ _ hi, if_neg (fun e => hne e.symm)]
    · rw [lAt_set _ _ _ _ hi, if_pos rfl]; exact ho

/-- A matrix of the call's own is kept where what changes lies elsewhere. -/
theorem OwnsM.far {S T : Nat → Prop} {w w' : World} {v : Value} {L : List (List Int)} (h : OwnsM S w v L) (hc : Chg T w w') (hd : ∀ g, g < w.heap.size → S g → ¬ T g) : OwnsM S w' v L := by
  obtain ⟨rs, h1, h2, h3⟩ := h
  refine ⟨rs, h1.chg hc fun g hx hg => hd g (h1.reads.lt g hx hg) (h2 g hx hg), h2, h3.1, fun i hi => ⟨(h3.2.1 i hi).1.chg hc fun g hx hg => hd g ((h3.2.1 i hi).1.reads.lt g hx hg) ((h3.2.1 i hi).2 g hx hg), (h3.2.1 i hi).2⟩, h3.2.2⟩

end Ints
end Go.Proofs.YtnpjkcmhfpmgmaaDoor
