/- More on what is kept and what is turned: cells besides a region, one place of a matrix of the call's own. Two rows of a matrix of the call's own: one to be written, one to be read. A list of lists that can be read, with the blocks in which it lies. -/
import Derived.Test.YtoegbphkheohoaaMxPlain
import Derived.Test.YtoegbphkheohoaaRowsB
import Derived.RegionTactic
import Derived.OwnWalk
import Derived.ChangeAlike
namespace Go.Proofs.Ytoegbphkheohoaa
open Go.RowKit
theorem Chg.set1 (w : World) (p : Addr) (u : Value) : Chg (fun g => g = p.block) w (w.setCell p u) := (Chg.refl (fun g => g = p.block) w).setCell (fun _ => rfl) u
theorem Chg.keep {S : Nat → Prop} {w w' : World} (hc : Chg S w w') {p : Addr} {v : Value} (h : w.cell? p = some v) (hp : ¬ S p.block) : w'.cell? p = some v := (hc.cell (lt_of_cell h) hp).trans h
theorem Chg.keepF {S : Nat → Prop} {w w' : World} (hc : Chg S w w') {p : Addr} (h : w.frozen? p = false) (hlt : p.block < w.heap.size) (hp : ¬ S p.block) : w'.frozen? p = false := (hc.frozen hlt hp).trans h

theorem below_alloc {w W : World} {o : Obj} (h : Below w.heap.size w W) : Below w.heap.size w (W.alloc o) := h.alloc h.size o
namespace Ints

theorem ownsRow_chg {S : Nat → Prop} {w w' : World} {base : Nat} {e : TypeId} {size n : Nat} {v : Value} {xs : List Value} (h : w.ownsRow base e size v n xs) (hc : Chg S w w') (hS : ∀ g, S g → g < base) : w'.ownsRow base e size v n xs := by
  refine ⟨h.1, ?_⟩
  rcases h.2 with h2 | ⟨g, cap, cur, hv, hg, hh, r⟩
  · exact Or.inl h2
  · refine Or.inr ⟨g, cap, cur, hv, hg, ?_, r⟩
    rw [hc.block g (Array.getElem?_eq_some_iff.1 hh).1 (fun hs => by have := hS g hs; omega)]
    exact hh

theorem ownsRow_keep {S : Nat → Prop} {w w' : World} {base : Nat} {e : TypeId} {size n : Nat} {v : Value} {xs : List Value} (h : w.ownsRow base e size v n xs) (hc : Chg S w w') (hS : ∀ g, v.ownBlock = some g → ¬ S g) : w'.ownsRow base e size v n xs := by
  refine ⟨h.1, ?_⟩
  rcases h.2 with h2 | ⟨g, cap, cur, hv, hg, hh, r⟩
  · exact Or.inl h2
  · refine Or.inr ⟨g, cap, cur, hv, hg, ?_, r⟩
    rw [hc.block g (Array.getElem?_eq_some_iff.1 hh).1 (hS g (by rw [hv]; rfl))]
    exact hh

/-- One row more, whose block lies behind those of the others. -/
theorem RowsOwn.push {S : Nat → Prop} {w : World} {rs : List Value} {L : List (List Int)} {v : Value} {l : List Int} {B : Nat} (h : RowsOwn (fun g => S g ∧ g < B) w rs L)
    (ho : Owns w 3 1 v l.length (ofL l)) (hf : blkIn (fun g => S g ∧ B ≤ g) v (ofL l)) : RowsOwn S w (rs ++ [v]) (L ++ [l]) := by
  refine ⟨by simp [h.1], fun i hi => ?_, fun i j hij hj hi1 hj1 => ?_⟩
  · by_cases e : i < L.length
    · rw [vAt_snoc_lt (by rw [h.1]; exact e), lAt_snoc_lt e]
      exact ⟨(h.2.1 i e).1, (h.2.1 i e).2.mono fun g hg => hg.1⟩
    · have : i = L.length := by simp at hi; omega
      subst this
      rw [← h.1, vAt_snoc_at, h.1, lAt_snoc_at]
      exact ⟨ho, hf.mono fun g hg => hg.1⟩
  · have hi' : i < L.length := by simp at hj; omega
    rw [vAt_snoc_lt (by rw [h.1]; exact hi')]
    rw [lAt_snoc_lt hi'] at hi1
    by_cases e : j < L.length
    · rw [vAt_snoc_lt (by rw [h.1]; exact e)]
      rw [lAt_snoc_lt e] at hj1
      exact h.2.2 i j hij e hi1 hj1
    · have : j = L.length := by simp at hj; omega
      subst this
      rw [lAt_snoc_at] at hj1
      rw [← h.1, vAt_snoc_at]
      intro he
      cases hv : v.ownBlock with
      | none =>
        obtain ⟨_, a, cap, rfl, _, _, h4⟩ := ho
        obtain ⟨g, off, cs, rfl, _⟩ := h4 (List.length_pos_iff.2 (ofL_ne.2 hj1))
        simp [Value.ownBlock] at hv
      | some g =>
        have h2 := (hf g (ofL_ne.2 hj1) hv).2
        have h3 := ((h.2.1 i hi').2 g (ofL_ne.2 hi1) (he.trans hv)).2
        omega
theorem RowsOwn.bound {S : Nat → Prop} {w : World} {rs : List Value} {L : List (List Int)} (h : RowsOwn S w rs L) : RowsOwn (fun g => S g ∧ g < w.heap.size) w rs L :=
  ⟨h.1, fun i hi => ⟨(h.2.1 i hi).1, fun g hx hg => ⟨(h.2.1 i hi).2 g hx hg, (h.2.1 i hi).1.reads.lt g hx hg⟩⟩, h.2.2⟩

theorem RowsOwn.drew {S : Nat → Prop} {w : World} {rs : List Value} {L : List (List Int)} (h : RowsOwn S w rs L) : RowsOwn S w.drew rs L := h.chg (T := fun _ => False) (Chg.refl _ _).drew (fun _ _ => id)
theorem owns_made (w : World) (t : TypeId) (z : Value) (n : Nat) (hn : n ≤ maxLen) :
    Owns (w.alloc (.cells (madeCells #[z] n) t)) t 1 (.slice (some ⟨w.heap.size, 0, none⟩) n n) n (List.replicate n z) ∧ blkIn (w.heap.size ≤ ·) (.slice (some ⟨w.heap.size, 0, none⟩) n n) (List.replicate n z) := by
  have h := World.ownsRow_lit (base := w.heap.size) (size := 1) (e := t) w (madeCells #[z] n) n (Nat.le_refl _) hn (by rw [size_madeCells, Nat.mul_one])
  rw [toList_madeCells_one] at h
  exact owns_of_row h hn

/-- A struct of a number and a list of lists, that is nothing. -/
theorem ownsM_nil (S : Nat → Prop) (w : World) : OwnsM S w (.slice none 0 0) [] :=
  ⟨[], ⟨rfl, none, 0, rfl, Nat.le_refl _, Nat.zero_le _, fun h => absurd h (by simp)⟩, fun g h => absurd rfl h, RowsOwn.nil _ _⟩
/-- A matrix in new memory, and whether there is one. -/
def OptMat (w : World) (b : Bool) (d : Int) (R : List (List Int)) (e : Ending) (w' : World) : Prop :=
  ∃ v, e = .returned (.tuple #[.agg #[.int .i64 d, v], .bool b]) ∧ OwnsM (w.heap.size ≤ ·) w' v R ∧ Below w.heap.size w w'
theorem optMat_put {w w1 w2 : World} {b : Nat} {d : Int} {v : Value} {R : List (List Int)} (h1 : Below w.heap.size w w1) (h2 : Below w1.heap.size w1 w2) (ho : OwnsM (w1.heap.size ≤ ·) w2 v R) (hb : w.heap.size ≤ b) (hs : b < w1.heap.size) :
    OptMat w true d R (.returned (.tuple #[.agg #[.int .i64 d, v], .bool true])) ((w2.setCell ⟨b, 0, none⟩ (.int .i64 d)).setCell ⟨b, 1, none⟩ v) := by
  have hc2 : Chg (fun g => g = b) w2 ((w2.setCell ⟨b, 0, none⟩ (.int .i64 d)).setCell ⟨b, 1, none⟩ v) :=
    (Chg.set1 w2 ⟨b, 0, none⟩ _).setCell (p := ⟨b, 1, none⟩) (fun _ => rfl) _
  refine ⟨_, rfl, (ho.chg hc2 fun g hg e => by omega).mono fun g hg => by omega, ?_⟩
  exact ((h1.trans (h2.mono (by omega))).setCell (p := ⟨b, 0, none⟩) hb _).setCell (p := ⟨b, 1, none⟩) hb _
theorem optMat_none {w w1 : World} {b : Nat} (h1 : Below w.heap.size w w1) (hb : w.heap.size ≤ b) :
    OptMat w false 0 [] (.returned (.tuple #[.agg #[.int .i64 0, .slice none 0 0], .bool false])) ((w1.setCell ⟨b, 0, none⟩ (.int .i64 0)).setCell ⟨b, 1, none⟩ (.slice none 0 0)) :=
  ⟨_, rfl, ownsM_nil _ _, (h1.setCell (p := ⟨b, 0, none⟩) hb _).setCell (p := ⟨b, 1, none⟩) hb _⟩

/-- A struct of a number and a list of lists in a new block: its pointer, its cells, its rows in new memory besides. -/
def OutBox (w2 : World) (d : Int) (A : List (List Int)) (t : Value) (wx : World) : Prop :=
  ∃ (b : Nat) (a : Option Addr) (c : Nat), t = .pointer (some ⟨b, 0, none⟩) ∧ wx.cell? ⟨b, 0, none⟩ = some (.int .i64 d) ∧ wx.cell? ⟨b, 1, none⟩ = some (.slice a A.length c) ∧
    OwnsM (fun g => w2.heap.size ≤ g ∧ g < wx.heap.size ∧ g ≠ b) wx (.slice a A.length c) A ∧ w2.heap.size ≤ b ∧ b < wx.heap.size ∧ Below w2.heap.size w2 wx
theorem outBox_alloc {w2 w3 : World} {a : Option Addr} {c : Nat} {A : List (List Int)} (d : Int) (ty : TypeId) (h : Below w2.heap.size w2 w3) (ho : OwnsM (w2.heap.size ≤ ·) w3 (.slice a A.length c) A) :
    OutBox w2 d A (.pointer (some ⟨w3.heap.size, 0, none⟩)) (w3.alloc (.cells #[.int .i64 d, .slice a A.length c] ty)) := by
  have hb : OwnsM (fun g => w2.heap.size ≤ g ∧ g < w3.heap.size) w3 (.slice a A.length c) A := by
    obtain ⟨rs, h1, h2, h3⟩ := ho
    exact ⟨rs, h1, fun g hx hg => ⟨h2 g hx hg, h1.reads.lt g hx hg⟩, h3.1, fun i hi => ⟨(h3.2.1 i hi).1, fun g hx hg => ⟨(h3.2.1 i hi).2 g hx hg, (h3.2.1 i hi).1.reads.lt g hx hg⟩⟩, h3.2.2⟩
  refine ⟨w3.heap.size, a, c, rfl, by simp [go_sem], by simp [go_sem], ?_, h.size, by simp, below_alloc h⟩
  refine OwnsM.mono (OwnsM.below hb ((Below.refl _ _).alloc (Nat.le_refl _) _)) fun g hg => ?_
  exact ⟨hg.1, by simp; omega, by omega⟩
theorem outBox_set {w2 w3 : World} {a : Option Addr} {c : Nat} {A : List (List Int)} {u0 u1 : Value} (d : Int) (h : Below w2.heap.size w2 w3) (ho : OwnsM (w2.heap.size + 1 ≤ ·) w3 (.slice a A.length c) A)
    (hlt : w2.heap.size < w3.heap.size) (c0 : w3.cell? ⟨w2.heap.size, 0, none⟩ = some u0) (c1 : w3.cell? ⟨w2.heap.size, 1, none⟩ = some u1) :
    OutBox w2 d A (.pointer (some ⟨w2.heap.size, 0, none⟩)) ((w3.setCell ⟨w2.heap.size, 0, none⟩ (.int .i64 d)).setCell ⟨w2.heap.size, 1, none⟩ (.slice a A.length c)) := by
  have hc2 : Chg (fun g => g = w2.heap.size) w3 ((w3.setCell ⟨w2.heap.size, 0, none⟩ (.int .i64 d)).setCell ⟨w2.heap.size, 1, none⟩ (.slice a A.length c)) :=
    (Chg.set1 w3 ⟨w2.heap.size, 0, none⟩ _).setCell (p := ⟨w2.heap.size, 1, none⟩) (fun _ => rfl) _
  have hb : OwnsM (fun g => w2.heap.size + 1 ≤ g ∧ g < w3.heap.size) w3 (.slice a A.length c) A := by
    obtain ⟨rs, h1, h2, h3⟩ := ho
    exact ⟨rs, h1, fun g hx hg => ⟨h2 g hx hg, h1.reads.lt g hx hg⟩, h3.1, fun i hi => ⟨(h3.2.1 i hi).1, fun g hx hg => ⟨(h3.2.1 i hi).2 g hx hg, (h3.2.1 i hi).1.reads.lt g hx hg⟩⟩, h3.2.2⟩
  refine ⟨w2.heap.size, a, c, rfl, by simp [go_sem, c0], by simp [go_sem, c1], ?_, Nat.le_refl _, by simp; omega, h.trans (hc2.below h.size fun g hg => by omega)⟩
  refine OwnsM.mono (OwnsM.chg hb hc2 fun g hg e => by omega) fun g hg => ?_
  refine ⟨by omega, by simp; omega, by omega⟩

theorem OwnsM.bound {S : Nat → Prop} {w : World} {v : Value} {L : List (List Int)} (h : OwnsM S w v L) : OwnsM (fun g => S g ∧ g < w.heap.size) w v L := by
  obtain ⟨rs, h1, h2, h3⟩ := h
  exact ⟨rs, h1, fun g hx hg => ⟨h2 g hx hg, h1.reads.lt g hx hg⟩, h3.1, fun i hi => ⟨(h3.2.1 i hi).1, fun g hx hg => ⟨(h3.2.1 i hi).2 g hx hg, (h3.2.1 i hi).1.reads.lt g hx hg⟩⟩, h3.2.2⟩

/-- One place of a matrix of the call's own: the cells that lead there, and what a store leaves. -/
theorem OwnsM.openAt {S : Nat → Prop} {w : World} {v : Value} {L : List (List Int)} (h : OwnsM S w v L) {i j : Nat} (hi : i < L.length) (hj : j < (lAt L i).length) :
    ∃ g off cap g2 off2 cap2, v = .slice (some ⟨g, off, none⟩) L.length cap ∧ L.length ≤ 9223372036854775807 ∧ (lAt L i).length ≤ 9223372036854775807 ∧ w.cell? ⟨g, off + i, none⟩ = some (.slice (some ⟨g2, off2, none⟩) (lAt L i).length cap2) ∧
      w.cell? ⟨g2, off2 + j, none⟩ = some (.int .i64 (at2 L i j)) ∧ w.frozen? ⟨g2, off2 + j, none⟩ = false ∧ S g2 ∧ g2 < w.heap.size ∧ g ≠ g2 ∧
      ∀ u, OwnsM S (w.setCell ⟨g2, off2 + j, none⟩ (.int .i64 u)) v (L.set i ((lAt L i).set j u)) := by
  obtain ⟨g, off, cap, r, rfl, hm, hcell, ho, hb, hK⟩ := h.openRow hi
  obtain ⟨_, a, cap2, rfl, hm2, hc⟩ := open_owns ho
  obtain ⟨g2, off2, rfl, hg2, hjj⟩ := hc (by omega)
  have hS : S g2 := hb g2 (ofL_ne.2 (List.length_pos_iff.1 (by omega))) rfl
  have hne : g ≠ g2 := by
    intro e
    subst e
    obtain ⟨rs, h1, _, h3⟩ := h
    exact h1.apart ho (by decide) (by intro e; subst e; have := h3.1; simp at this; omega) (ofL_ne.2 (List.length_pos_iff.1 (by omega))) rfl
  refine ⟨g, off, cap, g2, off2, cap2, rfl, hm, hm2, hcell, (hjj j hj).1, (hjj j hj).2.1, hS, hg2, hne, fun u => ?_⟩
  refine hK _ _ (by simp) ?_ (by rw [List.length_set]; exact (hjj j hj).2.2 u)
  exact (Chg.refl _ w).setCell (p := ⟨g2, off2 + j, none⟩) (fun _ => ⟨rfl, by omega⟩) _

end Ints
end Go.Proofs.Ytoegbphkheohoaa

namespace Go.Proofs.Ytoegbphkheohoaa
open Go.RowKit
namespace Ints

/-- Rows i and k of the same length: i may be turned in its place, k reads meanwhile. -/
theorem OwnsM.openTwo {S : Nat → Prop} {w : World} {v : Value} {L : List (List Int)} (h : OwnsM S w v L) {i k : Nat} (hi : i < L.length) (hk : k < L.length) (hne : i ≠ k) (hlen : (lAt L i).length = (lAt L k).length) :
    ∃ g off cap ri rk, v = .slice (some ⟨g, off, none⟩) L.length cap ∧ L.length ≤ 9223372036854775807 ∧ w.cell? ⟨g, off + i, none⟩ = some ri ∧ w.cell? ⟨g, off + k, none⟩ = some rk ∧ S g ∧
      Owns w 3 1 ri (lAt L i).length (ofL (lAt L i)) ∧ blkIn S ri (ofL (lAt L i)) ∧ Reads w 1 rk (lAt L i).length (ofL (lAt L k)) ∧ blkIn (fun g => ri.ownBlock ≠ some g) rk (ofL (lAt L k)) ∧
      (0 < (lAt L i).length → ri.ownBlock ≠ some g) ∧
      ∀ w' l', l'.length = (lAt L i).length → Chg (fun g => ri.ownBlock = some g ∧ 0 < (lAt L i).length) w w' → Owns w' 3 1 ri l'.length (ofL l') → OwnsM S w' v (L.set i l') := by
  obtain ⟨rs, h1, h2, h3⟩ := h
  have hrs : rs ≠ [] := by intro e; subst e; have := h3.1; simp at this; omega
  obtain ⟨a, cap, rfl, hm, hc⟩ := Owns.set h1
  obtain ⟨g, off, rfl, hg, hj⟩ := hc (by omega)
  have hS : S g := h2 g hrs rfl
  have hap : 0 < (lAt L i).length → (vAt rs i).ownBlock ≠ some g := fun hp e => h1.apart (h3.2.1 i hi).1 (by decide) hrs (ofL_ne.2 (List.length_pos_iff.1 hp)) (by rw [e]; rfl)
  refine ⟨g, off, cap, vAt rs i, vAt rs k, rfl, hm, (hj i hi).1, (hj k hk).1, hS, (h3.2.1 i hi).1, (h3.2.1 i hi).2, ?_, ?_, hap, ?_⟩
  · rw [hlen]; exact (h3.2.1 k hk).1.reads
  · intro g' hx hg' e
    have hk0 := ofL_ne.1 hx
    have hi0 : lAt L i ≠ [] := by rw [← List.length_pos_iff, hlen, List.length_pos_iff]; exact hk0
    rcases Nat.lt_or_gt_of_ne hne with h4 | h4
    · exact h3.2.2 i k h4 hk hi0 hk0 (e.trans hg'.symm)
    · exact h3.2.2 k i h4 hi hk0 hi0 (hg'.trans e.symm)
  · intro w' l' hl hch ho
    refine ⟨rs, ?_, h2, ?_⟩
    · rw [List.length_set]
      refine h1.chg hch fun g' hx hg' => ?_
      rintro ⟨e1, e2⟩
      exact h1.apart (h3.2.1 i hi).1 (by decide) hx (ofL_ne.2 (List.length_pos_iff.1 e2)) (hg'.trans e1.symm)
    · refine h3.turn (j := i) hi hch (by simp) ?_ ?_ ?_
      · rw [lAt_set _ _ _ _ hi, if_pos rfl, hl]
      · intro q hq hne
        rw [lAt_set _ _ _ _ hi, if_neg (fun e => hne e.symm)]
      · rw [lAt_set _ _ _ _ hi, if_pos rfl]; exact ho

theorem OwnsM.openRow2 {S : Nat → Prop} {w : World} {v : Value} {L : List (List Int)} (h : OwnsM S w v L) {i : Nat} (hi : i < L.length) :
    ∃ g off cap r, v = .slice (some ⟨g, off, none⟩) L.length cap ∧ L.length ≤ 9223372036854775807 ∧ w.cell? ⟨g, off + i, none⟩ = some r ∧ S g ∧ Owns w 3 1 r (lAt L i).length (ofL (lAt L i)) ∧ blkIn S r (ofL (lAt L i)) ∧ (0 < (lAt L i).length → r.ownBlock ≠ some g) ∧
      ∀ w' l', l'.length = (lAt L i).length → Chg (fun g => r.ownBlock = some g ∧ 0 < (lAt L i).length) w w' → Owns w' 3 1 r l'.length (ofL l') → OwnsM S w' v (L.set i l') := by
  obtain ⟨rs, h1, h2, h3⟩ := h
  have hrs : rs ≠ [] := by intro e; subst e; have := h3.1; simp at this; omega
  obtain ⟨a, cap, rfl, hm, hc⟩ := Owns.set h1
  obtain ⟨g, off, rfl, hg, hj⟩ := hc (by omega)
  refine ⟨g, off, cap, vAt rs i, rfl, hm, (hj i hi).1, h2 g hrs rfl, (h3.2.1 i hi).1, (h3.2.1 i hi).2, fun hp e => h1.apart (h3.2.1 i hi).1 (by decide) hrs (ofL_ne.2 (List.length_pos_iff.1 hp)) (by rw [e]; rfl), fun w' l' hl hch ho => ⟨rs, ?_, h2, ?_⟩⟩
  · rw [List.length_set]
    refine h1.chg hch fun g' hx hg' => ?_
    rintro ⟨e1, e2⟩
    exact h1.apart (h3.2.1 i hi).1 (by decide) hx (ofL_ne.2 (List.length_pos_iff.1 e2)) (hg'.trans e1.symm)
  · refine h3.turn (j := i) hi hch (by simp) ?_ ?_ ?_
    · rw [lAt_set _ _ _ _ hi, if_pos rfl, hl]
    · intro q hq hne
      rw [lAt_set _ _ _ _ hi, if_neg (fun e => hne e.symm)]
    · rw [lAt_set _ _ _ _ hi, if_pos rfl]; exact ho

/-- A matrix of the call's own is kept where what changes lies elsewhere. -/
theorem OwnsM.far {S T : Nat → Prop} {w w' : World} {v : Value} {L : List (List Int)} (h : OwnsM S w v L) (hc : Chg T w w') (hd : ∀ g, g < w.heap.size → S g → ¬ T g) : OwnsM S w' v L := by
  obtain ⟨rs, h1, h2, h3⟩ := h
  refine ⟨rs, h1.chg hc fun g hx hg => hd g (h1.reads.lt g hx hg) (h2 g hx hg), h2, h3.1, fun i hi => ⟨(h3.2.1 i hi).1.chg hc fun g hx hg => hd g ((h3.2.1 i hi).1.reads.lt g hx hg) ((h3.2.1 i hi).2 g hx hg), (h3.2.1 i hi).2⟩, h3.2.2⟩

end Ints
end Go.Proofs.Ytoegbphkheohoaa

namespace Go.Proofs.Ytoegbphkheohoaa
open Go.RowKit
namespace Ints

def InM (S : Nat → Prop) (w : World) (v : Value) (L : List (List Int)) : Prop :=
  ∃ rs, Reads w 1 v L.length rs ∧ blkIn S v rs ∧ RowsRead w rs L ∧ ∀ i, i < L.length → blkIn S (vAt rs i) (ofL (lAt L i))
section
variable {S T : Nat → Prop} {w w' : World} {v : Value} {L : List (List Int)}
theorem InM.reads (h : InM S w v L) : ReadsM w v L := by
  obtain ⟨rs, h1, _, h3, _⟩ := h
  exact ⟨rs, h1, h3⟩
theorem InM.of_reads (h : ReadsM w v L) : InM (· < w.heap.size) w v L := by
  obtain ⟨rs, h1, h2⟩ := h
  exact ⟨rs, h1, h1.lt, h2, fun i hi => (h2.2 i hi).lt⟩
theorem InM.of_owns (h : OwnsM S w v L) : InM S w v L := by
  obtain ⟨rs, h1, h2, h3⟩ := h
  exact ⟨rs, h1.reads, h2, h3.reads, fun i hi => (h3.2.1 i hi).2⟩
theorem InM.chg (h : InM S w v L) (hc : Chg T w w') (hd : ∀ g, g < w.heap.size → S g → ¬ T g) : InM S w' v L := by
  obtain ⟨rs, h1, h2, h3, h4⟩ := h
  exact ⟨rs, h1.chg hc fun g hx hg => hd g (h1.lt g hx hg) (h2 g hx hg), h2, ⟨h3.1, fun i hi => (h3.2 i hi).chg hc fun g hx hg => hd g ((h3.2 i hi).lt g hx hg) (h4 i hi g hx hg)⟩, h4⟩
theorem InM.below (h : InM S w v L) (hb : Below w.heap.size w w') : InM S w' v L := h.chg (T := fun _ => False) (Below.chg hb _) (fun _ _ _ => id)
theorem InM.mono (h : InM S w v L) (hST : ∀ g, g < w.heap.size → S g → T g) : InM T w v L := by
  obtain ⟨rs, h1, h2, h3, h4⟩ := h
  exact ⟨rs, h1, fun g hx hg => hST g (h1.lt g hx hg) (h2 g hx hg), h3, fun i hi g hx hg => hST g ((h3.2 i hi).lt g hx hg) (h4 i hi g hx hg)⟩
end
theorem szN_add (a b : Nat) (left : Int) : ((a : Int) ≤ left ∧ szN a left = left - a ∧ szN (a + b) left = szN b (left - a)) ∨ (left < a ∧ szN a left = -1 ∧ szN (a + b) left = -1) := by
  by_cases h : (a : Int) ≤ left
  · refine .inl ⟨h, by simp [szN, h], ?_⟩
    unfold szN
    by_cases h2 : (b : Int) ≤ left - a
    · rw [if_pos h2, if_pos (by omega)]; omega
    · rw [if_neg h2, if_neg (by omega)]
  · exact .inr ⟨by omega, by simp [szN, h], by unfold szN; rw [if_neg (by omega)]⟩
theorem szN_part (a : Nat) (left : Int) : (0 ≤ szN a left ∧ szN a left = left - a ∧ decide (szN a left < 0) = false) ∨ (szN a left = -1 ∧ decide (szN a left < 0) = true) := by
  unfold szN
  by_cases h : (a : Int) ≤ left
  · rw [if_pos h]; exact .inl ⟨by omega, rfl, by simp; omega⟩
  · rw [if_neg h]; exact .inr ⟨rfl, rfl⟩

theorem block_keep {S : Nat → Prop} {w w' : World} {g : Nat} {o : Obj} (h : w.heap[g]? = some o) (hc : Chg S w w') (hg : ¬ S g) : w'.heap[g]? = some o :=
  (hc.block g (Array.getElem?_eq_some_iff.1 h).1 hg).trans h
theorem block_old {w w' : World} {g : Nat} {o : Obj} (h : w.heap[g]? = some o) (hb : Below w.heap.size w w') : w'.heap[g]? = some o :=
  (hb.block g (Array.getElem?_eq_some_iff.1 h).1).trans h
theorem three_blocks (w : World) (o1 o2 o3 : Obj) : (((w.alloc o1).alloc o2).alloc o3).heap[w.heap.size]? = some o1 ∧ (((w.alloc o1).alloc o2).alloc o3).heap[w.heap.size + 1]? = some o2 ∧ (((w.alloc o1).alloc o2).alloc o3).heap[w.heap.size + 2]? = some o3 := by
  have e1 : (w.alloc o1).heap[w.heap.size]? = some o1 := heap_alloc_new w o1
  have s1 : (w.alloc o1).heap.size = w.heap.size + 1 := by simp
  have e2 : ((w.alloc o1).alloc o2).heap[w.heap.size + 1]? = some o2 := by rw [← s1]; exact heap_alloc_new _ o2
  have s2 : ((w.alloc o1).alloc o2).heap.size = w.heap.size + 2 := by simp
  have e3 : (((w.alloc o1).alloc o2).alloc o3).heap[w.heap.size + 2]? = some o3 := by rw [← s2]; exact heap_alloc_new _ o3
  exact ⟨block_old (block_old e1 ((Below.refl _ _).alloc (Nat.le_refl _) _)) ((Below.refl _ _).alloc (Nat.le_refl _) _), block_old e2 ((Below.refl _ _).alloc (Nat.le_refl _) _), e3⟩
/-- 'make([]T, n)' for elements of several cells: a new block of that many cells. -/
theorem wpList_make_cells {P : Program} (w : World) {ops : Array Oper} {rest : List Oper} {o : Oper} {a : Act} {Q : Exit → Act → World → Prop}
    (hgd : o.guard = none) (l c : Operand) (t : TypeId) (hop : o.op = Op.makeSlice t l c)
    (e : TypeId) (z : Value) (size bytes : Nat) (ht : P.underlying t = some (.slice e)) (hinfo : (P.info? e).map (fun i => (i.zero, i.size, i.bytes)) = some (some z, size, bytes))
    (n : Nat) (hl : a.eval l = .int .i64 (n : Int)) (hc : a.eval c = .int .i64 (n : Int)) (b2 : bytes * n ≤ 281474976710656) (b3 : n ≤ maxLen)
    (hK : ∀ w' cs, w'.heap[w.heap.size]? = some (.cells cs e (0, 0)) → cs.size = n * size → Below w.heap.size w w' → wpList P ops Q rest (a.put o.dst (.slice (some ⟨w.heap.size, 0, none⟩) n n)) w') :
    wpList P ops Q (o :: rest) a w := by
  obtain ⟨i, hi, hz, hsize, hby⟩ := info_parts hinfo
  refine wpList_make_full w hgd l c t hop w.heap.size e i z size ht hi hz hsize .i64 .i64 n n n hl hc rfl rfl (by rw [hby]; exact b2) b3 (Nat.le_refl _) fun w' hown hg => ?_
  obtain ⟨_, h2⟩ := hown
  rcases h2 with ⟨hh, _⟩ | ⟨g, cap, cur, hv, _, hh, _, _, hs, _⟩
  · simp at hh
  · simp only [Value.slice.injEq, Option.some.injEq, Addr.mk.injEq, and_true] at hv
    obtain ⟨rfl, -, rfl⟩ := hv
    exact hK w' cur hh hs ⟨hg.os, hg.tape, hg.output, hg.size, fun k hk => hg.block k hk (by simp)⟩

end Ints
end Go.Proofs.Ytoegbphkheohoaa
