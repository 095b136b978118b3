/- Two lists side by side, as they read and in blocks of the call's own; the laws' own helpers over structs of two lists, and over graphs without edges. -/
import Derived.Test.YtapgfgbpcpdnlaaLawS
import Derived.Test.YtapgfgbpcpdnlaaMemB
import Derived.Maps.AppendAt
import Derived.Deep.RegionHeld3
namespace Go.Proofs.Ytapgfgbpcpdnlaa
open Go.RowKit
namespace Ints

def ReadsP (w : World) (v1 v2 : Value) (L : List Int × List Int) : Prop := ReadsI w v1 L.1 ∧ ReadsI w v2 L.2
def OwnsP (S : Nat → Prop) (w : World) (v1 v2 : Value) (L : List Int × List Int) : Prop :=
  OwnsI S w v1 L.1 ∧ OwnsI S w v2 L.2 ∧ (L.1 ≠ [] → L.2 ≠ [] → v1.ownBlock ≠ v2.ownBlock)
def totP (L : List Int × List Int) : Nat := L.1.length + L.2.length
def sumP (L : List Int × List Int) : Nat := L.1.length + L.2.length
def marksP (k : Int) (L : List Int × List Int) : List Int × List Int := (marksI k L.1, marksI (k + L.1.length) L.2)
section
variable {S T : Nat → Prop} {w w' : World} {v1 v2 : Value} {L : List Int × List Int}
theorem ReadsP.below (h : ReadsP w v1 v2 L) (hb : Below w.heap.size w w') : ReadsP w' v1 v2 L := ⟨h.1.below hb, h.2.below hb⟩
theorem ReadsP.form (h : ReadsP w v1 v2 L) : ∃ a c a' c', v1 = .slice a L.1.length c ∧ v2 = .slice a' L.2.length c' := by
  obtain ⟨a, c, e⟩ := h.1.form
  obtain ⟨a', c', e'⟩ := h.2.form
  exact ⟨a, c, a', c', e, e'⟩
theorem OwnsP.reads (h : OwnsP S w v1 v2 L) : ReadsP w v1 v2 L := ⟨h.1.reads, h.2.1.reads⟩
theorem OwnsP.mono (h : OwnsP S w v1 v2 L) (hST : ∀ g, S g → T g) : OwnsP T w v1 v2 L := ⟨h.1.mono hST, h.2.1.mono hST, h.2.2⟩
theorem OwnsP.chg (h : OwnsP S w v1 v2 L) (hc : Chg T w w') (hd : ∀ g, S g → ¬ T g) : OwnsP S w' v1 v2 L := ⟨h.1.chg hc hd, h.2.1.chg hc hd, h.2.2⟩
theorem OwnsP.below (h : OwnsP S w v1 v2 L) (hb : Below w.heap.size w w') : OwnsP S w' v1 v2 L := ⟨h.1.below hb, h.2.1.below hb, h.2.2⟩
theorem OwnsP.bound (h : OwnsP S w v1 v2 L) : OwnsP (fun g => S g ∧ g < w.heap.size) w v1 v2 L := ⟨h.1.bound, h.2.1.bound, h.2.2⟩
end
theorem ownsP_nil (S : Nat → Prop) (w : World) : OwnsP S w (.slice none 0 0) (.slice none 0 0) ([], []) := ⟨ownsI_nil S w, ownsI_nil S w, fun h => absurd rfl h⟩
/-- A list made first, another one behind it in new memory. -/
theorem ownsP_two {w1 w2 : World} {S : Nat → Prop} {v1 v2 : Value} {L : List Int × List Int} (h1 : OwnsI S w1 v1 L.1) (hb : Below w1.heap.size w1 w2) (h2 : OwnsI (w1.heap.size ≤ ·) w2 v2 L.2) (hS : ∀ g, w1.heap.size ≤ g → S g) : OwnsP S w2 v1 v2 L := by
  refine ⟨h1.below hb, h2.mono hS, fun e1 e2 e => ?_⟩
  obtain ⟨a, c, rfl⟩ := h1.reads.form
  have hp := h1.1
  obtain ⟨hl, a', c', e', _, _, hq⟩ := hp
  simp only [Value.slice.injEq] at e'
  obtain ⟨rfl, -, rfl⟩ := e'
  obtain ⟨g, off, cs, rfl, hg, _⟩ := hq (List.length_pos_iff.2 (ofL_ne.2 e1))
  have hlt := (Array.getElem?_eq_some_iff.1 hg).1
  have := h2.2 g (ofL_ne.2 e2) (by rw [← e]; rfl)
  omega

/-- 'append(s, u)' for an element of one cell; and where the new slice lies. -/
theorem wpList_append_one_at {P : Program} {w : World} {ops : Array Oper} {rest : List Oper} {o : Oper} {a : Act} {Q : Exit → Act → World → Prop} (hgd : o.guard = none) (s x : Operand) (t : TypeId)
    (ho : o.op = .call { callee := .builtin .append, args := #[s, x], argTypes := #[t, t] })
    (base : Nat) (e : TypeId) (z : Value) (bytes : Nat) (ht : P.underlying t = some (.slice e)) (hinfo : (P.info? e).map (fun i => (i.zero, i.size, i.bytes)) = some (some z, 1, bytes))
    (hzs : z.cells.size = 1) (v : Value) (n : Nat) (xs : List Value) (u : Value)
    (hown : w.ownsRow base e 1 v n xs) (hs : a.eval s = v) (hx : a.eval x = .slice (some ⟨w.heap.size, 0, none⟩) 1 1) (h1 : u.oneCell' = true) (h63 : n + 1 ≤ maxLen) (hbytes : (n + 1) * bytes ≤ 140737488355328) (hbase : base ≤ w.heap.size)
    (h : ∀ v' w', w'.ownsRow base e 1 v' (n + 1) (xs ++ [u]) → w.grownBy w' v.ownBlock → (v'.ownBlock = v.ownBlock ∨ v'.ownBlock = some (w.heap.size + 1)) → wpList P ops Q rest (a.put o.dst v') w') : wpList P ops Q (o :: rest) a (w.alloc (.cells #[u] e)) := by
  obtain ⟨i, hi, hz, hsize, hby⟩ := info_parts hinfo
  refine wpList_plain hgd fun K hK => ?_
  obtain ⟨v', w', hr, h2, h3, _, h5⟩ := run_append_own_at (P := P) (w.alloc (.cells #[u] e)) base t o.type e i z 1 bytes ht hi hz hsize hby hzs (by decide) v n xs (hown.alloc _) ⟨w.heap.size, 0, none⟩ 1 1 [u] rfl (fun j y hj => by
    have hj0 : j = 0 := by
      have := (List.getElem?_eq_some_iff.1 hj).1
      simp at this
      omega
    subst hj0
    simp only [List.getElem?_cons_zero, Option.some.injEq] at hj
    subst hj
    have e0 : (⟨w.heap.size, 0, none⟩ : Addr).add 0 = ⟨w.heap.size, 0, none⟩ := rfl
    rw [e0, cell_of_row (w.alloc _) w.heap.size 0 #[u] e (0, 0) (heap_alloc_new w _)]
    rfl) (by intro y hy; simp at hy; subst hy; exact h1) h63 hbytes (by simp; omega)
  unfold Oper.wp execOp
  simp only [ho, resolve, invoke, builtin, Sem.run_bind, Sem.run_pure, Result.andThen_ok, List.map_toArray, List.map_cons, List.map_nil, hs, hx, hr]
  refine hK _ _ (h v' w' h2 ⟨h3.os, h3.tape, h3.output, Nat.le_trans (by simp) h3.size, fun k hk hne => ?_⟩ (by rcases h5 with h5 | h5; exact .inl h5; exact .inr (by rw [h5]; simp)))
  rw [h3.block k (by simp; omega) hne]
  exact Below.heap_alloc w _ k hk

/-- Two lists marked, one behind the other. -/
theorem markP_step {S : Nat → Prop} {w w1 w2 : World} {v1 v2 : Value} {L : List Int × List Int} {k : Int} (h : OwnsP S w v1 v2 L)
    (o1 : Owns w1 3 1 v1 L.1.length (ofL (marks k L.1.length))) (c1 : Chg (fun g => v1.ownBlock = some g ∧ 0 < L.1.length) w w1)
    (o2 : Owns w2 3 1 v2 L.2.length (ofL (marks (k + L.1.length) L.2.length))) (c2 : Chg (fun g => v2.ownBlock = some g ∧ 0 < L.2.length) w1 w2) :
    OwnsP S w2 v1 v2 (marksP k L) ∧ Chg S w w2 := by
  have n1 : ofL L.1 ≠ [] ↔ 0 < L.1.length := by rw [ofL_ne]; exact List.length_pos_iff.symm
  have n2 : ofL L.2 ≠ [] ↔ 0 < L.2.length := by rw [ofL_ne]; exact List.length_pos_iff.symm
  have m1 : ∀ {k n}, ofL (marks k n) ≠ [] ↔ 0 < n := fun {k n} => by rw [ofL_ne, ← List.length_pos_iff, marks_length]
  refine ⟨⟨⟨?_, fun g hx hg => ?_⟩, ⟨?_, fun g hx hg => ?_⟩, fun e1 e2 => ?_⟩, ?_⟩
  · show Owns w2 3 1 v1 (marks k L.1.length).length (ofL (marks k L.1.length))
    rw [marks_length]
    refine o1.chg c2 fun g hx hg e => ?_
    exact h.2.2 (List.length_pos_iff.1 (m1.1 hx)) (List.length_pos_iff.1 e.2) (by rw [hg, e.1])
  · exact h.1.2 g (n1.2 (m1.1 hx)) hg
  · show Owns w2 3 1 v2 (marks (k + L.1.length) L.2.length).length (ofL (marks (k + L.1.length) L.2.length))
    rw [marks_length]
    exact o2
  · exact h.2.1.2 g (n2.2 (m1.1 hx)) hg
  · refine h.2.2 (fun e => e1 ?_) (fun e => e2 ?_)
    · simp [marksP, marksI, marks, e]
    · simp [marksP, marksI, marks, e]
  · refine (c1.mono fun g _ hg => h.1.2 g (n1.2 hg.2) hg.1).trans (c2.mono fun g _ hg => h.2.1.2 g (n2.2 hg.2) hg.1)

/-- A struct of two lists in new memory. -/
def NewMatch (w : World) (L : List Int × List Int) (e : Ending) (w' : World) : Prop := ∃ u1 u2, e = .returned (.agg #[u1, u2]) ∧ OwnsP (w.heap.size ≤ ·) w' u1 u2 L ∧ Below w.heap.size w w'

/-- The new cells of a struct of two lists, still nothing; the struct's box when it is laid. -/
def BoxInP (c W : World) (b : Nat) : Prop := c.heap.size ≤ b ∧ b < W.heap.size ∧ W.cell? ⟨b, 0, none⟩ = some (.slice none 0 0) ∧ W.cell? ⟨b, 1, none⟩ = some (.slice none 0 0) ∧ W.frozen? ⟨b, 0, none⟩ = false ∧ W.frozen? ⟨b, 1, none⟩ = false
theorem boxInP_new {c X W : World} {ty : TypeId} (h : Below c.heap.size c X) (hb : Below (X.alloc (.cells #[.slice none 0 0, .slice none 0 0] ty)).heap.size (X.alloc (.cells #[.slice none 0 0, .slice none 0 0] ty)) W) : BoxInP c W X.heap.size :=
  ⟨h.size, by have := hb.size; simp at this; omega, cell_old hb (by simp [go_sem]), cell_old hb (by simp [go_sem]), frozen_old hb (by simp) (by simp [go_sem]), frozen_old hb (by simp) (by simp [go_sem])⟩
theorem boxInP_new' {c W : World} {ty : TypeId} (hb : Below (c.alloc (.cells #[.slice none 0 0, .slice none 0 0] ty)).drew.heap.size (c.alloc (.cells #[.slice none 0 0, .slice none 0 0] ty)).drew W) : BoxInP c W c.heap.size :=
  boxInP_new (X := c) (Below.refl _ _) ⟨hb.os, hb.tape, hb.output, hb.size, hb.block⟩
theorem BoxInP.keep {c W W' : World} {b : Nat} (h : BoxInP c W b) (hb : Below W.heap.size W W') : BoxInP c W' b :=
  ⟨h.1, Nat.lt_of_lt_of_le h.2.1 hb.size, cell_old hb h.2.2.1, cell_old hb h.2.2.2.1, frozen_old hb h.2.1 h.2.2.2.2.1, frozen_old hb h.2.1 h.2.2.2.2.2⟩
def OutBoxP (w2 : World) (L : List Int × List Int) (t : Value) (wx : World) : Prop :=
  ∃ (b : Nat) (a : Option Addr) (c : Nat) (a' : Option Addr) (c' : Nat), t = .pointer (some ⟨b, 0, none⟩) ∧ wx.cell? ⟨b, 0, none⟩ = some (.slice a L.1.length c) ∧ wx.cell? ⟨b, 1, none⟩ = some (.slice a' L.2.length c') ∧
    OwnsP (fun g => w2.heap.size ≤ g ∧ g < wx.heap.size ∧ g ≠ b) wx (.slice a L.1.length c) (.slice a' L.2.length c') L ∧ w2.heap.size ≤ b ∧ b < wx.heap.size ∧ Below w2.heap.size w2 wx
theorem outBoxP_alloc {w2 w3 : World} {a a' : Option Addr} {c c' : Nat} {L : List Int × List Int} (ty : TypeId) (h : Below w2.heap.size w2 w3) (ho : OwnsP (w2.heap.size ≤ ·) w3 (.slice a L.1.length c) (.slice a' L.2.length c') L) :
    OutBoxP w2 L (.pointer (some ⟨w3.heap.size, 0, none⟩)) (w3.alloc (.cells #[.slice a L.1.length c, .slice a' L.2.length c'] ty)) := by
  refine ⟨w3.heap.size, a, c, a', c', rfl, by simp [go_sem], by simp [go_sem], ?_, h.size, by simp, below_alloc h⟩
  refine (ho.bound.below ((Below.refl _ _).alloc (Nat.le_refl _) _)).mono fun g hg => ?_
  exact ⟨hg.1, by simp; omega, by omega⟩
theorem outBoxP_put {c W : World} {b m : Nat} {a a' : Option Addr} {k k' : Nat} {L : List Int × List Int} (h : Below c.heap.size c W) (ho : OwnsP (m ≤ ·) W (.slice a L.1.length k) (.slice a' L.2.length k') L) (q : BoxInP c W b) (hm : b < m) :
    OutBoxP c L (.pointer (some ⟨b, 0, none⟩)) ((W.setCell ⟨b, 0, none⟩ (.slice a L.1.length k)).setCell ⟨b, 1, none⟩ (.slice a' L.2.length k')) := by
  have hc2 : Chg (fun g => g = b) W ((W.setCell ⟨b, 0, none⟩ (.slice a L.1.length k)).setCell ⟨b, 1, none⟩ (.slice a' L.2.length k')) :=
    (Chg.set1 W ⟨b, 0, none⟩ _).setCell (p := ⟨b, 1, none⟩) (fun _ => rfl) _
  have hq := q.1
  have c0 := q.2.2.1
  have c1 := q.2.2.2.1
  refine ⟨b, a, k, a', k', rfl, by simp [go_sem, c0], by simp [go_sem, c1], ?_, hq, by simpa using q.2.1, h.trans (hc2.below h.size fun g hg => by omega)⟩
  refine (ho.bound.chg hc2 fun g hg e => by omega).mono fun g hg => ?_
  refine ⟨by omega, by simp; omega, by omega⟩
/-- A struct of two lists in new memory, and whether there is one. -/
def OptMatch (w : World) (b : Bool) (L : List Int × List Int) (e : Ending) (w' : World) : Prop :=
  ∃ u1 u2, e = .returned (.tuple #[.agg #[u1, u2], .bool b]) ∧ OwnsP (w.heap.size ≤ ·) w' u1 u2 L ∧ Below w.heap.size w w'
theorem pair_chg (W : World) (b : Nat) (x y : Value) : Chg (fun g => g = b) W ((W.setCell ⟨b, 0, none⟩ x).setCell ⟨b, 1, none⟩ y) :=
  (Chg.set1 W ⟨b, 0, none⟩ x).setCell (p := ⟨b, 1, none⟩) (fun _ => rfl) y
theorem optMatch_none {w w1 : World} {b : Nat} (h1 : Below w.heap.size w w1) (hb : w.heap.size ≤ b) :
    OptMatch w false ([], []) (.returned (.tuple #[.agg #[.slice none 0 0, .slice none 0 0], .bool false])) ((w1.setCell ⟨b, 0, none⟩ (.slice none 0 0)).setCell ⟨b, 1, none⟩ (.slice none 0 0)) :=
  ⟨_, _, rfl, ownsP_nil _ _, h1.trans ((pair_chg w1 b _ _).below h1.size fun g e => by omega)⟩
theorem optMatch_put {w w1 w2 : World} {b : Nat} {u1 u2 : Value} {L : List Int × List Int} (h1 : Below w.heap.size w w1) (h2 : Below w1.heap.size w1 w2) (ho : OwnsP (w1.heap.size ≤ ·) w2 u1 u2 L) (hb : w.heap.size ≤ b) (hs : b < w1.heap.size) :
    OptMatch w true L (.returned (.tuple #[.agg #[u1, u2], .bool true])) ((w2.setCell ⟨b, 0, none⟩ u1).setCell ⟨b, 1, none⟩ u2) := by
  have hc2 := pair_chg w2 b u1 u2
  have s1 := h1.size
  have s2 := h2.size
  exact ⟨_, _, rfl, (ho.chg hc2 fun g hg e => by omega).mono fun g hg => by omega, (h1.trans (h2.mono s1)).trans (hc2.below (by omega) fun g e => by omega)⟩

end Ints
end Go.Proofs.Ytapgfgbpcpdnlaa
