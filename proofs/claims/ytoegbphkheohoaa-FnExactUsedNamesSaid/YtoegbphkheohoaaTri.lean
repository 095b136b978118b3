/- A struct of three lists that grow: the reference's table of parts. -/
import Derived.Test.YtoegbphkheohoaaStack
import Derived.Maps.AppendAt
import Derived.Lib.SmallJoins
namespace Go.Proofs.Ytoegbphkheohoaa
open Go.RowKit

/-- 'append(s, u)' for an element of one cell; and where the new slice lies. -/
theorem run_append_at {P : Program} {w : World} (base : Nat) (t ty e : TypeId) (z : Value) (bytes : Nat) (ht : P.underlying t = some (.slice e)) (hinfo : (P.info? e).map (fun i => (i.zero, i.size, i.bytes)) = some (some z, 1, bytes))
    (hzs : z.cells.size = 1) (v : Value) (n : Nat) (xs : List Value) (u : Value)
    (hown : w.ownsRow base e 1 v n xs) (h1 : u.oneCell' = true) (h63 : n + 1 ≤ maxLen) (hbytes : (n + 1) * bytes ≤ 140737488355328) (hbase : base ≤ w.heap.size) :
    ∃ v' w', (Builtin.append_ #[t, t] ty #[v, .slice (some ⟨w.heap.size, 0, none⟩) 1 1]).run P (w.alloc (.cells #[u] e)) = .ok v' w' ∧ w'.ownsRow base e 1 v' (n + 1) (xs ++ [u]) ∧ w.grownBy w' v.ownBlock ∧ (v'.ownBlock = v.ownBlock ∨ v'.ownBlock = some (w.heap.size + 1)) := by
  obtain ⟨i, hi, hz, hsize, hby⟩ := info_parts hinfo
  obtain ⟨v', w', hr, h2, h3, _, h5⟩ := run_append_own_at (P := P) (w.alloc (.cells #[u] e)) base t ty e i z 1 bytes ht hi hz hsize hby hzs (by decide) v n xs (hown.alloc _) ⟨w.heap.size, 0, none⟩ 1 1 [u] rfl (fun j y hj => by
    have hj0 : j = 0 := by
      have := (List.getElem?_eq_some_iff.1 hj).1
      simp at this
      omega
    subst hj0
    simp only [List.getElem?_cons_zero, Option.some.injEq] at hj
    subst hj
    have e0 : (⟨w.heap.size, 0, none⟩ : Addr).add 0 = ⟨w.heap.size, 0, none⟩ := rfl
    rw [e0, cell_of_row (w.alloc _) w.heap.size 0 #[u] e (0, 0) (heap_alloc_new w _)]
    rfl) (by intro y hy; simp at hy; subst hy; exact h1) h63 hbytes (by simp; omega)
  refine ⟨v', w', hr, h2, ⟨h3.os, h3.tape, h3.output, Nat.le_trans (by simp) h3.size, fun k hk hne => ?_⟩, ?_⟩
  · rw [h3.block k (by simp; omega) hne]
    exact Below.heap_alloc w _ k hk
  · rcases h5 with h5 | h5
    · exact .inl h5
    · exact .inr (by rw [h5]; simp)
theorem wpList_append_at {P : Program} {w : World} {ops : Array Oper} {rest : List Oper} {o : Oper} {a : Act} {Q : Exit → Act → World → Prop} (hgd : o.guard = none) (s x : Operand) (t : TypeId)
    (ho : o.op = .call { callee := .builtin .append, args := #[s, x], argTypes := #[t, t] })
    (base : Nat) (e : TypeId) (z : Value) (bytes : Nat) (ht : P.underlying t = some (.slice e)) (hinfo : (P.info? e).map (fun i => (i.zero, i.size, i.bytes)) = some (some z, 1, bytes))
    (hzs : z.cells.size = 1) (v : Value) (n : Nat) (xs : List Value) (u : Value)
    (hown : w.ownsRow base e 1 v n xs) (hs : a.eval s = v) (hx : a.eval x = .slice (some ⟨w.heap.size, 0, none⟩) 1 1) (h1 : u.oneCell' = true) (h63 : n + 1 ≤ maxLen) (hbytes : (n + 1) * bytes ≤ 140737488355328) (hbase : base ≤ w.heap.size)
    (h : ∀ v' w', w'.ownsRow base e 1 v' (n + 1) (xs ++ [u]) → w.grownBy w' v.ownBlock → (v'.ownBlock = v.ownBlock ∨ v'.ownBlock = some (w.heap.size + 1)) → wpList P ops Q rest (a.put o.dst v') w') : wpList P ops Q (o :: rest) a (w.alloc (.cells #[u] e)) := by
  refine wpList_plain hgd fun K hK => ?_
  obtain ⟨v', w', hr, h2, h3, h5⟩ := run_append_at (P := P) (w := w) base t o.type e z bytes ht hinfo hzs v n xs u hown h1 h63 hbytes hbase
  unfold Oper.wp execOp
  simp only [ho, resolve, invoke, builtin, Sem.run_bind, Sem.run_pure, Result.andThen_ok, List.map_toArray, List.map_cons, List.map_nil, hs, hx, hr]
  exact hK _ _ (h v' w' h2 h3 h5)
theorem step_append_at {P : Program} {w : World} {ops : Array Oper} {o : Oper} {a : Act} {K : Act → World → Prop} {Q : Exit → Act → World → Prop} {E : Prop} (hgd : o.guard = none) (s x : Operand) (t : TypeId)
    (ho : o.op = .call { callee := .builtin .append, args := #[s, x], argTypes := #[t, t] })
    (base : Nat) (e : TypeId) (z : Value) (bytes : Nat) (ht : P.underlying t = some (.slice e)) (hinfo : (P.info? e).map (fun i => (i.zero, i.size, i.bytes)) = some (some z, 1, bytes))
    (hzs : z.cells.size = 1) (v : Value) (n : Nat) (xs : List Value) (u : Value)
    (hown : w.ownsRow base e 1 v n xs) (hs : a.eval s = v) (hx : a.eval x = .slice (some ⟨w.heap.size, 0, none⟩) 1 1) (h1 : u.oneCell' = true) (h63 : n + 1 ≤ maxLen) (hbytes : (n + 1) * bytes ≤ 140737488355328) (hbase : base ≤ w.heap.size)
    (h : ∀ v' w', w'.ownsRow base e 1 v' (n + 1) (xs ++ [u]) → w.grownBy w' v.ownBlock → (v'.ownBlock = v.ownBlock ∨ v'.ownBlock = some (w.heap.size + 1)) → K (a.put o.dst v') w') :
    if Region.wanted o (yielded ops a.tmps) = true then Oper.wp P o a (w.alloc (.cells #[u] e)) K Q else E := by
  have hw : Region.wanted o (yielded ops a.tmps) = true := by simp [Region.wanted, hgd]
  rw [if_pos hw]
  obtain ⟨v', w', hr, h2, h3, h5⟩ := run_append_at (P := P) (w := w) base t o.type e z bytes ht hinfo hzs v n xs u hown h1 h63 hbytes hbase
  unfold Oper.wp execOp
  simp only [ho, resolve, invoke, builtin, Sem.run_bind, Sem.run_pure, Result.andThen_ok, List.map_toArray, List.map_cons, List.map_nil, hs, hx, hr]
  exact h v' w' h2 h3 h5

namespace Ints
/-- A struct of three lists of a call's own, each in a block of its own. -/
structure Tri3 (W : World) (b base : Nat) (F I O : List Int) (vF vI vO : Value) : Prop where
  blk : W.heap[b]? = some (.cells #[vF, vI, vO] 67 (0, 0))
  hb : b < base
  hs : base ≤ W.heap.size
  f : W.ownsRow base 3 1 vF F.length (ofL F)
  i : W.ownsRow base 3 1 vI I.length (ofL I)
  o : W.ownsRow base 3 1 vO O.length (ofL O)
  fi : ∀ g, vF.ownBlock = some g → vI.ownBlock ≠ some g
  fo : ∀ g, vF.ownBlock = some g → vO.ownBlock ≠ some g
  io : ∀ g, vI.ownBlock = some g → vO.ownBlock ≠ some g
section
variable {W w3 : World} {b base : Nat} {F I O : List Int} {vF vI vO v' : Value} {x : Int}
theorem Tri3.below {W' : World} (h : Tri3 W b base F I O vF vI vO) (hb : Below W.heap.size W W') : Tri3 W' b base F I O vF vI vO :=
  ⟨block_old h.blk hb, h.hb, Nat.le_trans h.hs hb.size, ownsRow_below h.f hb, ownsRow_below h.i hb, ownsRow_below h.o hb, h.fi, h.fo, h.io⟩
theorem Tri3.cells (h : Tri3 W b base F I O vF vI vO) : W.cell? ⟨b, 0, none⟩ = some vF ∧ W.cell? ⟨b, 1, none⟩ = some vI ∧ W.cell? ⟨b, 2, none⟩ = some vO := by
  refine ⟨?_, ?_, ?_⟩ <;> rw [Go.Joins.cell_of_block h.blk] <;> rfl
theorem Tri3.free (h : Tri3 W b base F I O vF vI vO) (j : Nat) : W.frozen? ⟨b, j, none⟩ = false := Go.Joins.unfrozen_of_block h.blk j
theorem Tri3.start (hblk : W.heap[b]? = some (.cells #[.slice none 0 0, .slice none 0 0, .slice none 0 0] 67 (0, 0))) (hb : b < base) (hs : base ≤ W.heap.size) : Tri3 W b base [] [] [] (.slice none 0 0) (.slice none 0 0) (.slice none 0 0) :=
  ⟨hblk, hb, hs, World.ownsRow_nil W base 3 1, World.ownsRow_nil W base 3 1, World.ownsRow_nil W base 3 1, fun g h => by simp [Value.ownBlock] at h, fun g h => by simp [Value.ownBlock] at h, fun g h => by simp [Value.ownBlock] at h⟩
theorem row_other {e e' : TypeId} {n m : Nat} {u v : Value} {xs ys : List Value} (hu : W.ownsRow base e 1 u n xs) (_hv : W.ownsRow base e' 1 v m ys) (hne : ∀ g, v.ownBlock = some g → u.ownBlock ≠ some g) (hg : W.grownBy w3 v.ownBlock) (hb : b < base) (y : Value) (j : Nat) :
    (w3.setCell ⟨b, j, none⟩ y).ownsRow base e 1 u n xs := by
  refine ownsRow_keep (ownsRow_keep hu (chg_of_grown hg) fun g hg1 e => hne g e hg1) (Chg.set1 w3 ⟨b, j, none⟩ y) fun g hg1 e => ?_
  have := (hu.lt g hg1).1
  simp only at e
  omega
theorem new_apart {e : TypeId} {n : Nat} {u v : Value} {xs : List Value} (hu : W.ownsRow base e 1 u n xs) (hne : ∀ g, v.ownBlock = some g → u.ownBlock ≠ some g) (hat : v'.ownBlock = v.ownBlock ∨ v'.ownBlock = some (W.heap.size + 1)) : ∀ g, v'.ownBlock = some g → u.ownBlock ≠ some g := by
  intro g hg e
  rcases hat with h | h
  · exact hne g (by rw [← h]; exact hg) e
  · rw [h] at hg
    have := (hu.lt g e).2
    simp at hg
    omega
theorem own_new {e : TypeId} {n : Nat} {xs : List Value} {j : Nat} (hown : w3.ownsRow base e 1 v' n xs) (hb : b < base) (y : Value) : (w3.setCell ⟨b, j, none⟩ y).ownsRow base e 1 v' n xs :=
  ownsRow_keep hown (Chg.set1 w3 ⟨b, j, none⟩ y) fun g hg e => by
    have := (hown.lt g hg).1
    simp only at e
    omega
theorem blk_put {v : Value} {cs : Array Value} {t : TypeId} {e : TypeId} {n : Nat} {xs : List Value} {j : Nat} (hblk : W.heap[b]? = some (.cells cs t (0, 0))) (hv : W.ownsRow base e 1 v n xs) (hg : W.grownBy w3 v.ownBlock) (hb : b < base) (y : Value) : (w3.setCell ⟨b, j, none⟩ y).heap[b]? = some (.cells (cs.setIfInBounds j y) t (0, 0)) :=
  heap_setCell_at y (block_keep hblk (chg_of_grown hg) fun e => by have := (hv.lt b e).1; omega)
theorem put_chg {v : Value} {e : TypeId} {n : Nat} {xs : List Value} {j : Nat} (hv : W.ownsRow base e 1 v n xs) (hg : W.grownBy w3 v.ownBlock) (y : Value) : Chg (fun g => g = b ∨ base ≤ g) W (w3.setCell ⟨b, j, none⟩ y) :=
  ((chg_of_grown hg).mono fun g _ e => .inr (hv.lt g e).1).trans ((Chg.set1 w3 ⟨b, j, none⟩ y).mono fun _ _ e => .inl e)
theorem ofL_snoc (l : List Int) (x : Int) : ofL (l ++ [x]) = ofL l ++ [.int .i64 x] := by simp [ofL]
theorem Tri3.pushF (h : Tri3 W b base F I O vF vI vO) (hown : w3.ownsRow base 3 1 v' (F.length + 1) (ofL F ++ [.int .i64 x])) (hg : W.grownBy w3 vF.ownBlock) (hat : v'.ownBlock = vF.ownBlock ∨ v'.ownBlock = some (W.heap.size + 1)) :
    Tri3 (w3.setCell ⟨b, 0, none⟩ v') b base (F ++ [x]) I O v' vI vO ∧ Chg (fun g => g = b ∨ base ≤ g) W (w3.setCell ⟨b, 0, none⟩ v') := by
  have hc := put_chg (b := b) (j := 0) h.f hg v'
  refine ⟨⟨?_, h.hb, Nat.le_trans h.hs hc.size, ?_, row_other h.i h.f h.fi hg h.hb _ _, row_other h.o h.f h.fo hg h.hb _ _, new_apart h.i h.fi hat, new_apart h.o h.fo hat, h.io⟩, hc⟩
  · rw [blk_put h.blk h.f hg h.hb v']; simp
  · rw [ofL_snoc, List.length_append, List.length_singleton]; exact own_new hown h.hb v'
theorem Tri3.pushI (h : Tri3 W b base F I O vF vI vO) (hown : w3.ownsRow base 3 1 v' (I.length + 1) (ofL I ++ [.int .i64 x])) (hg : W.grownBy w3 vI.ownBlock) (hat : v'.ownBlock = vI.ownBlock ∨ v'.ownBlock = some (W.heap.size + 1)) :
    Tri3 (w3.setCell ⟨b, 1, none⟩ v') b base F (I ++ [x]) O vF v' vO ∧ Chg (fun g => g = b ∨ base ≤ g) W (w3.setCell ⟨b, 1, none⟩ v') := by
  have hc := put_chg (b := b) (j := 1) h.i hg v'
  refine ⟨⟨?_, h.hb, Nat.le_trans h.hs hc.size, row_other h.f h.i (fun g e e2 => h.fi g e2 e) hg h.hb _ _, ?_, row_other h.o h.i h.io hg h.hb _ _, fun g e e2 => new_apart h.f (v := vI) (fun g e e2 => h.fi g e2 e) hat g e2 e, h.fo, new_apart h.o h.io hat⟩, hc⟩
  · rw [blk_put h.blk h.i hg h.hb v']; simp
  · rw [ofL_snoc, List.length_append, List.length_singleton]; exact own_new hown h.hb v'
theorem Tri3.pushO (h : Tri3 W b base F I O vF vI vO) (hown : w3.ownsRow base 3 1 v' (O.length + 1) (ofL O ++ [.int .i64 x])) (hg : W.grownBy w3 vO.ownBlock) (hat : v'.ownBlock = vO.ownBlock ∨ v'.ownBlock = some (W.heap.size + 1)) :
    Tri3 (w3.setCell ⟨b, 2, none⟩ v') b base F I (O ++ [x]) vF vI v' ∧ Chg (fun g => g = b ∨ base ≤ g) W (w3.setCell ⟨b, 2, none⟩ v') := by
  have hc := put_chg (b := b) (j := 2) h.o hg v'
  refine ⟨⟨?_, h.hb, Nat.le_trans h.hs hc.size, row_other h.f h.o (fun g e e2 => h.fo g e2 e) hg h.hb _ _, row_other h.i h.o (fun g e e2 => h.io g e2 e) hg h.hb _ _, ?_, h.fi, fun g e e2 => new_apart h.f (v := vO) (fun g e e2 => h.fo g e2 e) hat g e2 e, fun g e e2 => new_apart h.i (v := vO) (fun g e e2 => h.io g e2 e) hat g e2 e⟩, hc⟩
  · rw [blk_put h.blk h.o hg h.hb v']; simp
  · rw [ofL_snoc, List.length_append, List.length_singleton]; exact own_new hown h.hb v'
theorem Tri3.midF (h : Tri3 W b base F I O vF vI vO) (hg : W.grownBy w3 vF.ownBlock) : w3.cell? ⟨b, 0, none⟩ = some vF ∧ w3.frozen? ⟨b, 0, none⟩ = false := by
  have hk := block_keep h.blk (chg_of_grown hg) (fun e => by have := (h.f.lt b e).1; have := h.hb; omega)
  exact ⟨(Go.Joins.cell_of_block hk 0).trans rfl, Go.Joins.unfrozen_of_block hk 0⟩
theorem Tri3.midI (h : Tri3 W b base F I O vF vI vO) (hg : W.grownBy w3 vI.ownBlock) : w3.cell? ⟨b, 1, none⟩ = some vI ∧ w3.frozen? ⟨b, 1, none⟩ = false := by
  have hk := block_keep h.blk (chg_of_grown hg) (fun e => by have := (h.i.lt b e).1; have := h.hb; omega)
  exact ⟨(Go.Joins.cell_of_block hk 1).trans rfl, Go.Joins.unfrozen_of_block hk 1⟩
theorem Tri3.midO (h : Tri3 W b base F I O vF vI vO) (hg : W.grownBy w3 vO.ownBlock) : w3.cell? ⟨b, 2, none⟩ = some vO ∧ w3.frozen? ⟨b, 2, none⟩ = false := by
  have hk := block_keep h.blk (chg_of_grown hg) (fun e => by have := (h.o.lt b e).1; have := h.hb; omega)
  exact ⟨(Go.Joins.cell_of_block hk 2).trans rfl, Go.Joins.unfrozen_of_block hk 2⟩
/-- One number of a list of a call's own. -/
theorem row_at {base n : Nat} {v : Value} {l : List Int} (h : W.ownsRow base 3 1 v n (ofL l)) {j : Nat} (hj : j < l.length) : ∃ g cap, v = .slice (some ⟨g, 0, none⟩) n cap ∧ W.cell? ⟨g, j, none⟩ = some (.int .i64 (l[j]?.getD 0)) := by
  have hn : n = l.length := by have := h.1; rw [ofL_length] at this; omega
  obtain ⟨g, cap, e, _, _, hc⟩ := row_some h (by omega)
  refine ⟨g, cap, e, hc j _ ?_⟩
  simp [ofL, hj]
end
end Ints
end Go.Proofs.Ytoegbphkheohoaa
