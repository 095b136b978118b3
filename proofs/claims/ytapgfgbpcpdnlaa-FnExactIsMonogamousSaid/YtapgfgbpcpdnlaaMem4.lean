/- Rows gathered into a field of a struct that lies in a block of the call's own: 'out.Rows = append(out.Rows, row)'. -/
import Derived.Test.YtapgfgbpcpdnlaaClones
import Derived.Deep.RegionHeld3
namespace Go.Proofs.Ytapgfgbpcpdnlaa
open Go.RowKit

/-- 'append(s, u)' for an element of one cell, as one step of a region that draws its order. -/
theorem step_append_one {P : Program} {w : World} {ops : Array Oper} {o : Oper} {a : Act} {K : Act → World → Prop} {Q : Exit → Act → World → Prop} {E : Prop} (hgd : o.guard = none) (s x : Operand) (t : TypeId)
    (ho : o.op = .call { callee := .builtin .append, args := #[s, x], argTypes := #[t, t] })
    (base : Nat) (e : TypeId) (z : Value) (bytes : Nat) (ht : P.underlying t = some (.slice e)) (hinfo : (P.info? e).map (fun i => (i.zero, i.size, i.bytes)) = some (some z, 1, bytes))
    (hzs : z.cells.size = 1) (v : Value) (n : Nat) (xs : List Value) (u : Value)
    (hown : w.ownsRow base e 1 v n xs) (hs : a.eval s = v) (hx : a.eval x = .slice (some ⟨w.heap.size, 0, none⟩) 1 1) (h1 : u.oneCell' = true) (h63 : n + 1 ≤ maxLen) (hbytes : (n + 1) * bytes ≤ 140737488355328) (hbase : base ≤ w.heap.size)
    (h : ∀ v' w', w'.ownsRow base e 1 v' (n + 1) (xs ++ [u]) → w.grownBy w' v.ownBlock → K (a.put o.dst v') w') :
    if Region.wanted o (yielded ops a.tmps) = true then Oper.wp P o a (w.alloc (.cells #[u] e)) K Q else E := by
  have hw : Region.wanted o (yielded ops a.tmps) = true := by simp [Region.wanted, hgd]
  rw [if_pos hw]
  obtain ⟨v', w', hr, h2, h3⟩ := run_append_reads (P := P) (w.alloc (.cells #[u] e)) base t o.type e z 1 bytes ht hinfo hzs (by decide) v n xs (hown.alloc _) (.slice (some ⟨w.heap.size, 0, none⟩) 1 1) 1 [u] (reads_new_one w u e) (by intro y hy; simp at hy; subst hy; exact h1) h63 hbytes (by simp; omega)
  unfold Oper.wp execOp
  simp only [ho, resolve, invoke, builtin, Sem.run_bind, Sem.run_pure, Result.andThen_ok, List.map_toArray, List.map_cons, List.map_nil, hs, hx, hr]
  refine h v' w' h2 ⟨h3.os, h3.tape, h3.output, Nat.le_trans (by simp) h3.size, fun k hk hne => ?_⟩
  rw [h3.block k (by simp; omega) hne]
  exact Below.heap_alloc w _ k hk

theorem ownsRow_form {w : World} {base : Nat} {e : TypeId} {size n : Nat} {v : Value} {xs : List Value} (h : w.ownsRow base e size v n xs) : ∃ a c, v = .slice a n c := by
  rcases h.2 with ⟨rfl, rfl⟩ | ⟨g, cap, cur, rfl, _⟩
  · exact ⟨_, _, rfl⟩
  · exact ⟨_, _, rfl⟩
namespace Ints
/-- What a struct gathers: k rows in its field; the slice's block and the rows' from 'base' on, and none of them the struct's own block. -/
structure Gather (w1 : World) (b base : Nat) (L : List (List Int)) (k : Nat) (o : Value) (rs : List Value) (W : World) : Prop where
  own : W.ownsRow base 23 1 o k rs
  off : o.ownBlock ≠ some b
  rows : RowsOwn (fun g => base ≤ g ∧ g ≠ b) W rs L
  chg : Chg (fun g => g = b ∨ base ≤ g) w1 W
  blk : ∃ cs t fr, W.heap[b]? = some (.cells cs t fr) ∧ t ≠ 23
  base : base ≤ w1.heap.size
section
variable {w1 W w2 w3 : World} {b base k : Nat} {L : List (List Int)} {o v o' : Value} {rs : List Value} {l : List Int}
theorem Gather.lt (h : Gather w1 b base L k o rs W) : base ≤ W.heap.size := Nat.le_trans h.base h.chg.size
theorem Gather.ltb (h : Gather w1 b base L k o rs W) : b < W.heap.size := by
  obtain ⟨cs, t, fr, hb, _⟩ := h.blk
  exact (Array.getElem?_eq_some_iff.1 hb).1
theorem Gather.blk2 (h : Gather w1 b base L k o rs W) (hb2 : Below W.heap.size W w2) (hg : w2.grownBy w3 o.ownBlock) : ∃ cs t fr, w3.heap[b]? = some (.cells cs t fr) ∧ t ≠ 23 := by
  have hlt := h.ltb
  obtain ⟨cs, t, fr, hb, ht⟩ := h.blk
  refine ⟨cs, t, fr, ?_, ht⟩
  rw [(chg_of_grown hg).block b (Nat.lt_of_lt_of_le hlt hb2.size) h.off, hb2.block b hlt]
  exact hb

/-- The row in new memory, the append, the store into the field. -/
theorem Gather.push (h : Gather w1 b base L k o rs W)
    (ho : Owns w2 3 1 v l.length (ofL l)) (hf : blkIn (W.heap.size ≤ ·) v (ofL l)) (hb2 : Below W.heap.size W w2) (hown3 : w3.ownsRow base 23 1 o' (k + 1) (rs ++ [v])) (hg : w2.grownBy w3 o.ownBlock) (i : Nat) :
    Gather w1 b base (L ++ [l]) (k + 1) o' (rs ++ [v]) (w3.setCell ⟨b, i, none⟩ o') := by
  have hlt := h.lt
  have hltb := h.ltb
  obtain ⟨cs, t, fr, hb3, ht⟩ := h.blk2 hb2 hg
  have hp := push_row (w := W) (w0 := W) h.own h.rows (Below.refl _ _) (fun g hg => ⟨Nat.le_trans h.lt hg, by omega⟩) h.lt ho hf hb2 hg
  have hc3 : Chg (fun g => g = b) w3 (w3.setCell ⟨b, i, none⟩ o') := Chg.set1 w3 ⟨b, i, none⟩ o'
  have hown2 := ownsRow_below h.own hb2
  have hoff : o'.ownBlock ≠ some b := by
    intro e
    rcases hown3.2 with ⟨rfl, _⟩ | ⟨g, cap, cur, rfl, _, hg3, _⟩
    · simp [Value.ownBlock] at e
    · simp [Value.ownBlock] at e
      subst e
      rw [hb3] at hg3
      simp at hg3
      exact ht hg3.2.1
  refine ⟨?_, hoff, hp.1.chg hc3 fun g hg e => hg.2 e, ?_, ⟨_, t, fr, heap_setCell_at o' hb3, ht⟩, h.base⟩
  · refine ownsRow_keep hown3 hc3 fun g hg e => ?_
    subst e
    exact hoff hg
  · refine (h.chg.trans_new (Chg.trans (S := fun g => base ≤ g) ((Below.chg hb2 _).mono fun _ _ h => h) ((chg_of_grown hg).mono fun g _ e => (hown2.lt g e).1)) fun g hg hbg => .inr hbg).trans (hc3.mono fun g _ e => .inl e)
/-- What lies before 'base' and is not the struct's own is kept. -/
theorem Gather.keep (h : Gather w1 b base L k o rs W) {p : Addr} {u : Value} (hp : w1.cell? p = some u) (hlt : p.block < base) (hne : p.block ≠ b) : W.cell? p = some u :=
  h.chg.keep hp fun e => by rcases e with e | e <;> omega
theorem Gather.keepF (h : Gather w1 b base L k o rs W) {p : Addr} (hp : w1.frozen? p = false) (hlt : p.block < base) (hne : p.block ≠ b) : W.frozen? p = false :=
  h.chg.keepF hp (Nat.lt_of_lt_of_le hlt h.base) fun e => by rcases e with e | e <;> omega
theorem Gather.below {B : Nat} (h : Gather w1 b base L k o rs W) (hB : B ≤ b) (hB2 : B ≤ base) : Below B w1 W :=
  h.chg.below (Nat.le_trans hB2 h.base) fun g e => by rcases e with e | e <;> omega
theorem Gather.form (h : Gather w1 b base L k o rs W) : ∃ a c, o = .slice a k c := ownsRow_form h.own
/-- The struct's own cells behind a call and an append. -/
theorem Gather.after (h : Gather w1 b base L k o rs W) (hb2 : Below W.heap.size W w2) (hg : w2.grownBy w3 o.ownBlock) {i : Nat} {u : Value} (hc : W.cell? ⟨b, i, none⟩ = some u) : w3.cell? ⟨b, i, none⟩ = some u :=
  (chg_of_grown hg).keep (cell_old hb2 hc) h.off
theorem Gather.afterF (h : Gather w1 b base L k o rs W) (hb2 : Below W.heap.size W w2) (hg : w2.grownBy w3 o.ownBlock) {i : Nat} (hc : W.frozen? ⟨b, i, none⟩ = false) : w3.frozen? ⟨b, i, none⟩ = false :=
  (chg_of_grown hg).keepF (frozen_old hb2 h.ltb hc) (Nat.lt_of_lt_of_le h.ltb hb2.size) h.off
/-- At the end: the gathered rows as a matrix of the call's own. -/
theorem Gather.owns (h : Gather w1 b base L k o rs W) (hk : L.length = k) (hm : k ≤ maxLen) : OwnsM (fun g => base ≤ g ∧ g ≠ b) W o L := by
  subst hk
  have h1 := owns_of_row h.own hm
  exact ⟨rs, h1.1, fun g hx hg => ⟨h1.2 g hx hg, fun e => h.off (by rw [hg, e])⟩, h.rows⟩
theorem Gather.start (h1 : w1.ownsRow base 23 1 o 0 []) (h2 : o.ownBlock ≠ some b) (h3 : ∃ cs t fr, w1.heap[b]? = some (.cells cs t fr) ∧ t ≠ 23) (h4 : base ≤ w1.heap.size) : Gather w1 b base [] 0 o [] w1 :=
  ⟨h1, h2, RowsOwn.nil _ _, Chg.refl _ _, h3, h4⟩
end
end Ints
end Go.Proofs.Ytapgfgbpcpdnlaa
