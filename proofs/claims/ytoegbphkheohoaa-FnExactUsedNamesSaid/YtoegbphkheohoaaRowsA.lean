/- Slices in memory: what a slice value reads as, in which block it lies, what a store and a new block do to it. No program in sight. The laws' own helpers over lists of integers: comparing, marking, looking whether the marks still stand. Lists of lists in memory, and the laws' own helpers over them. -/
import Derived.WalkKit
import Derived.Deep.OwnRows
import Derived.Deep.Draws
import Derived.Lib.Hide
import Derived.Test.YtoegbphkheohoaaRows
import Derived.WalkSpells
import Derived.WalkLawsBesides
import Derived.Deep.QuietTactic
import Derived.BigQuiet
import Derived.Deep.RegionHeld3
namespace Go.Proofs.Ytoegbphkheohoaa
open Go.RowKit

/-- Between w and w' at most blocks that S names, and new ones, have turned. -/
structure Chg (S : Nat → Prop) (w w' : World) : Prop where
  os : w'.os = w.os
  tape : w'.tape = w.tape
  output : w'.output = w.output
  size : w.heap.size ≤ w'.heap.size
  block : ∀ k, k < w.heap.size → ¬ S k → w'.heap[k]? = w.heap[k]?

namespace Chg
variable {S T : Nat → Prop} {w w' w'' : World}
theorem refl (S : Nat → Prop) (w : World) : Chg S w w := ⟨rfl, rfl, rfl, Nat.le_refl _, fun _ _ _ => rfl⟩
theorem trans (h : Chg S w w') (k : Chg S w' w'') : Chg S w w'' :=
  ⟨k.os.trans h.os, k.tape.trans h.tape, k.output.trans h.output, Nat.le_trans h.size k.size, fun i hi hs => (k.block i (Nat.lt_of_lt_of_le hi h.size) hs).trans (h.block i hi hs)⟩
theorem mono (h : Chg S w w') (hST : ∀ k, k < w.heap.size → S k → T k) : Chg T w w' := ⟨h.os, h.tape, h.output, h.size, fun k hk ht => h.block k hk fun hs => ht (hST k hk hs)⟩
/-- A second step that turns what the first one made besides. -/
theorem trans_new (h : Chg S w w') (k : Chg T w' w'') (hT : ∀ i, i < w.heap.size → T i → S i) : Chg S w w'' :=
  ⟨k.os.trans h.os, k.tape.trans h.tape, k.output.trans h.output, Nat.le_trans h.size k.size, fun i hi hs => (k.block i (Nat.lt_of_lt_of_le hi h.size) fun ht => hs (hT i hi ht)).trans (h.block i hi hs)⟩
theorem drew (h : Chg S w w') : Chg S w w'.drew := ⟨h.os, h.tape, h.output, h.size, h.block⟩
theorem drewN (h : Chg S w w') (n : Nat) : Chg S w (w'.drewN n) := ⟨h.os, h.tape, h.output, h.size, h.block⟩
theorem alloc (h : Chg S w w') (o : Obj) : Chg S w (w'.alloc o) :=
  h.trans ⟨rfl, rfl, rfl, by simp, fun k hk _ => Below.heap_alloc _ _ _ hk⟩
theorem setCell (h : Chg S w w') {p : Addr} (hp : p.block < w.heap.size → S p.block) (u : Value) : Chg S w (w'.setCell p u) :=
  h.trans_new (T := fun k => k = p.block) ⟨rfl, rfl, rfl, by simp [World.setCell], fun k _ hs => Below.heap_setCell _ _ _ _ hs⟩ (fun i hi e => by subst e; exact hp hi)
theorem grown (h : Chg S w w') {row : Option Nat} (hg : w'.grownBy w'' row) (hr : ∀ k, row = some k → k < w.heap.size → S k) : Chg S w w'' :=
  h.trans_new (T := fun k => row = some k) ⟨hg.os, hg.tape, hg.output, hg.size, fun k hk hs => hg.block k hk fun e => hs e.symm⟩ (fun i hi e => hr i e hi)
theorem of_below {B : Nat} (h : Below B w w') (hS : ∀ k, k < w.heap.size → B ≤ k → S k) : Chg S w w' :=
  ⟨h.os, h.tape, h.output, h.size, fun k hk hs => h.block k (Nat.lt_of_not_le fun e => hs (hS k hk e))⟩
theorem below {B : Nat} (h : Chg S w w') (hB : B ≤ w.heap.size) (hS : ∀ k, S k → B ≤ k) : Below B w w' :=
  ⟨h.os, h.tape, h.output, h.size, fun k hk => h.block k (Nat.lt_of_lt_of_le hk hB) fun hs => Nat.not_le.2 hk (hS k hs)⟩
theorem cell (h : Chg S w w') {p : Addr} (hlt : p.block < w.heap.size) (hp : ¬ S p.block) : w'.cell? p = w.cell? p := World.cell?_of_block (w := w) (h.block p.block hlt hp)
theorem frozen (h : Chg S w w') {p : Addr} (hlt : p.block < w.heap.size) (hp : ¬ S p.block) : w'.frozen? p = w.frozen? p := World.frozen?_of_block (w := w) (h.block p.block hlt hp)
end Chg

theorem Below.chg {w w' : World} (h : Below w.heap.size w w') (S : Nat → Prop) : Chg S w w' := Chg.of_below h fun _ hk e => absurd hk (Nat.not_lt.2 e)
theorem Below.drewN' {B : Nat} {a w : World} (h : Below B a w) (n : Nat) : Below B a (w.drewN n) := ⟨h.os, h.tape, h.output, h.size, h.block⟩

theorem lt_of_cell {w : World} {p : Addr} {v : Value} (h : w.cell? p = some v) : p.block < w.heap.size := World.block_lt_of_cell? w p h

/-- A slice value of n elements ('size' cells each) that reads as the cells xs. -/
def Reads (w : World) (size : Nat) (v : Value) (n : Nat) (xs : List Value) : Prop :=
  xs.length = n * size ∧ ∃ a cap, v = .slice a n cap ∧ n ≤ cap ∧ cap ≤ maxLen ∧ (0 < xs.length → ∃ g off, a = some ⟨g, off, none⟩ ∧ ∀ j, j < xs.length → w.cell? ⟨g, off + j, none⟩ = some (xs[j]?.getD undef))

/-- The same, in a block of the call's own: it may be written. -/
def Owns (w : World) (t : TypeId) (size : Nat) (v : Value) (n : Nat) (xs : List Value) : Prop :=
  xs.length = n * size ∧ ∃ a cap, v = .slice a n cap ∧ n ≤ cap ∧ cap ≤ maxLen ∧ (0 < xs.length → ∃ g off cs, a = some ⟨g, off, none⟩ ∧ w.heap[g]? = some (.cells cs t (0, 0)) ∧ ∀ j, j < xs.length → cs[off + j]? = some (xs[j]?.getD undef))

/-- The block in which a slice with at least one cell lies. -/
def blkIn (S : Nat → Prop) (v : Value) (xs : List Value) : Prop := ∀ g, xs ≠ [] → v.ownBlock = some g → S g

theorem blkIn.mono {S T : Nat → Prop} {v : Value} {xs : List Value} (h : blkIn S v xs) (hST : ∀ g, S g → T g) : blkIn T v xs := fun g hx hg => hST g (h g hx hg)

theorem Owns.reads {w : World} {t : TypeId} {size n : Nat} {v : Value} {xs : List Value} (h : Owns w t size v n xs) : Reads w size v n xs := by
  obtain ⟨h1, a, cap, rfl, h2, h3, h4⟩ := h
  refine ⟨h1, a, cap, rfl, h2, h3, fun hp => ?_⟩
  obtain ⟨g, off, cs, rfl, hg, hc⟩ := h4 hp
  refine ⟨g, off, rfl, fun j hj => ?_⟩
  rw [cell_of_row w g (off + j) cs t (0, 0) hg]
  exact hc j hj

theorem Owns.form {w : World} {t : TypeId} {size n : Nat} {v : Value} {xs : List Value} (h : Owns w t size v n xs) : ∃ a cap, v = .slice a n cap := by
  obtain ⟨_, a, cap, rfl, _⟩ := h
  exact ⟨a, cap, rfl⟩
theorem Reads.form {w : World} {size n : Nat} {v : Value} {xs : List Value} (h : Reads w size v n xs) : ∃ a cap, v = .slice a n cap := by
  obtain ⟨_, a, cap, rfl, _⟩ := h
  exact ⟨a, cap, rfl⟩

theorem Reads.lt {w : World} {size n : Nat} {v : Value} {xs : List Value} (h : Reads w size v n xs) : blkIn (· < w.heap.size) v xs := by
  obtain ⟨h1, a, cap, rfl, h2, h3, h4⟩ := h
  intro g hx hg
  obtain ⟨g', off, rfl, hc⟩ := h4 (List.length_pos_iff.2 hx)
  simp [Value.ownBlock] at hg
  subst hg
  exact lt_of_cell (hc 0 (List.length_pos_iff.2 hx))

theorem Reads.chg {S : Nat → Prop} {w w' : World} {size n : Nat} {v : Value} {xs : List Value} (h : Reads w size v n xs) (hc : Chg S w w') (hS : blkIn (fun g => ¬ S g) v xs) : Reads w' size v n xs := by
  have hlt := h.lt
  obtain ⟨h1, a, cap, rfl, h2, h3, h4⟩ := h
  refine ⟨h1, a, cap, rfl, h2, h3, fun hp => ?_⟩
  obtain ⟨g, off, rfl, hcell⟩ := h4 hp
  have hx := List.length_pos_iff.1 hp
  refine ⟨g, off, rfl, fun j hj => ?_⟩
  rw [hc.cell (p := ⟨g, off + j, none⟩) (hlt g hx rfl) (hS g hx rfl)]
  exact hcell j hj
theorem Reads.below {w w' : World} {size n : Nat} {v : Value} {xs : List Value} (h : Reads w size v n xs) (hb : Below w.heap.size w w') : Reads w' size v n xs :=
  h.chg (S := fun _ => False) (Below.chg hb _) (fun _ _ _ => id)

theorem Owns.chg {S : Nat → Prop} {w w' : World} {t : TypeId} {size n : Nat} {v : Value} {xs : List Value} (h : Owns w t size v n xs) (hc : Chg S w w') (hS : blkIn (fun g => ¬ S g) v xs) : Owns w' t size v n xs := by
  have hlt := h.reads.lt
  obtain ⟨h1, a, cap, rfl, h2, h3, h4⟩ := h
  refine ⟨h1, a, cap, rfl, h2, h3, fun hp => ?_⟩
  obtain ⟨g, off, cs, rfl, hg, hcell⟩ := h4 hp
  have hx := List.length_pos_iff.1 hp
  exact ⟨g, off, cs, rfl, by rw [hc.block g (hlt g hx rfl) (hS g hx rfl)]; exact hg, hcell⟩
theorem Owns.below {w w' : World} {t : TypeId} {size n : Nat} {v : Value} {xs : List Value} (h : Owns w t size v n xs) (hb : Below w.heap.size w w') : Owns w' t size v n xs :=
  h.chg (S := fun _ => False) (Below.chg hb _) (fun _ _ _ => id)

/-- What a call gathered by append. -/
theorem owns_of_row {w : World} {base : Nat} {e : TypeId} {size n : Nat} {v : Value} {xs : List Value} (h : w.ownsRow base e size v n xs) (hn : n ≤ maxLen) : Owns w e size v n xs ∧ blkIn (base ≤ ·) v xs := by
  obtain ⟨h1, h2⟩ := h
  rcases h2 with ⟨rfl, rfl⟩ | ⟨g, cap, cur, rfl, hb, hg, hc, hm, hs, ht⟩
  · refine ⟨⟨h1, none, 0, rfl, Nat.le_refl _, Nat.zero_le _, fun hp => ?_⟩, fun g hx hg => by simp [Value.ownBlock] at hg⟩
    simp at h1; subst h1; simp at hp
  · refine ⟨⟨h1, _, cap, rfl, hc, hm, fun hp => ⟨g, 0, cur, rfl, hg, fun j hj => ?_⟩⟩, fun g' hx hg' => by simp [Value.ownBlock] at hg'; omega⟩
    have hj' : j < n * size := by omega
    have : xs[j]? = cur[j]? := by
      rw [← ht, List.getElem?_take, if_pos hj']; simp
    have hlt : j < xs.length := hj
    rw [Nat.zero_add, ← this, List.getElem?_eq_getElem hlt]
    rfl

/-- A slice that lies in a block of another element type is not touched by what touches this one. -/
theorem Owns.apart {w : World} {t t' : TypeId} {size size' n n' : Nat} {v v' : Value} {xs xs' : List Value} (h : Owns w t size v n xs) (h' : Owns w t' size' v' n' xs') (ht : t ≠ t') (hx : xs ≠ []) (hx' : xs' ≠ []) : v.ownBlock ≠ v'.ownBlock := by
  obtain ⟨_, a, cap, rfl, _, _, h4⟩ := h
  obtain ⟨_, a', cap', rfl, _, _, h4'⟩ := h'
  obtain ⟨g, off, cs, rfl, hg, _⟩ := h4 (List.length_pos_iff.2 hx)
  obtain ⟨g', off', cs', rfl, hg', _⟩ := h4' (List.length_pos_iff.2 hx')
  intro e
  simp [Value.ownBlock] at e
  subst e
  rw [hg] at hg'
  simp at hg'
  exact ht hg'.2
theorem Owns.apartRow {w : World} {base : Nat} {t t' : TypeId} {size size' n n' : Nat} {v v' : Value} {xs xs' : List Value} (h : Owns w t size v n xs) (h' : w.ownsRow base t' size' v' n' xs') (ht : t ≠ t') : blkIn (fun g => v'.ownBlock ≠ some g) v xs := by
  obtain ⟨_, a, cap, rfl, _, _, h4⟩ := h
  intro g hx hg e
  obtain ⟨g1, off, cs, rfl, hg1, _⟩ := h4 (List.length_pos_iff.2 hx)
  simp [Value.ownBlock] at hg
  subst hg
  rcases h'.2 with ⟨rfl, _⟩ | ⟨g2, cap2, cur2, rfl, _, hg2, _⟩
  · simp [Value.ownBlock] at e
  · simp [Value.ownBlock] at e
    subst e
    rw [hg1] at hg2
    simp at hg2
    exact ht hg2.2

theorem chg_of_grown {w w' : World} {v : Value} (h : w.grownBy w' v.ownBlock) : Chg (fun g => v.ownBlock = some g) w w' :=
  ⟨h.os, h.tape, h.output, h.size, fun k hk hs => h.block k hk fun e => hs e.symm⟩

/-- A store into an owned slice. -/
theorem heap_setCell_at {w : World} {g i : Nat} {cs : Array Value} {t : TypeId} {fr : Nat × Nat} (u : Value) (hg : w.heap[g]? = some (.cells cs t fr)) :
    (w.setCell ⟨g, i, none⟩ u).heap[g]? = some (.cells (cs.setIfInBounds i u) t fr) := by
  have hlt := (Array.getElem?_eq_some_iff.1 hg).1
  have h' : w.heap[g] = .cells cs t fr := by simpa [Array.getElem?_eq_getElem hlt] using hg
  show (w.heap.modify g _)[g]? = _
  rw [Array.getElem?_eq_getElem (by simpa using hlt), Array.getElem_modify_self, h']
  rfl

section
variable {P : Program} (w : World)

/-- Append of whatever slice that can be read onto a slice of the call's own. -/
theorem run_append_reads (base : Nat) (t ty e : TypeId) (z : Value) (size bytes : Nat) (ht : P.underlying t = some (.slice e)) (hinfo : (P.info? e).map (fun i => (i.zero, i.size, i.bytes)) = some (some z, size, bytes))
    (hzs : z.cells.size = size) (hsz : 0 < size) (v : Value) (n : Nat) (xs : List Value) (hown : w.ownsRow base e size v n xs)
    (sv : Value) (m : Nat) (news : List Value) (hsrc : Reads w size sv m news) (h1 : ∀ u ∈ news, u.oneCell' = true)
    (h63 : n + m ≤ maxLen) (hbytes : (n + m) * bytes ≤ 140737488355328) (hbase : base ≤ w.heap.size) :
    ∃ v' w', (Builtin.append_ #[t, t] ty #[v, sv]).run P w = .ok v' w' ∧ w'.ownsRow base e size v' (n + m) (xs ++ news) ∧ w.grownBy w' v.ownBlock := by
  obtain ⟨i, hi, hz, hsize, hby⟩ := info_parts hinfo
  obtain ⟨hl, a, c, rfl, hmc, hcm, hcell⟩ := hsrc
  cases a with
  | some ad =>
    have hnews : ∀ j u, news[j]? = some u → w.cell? (ad.add j) = some u := by
      intro j u hj
      have hjl := (List.getElem?_eq_some_iff.1 hj).1
      obtain ⟨g, off, e1, h2⟩ := hcell (by omega)
      obtain rfl := Option.some.inj e1
      have hadd : (⟨g, off, none⟩ : Addr).add j = ⟨g, off + j, none⟩ := by unfold Addr.add; split <;> simp_all
      rw [hadd, h2 j hjl, hj]; rfl
    obtain ⟨v', w', hr, h2, h3, _⟩ := run_append_own (P := P) w base t ty e i z size bytes ht hi hz hsize hby hzs hsz v n xs hown ad m c news hl hnews h1 h63 hbytes hbase
    exact ⟨v', w', hr, h2, h3⟩
  | none =>
    have hm : m = 0 := by
      rcases Nat.eq_zero_or_pos m with h | h
      · exact h
      · obtain ⟨g, off, e1, _⟩ := hcell (by rw [hl]; exact Nat.mul_pos h hsz)
        cases e1
    subst hm
    have hn : news = [] := List.eq_nil_of_length_eq_zero (by simpa using hl)
    subst hn
    refine ⟨v, w, ?_, by simpa using hown, World.grownBy.refl w _⟩
    rcases hown.2 with ⟨rfl, rfl⟩ | ⟨g, cap, cur, rfl, _, _, hnc, _⟩
    · simp [Builtin.append_, run_underlying ht, sizeOf, typeInfo, hi, Builtin.lenOf, Builtin.firstCells]
    · simp [Builtin.append_, run_underlying ht, sizeOf, typeInfo, hi, Builtin.lenOf, Builtin.firstCells, hnc, storeCells]

theorem wpList_append_reads {ops : Array Oper} {rest : List Oper} {o : Oper} {a : Act} {Q : Exit → Act → World → Prop} (hgd : o.guard = none) (s x : Operand) (t : TypeId)
    (ho : o.op = .call { callee := .builtin .append, args := #[s, x], argTypes := #[t, t] })
    (base : Nat) (e : TypeId) (z : Value) (size bytes : Nat) (ht : P.underlying t = some (.slice e)) (hinfo : (P.info? e).map (fun i => (i.zero, i.size, i.bytes)) = some (some z, size, bytes))
    (hzs : z.cells.size = size) (hsz : 0 < size) (v : Value) (n : Nat) (xs : List Value) (hown : w.ownsRow base e size v n xs)
    (sv : Value) (m : Nat) (news : List Value) (hsrc : Reads w size sv m news) (hs : a.eval s = v) (hx : a.eval x = sv) (h1 : ∀ u ∈ news, u.oneCell' = true)
    (h63 : n + m ≤ maxLen) (hbytes : (n + m) * bytes ≤ 140737488355328) (hbase : base ≤ w.heap.size)
    (h : ∀ v' w', w'.ownsRow base e size v' (n + m) (xs ++ news) → w.grownBy w' v.ownBlock → wpList P ops Q rest (a.put o.dst v') w') : wpList P ops Q (o :: rest) a w := by
  refine wpList_plain hgd fun K hK => ?_
  obtain ⟨v', w', hr, h2, h3⟩ := run_append_reads (P := P) w base t o.type e z size bytes ht hinfo hzs hsz v n xs hown sv m news hsrc h1 h63 hbytes hbase
  unfold Oper.wp execOp
  simp only [ho, resolve, invoke, builtin, Sem.run_bind, Sem.run_pure, Result.andThen_ok, List.map_toArray, List.map_cons, List.map_nil, hs, hx, hr]
  exact hK _ _ (h v' w' h2 h3)

theorem reads_new_one (w : World) (u : Value) (t : TypeId) : Reads (w.alloc (.cells #[u] t)) 1 (.slice (some ⟨w.heap.size, 0, none⟩) 1 1) 1 [u] := by
  refine ⟨rfl, _, 1, rfl, Nat.le_refl _, by unfold maxLen; omega, fun _ => ⟨w.heap.size, 0, rfl, fun j hj => ?_⟩⟩
  obtain rfl : j = 0 := by simp at hj; exact hj
  rw [cell_of_row (w.alloc _) w.heap.size (0 + 0) #[u] t (0, 0) (heap_alloc_new w _)]
  rfl

/-- 'append(s, u)' for an element of one cell: the one cell that Go lays for it stands at the heap's end. -/
theorem wpList_append_one {ops : Array Oper} {rest : List Oper} {o : Oper} {a : Act} {Q : Exit → Act → World → Prop} (hgd : o.guard = none) (s x : Operand) (t : TypeId)
    (ho : o.op = .call { callee := .builtin .append, args := #[s, x], argTypes := #[t, t] })
    (base : Nat) (e : TypeId) (z : Value) (bytes : Nat) (ht : P.underlying t = some (.slice e)) (hinfo : (P.info? e).map (fun i => (i.zero, i.size, i.bytes)) = some (some z, 1, bytes))
    (hzs : z.cells.size = 1) (v : Value) (n : Nat) (xs : List Value) (u : Value)
    (hown : w.ownsRow base e 1 v n xs) (hs : a.eval s = v) (hx : a.eval x = .slice (some ⟨w.heap.size, 0, none⟩) 1 1) (h1 : u.oneCell' = true) (h63 : n + 1 ≤ maxLen) (hbytes : (n + 1) * bytes ≤ 140737488355328) (hbase : base ≤ w.heap.size)
    (h : ∀ v' w', w'.ownsRow base e 1 v' (n + 1) (xs ++ [u]) → w.grownBy w' v.ownBlock → wpList P ops Q rest (a.put o.dst v') w') : wpList P ops Q (o :: rest) a (w.alloc (.cells #[u] e)) := by
  refine wpList_append_reads (w.alloc (.cells #[u] e)) hgd s x t ho base e z 1 bytes ht hinfo hzs (by decide) v n xs (hown.alloc _) _ 1 [u] (reads_new_one w u e) hs hx (by intro y hy; simp at hy; subst hy; exact h1) h63 hbytes (by simp; omega) ?_
  intro v' w' h2 h3
  refine h v' w' h2 ⟨h3.os, h3.tape, h3.output, Nat.le_trans (by simp) h3.size, fun k hk hne => ?_⟩
  rw [h3.block k (by simp; omega) hne]
  exact Below.heap_alloc w _ k hk

end

theorem Below.grownRow {B : Nat} {a w w' : World} {v : Value} {e : TypeId} {size n : Nat} {xs : List Value} (h : Below B a w) (hown : w.ownsRow B e size v n xs) (hg : w.grownBy w' v.ownBlock) (hB : B ≤ w.heap.size) : Below B a w' :=
  h.grown hg hB fun k hk => (hown.lt k hk).1

/-- Only draws. -/
def Quiet (w w' : World) : Prop := ∃ m, w' = w.drewN m
theorem Quiet.refl (w : World) : Quiet w w := ⟨0, rfl⟩
theorem Quiet.drewN {w w' : World} (h : Quiet w w') (n : Nat) : Quiet w (w'.drewN n) := by
  obtain ⟨m, rfl⟩ := h
  exact ⟨m + n, by rw [World.drewN_drewN]⟩
theorem Quiet.trans {w w' w'' : World} (h : Quiet w w') (k : Quiet w' w'') : Quiet w w'' := by
  obtain ⟨m, rfl⟩ := k
  exact h.drewN m
theorem Quiet.below {w w' : World} (h : Quiet w w') (B : Nat) : Below B w w' := by
  obtain ⟨m, rfl⟩ := h
  exact Below.drewN' (Below.refl _ _) m
theorem Quiet.cell {w w' : World} (h : Quiet w w') (a : Addr) : w'.cell? a = w.cell? a := by
  obtain ⟨m, rfl⟩ := h
  rfl

theorem ownsRow_below {w w' : World} {base : Nat} {e : TypeId} {size n : Nat} {v : Value} {xs : List Value} (h : w.ownsRow base e size v n xs) (hb : Below w.heap.size w w') : w'.ownsRow base e size v n xs := by
  refine ⟨h.1, ?_⟩
  rcases h.2 with h2 | ⟨g, cap, cur, hv, hg, hh, r⟩
  · exact Or.inl h2
  · exact Or.inr ⟨g, cap, cur, hv, hg, by rw [hb.block g (Array.getElem?_eq_some_iff.1 hh).1]; exact hh, r⟩

/-- 'make([]T, n)' for elements of one cell: n zero values in a new block. -/
theorem wpList_make_one {P : Program} (w : World) {ops : Array Oper} {rest : List Oper} {o : Oper} {a : Act} {Q : Exit → Act → World → Prop}
    (hgd : o.guard = none) (l c : Operand) (t : TypeId) (hop : o.op = Op.makeSlice t l c)
    (e : TypeId) (z : Value) (bytes : Nat) (ht : P.underlying t = some (.slice e)) (hinfo : (P.info? e).map (fun i => (i.zero, i.size, i.bytes)) = some (some z, 1, bytes)) (hz1 : z.cells = #[z])
    (n : Nat) (hl : a.eval l = .int .i64 (n : Int)) (hc : a.eval c = .int .i64 (n : Int)) (b2 : bytes * n ≤ 281474976710656) (b3 : n ≤ maxLen)
    (hK : ∀ w', w'.ownsRow w.heap.size e 1 (.slice (some ⟨w.heap.size, 0, none⟩) n n) n (List.replicate n z) → Below w.heap.size w w' → w'.heap.size = w.heap.size + 1 → wpList P ops Q rest (a.put o.dst (.slice (some ⟨w.heap.size, 0, none⟩) n n)) w') :
    wpList P ops Q (o :: rest) a w := by
  obtain ⟨i, hi, hz, hsize, hby⟩ := info_parts hinfo
  refine wpList_make_row w hgd l c t hop e i z ht hi hz hsize hz1 .i64 .i64 n hl hc (by rw [hby]; exact b2) (by unfold maxLen at b3; omega) ?_
  refine hK _ ?_ ((Below.refl _ _).alloc (Nat.le_refl _) _) (by simp)
  have h := World.ownsRow_lit (base := w.heap.size) (size := 1) (e := e) w (madeCells #[z] n) n (Nat.le_refl _) b3 (by rw [size_madeCells, Nat.mul_one])
  rw [toList_madeCells_one] at h
  exact h

theorem set_fill {A : List Value} {z x : Value} {m : Nat} : (A ++ List.replicate (m + 1) z).set A.length x = (A ++ [x]) ++ List.replicate m z := by
  rw [List.set_append_right _ _ (Nat.le_refl _), Nat.sub_self, List.replicate_succ, List.set_cons_zero]
  simp

theorem cell_old {W w : World} (hb : Below W.heap.size W w) {a : Addr} {v : Value} (h : W.cell? a = some v) : w.cell? a = some v := (hb.cell (lt_of_cell h)).trans h
theorem frozen_old {W w : World} (hb : Below W.heap.size W w) {a : Addr} (hlt : a.block < W.heap.size) (h : W.frozen? a = false) : w.frozen? a = false := (hb.frozen hlt).trans h

theorem below_step {w w1 w2 : World} (h : Below w.heap.size w w1) (hb : Below w1.heap.size w1 w2) : Below w.heap.size w w2 := h.trans (hb.mono h.size)

end Go.Proofs.Ytoegbphkheohoaa

namespace Go.Proofs.Ytoegbphkheohoaa
open Go.RowKit
namespace Ints

def ofL (l : List Int) : List Value := l.map (Value.int .i64)
theorem ofL_length (l : List Int) : (ofL l).length = l.length := by simp [ofL]
theorem ofL_at (l : List Int) (k : Nat) (h : k < l.length) : (ofL l)[k]?.getD undef = .int .i64 (l[k]?.getD 0) := by simp [ofL, h]
theorem take_one (l : List Int) (k : Nat) (h : k < l.length) : l.take (k + 1) = l.take k ++ [l[k]?.getD 0] := by
  rw [List.take_succ_eq_append_getElem h, List.getElem?_eq_getElem h]; rfl

theorem ret_bool {a b : Bool} (h : a = b) : Ending.returned (.bool a) = .returned (.bool b) := by rw [h]
theorem ret_int {k : IntKind} {a b : Int} (h : a = b) : Ending.returned (.int k a) = .returned (.int k b) := by rw [h]

/-- What a slice of integers reads as: its value and its cells, to be opened in a walk. -/
theorem open_reads {w : World} {v : Value} {n : Nat} {l : List Int} (h : Reads w 1 v n (ofL l)) :
    l.length = n ∧ ∃ a cap, v = .slice a n cap ∧ n ≤ 9223372036854775807 ∧ (0 < n → ∃ g off, a = some ⟨g, off, none⟩ ∧ g < w.heap.size ∧ ∀ j, j < n → w.cell? ⟨g, off + j, none⟩ = some (.int .i64 (l[j]?.getD 0))) := by
  obtain ⟨h1, a, cap, rfl, h2, h3, h4⟩ := h
  rw [ofL_length, Nat.mul_one] at h1
  unfold maxLen at h3
  refine ⟨h1, a, cap, rfl, by omega, fun hp => ?_⟩
  obtain ⟨g, off, rfl, hc⟩ := h4 (by rw [ofL_length]; omega)
  refine ⟨g, off, rfl, lt_of_cell (hc 0 (by rw [ofL_length]; omega)), fun j hj => ?_⟩
  rw [hc j (by rw [ofL_length]; omega), ofL_at l j (by omega)]

/-- The marks from k on. -/
def marks (k : Int) (n : Nat) : List Int := (List.range n).map fun (i : Nat) => k + (i : Int)
theorem marks_length (k : Int) (n : Nat) : (marks k n).length = n := by simp [marks]
theorem marks_at (k : Int) (n j : Nat) (h : j < n) : (marks k n)[j]?.getD 0 = k + j := by simp [marks, h]

/-- What marking has done after j rounds. -/
def MarkRel (a : Option Addr) (n : Nat) (k : Int) (j : Nat) (w : World) : Prop :=
  0 < n → ∃ g off cs, a = some ⟨g, off, none⟩ ∧ w.heap[g]? = some (.cells cs 3 (0, 0)) ∧ off + n ≤ cs.size ∧ ∀ q, q < j → cs[off + q]? = some (.int .i64 (k + (q : Int)))

theorem markRel_start {w : World} {a : Option Addr} {cap n : Nat} {l : List Int} (k : Int) (h : Owns w 3 1 (.slice a n cap) n (ofL l)) : MarkRel a n k 0 w := by
  intro hn
  obtain ⟨h1, a', cap', e, h2, h3, h4⟩ := h
  simp only [Value.slice.injEq] at e
  obtain ⟨rfl, _, rfl⟩ := e
  rw [ofL_length, Nat.mul_one] at h1
  obtain ⟨g, off, cs, rfl, hg, hc⟩ := h4 (by rw [ofL_length]; omega)
  refine ⟨g, off, cs, rfl, hg, ?_, fun q hq => by omega⟩
  have := (Array.getElem?_eq_some_iff.1 (hc (n - 1) (by rw [ofL_length]; omega))).1
  omega
theorem markRel_end {w : World} {a : Option Addr} {cap n : Nat} {k : Int} (h : MarkRel a n k n w) (hc : n ≤ cap) (hm : cap ≤ maxLen) : Owns w 3 1 (.slice a n cap) n (ofL (marks k n)) := by
  refine ⟨by simp [ofL, marks], a, cap, rfl, hc, hm, fun hp => ?_⟩
  rw [ofL_length, marks_length] at hp
  obtain ⟨g, off, cs, rfl, hg, _, hall⟩ := h hp
  refine ⟨g, off, cs, rfl, hg, fun j hj => ?_⟩
  rw [ofL_length, marks_length] at hj
  rw [hall j hj, ofL_at _ _ (by rw [marks_length]; exact hj), marks_at k n j hj]

end Ints
end Go.Proofs.Ytoegbphkheohoaa

namespace Go.Proofs.Ytoegbphkheohoaa
open Go.RowKit
namespace Ints

theorem infoI : (Try.prog.info? 3).map (fun i => (i.zero, i.size, i.bytes)) = some (some (.int .i64 0), 1, 8) := by kernel_rfl
theorem infoS : (Try.prog.info? 65).map (fun i => (i.zero, i.size, i.bytes)) = some (some (.slice none 0 0), 1, 24) := by kernel_rfl

/-- The k-th value, the k-th list. -/
def vAt (rs : List Value) (k : Nat) : Value := rs[k]?.getD undef
def lAt (L : List (List Int)) (k : Nat) : List Int := L[k]?.getD []

/-- Slice values that read as lists. -/
def RowsRead (w : World) (rs : List Value) (L : List (List Int)) : Prop :=
  rs.length = L.length ∧ ∀ i, i < L.length → Reads w 1 (vAt rs i) (lAt L i).length (ofL (lAt L i))
def ReadsM (w : World) (v : Value) (L : List (List Int)) : Prop := ∃ rs, Reads w 1 v L.length rs ∧ RowsRead w rs L

/-- Slice values, each in a block of its own among S. -/
def RowsOwn (S : Nat → Prop) (w : World) (rs : List Value) (L : List (List Int)) : Prop :=
  rs.length = L.length ∧ (∀ i, i < L.length → Owns w 3 1 (vAt rs i) (lAt L i).length (ofL (lAt L i)) ∧ blkIn S (vAt rs i) (ofL (lAt L i))) ∧
    ∀ i j, i < j → j < L.length → lAt L i ≠ [] → lAt L j ≠ [] → (vAt rs i).ownBlock ≠ (vAt rs j).ownBlock
def OwnsM (S : Nat → Prop) (w : World) (v : Value) (L : List (List Int)) : Prop := ∃ rs, Owns w 65 1 v L.length rs ∧ blkIn S v rs ∧ RowsOwn S w rs L

theorem ofL_ne {l : List Int} : ofL l ≠ [] ↔ l ≠ [] := by simp [ofL]

theorem RowsOwn.reads {S : Nat → Prop} {w : World} {rs : List Value} {L : List (List Int)} (h : RowsOwn S w rs L) : RowsRead w rs L := ⟨h.1, fun i hi => (h.2.1 i hi).1.reads⟩
theorem OwnsM.reads {S : Nat → Prop} {w : World} {v : Value} {L : List (List Int)} (h : OwnsM S w v L) : ReadsM w v L := by
  obtain ⟨rs, h1, _, h3⟩ := h
  exact ⟨rs, h1.reads, h3.reads⟩

theorem RowsRead.below {w w' : World} {rs : List Value} {L : List (List Int)} (h : RowsRead w rs L) (hb : Below w.heap.size w w') : RowsRead w' rs L := ⟨h.1, fun i hi => (h.2 i hi).below hb⟩
theorem ReadsM.below {w w' : World} {v : Value} {L : List (List Int)} (h : ReadsM w v L) (hb : Below w.heap.size w w') : ReadsM w' v L := by
  obtain ⟨rs, h1, h2⟩ := h
  exact ⟨rs, h1.below hb, h2.below hb⟩

theorem RowsOwn.chg {S T : Nat → Prop} {w w' : World} {rs : List Value} {L : List (List Int)} (h : RowsOwn S w rs L) (hc : Chg T w w') (hd : ∀ g, S g → ¬ T g) : RowsOwn S w' rs L :=
  ⟨h.1, fun i hi => ⟨(h.2.1 i hi).1.chg hc fun g hx hg => hd g ((h.2.1 i hi).2 g hx hg), (h.2.1 i hi).2⟩, h.2.2⟩
theorem RowsOwn.below {S : Nat → Prop} {w w' : World} {rs : List Value} {L : List (List Int)} (h : RowsOwn S w rs L) (hb : Below w.heap.size w w') : RowsOwn S w' rs L :=
  h.chg (T := fun _ => False) (Below.chg hb _) (fun _ _ => id)
theorem OwnsM.chg {S T : Nat → Prop} {w w' : World} {v : Value} {L : List (List Int)} (h : OwnsM S w v L) (hc : Chg T w w') (hd : ∀ g, S g → ¬ T g) : OwnsM S w' v L := by
  obtain ⟨rs, h1, h2, h3⟩ := h
  exact ⟨rs, h1.chg hc fun g hx hg => hd g (h2 g hx hg), h2, h3.chg hc hd⟩
theorem OwnsM.below {S : Nat → Prop} {w w' : World} {v : Value} {L : List (List Int)} (h : OwnsM S w v L) (hb : Below w.heap.size w w') : OwnsM S w' v L :=
  h.chg (T := fun _ => False) (Below.chg hb _) (fun _ _ => id)
theorem OwnsM.mono {S T : Nat → Prop} {w : World} {v : Value} {L : List (List Int)} (h : OwnsM S w v L) (hST : ∀ g, S g → T g) : OwnsM T w v L := by
  obtain ⟨rs, h1, h2, h3⟩ := h
  exact ⟨rs, h1, h2.mono hST, h3.1, fun i hi => ⟨(h3.2.1 i hi).1, (h3.2.1 i hi).2.mono hST⟩, h3.2.2⟩

theorem RowsOwn.mono {S T : Nat → Prop} {w : World} {rs : List Value} {L : List (List Int)} (h : RowsOwn S w rs L) (hST : ∀ g, S g → T g) : RowsOwn T w rs L :=
  ⟨h.1, fun i hi => ⟨(h.2.1 i hi).1, (h.2.1 i hi).2.mono hST⟩, h.2.2⟩
theorem vAt_snoc_lt {rs : List Value} {v : Value} {i : Nat} (h : i < rs.length) : vAt (rs ++ [v]) i = vAt rs i := by simp [vAt, List.getElem?_append_left h]
theorem vAt_snoc_at {rs : List Value} {v : Value} : vAt (rs ++ [v]) rs.length = v := by simp [vAt]
theorem lAt_snoc_lt {L : List (List Int)} {l : List Int} {i : Nat} (h : i < L.length) : lAt (L ++ [l]) i = lAt L i := by simp [lAt, List.getElem?_append_left h]
theorem lAt_snoc_at {L : List (List Int)} {l : List Int} : lAt (L ++ [l]) L.length = l := by simp [lAt]

theorem RowsOwn.nil (S : Nat → Prop) (w : World) : RowsOwn S w [] [] := ⟨rfl, fun i hi => by simp at hi, fun i j _ hj => by simp at hj⟩

/-- One row more, made behind all that was there. -/
theorem RowsOwn.snoc {S : Nat → Prop} {w0 w1 : World} {rs : List Value} {L : List (List Int)} {v : Value} {l : List Int} (h : RowsOwn S w0 rs L) (hb : Below w0.heap.size w0 w1)
    (ho : Owns w1 3 1 v l.length (ofL l)) (hf : blkIn (w0.heap.size ≤ ·) v (ofL l)) (hS : ∀ g, w0.heap.size ≤ g → S g) : RowsOwn S w1 (rs ++ [v]) (L ++ [l]) := by
  have h1 := h.below hb
  refine ⟨by simp [h.1], fun i hi => ?_, fun i j hij hj hi1 hj1 => ?_⟩
  · by_cases e : i < L.length
    · rw [vAt_snoc_lt (by rw [h.1]; exact e), lAt_snoc_lt e]
      exact h1.2.1 i e
    · have : i = L.length := by simp at hi; omega
      subst this
      rw [← h.1, vAt_snoc_at, h.1, lAt_snoc_at]
      exact ⟨ho, hf.mono hS⟩
  · have hi' : i < L.length := by simp at hj; omega
    rw [vAt_snoc_lt (by rw [h.1]; exact hi')]
    rw [lAt_snoc_lt hi'] at hi1
    by_cases e : j < L.length
    · rw [vAt_snoc_lt (by rw [h.1]; exact e)]
      rw [lAt_snoc_lt e] at hj1
      exact h.2.2 i j hij e hi1 hj1
    · have : j = L.length := by simp at hj; omega
      subst this
      rw [lAt_snoc_at] at hj1
      rw [← h.1, vAt_snoc_at]
      intro he
      have hlt := (h.2.1 i hi').1.reads.lt
      cases hv : v.ownBlock with
      | none =>
        obtain ⟨_, a, cap, rfl, _, _, h4⟩ := ho
        obtain ⟨g, off, cs, rfl, _⟩ := h4 (List.length_pos_iff.2 (ofL_ne.2 hj1))
        simp [Value.ownBlock] at hv
      | some g =>
        have h2 := hf g (ofL_ne.2 hj1) hv
        have h3 := hlt g (ofL_ne.2 hi1) (he.trans hv)
        omega

/-- What a walk wants of a list of lists: its value, and of each index the cell and what its row reads as. -/
theorem open_readsM {w : World} {v : Value} {L : List (List Int)} (h : ReadsM w v L) :
    ∃ a cap, v = .slice a L.length cap ∧ L.length ≤ 9223372036854775807 ∧
      ∀ k, k < L.length → ∃ g off r, a = some ⟨g, off, none⟩ ∧ g < w.heap.size ∧ w.cell? ⟨g, off + k, none⟩ = some r ∧ Reads w 1 r (lAt L k).length (ofL (lAt L k)) := by
  obtain ⟨rs, ⟨h1, a, cap, rfl, h2, h3, h4⟩, h5, h6⟩ := h
  unfold maxLen at h3
  refine ⟨a, cap, rfl, by omega, fun k hk => ?_⟩
  obtain ⟨g, off, rfl, hc⟩ := h4 (by omega)
  have hk' := hc k (by omega)
  exact ⟨g, off, vAt rs k, rfl, lt_of_cell hk', hk', h6 k hk⟩

theorem ReadsM.form {w : World} {v : Value} {L : List (List Int)} (h : ReadsM w v L) : ∃ a cap, v = .slice a L.length cap := by
  obtain ⟨_, h1, _⟩ := h
  exact h1.form

/-- All the places and letters of a list of lists. -/
def tot (L : List (List Int)) : Nat := L.length + (L.map List.length).sum
theorem sum_take_succ (L : List (List Int)) (k : Nat) (h : k < L.length) : ((L.take (k + 1)).map List.length).sum = ((L.take k).map List.length).sum + (lAt L k).length := by
  rw [List.take_succ_eq_append_getElem h, List.map_append, List.sum_append]
  simp [lAt, h]
theorem sum_take_le (L : List (List Int)) (k : Nat) : ((L.take k).map List.length).sum ≤ (L.map List.length).sum := by
  have h : L.map List.length = (L.take k).map List.length ++ (L.drop k).map List.length := by rw [← List.map_append, List.take_append_drop]
  rw [h, List.sum_append]
  omega

def szN (n : Nat) (left : Int) : Int := if (n : Int) ≤ left then left - n else -1

end Ints
end Go.Proofs.Ytoegbphkheohoaa
