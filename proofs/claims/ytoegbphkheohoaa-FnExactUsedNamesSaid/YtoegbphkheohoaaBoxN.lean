/- A term in a box of its own. -/
import Derived.Test.YtoegbphkheohoaaNodeE
import Derived.Test.YtoegbphkheohoaaLibBase
import Derived.Test.YtoegbphkheohoaaScanP
namespace Go.Proofs.Ytoegbphkheohoaa
open Go.RowKit
namespace Ints

/-- 'append(s, ..)' as one step of a region that draws its order. -/
theorem step_append_readsN {P : Program} {w : World} {ops : Array Oper} {o : Oper} {a : Act} {K : Act → World → Prop} {Q : Exit → Act → World → Prop} {E : Prop} (hgd : o.guard = none) (s x : Operand) (t : TypeId)
    (ho : o.op = .call { callee := .builtin .append, args := #[s, x], argTypes := #[t, t] })
    (base : Nat) (e : TypeId) (z : Value) (size bytes : Nat) (ht : P.underlying t = some (.slice e)) (hinfo : (P.info? e).map (fun i => (i.zero, i.size, i.bytes)) = some (some z, size, bytes))
    (hzs : z.cells.size = size) (h0 : 0 < size) (v : Value) (n : Nat) (xs : List Value)
    (hown : w.ownsRow base e size v n xs) (v2 : Value) (m : Nat) (ys : List Value) (hrd : Reads w size v2 m ys) (hs : a.eval s = v) (hx : a.eval x = v2) (h1 : ∀ u ∈ ys, u.oneCell' = true) (h63 : n + m ≤ maxLen) (hbytes : (n + m) * bytes ≤ 140737488355328) (hbase : base ≤ w.heap.size)
    (h : ∀ v' w', w'.ownsRow base e size v' (n + m) (xs ++ ys) → w.grownBy w' v.ownBlock → K (a.put o.dst v') w') :
    if Region.wanted o (yielded ops a.tmps) = true then Oper.wp P o a w K Q else E := by
  have hw : Region.wanted o (yielded ops a.tmps) = true := by simp [Region.wanted, hgd]
  rw [if_pos hw]
  obtain ⟨v', w', hr, h2, h3⟩ := run_append_reads (P := P) w base t o.type e z size bytes ht hinfo hzs h0 v n xs hown v2 m ys hrd h1 h63 hbytes hbase
  unfold Oper.wp execOp
  simp only [ho, resolve, invoke, builtin, Sem.run_bind, Sem.run_pure, Result.andThen_ok, List.map_toArray, List.map_cons, List.map_nil, hs, hx, hr]
  exact h v' w' h2 h3
theorem ownsRow_ge {w : World} {base size n g : Nat} {e : TypeId} {v : Value} {xs : List Value} (h : w.ownsRow base e size v n xs) (hg : v.ownBlock = some g) : base ≤ g := by
  rcases h.2 with ⟨rfl, _⟩ | ⟨g2, cap, cur, rfl, hb, _⟩
  · cases hg
  · simp [Value.ownBlock] at hg
    subst hg
    exact hb
theorem findD_name {ds : List DefL} {s : ByteArray} {i : Nat} (h : findD ds s = some i) : (dAt ds i).name = s := by
  have hlt := findD_lt h
  unfold findD at h
  rw [List.findIdx?_eq_some_iff_getElem] at h
  have h2 := h.2.1
  rw [dAt_eq ds i hlt]
  have h3 : ds[i].name.toList = s.toList := by simpa using h2
  rw [ByteArray.toList_eq, ByteArray.toList_eq] at h3
  exact Go.WideShapes.bytes_inj h3
/-- The new cell of a term, still nothing; the term's box when it is laid. -/
def BoxInN (c W : World) (b : Nat) : Prop := c.heap.size ≤ b ∧ b < W.heap.size ∧ W.cell? ⟨b, 0, none⟩ = some (.slice none 0 0) ∧ W.frozen? ⟨b, 0, none⟩ = false
theorem boxInN_new {c X W : World} {ty : TypeId} (h : Below c.heap.size c X) (hb : Below (X.alloc (.cells #[.slice none 0 0] ty)).heap.size (X.alloc (.cells #[.slice none 0 0] ty)) W) : BoxInN c W X.heap.size :=
  ⟨h.size, by have := hb.size; simp at this; omega, cell_old hb (by simp [go_sem]), frozen_old hb (by simp) (by simp [go_sem])⟩
theorem boxInN_new' {c W : World} {ty : TypeId} (hb : Below (c.alloc (.cells #[.slice none 0 0] ty)).drew.heap.size (c.alloc (.cells #[.slice none 0 0] ty)).drew W) : BoxInN c W c.heap.size :=
  boxInN_new (X := c) (Below.refl _ _) ⟨hb.os, hb.tape, hb.output, hb.size, hb.block⟩
theorem BoxInN.keep {c W W' : World} {b : Nat} (h : BoxInN c W b) (hb : Below W.heap.size W W') : BoxInN c W' b :=
  ⟨h.1, Nat.lt_of_lt_of_le h.2.1 hb.size, cell_old hb h.2.2.1, frozen_old hb h.2.1 h.2.2.2⟩
def OutBoxN (w2 : World) (L : List NodeL) (t : Value) (wx : World) : Prop :=
  ∃ (b : Nat) (a : Option Addr) (c : Nat), t = .pointer (some ⟨b, 0, none⟩) ∧ wx.cell? ⟨b, 0, none⟩ = some (.slice a L.length c) ∧
    OwnsN (fun g => w2.heap.size ≤ g ∧ g < wx.heap.size ∧ g ≠ b) wx (.slice a L.length c) L ∧ w2.heap.size ≤ b ∧ b < wx.heap.size ∧ Below w2.heap.size w2 wx
theorem outBoxN_alloc {w2 w3 : World} {a : Option Addr} {c : Nat} {L : List NodeL} (ty : TypeId) (h : Below w2.heap.size w2 w3) (ho : OwnsN (w2.heap.size ≤ ·) w3 (.slice a L.length c) L) :
    OutBoxN w2 L (.pointer (some ⟨w3.heap.size, 0, none⟩)) (w3.alloc (.cells #[.slice a L.length c] ty)) := by
  refine ⟨w3.heap.size, a, c, rfl, by simp [go_sem], ?_, h.size, by simp, below_alloc h⟩
  refine (ho.bound.below ((Below.refl _ _).alloc (Nat.le_refl _) _)).mono fun g hg => ?_
  exact ⟨hg.1, by simp; omega, by omega⟩
theorem outBoxN_put {c W : World} {b m : Nat} {a : Option Addr} {k : Nat} {L : List NodeL} (h : Below c.heap.size c W) (ho : OwnsN (m ≤ ·) W (.slice a L.length k) L) (q : BoxInN c W b) (hm : b < m) :
    OutBoxN c L (.pointer (some ⟨b, 0, none⟩)) (W.setCell ⟨b, 0, none⟩ (.slice a L.length k)) := by
  have hc2 : Chg (fun g => g = b) W (W.setCell ⟨b, 0, none⟩ (.slice a L.length k)) := (Chg.refl (fun g => g = b) W).setCell (p := ⟨b, 0, none⟩) (fun _ => rfl) _
  have hq := q.1
  have c0 := q.2.2.1
  refine ⟨b, a, k, rfl, by simp [go_sem, c0], ?_, hq, by simpa using q.2.1, h.trans (hc2.below h.size fun g hg => by omega)⟩
  refine (ho.bound.chg hc2 fun g hg e => by omega).mono fun g hg => ?_
  refine ⟨by omega, by simp; omega, by omega⟩
/-- What the functions that return a term return. -/
def TermOut (w : World) (b : Bool) (R : List NodeL) (e : Ending) (w' : World) : Prop := ∃ v, e = .returned (.tuple #[.agg #[v], .bool b]) ∧ OwnsN (w.heap.size ≤ ·) w' v R ∧ Below w.heap.size w w'

end Ints
end Go.Proofs.Ytoegbphkheohoaa
