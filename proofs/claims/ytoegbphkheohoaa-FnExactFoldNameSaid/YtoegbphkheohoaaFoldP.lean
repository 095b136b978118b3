/- Folding a body into a name: the plain law. -/
import Derived.Test.YtoegbphkheohoaaTreeP
namespace Go.Proofs.Ytoegbphkheohoaa
open Go.RowKit
namespace Ints

/-- Two nodes are the same (as XFolW's test of nodes). -/
def eqNd (a b : NodeL) : Bool := a.kind == b.kind && (a.value == b.value && a.name.toList == b.name.toList)
def eqL (xs ys : List NodeL) : Bool := xs.length == ys.length && (List.range xs.length).all fun j => eqNd (nAt xs j) (nAt ys j)
theorem eqL_len {xs ys : List NodeL} (h : eqL xs ys = true) : xs.length = ys.length := by
  unfold eqL at h
  rw [Bool.and_eq_true, beq_iff_eq] at h
  exact h.1
def nameN (s : ByteArray) : NodeL := ⟨17, 0, s⟩
/-- A tree with every part that is the body replaced by the name. -/
def foldT (body : List NodeL) (s : ByteArray) : TreeL → TreeL
  | .leaf n => if eqL [n] body = true then .leaf (nameN s) else .leaf n
  | .seq a b => if eqL (nodesT (.seq a b)) body = true then .leaf (nameN s) else .seq (foldT body s a) (foldT body s b)
  | .par a b => if eqL (nodesT (.par a b)) body = true then .leaf (nameN s) else .par (foldT body s a) (foldT body s b)
theorem foldT_pos {body : List NodeL} {s : ByteArray} {t : TreeL} (h : eqL (nodesT t) body = true) : foldT body s t = .leaf (nameN s) := by
  cases t with
  | leaf n => exact if_pos h
  | seq a b => exact if_pos h
  | par a b => exact if_pos h
theorem foldT_leaf {body : List NodeL} {s : ByteArray} {n : NodeL} (h : ¬ eqL (nodesT (.leaf n)) body = true) : foldT body s (.leaf n) = .leaf n := if_neg h
theorem foldT_seq {body : List NodeL} {s : ByteArray} {a b : TreeL} (h : ¬ eqL (nodesT (.seq a b)) body = true) : foldT body s (.seq a b) = .seq (foldT body s a) (foldT body s b) := if_neg h
theorem foldT_par {body : List NodeL} {s : ByteArray} {a b : TreeL} (h : ¬ eqL (nodesT (.par a b)) body = true) : foldT body s (.par a b) = .par (foldT body s a) (foldT body s b) := if_neg h
theorem eqL_short {xs ys : List NodeL} (h : xs.length < ys.length) : ¬ eqL xs ys = true := fun e => by have := eqL_len e; omega
/-- A tree shorter than the body stays as it is. -/
theorem fold_short (body : List NodeL) (s : ByteArray) : ∀ t, (nodesT t).length < body.length → foldT body s t = t
  | .leaf n, h => by
    rw [foldT_leaf (eqL_short h)]
  | .seq a b, h => by
    have hl : (nodesT (.seq a b)).length = (nodesT a).length + (nodesT b).length + 1 := by simp [nodesT]; omega
    rw [foldT_seq (eqL_short h), fold_short body s a (by omega), fold_short body s b (by omega)]
  | .par a b, h => by
    have hl : (nodesT (.par a b)).length = (nodesT a).length + (nodesT b).length + 1 := by simp [nodesT]; omega
    rw [foldT_par (eqL_short h), fold_short body s a (by omega), fold_short body s b (by omega)]
/-- What the reference writes at one node: the node, or the name in the place of the last nodes. -/
def wrF (body : List NodeL) (s : ByteArray) (top : TreeL) (l : List NodeL) (n : NodeL) : List NodeL :=
  if eqL (nodesT top) body = true then (l ++ [n]).take ((l ++ [n]).length - body.length) ++ [nameN s] else l ++ [n]
theorem take_drop_end (x y : List NodeL) : (x ++ y).take ((x ++ y).length - y.length) = x := by
  rw [List.length_append, Nat.add_sub_cancel, List.take_left]
/-- One node of the run: the written nodes are those of the folded stack. -/
theorem fold_step {body : List NodeL} {s : ByteArray} {st : List TreeL} {n : NodeL} (hf : flatT (stepR st n) = flatT st ++ [n]) (h2 : (n.kind = 15 ∨ n.kind = 16) → 2 ≤ st.length) :
    ∃ top rest, stepR st n = top :: rest ∧ flatT ((stepR st n).map (foldT body s)) = wrF body s top (flatT (st.map (foldT body s))) n := by
  by_cases h15 : n.kind = 15
  · match st, h2 (.inl h15), hf with
    | b :: a :: st2, _, hf =>
      have e : stepR (b :: a :: st2) n = .seq a b :: st2 := by unfold stepR; rw [if_pos h15]
      rw [e] at hf ⊢
      refine ⟨_, _, rfl, ?_⟩
      have hn : n = nodeK 15 := by
        simp only [flatT, nodesT, List.append_assoc, List.append_cancel_left_eq] at hf
        simpa using hf.symm
      unfold wrF
      by_cases he : eqL (nodesT (.seq a b)) body = true
      · rw [if_pos he]
        have hl : (nodesT (.seq a b)).length = (nodesT a).length + (nodesT b).length + 1 := by simp [nodesT]; omega
        have hb := eqL_len he
        have hfa := fold_short body s a (by omega)
        have hfb := fold_short body s b (by omega)
        have hx : flatT ((b :: a :: st2).map (foldT body s)) ++ [n] = flatT (st2.map (foldT body s)) ++ nodesT (.seq a b) := by
          simp only [List.map_cons, flatT, hfa, hfb, nodesT, List.append_assoc, hn]
        rw [hx, ← hb, take_drop_end]
        rw [List.map_cons, foldT_pos he]
        rfl
      · rw [if_neg he]
        rw [List.map_cons, foldT_seq he]
        simp only [List.map_cons, flatT, nodesT, List.append_assoc, hn]
  · by_cases h16 : n.kind = 16
    · match st, h2 (.inr h16), hf with
      | b :: a :: st2, _, hf =>
        have e : stepR (b :: a :: st2) n = .par a b :: st2 := by unfold stepR; rw [if_neg h15, if_pos h16]
        rw [e] at hf ⊢
        refine ⟨_, _, rfl, ?_⟩
        have hn : n = nodeK 16 := by
          simp only [flatT, nodesT, List.append_assoc, List.append_cancel_left_eq] at hf
          simpa using hf.symm
        unfold wrF
        by_cases he : eqL (nodesT (.par a b)) body = true
        · rw [if_pos he]
          have hl : (nodesT (.par a b)).length = (nodesT a).length + (nodesT b).length + 1 := by simp [nodesT]; omega
          have hb := eqL_len he
          have hfa := fold_short body s a (by omega)
          have hfb := fold_short body s b (by omega)
          have hx : flatT ((b :: a :: st2).map (foldT body s)) ++ [n] = flatT (st2.map (foldT body s)) ++ nodesT (.par a b) := by
            simp only [List.map_cons, flatT, hfa, hfb, nodesT, List.append_assoc, hn]
          rw [hx, ← hb, take_drop_end]
          rw [List.map_cons, foldT_pos he]
          rfl
        · rw [if_neg he]
          rw [List.map_cons, foldT_par he]
          simp only [List.map_cons, flatT, nodesT, List.append_assoc, hn]
    · have e : stepR st n = .leaf n :: st := by unfold stepR; rw [if_neg h15, if_neg h16]
      rw [e]
      refine ⟨_, _, rfl, ?_⟩
      unfold wrF
      by_cases he : eqL [n] body = true
      · have hb := eqL_len he
        have he' : eqL (nodesT (.leaf n)) body = true := he
        rw [if_pos he', ← hb, take_drop_end]
        rw [List.map_cons, foldT_pos he']
        rfl
      · have he' : ¬ eqL (nodesT (.leaf n)) body = true := he
        rw [if_neg he']
        rw [List.map_cons, foldT_leaf he']
        rfl
/-- What FoldName returns. -/
def folR (body : List NodeL) (s : ByteArray) (ns : List NodeL) : List NodeL := nodesT (foldT body s (treeN ns))

end Ints
end Go.Proofs.Ytoegbphkheohoaa
