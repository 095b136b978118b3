/- MatrixRelation, both. (Printed by wip/gen_mrel.py.) -/
import Derived.Test.YtimjlcnljefbbaaJoined
import Derived.Test.YtimjlcnljefbbaaMem4
import Derived.Test.YtimjlcnljefbbaaPred
import Derived.Test.YtimjlcnljefbbaaRelF
import Derived.Test.YtimjlcnljefbbaaRel
import Derived.Deep.RegionLaw
import Derived.IntWalk
namespace Go.Proofs.Ytimjlcnljefbbaa
open Go.RowKit

/-- 'append(s, x...)' as one step of a region that draws its order. -/
theorem step_append_reads {P : Program} {w : World} {ops : Array Oper} {o : Oper} {a : Act} {K : Act → World → Prop} {Q : Exit → Act → World → Prop} {E : Prop} (hgd : o.guard = none) (s x : Operand) (t : TypeId)
    (ho : o.op = .call { callee := .builtin .append, args := #[s, x], argTypes := #[t, t] })
    (base : Nat) (e : TypeId) (z : Value) (size bytes : Nat) (ht : P.underlying t = some (.slice e)) (hinfo : (P.info? e).map (fun i => (i.zero, i.size, i.bytes)) = some (some z, size, bytes))
    (hzs : z.cells.size = size) (hsz : 0 < size) (v : Value) (n : Nat) (xs : List Value) (hown : w.ownsRow base e size v n xs)
    (sv : Value) (m : Nat) (news : List Value) (hsrc : Reads w size sv m news) (hs : a.eval s = v) (hx : a.eval x = sv) (h1 : ∀ u ∈ news, u.oneCell' = true)
    (h63 : n + m ≤ maxLen) (hbytes : (n + m) * bytes ≤ 140737488355328) (hbase : base ≤ w.heap.size)
    (h : ∀ v' w', w'.ownsRow base e size v' (n + m) (xs ++ news) → w.grownBy w' v.ownBlock → K (a.put o.dst v') w') :
    if Region.wanted o (yielded ops a.tmps) = true then Oper.wp P o a w K Q else E := by
  have hw : Region.wanted o (yielded ops a.tmps) = true := by simp [Region.wanted, hgd]
  rw [if_pos hw]
  obtain ⟨v', w', hr, h2, h3⟩ := run_append_reads (P := P) w base t o.type e z size bytes ht hinfo hzs hsz v n xs hown sv m news hsrc h1 h63 hbytes hbase
  unfold Oper.wp execOp
  simp only [ho, resolve, invoke, builtin, Sem.run_bind, Sem.run_pure, Result.andThen_ok, List.map_toArray, List.map_cons, List.map_nil, hs, hx, hr]
  exact h v' w' h2 h3

/-- A store into a row of the call's own. -/
theorem ownsRow_store {w : World} {base g n cap j : Nat} {e : TypeId} {xs : List Value} (u : Value) (h : w.ownsRow base e 1 (.slice (some ⟨g, 0, none⟩) n cap) n xs) :
    (w.setCell ⟨g, j, none⟩ u).ownsRow base e 1 (.slice (some ⟨g, 0, none⟩) n cap) n (xs.set j u) := by
  refine ⟨by rw [List.length_set]; exact h.1, ?_⟩
  rcases h.2 with ⟨e1, _⟩ | ⟨g', cap', cur, e1, hb, hg, hc, hm, hs, ht⟩
  · cases e1
  · simp only [Value.slice.injEq, Option.some.injEq, Addr.mk.injEq, and_true] at e1
    obtain ⟨rfl, -, rfl⟩ := e1
    refine .inr ⟨g, cap, cur.setIfInBounds j u, rfl, hb, heap_setCell_at u hg, hc, hm, by simpa using hs, ?_⟩
    rw [Array.toList_setIfInBounds, List.take_set, ht]

namespace Ints

def mrB (p c : Int) (A : List (List Int)) : Bool := matB p c A && decide ((A.length : Int) + c ≤ 24)
def unitL (n k : Nat) : List Int := rowT n fun j => if k = j then 1 else 0
def mrRows (A : List (List Int)) : List (List Int) := (List.range A.length).map fun k => unitL A.length k ++ lAt A k
def mrOut (p c : Int) (A : List (List Int)) : List (List Int) := if mrB p c A then mrRows A else []
def mrL (p c : Int) (A : List (List Int)) : Int := if mrB p c A then A.length else 0
def mrR (p c : Int) (A : List (List Int)) : Int := if mrB p c A then c else 0
theorem mrB_parts {p c : Int} {A : List (List Int)} (h : mrB p c A = true) : ∃ n : Nat, c = n ∧ A.length + n ≤ 24 ∧ Fld.goodB p = true ∧ ElemsT p A.length n A := by
  simp only [mrB, Bool.and_eq_true, decide_eq_true_eq] at h
  obtain ⟨n, e1, hn, hl, _, hA⟩ := mat_nats h.1
  exact ⟨n, e1, by omega, (mat_parts h.1).1, hA⟩
theorem mrRows_length (A : List (List Int)) : (mrRows A).length = A.length := by simp [mrRows]
theorem mrRows_take (A : List (List Int)) (k : Nat) (h : k < A.length) : (mrRows A).take (k + 1) = (mrRows A).take k ++ [unitL A.length k ++ lAt A k] := by
  rw [take_oneL _ k (by rw [mrRows_length]; exact h)]
  simp [mrRows, lAt, h]
theorem mrOut_ctr (p c : Int) (A : List (List Int)) : (1 : Int) + (sumL (mrOut p c A) : Int) ≤ 1000000000 := by
  unfold mrOut
  split
  · rename_i h
    obtain ⟨n, rfl, hn, hg, hA⟩ := mrB_parts h
    have h1 := sum_le_mul List.length 48 (mrRows A) (fun l hl => by
      simp only [mrRows, List.mem_map, List.mem_range] at hl
      obtain ⟨k, hk, rfl⟩ := hl
      have := (hA.2 k hk).1
      rw [List.length_append, unitL, rowT_length]
      omega)
    rw [mrRows_length] at h1
    unfold sumL
    omega
  · exact ctr_nil
theorem mr_none {p c : Int} {A : List (List Int)} (h : mrB p c A = false) : mrOut p c A = [] ∧ mrL p c A = 0 ∧ mrR p c A = 0 := by simp [mrOut, mrL, mrR, h]
theorem unitL_length (n k : Nat) : (unitL n k).length = n := rowT_length _ _
theorem unitL_set (n k : Nat) : (rowT n fun _ => (0 : Int)).set k 1 = unitL n k := by
  unfold unitL
  rw [rowT_set]
  apply rowT_congr
  intro j _
  by_cases e : j = k
  · subst e; simp
  · simp [e, show ¬ k = j from fun h => e h.symm]
theorem unit_facts {w2 : World} {base b n k : Nat} (h : w2.ownsRow base 3 1 (.slice (some ⟨b, 0, none⟩) n n) n (List.replicate n (.int .i64 0))) (hn : n ≤ maxLen) (hk : k < n) :
    w2.cell? ⟨b, k, none⟩ = some (.int .i64 0) ∧ w2.frozen? ⟨b, k, none⟩ = false ∧ (w2.setCell ⟨b, k, none⟩ (.int .i64 1)).ownsRow base 3 1 (.slice (some ⟨b, 0, none⟩) n n) n (ofL (unitL n k)) := by
  have ho := owns_of_row h hn
  obtain ⟨_, a3, c3, e3, _, hc3⟩ := open_owns (l := rowT n fun _ => 0) (by rw [ofL_replicate]; exact ho.1)
  simp only [Value.slice.injEq] at e3
  obtain ⟨rfl, -, rfl⟩ := e3
  obtain ⟨g3, off3, e4, hg3, hj3⟩ := hc3 (by omega)
  simp only [Option.some.injEq, Addr.mk.injEq, and_true] at e4
  obtain ⟨rfl, rfl⟩ := e4
  have hy := (hj3 k hk).1
  have hfy := (hj3 k hk).2.1
  rw [Nat.zero_add] at hy hfy
  rw [rowT_at hk] at hy
  refine ⟨hy, hfy, ?_⟩
  have hst := ownsRow_store (j := k) (.int .i64 1) h
  rw [← ofL_replicate, show (ofL (rowT n fun _ => 0)).set k (.int .i64 1) = ofL (unitL n k) by rw [← unitL_set]; simp [ofL, List.map_set]] at hst
  exact hst
theorem wf_small {n : Nat} (h : n ≤ 24) : (Lit.int .i64 (n : Int)).wf = true := by
  have h1 : IntKind.i64.min = -9223372036854775808 := rfl
  have h2 : IntKind.i64.max = 9223372036854775807 := rfl
  simp [Lit.wf, h1, h2]
  omega
theorem fits_eq {l : Nat} {c : Int} (hl : l ≤ 24) (hc : 0 ≤ c ∧ c ≤ 24) : fitsB l c = decide ((l : Int) + c ≤ 24) := by
  rw [Bool.eq_iff_iff]
  unfold fitsB Fld.inR
  simp
  omega

theorem below_via_alloc {w w6 : World} {o : Obj} (h : Below (w.alloc o).heap.size (w.alloc o) w6) : Below w.heap.size w w6 :=
  ((Below.refl w.heap.size w).alloc (Nat.le_refl _) o).trans (h.mono (by simp))
theorem two_flat (a b : List Int) : [a, b].flatten = a ++ b := by simp
theorem two_len (m n : Nat) (a b : List Int) (ha : a.length = m) (hb : b.length = n) : ([a, b].flatten).length = m + n := by simp [ha, hb]
/-- The call of 'joined' on two lists that lie side by side in a new block. -/
theorem joined_two (m n : Nat) (a b : List Int) (va vb : Value) (w : World) (ha : a.length = m) (hb : b.length = n) (h1 : Reads w 1 va m (ofL a)) (h2 : Reads w 1 vb n (ofL b)) (hs : m + n ≤ 1000) :
    Calls Try.prog 73 #[.slice (some ⟨w.heap.size, 0, none⟩) 2 2] (w.alloc (.cells #[va, vb] 36)) (NewInts (w.alloc (.cells #[va, vb] 36)) [a, b].flatten) := by
  have hB : Below w.heap.size w (w.alloc (.cells #[va, vb] 36)) := (Below.refl _ _).alloc (Nat.le_refl _) _
  refine joined_any _ [a, b] _ ⟨[va, vb], ⟨rfl, _, 2, rfl, Nat.le_refl _, by unfold maxLen; omega, fun _ => ⟨w.heap.size, 0, rfl, fun j hj => ?_⟩⟩, rfl, fun i hi => ?_⟩ (by simp [tot]; omega)
  · rw [cell_of_row (w.alloc _) w.heap.size (0 + j) #[va, vb] 36 (0, 0) (heap_alloc_new w _)]
    have hj2 : j < 2 := hj
    rcases Nat.lt_or_ge j 1 with h | h
    · obtain rfl : j = 0 := by omega
      rfl
    · obtain rfl : j = 1 := by omega
      rfl
  · have hi2 : i < 2 := hi
    rcases Nat.lt_or_ge i 1 with h | h
    · obtain rfl : i = 0 := by omega
      have := h1.below hB
      rw [← ha] at this
      exact this
    · obtain rfl : i = 1 := by omega
      have := h2.below hB
      rw [← hb] at this
      exact this

end Ints
end Go.Proofs.Ytimjlcnljefbbaa
