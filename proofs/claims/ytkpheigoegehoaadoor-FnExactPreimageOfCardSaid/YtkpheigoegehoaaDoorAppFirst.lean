/- append onto a slice literal of no elements: as onto nil; owned or empty. -/
import Derived.Test.YtkpheigoegehoaaDoorJoin
namespace Go.Proofs.YtkpheigoegehoaaDoor
open Go.RowKit

theorem run_append_empty {P : Program} (w : World) (t ty e : TypeId) (i : TypeInfo) (a ad : Addr) (c : Nat) (ht : P.underlying t = some (.slice e)) (hi : P.info? e = some i) (hb : ¬ (Builtin.nextslicecap 1 0 * i.bytes > 2 ^ 48)) (hb0 : ¬ i.bytes = 0) :
    (Builtin.append_ #[t, t] ty #[.slice (some a) 0 0, .slice (some ad) 1 c]).run P w = (Builtin.append_ #[t, t] ty #[.slice none 0 0, .slice (some ad) 1 c]).run P w := by
  have h0 : ∀ W, (loadCells a 0).run P W = .ok #[] W := fun W => run_loadCells_list (P := P) W a [] (by simp)
  simp [Builtin.append_, h0, run_underlying ht, sizeOf, typeInfo, hi, Builtin.lenOf, Builtin.firstCells, hb, hb0]

/-- v is o, or a literal of no elements where o is nil: append does the same with both. -/
def EqE (v o : Value) : Prop := v = o ∨ (o = .slice none 0 0 ∧ ∃ a, v = .slice (some a) 0 0)

theorem step_append_one_E {P : Program} {w : World} {ops : Array Oper} {o : Oper} {a : Act} {K : Act → World → Prop} {Q : Exit → Act → World → Prop} {E : Prop} (hgd : o.guard = none) (s x : Operand) (t : TypeId)
    (ho : o.op = .call { callee := .builtin .append, args := #[s, x], argTypes := #[t, t] })
    (base : Nat) (e : TypeId) (z : Value) (bytes : Nat) (ht : P.underlying t = some (.slice e)) (hinfo : (P.info? e).map (fun i => (i.zero, i.size, i.bytes)) = some (some z, 1, bytes))
    (hcap : ¬ (Builtin.nextslicecap 1 0 * bytes > 2 ^ 48)) (hb0 : ¬ bytes = 0)
    (hzs : z.cells.size = 1) (v vo : Value) (hE : EqE v vo) (n : Nat) (xs : List Value) (u : Value)
    (hown : w.ownsRow base e 1 vo n xs) (hs : a.eval s = v) (hx : a.eval x = .slice (some ⟨w.heap.size, 0, none⟩) 1 1) (h1 : u.oneCell' = true) (h63 : n + 1 ≤ maxLen) (hbytes : (n + 1) * bytes ≤ 140737488355328) (hbase : base ≤ w.heap.size)
    (h : ∀ v' w', w'.ownsRow base e 1 v' (n + 1) (xs ++ [u]) → w.grownBy w' vo.ownBlock → K (a.put o.dst v') w') :
    if Region.wanted o (yielded ops a.tmps) = true then Oper.wp P o a (w.alloc (.cells #[u] e)) K Q else E := by
  have hw : Region.wanted o (yielded ops a.tmps) = true := by simp [Region.wanted, hgd]
  rw [if_pos hw]
  obtain ⟨v', w', hr, h2, h3⟩ := run_append_reads (P := P) (w.alloc (.cells #[u] e)) base t o.type e z 1 bytes ht hinfo hzs (by decide) vo n xs (hown.alloc _) (.slice (some ⟨w.heap.size, 0, none⟩) 1 1) 1 [u] (reads_new_one w u e) (by intro y hy; simp at hy; subst hy; exact h1) h63 hbytes (by simp; omega)
  have hr' : (Builtin.append_ #[t, t] o.type #[v, .slice (some ⟨w.heap.size, 0, none⟩) 1 1]).run P (w.alloc (.cells #[u] e)) = .ok v' w' := by
    rcases hE with rfl | ⟨rfl, aa, rfl⟩
    · exact hr
    · obtain ⟨i, hi, hz, hsize, hby⟩ := info_parts hinfo
      rw [run_append_empty _ t o.type e i aa _ 1 ht hi (by rw [hby]; exact hcap) (by rw [hby]; exact hb0)]
      exact hr
  unfold Oper.wp execOp
  simp only [ho, resolve, invoke, builtin, Sem.run_bind, Sem.run_pure, Result.andThen_ok, List.map_toArray, List.map_cons, List.map_nil, hs, hx, hr']
  refine h v' w' h2 ⟨h3.os, h3.tape, h3.output, Nat.le_trans (by simp) h3.size, fun k hk hne => ?_⟩
  rw [h3.block k (by simp; omega) hne]
  exact Below.heap_alloc w _ k hk
theorem capS : ¬ (Builtin.nextslicecap 1 0 * 24 > 2 ^ 48) := by decide
namespace Ints
theorem EqE.reads {W : World} {v o : Value} {L : List (List Int)} {S : Nat → Prop} (hE : EqE v o) (h : OwnsM S W o L) : ReadsM W v L := by
  rcases hE with rfl | ⟨rfl, a, rfl⟩
  · exact h.reads
  · obtain ⟨rs, ⟨h0, a', c, e, _⟩, _, h3⟩ := h
    simp only [Value.slice.injEq] at e
    have hl : L.length = 0 := e.2.1.symm
    obtain rfl : L = [] := List.eq_nil_of_length_eq_zero hl
    exact ⟨[], ⟨rfl, some a, 0, rfl, Nat.le_refl _, Nat.zero_le _, fun h => by simp at h⟩, rfl, fun i hi => by simp at hi⟩
theorem EqE.form {v o : Value} {n : Nat} (hE : EqE v o) (h : ∃ a c, o = .slice a n c) : ∃ a c, v = .slice a n c := by
  rcases hE with rfl | ⟨rfl, a, rfl⟩
  · exact h
  · obtain ⟨_, _, e⟩ := h
    simp only [Value.slice.injEq] at e
    obtain ⟨-, rfl, -⟩ := e
    exact ⟨_, _, rfl⟩
end Ints

end Go.Proofs.YtkpheigoegehoaaDoor
