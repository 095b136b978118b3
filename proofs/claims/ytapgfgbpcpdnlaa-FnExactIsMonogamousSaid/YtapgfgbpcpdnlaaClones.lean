/- Lists of rows, gathered by append: copies, unit rows. -/
import Derived.Test.YtapgfgbpcpdnlaaRowFn
import Derived.OwnWalk
namespace Go.Proofs.Ytapgfgbpcpdnlaa
open Go.RowKit
namespace Ints

/-- 'make([]T, 0, n)'. -/
theorem wpList_make_room {P : Program} (w : World) {ops : Array Oper} {rest : List Oper} {o : Oper} {a : Act} {Q : Exit → Act → World → Prop}
    (hgd : o.guard = none) (l c : Operand) (t : TypeId) (hop : o.op = Op.makeSlice t l c)
    (e : TypeId) (z : Value) (bytes : Nat) (ht : P.underlying t = some (.slice e)) (hinfo : (P.info? e).map (fun i => (i.zero, i.size, i.bytes)) = some (some z, 1, bytes))
    (n : Nat) (hl : a.eval l = .int .i64 0) (hc : a.eval c = .int .i64 (n : Int)) (b2 : bytes * n ≤ 281474976710656) (b3 : n ≤ maxLen)
    (hK : ∀ w', w'.ownsRow w.heap.size e 1 (.slice (some ⟨w.heap.size, 0, none⟩) 0 n) 0 [] → Below w.heap.size w w' → wpList P ops Q rest (a.put o.dst (.slice (some ⟨w.heap.size, 0, none⟩) 0 n)) w') :
    wpList P ops Q (o :: rest) a w := by
  obtain ⟨i, hi, hz, hsize, hby⟩ := info_parts hinfo
  refine wpList_make_own w hgd l c t hop w.heap.size e i z 1 ht hi hz hsize .i64 .i64 _ n hl hc rfl (by rw [hby]; exact b2) b3 (Nat.le_refl _) fun w' h1 h2 => hK w' h1 ?_
  exact (Below.refl _ _).grown h2 (Nat.le_refl _) (fun k hk => by cases hk)

/-- One row more behind the others: the row in new memory, then the append. -/
theorem push_row {w w0 w2 w3 : World} {base k : Nat} {rs : List Value} {L : List (List Int)} {l : List Int} {o v : Value} {S : Nat → Prop}
    (hown : w0.ownsRow base 23 1 o k rs) (hrows : RowsOwn S w0 rs L) (hb : Below base w w0) (hS : ∀ g, w0.heap.size ≤ g → S g) (hbase : base ≤ w0.heap.size)
    (ho : Owns w2 3 1 v l.length (ofL l)) (hf : blkIn (w0.heap.size ≤ ·) v (ofL l)) (hb2 : Below w0.heap.size w0 w2) (hg : w2.grownBy w3 o.ownBlock) :
    RowsOwn S w3 (rs ++ [v]) (L ++ [l]) ∧ Below base w w3 := by
  have hown2 := ownsRow_below hown hb2
  exact ⟨(hrows.snoc hb2 ho hf hS).grown hown2 hg, Below.grownRow (hb.trans (hb2.mono hbase)) hown2 hg (Nat.le_trans hbase hb2.size)⟩

theorem unitRow_take (n k : Nat) (h : k < n) : (idT n).take (k + 1) = (idT n).take k ++ [rowT n fun j => if k = j then 1 else 0] := by
  rw [take_oneL (idT n) k (by rw [idT, tabT_length]; exact h), idT, tabT_at h]

end Ints
end Go.Proofs.Ytapgfgbpcpdnlaa
