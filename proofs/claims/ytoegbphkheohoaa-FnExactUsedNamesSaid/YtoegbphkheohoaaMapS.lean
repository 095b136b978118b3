/- Maps keyed by strings that a call makes: what they hold, said by a function on the keys. -/
import Derived.Test.YtoegbphkheohoaaWords
import Derived.Maps.OwnSet
namespace Go.Proofs.Ytoegbphkheohoaa
open Go.RowKit Go.ChangeMaps Go.WideMaps
namespace Ints

/-- How the elements of a map lie and read. -/
structure Elem (α : Type) where
  t : TypeId
  e : TypeId
  read : Value → Option (DataW Unit × List MemPlace)
  dat : α → DataW Unit
  val : α → Value
  z : α
  ht : Try.prog.underlying t = some (.map 9 e)
  hz : ∀ w, (zeroValue e).run Try.prog w = .ok (val z) w
  good : α → Prop
  hgz : good z
  hread : ∀ a, good a → read (val a) = some (dat a, [])
  hinv : ∀ v a ps, read v = some (dat a, ps) → v = val a

/-- Block b is a map of at most n entries that holds what 'look' says. -/
def MapOf {α : Type} (E : Elem α) (W : World) (b n : Nat) (look : List UInt8 → Option α) : Prop :=
  ∃ D, Maps.IsMap D ∧ W.ownsMap Try.prog 9 E.read b n D ∧ ∀ s, Maps.has D (.string s) = (look s).isSome ∧ D.atKey (.string s) (E.dat E.z) = E.dat ((look s).getD E.z)

section
variable {α : Type} {E : Elem α} {W W' : World} {b n : Nat} {look : List UInt8 → Option α}
theorem MapOf.made (E : Elem α) (w : World) : MapOf E (w.alloc (.map #[] 0)) w.heap.size 0 (fun _ => none) :=
  ⟨.map [], ⟨[], rfl⟩, World.ownsMap_made _ _ _ _, fun _ => ⟨rfl, rfl⟩⟩
theorem MapOf.lt (h : MapOf E W b n look) : b < W.heap.size := by
  obtain ⟨D, _, h1, _⟩ := h
  exact h1.lt
theorem MapOf.chg {S : Nat → Prop} (h : MapOf E W b n look) (hc : Chg S W W') (hb : ¬ S b) : MapOf E W' b n look := by
  have hlt := h.lt
  obtain ⟨D, h0, ⟨es, clock, hh, F, hs, hD⟩, h2⟩ := h
  exact ⟨D, h0, ⟨es, clock, (hc.block b hlt hb).trans hh, F, hs, hD⟩, h2⟩
theorem MapOf.below (h : MapOf E W b n look) (hb : Below W.heap.size W W') : MapOf E W' b n look := h.chg (S := fun _ => False) (Below.chg hb _) (fun x => x)
theorem MapOf.get_ok (h : MapOf E W b n look) (s : ByteArray) (hs : s.size ≤ maxLen) :
    (Instr.lookup E.t (.map (some b)) (.string s) true).run Try.prog W = .ok (.tuple #[E.val ((look s.toList).getD E.z), .bool (look s.toList).isSome]) W := by
  obtain ⟨D, _, h1, h2⟩ := h
  have hkey : keyOf Try.prog 9 (.string s) = some (.string s.toList) := by rw [ByteArray.toList_eq]; exact keyOf_string_mk Try.underlying9 hs
  obtain ⟨v, ps, hrun, hv⟩ := h1.look_ok (Maps.string_keyed Try.underlying9) E.ht (E.hz W) (E.hread E.z E.hgz) hkey
  obtain ⟨q1, q2⟩ := h2 s.toList
  rw [q2] at hv
  rw [hrun, E.hinv v _ ps hv, q1]
theorem MapOf.get (h : MapOf E W b n look) (s : ByteArray) (hs : s.size ≤ maxLen) :
    (Instr.lookup E.t (.map (some b)) (.string s) false).run Try.prog W = .ok (E.val ((look s.toList).getD E.z)) W := by
  obtain ⟨D, _, h1, h2⟩ := h
  have hkey : keyOf Try.prog 9 (.string s) = some (.string s.toList) := by rw [ByteArray.toList_eq]; exact keyOf_string_mk Try.underlying9 hs
  obtain ⟨v, ps, hrun, hv⟩ := h1.lookup (Maps.string_keyed Try.underlying9) E.ht (E.hz W) (E.hread E.z E.hgz) hkey
  obtain ⟨q1, q2⟩ := h2 s.toList
  rw [q2] at hv
  rw [hrun, E.hinv v _ ps hv]
def putL (look : List UInt8 → Option α) (key : List UInt8) (a : α) : List UInt8 → Option α := fun x => if x = key then some a else look x
theorem MapOf.put (h : MapOf E W b n look) (s : ByteArray) (hs : s.size ≤ maxLen) (hn : n < maxLen) (a : α) (ha : E.good a) :
    ∃ w', (Instr.mapUpdate E.t (.map (some b)) (.string s) (E.val a)).run Try.prog W = .ok () w' ∧ MapOf E w' b (n + 1) (putL look s.toList a) ∧ Chg (fun g => g = b) W w' := by
  obtain ⟨D, h0, h1, h2⟩ := h
  have hkey : keyOf Try.prog 9 (.string s) = some (.string s.toList) := by rw [ByteArray.toList_eq]; exact keyOf_string_mk Try.underlying9 hs
  obtain ⟨w', hrun, r1, r2⟩ := h1.update (Maps.string_keyed Try.underlying9) E.ht hn hkey (E.hread a ha)
  refine ⟨w', hrun, ⟨_, h0.put _ _, r1, fun x => ?_⟩, ⟨r2.os, r2.tape, r2.output, r2.size, fun k hk hne => r2.block k hk (fun e => hne (Option.some.inj e))⟩⟩
  unfold putL
  by_cases hx : x = s.toList
  · subst hx
    rw [if_pos rfl]
    exact ⟨Maps.has_put_same h0 (show WideAt.IsKeyLit (.string s.toList) from trivial) _, Maps.atKey_put_same h0 (show WideAt.IsKeyLit (.string s.toList) from trivial) _ _⟩
  · rw [if_neg hx]
    have hne : Lit.string x ≠ Lit.string s.toList := fun e => hx (by injection e)
    obtain ⟨q1, q2⟩ := h2 x
    exact ⟨(Maps.has_put_other hne _).trans q1, (Maps.atKey_put_other hne _ _).trans q2⟩
end

def wiresRead : Value → Option (DataW Unit × List MemPlace)
  | .agg cs => (match cs.toList with
    | [.int .i64 a, .int .i64 b] => some (.agg [.lit (.int .i64 a), .lit (.int .i64 b)], [])
    | _ => none)
  | _ => none
/-- map[string]wires -/
def wiresE : Elem (Int × Int) where
  t := 108
  e := 83
  read := wiresRead
  dat := fun p => .agg [.lit (.int .i64 p.1), .lit (.int .i64 p.2)]
  val := fun p => .agg #[.int .i64 p.1, .int .i64 p.2]
  z := (0, 0)
  ht := Try.underlying108
  hz := fun w => by kernel_rfl
  good := fun _ => True
  hgz := trivial
  hread := fun a _ => rfl
  hinv := fun v a ps h => by
    unfold wiresRead at h
    split at h
    · rename_i cs
      split at h
      · rename_i x y e
        simp only [Option.some.injEq, Prod.mk.injEq, DataW.agg.injEq, List.cons.injEq, DataW.lit.injEq, Lit.int.injEq, true_and, and_true] at h
        obtain ⟨⟨h1, h2⟩, _⟩ := h
        have : cs = #[.int .i64 x, .int .i64 y] := by
          rw [← Array.toList_inj, e]
        rw [this, h1, h2]
      · cases h
    · cases h

end Ints
end Go.Proofs.Ytoegbphkheohoaa
