/- The laws' helpers that write into results and look whether it stands there: their texts. -/
import Derived.Test.YtlfcmlbffpmhkaaDoorNodeE
import Derived.Laws.BytesString
namespace Go.Proofs.YtlfcmlbffpmhkaaDoor
open Go.RowKit
namespace Ints

theorem run_byte_string (w : World) (x : Int) : (convert 119 9 (.slice (some ⟨w.heap.size, 0, none⟩) 1 1)).run Tryd.prog (w.alloc (.cells #[.int .u8 x] 5)) = .ok (.string ⟨#[UInt8.ofNat x.toNat]⟩) (w.alloc (.cells #[.int .u8 x] 5)) := by
  rw [run_convert_bytes_string _ _ _ 5 _ _ _ Tryd.underlying119 Tryd.underlying5 Tryd.underlying9]
  rw [run_bytesToString _ ⟨w.heap.size, 0, none⟩ 1 1 [x]]
  · rfl
  · refine run_loadCells_list (P := Tryd.prog) _ _ [.int .u8 x] (fun j y hj => ?_)
    have hj0 : j = 0 := by
      have := (List.getElem?_eq_some_iff.1 hj).1
      simp at this
      omega
    subst hj0
    simp only [List.getElem?_cons_zero, Option.some.injEq] at hj
    subst hj
    rw [show (⟨w.heap.size, 0, none⟩ : Addr).add 0 = ⟨w.heap.size, 0, none⟩ from rfl, cell_of_row (w.alloc _) w.heap.size 0 #[.int .u8 x] 5 (0, 0) (heap_alloc_new w _)]
    rfl
def digS (n : Nat) : ByteArray := ⟨#[48 + UInt8.ofNat (n % 10)]⟩
/-- The digits of a number ahead of a text. -/
def mtxGo : Nat → Nat → ByteArray → ByteArray
  | 0, _, acc => acc
  | f + 1, n, acc => if n = 0 then acc else mtxGo f (n / 10) (digS n ++ acc)
def mtx (k : Int) : ByteArray := if k ≤ 0 then ⟨#[109, 48]⟩ else ⟨#[109]⟩ ++ mtxGo 20 k.toNat ByteArray.empty
theorem mtxGo_zero (f : Nat) (acc : ByteArray) : mtxGo f 0 acc = acc := by
  cases f with
  | zero => rfl
  | succ f => rfl

/-- The nodes as the marks leave them. -/
def marksN (k : Int) (ns : List NodeL) : List NodeL := (List.range ns.length).map fun (i : Nat) => ⟨k + 3 * (i : Int), k + 3 * (i : Int) + 1, mtx (k + 3 * (i : Int) + 2)⟩
def sumN (ns : List NodeL) : Nat := 3 * ns.length
theorem marksN_length (k : Int) (ns : List NodeL) : (marksN k ns).length = ns.length := by simp [marksN]
theorem marksN_at (k : Int) (ns : List NodeL) (j : Nat) (h : j < ns.length) : nAt (marksN k ns) j = ⟨k + 3 * (j : Int), k + 3 * (j : Int) + 1, mtx (k + 3 * (j : Int) + 2)⟩ := by simp [marksN, nAt, h]
/-- Half marked. -/
def halfN (k : Int) (ns : List NodeL) (j : Nat) : List NodeL := (marksN k ns).take j ++ ns.drop j
theorem halfN_zero (k : Int) (ns : List NodeL) : halfN k ns 0 = ns := by simp [halfN]
theorem halfN_all (k : Int) (ns : List NodeL) : halfN k ns ns.length = marksN k ns := by
  unfold halfN
  rw [List.drop_length, List.append_nil, ← marksN_length k ns, List.take_length]
theorem halfN_length (k : Int) (ns : List NodeL) (j : Nat) (h : j ≤ ns.length) : (halfN k ns j).length = ns.length := by
  unfold halfN
  rw [List.length_append, List.length_take, List.length_drop, marksN_length]
  omega
theorem halfN_succ (k : Int) (ns : List NodeL) (j : Nat) (h : j < ns.length) : (halfN k ns j).set j (nAt (marksN k ns) j) = halfN k ns (j + 1) := by
  unfold halfN
  have hl : ((marksN k ns).take j).length = j := by rw [List.length_take, marksN_length]; omega
  rw [List.set_append, if_neg (by omega), hl, Nat.sub_self, take_oneN _ j (by rw [marksN_length]; exact h), List.drop_eq_getElem_cons h, List.set_cons_zero, List.append_assoc]
  rfl
theorem nAt_set (ns : List NodeL) (i j : Nat) (n : NodeL) (h : i < ns.length) : nAt (ns.set i n) j = if i = j then n else nAt ns j := by
  unfold nAt
  rw [List.getElem?_set]
  by_cases e : i = j
  · subst e
    rw [if_pos rfl, if_pos rfl, if_pos h]
    rfl
  · rw [if_neg e, if_neg e]
/-- One node of a slice of the call's own: the cells, and what three stores leave. -/
theorem OwnsN.openAt {S : Nat → Prop} {w : World} {v : Value} {ns : List NodeL} (h : OwnsN S w v ns) {j : Nat} (hj : j < ns.length) :
    ∃ g off cap cs, v = .slice (some ⟨g, off, none⟩) ns.length cap ∧ ns.length ≤ 9223372036854775807 ∧ S g ∧ w.heap[g]? = some (.cells cs 73 (0, 0)) ∧
      cs[off + j * 3]? = some (.int .i64 (nAt ns j).kind) ∧ cs[off + j * 3 + 1]? = some (.int .i64 (nAt ns j).value) ∧ cs[off + j * 3 + 2]? = some (.string (nAt ns j).name) ∧
      ∀ w' n, w'.heap[g]? = some (.cells (((cs.setIfInBounds (off + j * 3) (.int .i64 n.kind)).setIfInBounds (off + j * 3 + 1) (.int .i64 n.value)).setIfInBounds (off + j * 3 + 2) (.string n.name)) 73 (0, 0)) → OwnsN S w' v (ns.set j n) := by
  obtain ⟨⟨h1, a, cap, rfl, h2, h3, h4⟩, hb⟩ := h
  have hp : 0 < (ofN ns).length := by rw [ofN_length]; omega
  obtain ⟨g, off, cs, rfl, hg, hc⟩ := h4 hp
  have hS : S g := hb g (List.length_pos_iff.1 hp) rfl
  have hl := ofN_length ns
  have c0 := hc (j * 3 + 0) (by omega)
  have c1 := hc (j * 3 + 1) (by omega)
  have c2 := hc (j * 3 + 2) (by omega)
  rw [ofN_at ns j 0 hj (by omega)] at c0
  rw [ofN_at ns j 1 hj (by omega)] at c1
  rw [ofN_at ns j 2 hj (by omega)] at c2
  rw [← Nat.add_assoc] at c1 c2
  unfold maxLen at h3
  have i0 : off + j * 3 < cs.size := (Array.getElem?_eq_some_iff.1 c0).1
  have i1 : off + j * 3 + 1 < cs.size := (Array.getElem?_eq_some_iff.1 c1).1
  have i2 : off + j * 3 + 2 < cs.size := (Array.getElem?_eq_some_iff.1 c2).1
  refine ⟨g, off, cap, cs, rfl, by omega, hS, hg, c0, c1, c2, fun w' n hg' => ⟨⟨by rw [ofN_length, List.length_set], _, cap, by rw [List.length_set], by rw [List.length_set]; exact h2, by unfold maxLen; omega, fun _ => ⟨g, off, _, rfl, hg', fun i hi => ?_⟩⟩, fun g' _ hg2 => by simp [Value.ownBlock] at hg2; rw [← hg2]; exact hS⟩⟩
  rw [ofN_length, List.length_set] at hi
  have hk : i / 3 < ns.length := by omega
  have hi3 : i = i / 3 * 3 + i % 3 := by omega
  have hm : i % 3 < 3 := Nat.mod_lt _ (by omega)
  have hold := hc i (by omega)
  rw [hi3, ofN_at (ns.set j n) (i / 3) (i % 3) (by rw [List.length_set]; exact hk) hm, nAt_set ns j (i / 3) n hj]
  by_cases e : j = i / 3
  · rw [if_pos e, ← e]
    rcases (by omega : i % 3 = 0 ∨ i % 3 = 1 ∨ i % 3 = 2) with q | q | q <;> rw [q]
    · rw [Array.getElem?_setIfInBounds_ne (by omega), Array.getElem?_setIfInBounds_ne (by omega)]
      exact Array.getElem?_setIfInBounds_self_of_lt i0
    · rw [Array.getElem?_setIfInBounds_ne (by omega), ← Nat.add_assoc]
      exact Array.getElem?_setIfInBounds_self_of_lt (by simp; omega)
    · rw [← Nat.add_assoc]
      exact Array.getElem?_setIfInBounds_self_of_lt (by simp; omega)
  · rw [if_neg e, Array.getElem?_setIfInBounds_ne (by omega), Array.getElem?_setIfInBounds_ne (by omega), Array.getElem?_setIfInBounds_ne (by omega), ← hi3, hold]
    conv => lhs; rw [hi3, ofN_at ns (i / 3) (i % 3) hk hm]

end Ints
end Go.Proofs.YtlfcmlbffpmhkaaDoor
