/- Folding: joinNodes. -/
import Derived.Test.YtoegbphkheohoaaFolC
import Derived.Test.YtoegbphkheohoaaFoldP
import Derived.Test.YtoegbphkheohoaaStack
namespace Go.Proofs.Ytoegbphkheohoaa
open Go.RowKit
namespace Ints

theorem row_base {w : World} {base base' size n : Nat} {e : TypeId} {v : Value} {xs : List Value} (h : w.ownsRow base e size v n xs) (hb : base' ≤ base) : w.ownsRow base' e size v n xs :=
  ⟨h.1, h.2.imp id fun ⟨g, cap, cur, a, b, c⟩ => ⟨g, cap, cur, a, Nat.le_trans hb b, c⟩⟩

set_option maxRecDepth 100000 in
set_option maxHeartbeats 2000000 in
theorem joinNodes_any (k : Int) (va vb : Value) (xs ys : List NodeL) (w : World) (ha : ReadsN w va xs) (hb : ReadsN w vb ys) (hl : xs.length + ys.length ≤ 100000) :
    Calls Try.prog 91 #[.int .i64 k, va, vb] w fun e w' => ∃ v, e = .returned v ∧ w'.ownsRow w.heap.size 71 3 v (xs.length + ys.length + 1) (ofN (xs ++ ys ++ [nodeK k])) ∧ Below w.heap.size w w' := by
  obtain ⟨w0, hw0⟩ : ∃ W, W = w.alloc (.cells #[va, vb] 33) := ⟨_, rfl⟩
  have hB : Below w.heap.size w w0 := by rw [hw0]; exact below_alloc (Below.refl _ _)
  have hblk : w0.heap[w.heap.size]? = some (.cells #[va, vb] 33 (0, 0)) := by rw [hw0]; exact heap_alloc_new w _
  have HC := Lib.hid (concat_any va vb xs ys w.heap.size w0 (ha.below hB) (hb.below hB) ((Go.Joins.cell_of_block hblk 0).trans rfl) ((Go.Joins.cell_of_block hblk 1).trans rfl) hl)
  have HB := Lib.hid hB
  have HW := Lib.hid hw0
  have hm3 := Lib.hid (show xs.length + ys.length + 1 ≤ maxLen by unfold maxLen; omega)
  have hm4 := Lib.hid (show (xs.length + ys.length + 1) * 32 ≤ 140737488355328 by omega)
  have he : Hid (ofN (xs ++ ys ++ [nodeK k]) = ofN xs ++ ofN ys ++ #[Value.int .i64 k, Value.int .i64 0, Value.string ByteArray.empty].toList) := Lib.hid (by rw [ofN_append, ofN_append]; rfl)
  obtain ⟨aa, ca, rfl⟩ := ha.form
  obtain ⟨ab, cb, rfl⟩ := hb.form
  obtain ⟨n, hn⟩ : ∃ n, xs.length + ys.length = n := ⟨_, rfl⟩
  rw [hn] at HC hm3 hm4 ⊢
  obtain ⟨L, hL⟩ : ∃ L, xs ++ ys ++ [nodeK k] = L := ⟨_, rfl⟩
  rw [hL] at he ⊢
  clear ha hb hB hblk hw0 hl hn hL
  go_enter Try.func91, Try.ntmps91
  go_wp2_with fail
  rw [← HW.out]
  refine HC.out.mono ?_
  rintro e w1 ⟨v1, rfl, ho1, hb1⟩
  obtain ⟨a1, c1, rfl⟩ := ownsRow_form' ho1
  have HO := Lib.hid ho1
  have HB1 := Lib.hid hb1
  have hsz := Lib.hid hb1.size
  clear ho1 hb1
  go_wp2_with (first | (refine wpList_append_many (by rfl) _ _ 33 (by rfl) w0.heap.size 71 (.agg #[.int .i64 0, .int .i64 0, .string ByteArray.empty]) 3 32 Try.underlying33 infoNode rfl (by decide) _ _ _ #[.int .i64 k, .int .i64 0, .string ByteArray.empty] rfl HO.out (by rfl) (by first | rfl | (simp; rfl)) (by intro u hu; simp at hu; rcases hu with rfl | rfl | rfl <;> rfl) hm3.out hm4.out hsz.out ?_; intro v' w4 hown4 hg4; obtain ⟨a5, c5, rfl⟩ := ownsRow_form' hown4))
  have hge : w.heap.size ≤ w0.heap.size := HB.out.size
  have hfin : Hid (w4.ownsRow w.heap.size 71 3 (.slice a5 (n + 1) c5) (n + 1) (ofN L) ∧ Below w.heap.size w w4) := by
    refine Lib.hid ⟨?_, below_step HB.out (Below.grownRow HB1.out HO.out hg4 hsz.out)⟩
    rw [he.out]
    exact row_base hown4 hge
  clear hown4 hg4 hge
  go_wp2
  go_ret
  exact ⟨_, rfl, hfin.out.1, hfin.out.2⟩

end Ints
end Go.Proofs.Ytoegbphkheohoaa
