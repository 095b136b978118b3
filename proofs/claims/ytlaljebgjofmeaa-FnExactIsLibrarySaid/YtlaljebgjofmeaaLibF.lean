/- The laws' entry points: a valid library; a term's type. -/
import Derived.Test.YtlaljebgjofmeaaGoodS
import Derived.Test.YtlaljebgjofmeaaGoodI
namespace Go.Proofs.Ytlaljebgjofmeaa
open Go.RowKit
namespace Ints

set_option maxHeartbeats 1000000 in
theorem specIL_any (v : Value) (ds : List DefL) (w : World) (h : ReadsD w v ds) : Calls Try.prog 15 #[v] w fun e w' => e = .returned (.bool (libB ds)) ∧ Below w.heap.size w w' := by
  have hc := Lib.hid (lbGood_any v ds w h)
  obtain ⟨a, cap, rfl⟩ := h.form
  clear h
  go_enter Try.func15, Try.ntmps15
  go_wp2_with fail
  refine hc.out.mono ?_
  rintro e w1 ⟨rfl, q1⟩
  have Q1 := Lib.hid q1
  clear q1
  go_wp2
  go_ret
  exact ⟨rfl, Q1.out⟩

set_option maxHeartbeats 1000000 in
theorem implIL_any (v : Value) (ds : List DefL) (hbig : totD ds ≤ 1048576) (w : World) (h : ReadsD w v ds) : Calls Try.prog 17 #[v] w fun e w' => e = .returned (.bool (libB ds)) ∧ Below w.heap.size w w' := by
  have hc := Lib.hid (isLibrary_any v ds hbig w h)
  obtain ⟨a, cap, rfl⟩ := h.form
  clear h
  go_enter Try.func17, Try.ntmps17
  go_wp2_with fail
  refine hc.out.mono ?_
  rintro e w1 ⟨rfl, q1⟩
  have Q1 := Lib.hid q1
  clear q1
  go_wp2
  go_ret
  exact ⟨rfl, Q1.out⟩

end Ints
end Go.Proofs.Ytlaljebgjofmeaa
