/- Folding: slices.Grow of no nodes. -/
import Derived.Test.YtoegbphkheohoaaCopy
import Derived.Lib.AppendZeros
namespace Go.Proofs.Ytoegbphkheohoaa
open Go.RowKit
namespace Ints

set_option maxRecDepth 100000 in
set_option maxHeartbeats 2000000 in
theorem growNil_any (n : Nat) (hn : n ≤ 1000000) (w : World) :
    Calls Try.prog 93 #[.slice none 0 0, .int .i64 (n : Int)] w fun e w' => ∃ v, e = .returned v ∧ w'.ownsRow w.heap.size 71 3 v 0 [] ∧ Below w.heap.size w w' := by
  have hw0 : IntKind.i64.wrap (n : Int) = (n : Int) := IntWalk.i64_in _ (by omega)
  by_cases h0 : n = 0
  · subst h0
    go_enter Try.func93, Try.ntmps93
    go_wp2
    go_ret
    exact ⟨_, rfl, ⟨rfl, .inl ⟨rfl, rfl⟩⟩, Below.refl _ _⟩
  · have hpos : 0 < n := by omega
    have hp2 : 0 < (n : Int) := by omega
    have hge : ¬ (n : Int) < 0 := by omega
    have hz : ∃ i, Try.prog.info? 71 = some i ∧ i.zero = some (.agg #[.int .i64 0, .int .i64 0, .string ⟨#[]⟩]) ∧ i.size = 3 ∧ i.bytes = 32 := by
      have h := infoNode
      cases hi : Try.prog.info? 71 with
      | none => rw [hi] at h; cases h
      | some i => rw [hi] at h; simp at h; exact ⟨i, rfl, h.1, h.2.1, h.2.2⟩
    obtain ⟨i, hi1, hi2, hi3, hi4⟩ := hz
    have hrun := Lib.run_append_nil_zeros (P := Try.prog) w 33 3 33 71 i _ .i64 .i64 Try.underlying33 Try.underlying3 hi1 hi2 n hpos (by rw [hi3]; decide) (by omega) (by rw [hi4]; omega)
    obtain ⟨cap, hcap⟩ : ∃ c, grownCap w n 0 71 = c := ⟨_, rfl⟩
    have hc1 := grownCap_ge w n 0 71
    have hc2 := grownCap_le_maxLen w n 0 71 (by unfold maxLen; omega)
    rw [hcap] at hrun hc1 hc2
    obtain ⟨cur, hcur⟩ : ∃ c, Builtin.zeroCells (Value.agg #[.int .i64 0, .int .i64 0, .string ⟨#[]⟩]).cells n ++ Builtin.zeroCells (Value.agg #[.int .i64 0, .int .i64 0, .string ⟨#[]⟩]).cells (cap - n) = c := ⟨_, rfl⟩
    have hsz : cur.size = cap * 3 := by
      rw [← hcur, Array.size_append, size_zeroCells, size_zeroCells]
      show n * 3 + (cap - n) * 3 = cap * 3
      omega
    rw [hcur] at hrun
    have HOW : Hid ((w.drew.alloc (.cells cur 71)).ownsRow w.heap.size 71 3 (.slice (some ⟨w.heap.size, 0, none⟩) 0 cap) 0 []) :=
      Lib.hid ⟨rfl, .inr ⟨w.heap.size, cap, cur, rfl, Nat.le_refl _, heap_alloc_new w.drew _, Nat.zero_le _, hc2, hsz, by simp⟩⟩
    have HBL : Hid (Below w.heap.size w (w.drew.alloc (.cells cur 71))) := Lib.hid ((Below.refl _ _).drew.alloc (Nat.le_refl _) _)
    have hcap0 : (0 : Int) ≤ (cap : Int) := by omega
    clear hcur hcap hsz hi1 hi2 hi3 hi4 hc1 hc2 h0
    go_enter Try.func93, Try.ntmps93
    go_wp2_with (at_builtin; refine Lib.wpList_append_run _ rfl _ _ _ _ rfl _ _ rfl rfl _ _ hrun ?_)
    go_ret
    exact ⟨_, rfl, HOW.out, HBL.out⟩

end Ints
end Go.Proofs.Ytoegbphkheohoaa
