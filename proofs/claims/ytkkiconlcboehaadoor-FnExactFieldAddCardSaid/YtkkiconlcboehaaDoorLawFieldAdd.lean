/- The laws FnExactFieldAdd and FnExactFieldMul: both functions return the same. -/
import Derived.Test.YtkkiconlcboehaaDoorFieldWalks3
namespace Go.Proofs.YtkkiconlcboehaaDoor.fnExactFieldAdd
open Go.RowKit Fld

set_option maxHeartbeats 1000000 in
theorem walk (a0 : Int) (_w0 : (Lit.int .i64 a0).wf = true) (a1 : Int) (_w1 : (Lit.int .i64 a1).wf = true) (a2 : Int) (_w2 : (Lit.int .i64 a2).wf = true) (w : World) (ht : Tab w) :
    Calls Tryd.prog 4 #[.int .i64 a0, .int .i64 a1, .int .i64 a2] w fun e w' => e = .returned (.bool true) ∧ Below w.heap.size w w' := by
  cases h : twoB a0 a1 a2 with
  | false =>
    go_enter Tryd.func4, Tryd.ntmps4
    go_wp2_with (first | (go_at_call 38; ((with_reducible refine (fdTwo_any _ _ _ _).mono ?_); rintro e w' ⟨rfl, rfl⟩)) | (go_at_call 40; ((with_reducible refine (areEl2 _ _ _ _ ht).mono ?_); rintro e w' ⟨rfl, rfl⟩)) | go_in)
    go_ret
    exact ⟨rfl, (Below.refl _ _).alloc (Nat.le_refl _) _⟩
  | true =>
    have hb := h
    simp only [twoB, Bool.and_eq_true] at hb
    obtain ⟨⟨hg, h1⟩, h2⟩ := hb
    obtain ⟨p2, p97⟩ := good_bounds hg
    obtain ⟨b0, b1⟩ := in_bounds h1
    obtain ⟨c0, c1⟩ := in_bounds h2
    have hne : ((a1 + a2) % a0 != (a1 + a2) % a0) = false := by simp
    clear hg h1 h2
    go_enter Tryd.func4, Tryd.ntmps4
    go_wp2_with (first | (go_at_call 38; ((with_reducible refine (fdTwo_any _ _ _ _).mono ?_); rintro e w' ⟨rfl, rfl⟩)) | (go_at_call 39; ((with_reducible refine (fdAdd_any _ _ _ p2 p97 b0 b1 c0 c1 _).mono ?_); rintro e w' ⟨rfl, rfl⟩)) | (go_at_call 41; ((with_reducible refine (mod_any _ _ p2 p97 _).mono ?_); rintro e w' ⟨rfl, rfl⟩)) | (go_at_call 40; ((with_reducible refine (areEl2 _ _ _ _ ht).mono ?_); rintro e w' ⟨rfl, rfl⟩)) | go_in)
    go_ret
    exact ⟨rfl, (Below.refl _ _).alloc (Nat.le_refl _) _⟩
end Go.Proofs.YtkkiconlcboehaaDoor.fnExactFieldAdd
