/- The law FnExactFieldInverse: both functions return the same. -/
import Derived.Test.YtkkiconlcboehaaDoorFieldLoops
namespace Go.Proofs.YtkkiconlcboehaaDoor.fnExactFieldInverse
open Go.RowKit Fld

set_option maxHeartbeats 1000000 in
theorem walk (a0 : Int) (_w0 : (Lit.int .i64 a0).wf = true) (a1 : Int) (_w1 : (Lit.int .i64 a1).wf = true) (w : World) (ht : Tab w) :
    Calls Tryd.prog 10 #[.int .i64 a0, .int .i64 a1] w fun e w' => e = .returned (.bool true) ∧ Below w.heap.size w w' := by
  have e1 : twoB a0 a1 0 = (goodB a0 && inB a0 a1) := two_zero a0 a1
  cases h : (goodB a0 && inB a0 a1) with
  | false =>
    go_enter Tryd.func10, Tryd.ntmps10
    go_wp2_with (first | (go_at_call 38; ((with_reducible refine (fdTwo_any _ _ _ _).mono ?_); rintro e w' ⟨rfl, rfl⟩)) | (go_at_call 40; ((with_reducible refine (areEl1 _ _ _ ht).mono ?_); rintro e w' ⟨rfl, rfl⟩)) | go_in)
    go_ret
    exact ⟨rfl, (Below.refl _ _).alloc (Nat.le_refl _) _⟩
  | true =>
    have hb := h
    simp only [Bool.and_eq_true] at hb
    obtain ⟨hg, h1⟩ := hb
    obtain ⟨p2, p97⟩ := good_bounds hg
    obtain ⟨b0, b1⟩ := in_bounds h1
    by_cases hz : a1 = 0
    · subst hz
      clear hg h1
      go_enter Tryd.func10, Tryd.ntmps10
      go_wp2_with (first | (go_at_call 38; ((with_reducible refine (fdTwo_any _ _ _ _).mono ?_); rintro e w' ⟨rfl, rfl⟩)) | (go_at_call 40; ((with_reducible refine (areEl1 _ _ _ ht).mono ?_); rintro e w' ⟨rfl, rfl⟩)) | go_in)
      go_ret
      exact ⟨rfl, (Below.refl _ _).alloc (Nat.le_refl _) _⟩
    obtain ⟨p, rfl⟩ := Int.eq_ofNat_of_zero_le (a := a0) (by omega)
    obtain ⟨a, rfl⟩ := Int.eq_ofNat_of_zero_le b0
    have hgN : goodN p = true := (goodB_nat p).symm.trans hg
    have p2' : 2 ≤ p := by omega
    have p97' : p ≤ 97 := by omega
    have hap : a < p := by omega
    clear h1
    · have hnz : ((a : Int) == 0) = false := by simp; omega
      have cs := fdInv_any p a (by omega) p2' hap w
      have ci := fun w' => inverse_any p a hgN (by omega) p2' hap (by omega) w'
      generalize invN p a = v at cs ci
      have cs' := Lib.hid cs
      have ci' := Lib.hid ci
      have hne : ((v : Int) != (v : Int)) = false := by simp
      clear hg hgN cs ci
      go_enter Tryd.func10, Tryd.ntmps10
      go_wp2_with (first | (go_at_call 38; ((with_reducible refine (fdTwo_any _ _ _ _).mono ?_); rintro e w' ⟨rfl, rfl⟩)) | (go_at_call 45; ((with_reducible refine (cs'.out).mono ?_); rintro e w' ⟨rfl, rfl⟩)) | (go_at_call 46; ((with_reducible refine (ci'.out _).mono ?_); rintro e w' ⟨rfl, rfl⟩)) | (go_at_call 40; ((with_reducible refine (areEl1 _ _ _ ht).mono ?_); rintro e w' ⟨rfl, rfl⟩)) | go_in)
      go_ret
      exact ⟨rfl, (Below.refl _ _).alloc (Nat.le_refl _) _⟩
end Go.Proofs.YtkkiconlcboehaaDoor.fnExactFieldInverse
