/- The law FnExactSquareRoot: both functions return the same. -/
import Derived.Test.YtkkiconlcboehaaDoorFieldLoops
namespace Go.Proofs.YtkkiconlcboehaaDoor.fnExactSquareRoot
open Go.RowKit Fld

set_option maxHeartbeats 1000000 in
theorem walk (a0 : Int) (_w0 : (Lit.int .i64 a0).wf = true) (a1 : Int) (_w1 : (Lit.int .i64 a1).wf = true) (w : World) (ht : Tab w) :
    Calls Tryd.prog 7 #[.int .i64 a0, .int .i64 a1] w fun e w' => e = .returned (.bool true) ∧ Below w.heap.size w w' := by
  have e1 : twoB a0 a1 0 = (goodB a0 && inB a0 a1) := two_zero a0 a1
  cases h : (goodB a0 && inB a0 a1) with
  | false =>
    go_enter Tryd.func7, Tryd.ntmps7
    go_wp2_with (first | (go_at_call 38; ((with_reducible refine (fdTwo_any _ _ _ _).mono ?_); rintro e w' ⟨rfl, rfl⟩)) | (go_at_call 40; ((with_reducible refine (areEl1 _ _ _ ht).mono ?_); rintro e w' ⟨rfl, rfl⟩)) | go_in)
    go_ret
    exact ⟨rfl, (Below.refl _ _).alloc (Nat.le_refl _) _⟩
  | true =>
    have hb := h
    simp only [Bool.and_eq_true] at hb
    obtain ⟨hg, h1⟩ := hb
    obtain ⟨p2, p97⟩ := good_bounds hg
    obtain ⟨b0, b1⟩ := in_bounds h1
    obtain ⟨p, rfl⟩ := Int.eq_ofNat_of_zero_le (a := a0) (by omega)
    obtain ⟨a, rfl⟩ := Int.eq_ofNat_of_zero_le b0
    have hgN : goodN p = true := (goodB_nat p).symm.trans hg
    have p2' : 2 ≤ p := by omega
    have p97' : p ≤ 97 := by omega
    have hap : a < p := by omega
    clear h1
    obtain ⟨r, b, hr⟩ : ∃ r b, hitN p (sqQ p a) = (r, b) := ⟨_, _, rfl⟩
    have hr' := Lib.hid hr
    have hne : ((r : Int) != (r : Int)) = false := by simp
    have hne2 : (b != b) = false := by simp
    clear hg hgN hr
    rw [h] at e1
    go_enter Tryd.func7, Tryd.ntmps7
    go_wp2_with (first | (go_at_call 21; ((with_reducible refine (spec_SquareRoot_yes p a r b hr' p2' p97' e1 _).mono ?_); rintro e w' ⟨rfl, rfl⟩)) | (go_at_call 22; ((with_reducible refine (impl_SquareRoot_yes p a r b hr' p2' p97' h _ ht).mono ?_); rintro e w' ⟨rfl, hb⟩)))
    go_ret
    exact ⟨rfl, hb⟩
end Go.Proofs.YtkkiconlcboehaaDoor.fnExactSquareRoot
