/- The law FnExactDiscreteLog: both functions return the same. -/
import Derived.Test.YtkkiconlcboehaaDoorFieldLoops
namespace Go.Proofs.YtkkiconlcboehaaDoor.fnExactDiscreteLog
open Go.RowKit Fld

set_option maxHeartbeats 1000000 in
theorem walk (a0 : Int) (_w0 : (Lit.int .i64 a0).wf = true) (a1 : Int) (_w1 : (Lit.int .i64 a1).wf = true) (a2 : Int) (_w2 : (Lit.int .i64 a2).wf = true) (w : World) (ht : Tab w) :
    Calls Tryd.prog 8 #[.int .i64 a0, .int .i64 a1, .int .i64 a2] w fun e w' => e = .returned (.bool true) ∧ Below w.heap.size w w' := by
  cases h : twoB a0 a1 a2 with
  | false =>
    go_enter Tryd.func8, Tryd.ntmps8
    go_wp2_with (first | (go_at_call 38; ((with_reducible refine (fdTwo_any _ _ _ _).mono ?_); rintro e w' ⟨rfl, rfl⟩)) | (go_at_call 40; ((with_reducible refine (areEl2 _ _ _ _ ht).mono ?_); rintro e w' ⟨rfl, rfl⟩)) | go_in)
    go_ret
    exact ⟨rfl, (Below.refl _ _).alloc (Nat.le_refl _) _⟩
  | true =>
    have hb := h
    simp only [twoB, Bool.and_eq_true] at hb
    obtain ⟨⟨hg, h1⟩, h2⟩ := hb
    obtain ⟨p2, p97⟩ := good_bounds hg
    obtain ⟨b0, b1⟩ := in_bounds h1
    obtain ⟨c0, c1⟩ := in_bounds h2
    obtain ⟨p, rfl⟩ := Int.eq_ofNat_of_zero_le (a := a0) (by omega)
    obtain ⟨a, rfl⟩ := Int.eq_ofNat_of_zero_le b0
    obtain ⟨c, rfl⟩ := Int.eq_ofNat_of_zero_le c0
    have hgN : goodN p = true := (goodB_nat p).symm.trans hg
    have p2' : 2 ≤ p := by omega
    have p97' : p ≤ 97 := by omega
    have hap : a < p := by omega
    obtain ⟨r, b, hr⟩ : ∃ r b, hitN p (logQ p a c) = (r, b) := ⟨_, _, rfl⟩
    have hr' := Lib.hid hr
    have hr2 := Lib.hid ((log_same p a c (by omega) hgN p2' hap).trans hr)
    have hne : ((r : Int) != (r : Int)) = false := by simp
    have hne2 : (b != b) = false := by simp
    clear hg hgN hr h1 h2
    go_enter Tryd.func8, Tryd.ntmps8
    go_wp2_with (first | (go_at_call 23; ((with_reducible refine (spec_DiscreteLog_yes p a c r b hr' p2' p97' hap h _).mono ?_); rintro e w' ⟨rfl, rfl⟩)) | (go_at_call 24; ((with_reducible refine (impl_DiscreteLog_yes p a c r b hr2 p2' p97' hap h _ ht).mono ?_); rintro e w' ⟨rfl, hb⟩)))
    go_ret
    exact ⟨rfl, hb⟩
end Go.Proofs.YtkkiconlcboehaaDoor.fnExactDiscreteLog
