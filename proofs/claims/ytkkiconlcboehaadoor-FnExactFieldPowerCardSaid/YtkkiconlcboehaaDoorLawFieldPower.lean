/- The law FnExactFieldPower: both functions return the same. -/
import Derived.Test.YtkkiconlcboehaaDoorFieldLoops
namespace Go.Proofs.YtkkiconlcboehaaDoor.fnExactFieldPower
open Go.RowKit Fld

set_option maxHeartbeats 1000000 in
theorem walk (a0 : Int) (_w0 : (Lit.int .i64 a0).wf = true) (a1 : Int) (_w1 : (Lit.int .i64 a1).wf = true) (a2 : Int) (_w2 : (Lit.int .i64 a2).wf = true) (w : World) (ht : Tab w) :
    Calls Tryd.prog 11 #[.int .i64 a0, .int .i64 a1, .int .i64 a2] w fun e w' => e = .returned (.bool true) ∧ Below w.heap.size w w' := by
  have e1 : twoB a0 a1 0 = (goodB a0 && inB a0 a1) := two_zero a0 a1
  cases h : (goodB a0 && inB a0 a1) with
  | false =>
    go_enter Tryd.func11, Tryd.ntmps11
    go_wp2_with (first | (go_at_call 38; ((with_reducible refine (fdTwo_any _ _ _ _).mono ?_); rintro e w' ⟨rfl, rfl⟩)) | (go_at_call 47; ((with_reducible refine (l1In_any _ _ _ _).mono ?_); rintro e w' ⟨rfl, rfl⟩)) | (go_at_call 40; ((with_reducible refine (areEl1 _ _ _ ht).mono ?_); rintro e w' ⟨rfl, rfl⟩)) | go_in)
    go_ret
    exact ⟨rfl, (Below.refl _ _).alloc (Nat.le_refl _) _⟩
  | true =>
    by_cases hlo : a2 < -10000
    · have g1 : inR a2 (-10000) 10000 = false := inR_no (Or.inl hlo)
      have g2 : decide (a2 < -10000) = true := by simpa using hlo
      clear hlo
      go_enter Tryd.func11, Tryd.ntmps11
      go_wp2_with (first | (go_at_call 38; ((with_reducible refine (fdTwo_any _ _ _ _).mono ?_); rintro e w' ⟨rfl, rfl⟩)) | (go_at_call 47; ((with_reducible refine (l1In_any _ _ _ _).mono ?_); rintro e w' ⟨rfl, rfl⟩)) | (go_at_call 40; ((with_reducible refine (areEl1 _ _ _ ht).mono ?_); rintro e w' ⟨rfl, rfl⟩)) | go_in)
      go_ret
      exact ⟨rfl, (Below.refl _ _).alloc (Nat.le_refl _) _⟩
    by_cases hhi : 10000 < a2
    · have g1 : inR a2 (-10000) 10000 = false := inR_no (Or.inr hhi)
      have g2 : decide (a2 < -10000) = false := by simpa using hlo
      have g3 : decide (10000 < a2) = true := by simpa using hhi
      clear hlo hhi
      go_enter Tryd.func11, Tryd.ntmps11
      go_wp2_with (first | (go_at_call 38; ((with_reducible refine (fdTwo_any _ _ _ _).mono ?_); rintro e w' ⟨rfl, rfl⟩)) | (go_at_call 47; ((with_reducible refine (l1In_any _ _ _ _).mono ?_); rintro e w' ⟨rfl, rfl⟩)) | (go_at_call 40; ((with_reducible refine (areEl1 _ _ _ ht).mono ?_); rintro e w' ⟨rfl, rfl⟩)) | go_in)
      go_ret
      exact ⟨rfl, (Below.refl _ _).alloc (Nat.le_refl _) _⟩
    have g1 : inR a2 (-10000) 10000 = true := inR_mk (by omega) (by omega)
    have g2 : decide (a2 < -10000) = false := by simpa using hlo
    have g3 : decide (10000 < a2) = false := by simpa using hhi
    have hb := h
    simp only [Bool.and_eq_true] at hb
    obtain ⟨hg, h1⟩ := hb
    obtain ⟨p2, p97⟩ := good_bounds hg
    obtain ⟨b0, b1⟩ := in_bounds h1
    by_cases hn : a2 < 0
    · have g4 : decide (a2 < 0) = true := by simpa using hn
      obtain ⟨m, hm⟩ : ∃ m : Nat, -a2 = (m : Int) := ⟨(-a2).toNat, by omega⟩
      have hm' := Lib.hid hm
      have hml : m ≤ 100000 := by omega
      by_cases hz : a1 = 0
      · subst hz
        clear hg h1 hn hlo hhi hm
        go_enter Tryd.func11, Tryd.ntmps11
        go_wp2_with (first | (go_at_call 38; ((with_reducible refine (fdTwo_any _ _ _ _).mono ?_); rintro e w' ⟨rfl, rfl⟩)) | (go_at_call 47; ((with_reducible refine (l1In_any _ _ _ _).mono ?_); rintro e w' ⟨rfl, rfl⟩)) | (go_at_call 40; ((with_reducible refine (areEl1 _ _ _ ht).mono ?_); rintro e w' ⟨rfl, rfl⟩)) | go_in)
        go_ret
        exact ⟨rfl, (Below.refl _ _).alloc (Nat.le_refl _) _⟩
      · have hnz : (a1 == 0) = false := by simpa using hz
        obtain ⟨p, rfl⟩ := Int.eq_ofNat_of_zero_le (a := a0) (by omega)
        obtain ⟨a, rfl⟩ := Int.eq_ofNat_of_zero_le b0
        have hgN : goodN p = true := (goodB_nat p).symm.trans hg
        have p2' : 2 ≤ p := by omega
        have p97' : p < 98 := by omega
        have hap : a < p := by omega
        have hil := inv_lt (p := p) (a := a) (by omega)
        have cs := fun w => fdInv_any p a p97' p2' hap w
        have ci := fun w => inverse_any p a hgN p97' p2' hap (by omega) w
        generalize invN p a = v at cs ci hil
        obtain ⟨r, hr⟩ : ∃ r, v ^ m % p = r := ⟨_, rfl⟩
        have hr' := Lib.hid hr
        have cs' := Lib.hid cs
        have ci' := Lib.hid ci
        have hne : ((r : Int) != (r : Int)) = false := by simp
        clear hg hgN cs ci hr h1 hn hlo hhi hz
        go_enter Tryd.func11, Tryd.ntmps11
        go_wp2_with (first | (go_at_call 38; ((with_reducible refine (fdTwo_any _ _ _ _).mono ?_); rintro e w' ⟨rfl, rfl⟩)) | (go_at_call 47; ((with_reducible refine (l1In_any _ _ _ _).mono ?_); rintro e w' ⟨rfl, rfl⟩)) | (go_at_call 40; ((with_reducible refine (areEl1 _ _ _ ht).mono ?_); rintro e w' ⟨rfl, rfl⟩)) | (go_at_call 45; ((with_reducible refine (cs'.out _).mono ?_); rintro e w' ⟨rfl, rfl⟩)) | (go_at_call 46; ((with_reducible refine (ci'.out _).mono ?_); rintro e w' ⟨rfl, rfl⟩)) | (go_at_call 48; ((with_reducible refine (fdPow_any p v m r hr' p97' p2' hil hml _).mono ?_); rintro e w' ⟨rfl, rfl⟩)) | (go_at_call 49; ((with_reducible refine (power_any p v m r hr' p97' p2' hil hml _).mono ?_); rintro e w' ⟨rfl, rfl⟩)) | go_in)
        go_ret
        exact ⟨rfl, (Below.refl _ _).alloc (Nat.le_refl _) _⟩
    · have g4 : decide (a2 < 0) = false := by simpa using hn
      obtain ⟨m, rfl⟩ := Int.eq_ofNat_of_zero_le (a := a2) (by omega)
      have hml : m ≤ 100000 := by omega
      obtain ⟨p, rfl⟩ := Int.eq_ofNat_of_zero_le (a := a0) (by omega)
      obtain ⟨a, rfl⟩ := Int.eq_ofNat_of_zero_le b0
      have p2' : 2 ≤ p := by omega
      have p97' : p < 98 := by omega
      have hap : a < p := by omega
      obtain ⟨r, hr⟩ : ∃ r, a ^ m % p = r := ⟨_, rfl⟩
      have hr' := Lib.hid hr
      have hne : ((r : Int) != (r : Int)) = false := by simp
      clear hg hr h1 hn hlo hhi
      go_enter Tryd.func11, Tryd.ntmps11
      go_wp2_with (first | (go_at_call 38; ((with_reducible refine (fdTwo_any _ _ _ _).mono ?_); rintro e w' ⟨rfl, rfl⟩)) | (go_at_call 47; ((with_reducible refine (l1In_any _ _ _ _).mono ?_); rintro e w' ⟨rfl, rfl⟩)) | (go_at_call 40; ((with_reducible refine (areEl1 _ _ _ ht).mono ?_); rintro e w' ⟨rfl, rfl⟩)) | (go_at_call 48; ((with_reducible refine (fdPow_any p a m r hr' p97' p2' hap hml _).mono ?_); rintro e w' ⟨rfl, rfl⟩)) | (go_at_call 49; ((with_reducible refine (power_any p a m r hr' p97' p2' hap hml _).mono ?_); rintro e w' ⟨rfl, rfl⟩)) | go_in)
      go_ret
      exact ⟨rfl, (Below.refl _ _).alloc (Nat.le_refl _) _⟩
end Go.Proofs.YtkkiconlcboehaaDoor.fnExactFieldPower
