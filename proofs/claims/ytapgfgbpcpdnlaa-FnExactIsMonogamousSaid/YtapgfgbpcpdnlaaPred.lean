/- Is it a matrix? The reference's functions. Is it a matrix? The program's functions. -/
import Derived.Test.YtapgfgbpcpdnlaaPredPlain
import Derived.Test.YtapgfgbpcpdnlaaFx
namespace Go.Proofs.Ytapgfgbpcpdnlaa
open Go.RowKit
namespace Ints
open Fld (goodB inB inR inR_eq inR_true inR_mk inR_no good_bounds l1In_any)

set_option maxHeartbeats 1000000 in
theorem l1All_any (v : Value) (n : Nat) (l : List Int) (lo hi : Int) (w : World) (h : Reads w 1 v n (ofL l)) :
    Calls Try.prog 20 #[v, .int .i64 lo, .int .i64 hi] w fun e w' => e = .returned (.bool (l.all fun a => inR a lo hi)) ∧ w = w' := by
  obtain ⟨hl, a, cap, rfl, hm, hc⟩ := open_reads h
  obtain ⟨r, hr⟩ : ∃ r, (l.all fun a => inR a lo hi) = r := ⟨_, rfl⟩
  rw [hr]
  have hr' := Lib.hid hr
  have hl' := Lib.hid hl
  have hc' := Lib.hid hc
  clear h hc hl hr
  go_enter Try.func20, Try.ntmps20
  go_wp2
  go_loop [11] (fun i => ∃ k : Nat, k ≤ n ∧ i = .int .i64 k ∧ Hid ((l.take k).all (fun a => inR a lo hi) = true)) (fun i => n + 1 - (intOf i).toNat)
  case atStart => exact ⟨0, by omega, rfl, all_start⟩
  case round =>
    obtain ⟨k, hk, rfl, hall⟩ := hrel
    by_cases hlt : k < n
    · obtain ⟨g, off, rfl, _, hcell⟩ := hc'.out (by omega)
      have hx := hcell k hlt
      cases hin : inR (l[k]?.getD 0) lo hi with
      | true =>
        have hall2 := Lib.hid (all_succ (d := 0) hall.out (by rw [hl'.out]; exact hlt) hin)
        clear hcell hc' hall
        generalize l[k]?.getD 0 = x at *
        go_wp2_with (go_at_call 19; ((with_reducible refine (l1In_any _ _ _ _).mono ?_); rintro e w' ⟨rfl, rfl⟩))
        go_round
        case rel => exact ⟨k + 1, by omega, by go_num, hall2⟩
        case measure => simp [intOf]; omega
      | false =>
        have hrf := Lib.hid (hr'.out.symm.trans (all_no (d := 0) (q := fun a => inR a lo hi) (by rw [hl'.out]; exact hlt) hin))
        clear hcell hc' hall
        generalize l[k]?.getD 0 = x at *
        go_wp2_with (go_at_call 19; ((with_reducible refine (l1In_any _ _ _ _).mono ?_); rintro e w' ⟨rfl, rfl⟩))
        go_ret
        exact ⟨ret_bool hrf.out.symm, rfl⟩
    · obtain rfl : k = n := by omega
      have hrt := Lib.hid (hr'.out.symm.trans (all_end (by rw [hl'.out]; exact hall.out)))
      go_wp2
      go_ret
      exact ⟨ret_bool hrt.out.symm, rfl⟩

end Ints
end Go.Proofs.Ytapgfgbpcpdnlaa

namespace Go.Proofs.Ytapgfgbpcpdnlaa
open Go.RowKit
namespace Ints
open Fld (goodB inB inR inR_eq inR_true inR_mk inR_no good_bounds tab_alloc)

set_option maxHeartbeats 400000 in
theorem within_any (n lo hi : Int) (w : World) :
    Calls Try.prog 29 #[.int .i64 n, .int .i64 lo, .int .i64 hi] w fun e w' => e = .returned (.bool (inR n lo hi)) ∧ w = w' := by
  by_cases h : lo ≤ n
  · have h1 : decide (lo ≤ n) = true := by simpa using h
    have e1 : inR n lo hi = decide (n ≤ hi) := by simp [inR, h]
    rw [e1]
    clear h e1
    go_enter Try.func29, Try.ntmps29
    go_wp2
    go_ret
    exact ⟨by simp, rfl⟩
  · have h1 : decide (lo ≤ n) = false := by simpa using h
    have e1 : inR n lo hi = false := by simp [inR, h]
    rw [e1]
    clear h e1
    go_enter Try.func29, Try.ntmps29
    go_wp2
    go_ret
    exact ⟨by simp, rfl⟩

end Ints
end Go.Proofs.Ytapgfgbpcpdnlaa
