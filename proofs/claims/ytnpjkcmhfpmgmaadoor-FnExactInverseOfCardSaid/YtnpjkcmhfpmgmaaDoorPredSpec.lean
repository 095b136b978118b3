/- Is it a matrix? The reference's functions. -/
import Derived.Test.YtnpjkcmhfpmgmaaDoorPredPlain
import Derived.Test.YtnpjkcmhfpmgmaaDoorFxGood
namespace Go.Proofs.YtnpjkcmhfpmgmaaDoor
open Go.RowKit
namespace Ints
open Fld (goodB inB inR inR_eq inR_true inR_mk inR_no good_bounds l1In_any fdGood_any)

set_option maxHeartbeats 1000000 in
theorem l1All_any (v : Value) (n : Nat) (l : List Int) (lo hi : Int) (w : World) (h : Reads w 1 v n (ofL l)) :
    Calls Tryd.prog 99 #[v, .int .i64 lo, .int .i64 hi] w fun e w' => e = .returned (.bool (l.all fun a => inR a lo hi)) ∧ w = w' := by
  obtain ⟨hl, a, cap, rfl, hm, hc⟩ := open_reads h
  obtain ⟨r, hr⟩ : ∃ r, (l.all fun a => inR a lo hi) = r := ⟨_, rfl⟩
  rw [hr]
  have hr' := Lib.hid hr
  have hl' := Lib.hid hl
  have hc' := Lib.hid hc
  clear h hc hl hr
  go_enter Tryd.func99, Tryd.ntmps99
  go_wp2
  go_loop [11] (fun i => ∃ k : Nat, k ≤ n ∧ i = .int .i64 k ∧ Hid ((l.take k).all (fun a => inR a lo hi) = true)) (fun i => n + 1 - (intOf i).toNat)
  case atStart => exact ⟨0, by omega, rfl, all_start⟩
  case round =>
    obtain ⟨k, hk, rfl, hall⟩ := hrel
    by_cases hlt : k < n
    · obtain ⟨g, off, rfl, _, hcell⟩ := hc'.out (by omega)
      have hx := hcell k hlt
      cases hin : inR (l[k]?.getD 0) lo hi with
      | true =>
        have hall2 := Lib.hid (all_succ (d := 0) hall.out (by rw [hl'.out]; exact hlt) hin)
        clear hcell hc' hall
        generalize l[k]?.getD 0 = x at *
        go_wp2_with (go_at_call 55; ((with_reducible refine (l1In_any _ _ _ _).mono ?_); rintro e w' ⟨rfl, rfl⟩))
        go_round
        case rel => exact ⟨k + 1, by omega, by go_num, hall2⟩
        case measure => simp [intOf]; omega
      | false =>
        have hrf := Lib.hid (hr'.out.symm.trans (all_no (d := 0) (q := fun a => inR a lo hi) (by rw [hl'.out]; exact hlt) hin))
        clear hcell hc' hall
        generalize l[k]?.getD 0 = x at *
        go_wp2_with (go_at_call 55; ((with_reducible refine (l1In_any _ _ _ _).mono ?_); rintro e w' ⟨rfl, rfl⟩))
        go_ret
        exact ⟨ret_bool hrf.out.symm, rfl⟩
    · obtain rfl : k = n := by omega
      have hrt := Lib.hid (hr'.out.symm.trans (all_end (by rw [hl'.out]; exact hall.out)))
      go_wp2
      go_ret
      exact ⟨ret_bool hrt.out.symm, rfl⟩

theorem fdIn_any (p : Int) (h2 : 2 ≤ p) (h97 : p ≤ 97) (v : Value) (n : Nat) (l : List Int) (w : World) (h : Reads w 1 v n (ofL l)) :
    Calls Tryd.prog 79 #[.int .i64 p, v] w fun e w' => e = .returned (.bool (l.all (inB p))) ∧ w = w' := by
  have hcall := l1All_any v n l 0 (p - 1) w h
  rw [fdIn_eq] at hcall
  obtain ⟨r, hr⟩ : ∃ r, l.all (inB p) = r := ⟨_, rfl⟩
  rw [hr] at hcall ⊢
  have hcall' := Lib.hid hcall
  clear hcall h hr
  go_enter Tryd.func79, Tryd.ntmps79
  go_wp2_with (go_at_call 99; ((with_reducible refine (hcall'.out).mono ?_); rintro e w' ⟨rfl, rfl⟩))
  go_ret
  exact ⟨rfl, rfl⟩

set_option maxHeartbeats 2000000 in
theorem mxGood_any (p c : Int) (v : Value) (L : List (List Int)) (w : World) (h : ReadsM w v L) :
    Calls Tryd.prog 45 #[.int .i64 p, .agg #[.int .i64 c, v]] w fun e w' => e = .returned (.bool (matB p c L)) ∧ Below w.heap.size w w' := by
  have hB := Lib.hid ((Below.refl w.heap.size w).alloc (Nat.le_refl _) (.cells #[.int .i64 c, v] 26))
  obtain ⟨r, hr⟩ : ∃ r, matB p c L = r := ⟨_, rfl⟩
  rw [hr]
  have hr' := Lib.hid hr
  clear hr
  cases hg : goodB p with
  | false =>
    have hrf : Hid (r = false) := by show _ = _; rw [← hr'.out]; simp [matB, hg]
    clear h
    go_enter Tryd.func45, Tryd.ntmps45
    go_wp2_with (go_at_call 70; ((with_reducible refine (fdGood_any _ _).mono ?_); rintro e w' ⟨rfl, rfl⟩))
    go_ret
    exact ⟨ret_bool hrf.out.symm, hB.out⟩
  | true =>
    obtain ⟨h2, h97⟩ := good_bounds hg
    cases hc : inR c 0 24 with
    | false =>
      have hrf : Hid (r = false) := by show _ = _; rw [← hr'.out]; simp [matB, hc]
      clear h
      go_enter Tryd.func45, Tryd.ntmps45
      go_wp2_with (first | (go_at_call 70; ((with_reducible refine (fdGood_any _ _).mono ?_); rintro e w' ⟨rfl, rfl⟩)) | (go_at_call 55; ((with_reducible refine (l1In_any _ _ _ _).mono ?_); rintro e w' ⟨rfl, rfl⟩)))
      go_ret
      exact ⟨ret_bool hrf.out.symm, hB.out⟩
    | true =>
      have hM := Lib.hid (open_readsM (h.below hB.out))
      obtain ⟨a, cap, rfl, hm, _⟩ := open_readsM h
      obtain ⟨n, hn⟩ : ∃ n, L.length = n := ⟨_, rfl⟩
      rw [hn] at hm hB hM ⊢
      have hn' := Lib.hid hn
      clear hn h
      by_cases hlen : n ≤ 24
      · have hb1 : decide ((24 : Int) < (n : Int)) = false := by simp; omega
        have hr2 : Hid (r = rowsB p c L) := by
          show _ = _
          rw [← hr'.out]
          simp [matB, hc, hg, hn'.out, hlen]
        go_enter Tryd.func45, Tryd.ntmps45
        go_wp2_with (first | (go_at_call 70; ((with_reducible refine (fdGood_any _ _).mono ?_); rintro e w' ⟨rfl, rfl⟩)) | (go_at_call 55; ((with_reducible refine (l1In_any _ _ _ _).mono ?_); rintro e w' ⟨rfl, rfl⟩)))
        go_loop [25] (fun i => ∃ k : Nat, k ≤ n ∧ i = .int .i64 k ∧ Hid ((L.take k).all (vecB p c) = true)) (fun i => n + 1 - (intOf i).toNat)
        case atStart => exact ⟨0, by omega, rfl, all_start⟩
        case round =>
          obtain ⟨k, hk, rfl, hall⟩ := hrel
          by_cases hlt : k < n
          · obtain ⟨a', cap', e1, _, hcl⟩ := hM.out
            obtain ⟨g, off, r1, e2, _, hcell, hrd⟩ := hcl k hlt
            simp only [Value.slice.injEq] at e1
            obtain ⟨rfl, -, -⟩ := e1
            subst e2
            obtain ⟨a2, cap2, rfl⟩ := hrd.form
            have hcall := Lib.hid (fdIn_any p h2 h97 _ _ _ _ hrd)
            have hkL : k < L.length := by rw [hn'.out]; exact hlt
            have hv : vecB p c (lAt L k) = (decide (((lAt L k).length : Int) = c) && (lAt L k).all (inB p)) := rfl
            have hno := Lib.hid (fun hx => all_no (l := L) (q := vecB p c) (d := []) hkL hx)
            have hyes := Lib.hid (fun hx => all_succ (l := L) (q := vecB p c) (d := []) hall.out hkL hx)
            have hkL' := Lib.hid hkL
            clear hcl hrd hkL hM hall
            rw [show L[k]?.getD [] = lAt L k from rfl, hv] at hno hyes
            clear hv
            generalize (lAt L k).all (inB p) = b at *
            generalize (lAt L k).length = m at *
            by_cases hmc : (m : Int) = c
            · have hb2 : ((m : Int) != c) = false := by simpa using hmc
              cases b with
              | true =>
                have hall2 := Lib.hid (hyes.out (by simp [hmc]))
                clear hno hyes hmc
                go_wp2_with (go_at_call 79; ((with_reducible refine (hcall.out).mono ?_); rintro e w' ⟨rfl, rfl⟩))
                go_round
                case rel => exact ⟨k + 1, by omega, by go_num, hall2⟩
                case measure => simp [intOf]; omega
              | false =>
                have hrf : Hid (r = false) := hr2.out.trans (hno.out (by simp))
                clear hno hyes hmc
                go_wp2_with (go_at_call 79; ((with_reducible refine (hcall.out).mono ?_); rintro e w' ⟨rfl, rfl⟩))
                go_ret
                exact ⟨ret_bool hrf.out.symm, hB.out⟩
            · have hb2 : ((m : Int) != c) = true := by simpa using hmc
              have hrf : Hid (r = false) := hr2.out.trans (hno.out (by simp [hmc]))
              clear hno hyes hmc
              go_wp2
              go_ret
              exact ⟨ret_bool hrf.out.symm, hB.out⟩
          · obtain rfl : k = n := by omega
            have hrt : Hid (r = true) := hr2.out.trans (all_end (by rw [hn'.out]; exact hall.out))
            clear hM
            go_wp2
            go_ret
            exact ⟨ret_bool hrt.out.symm, hB.out⟩
      · have hb1 : decide ((24 : Int) < (n : Int)) = true := by simp; omega
        have hrf : Hid (r = false) := by
          show _ = _
          rw [← hr'.out]
          simp [matB, hn'.out, hlen]
        clear hM hlen
        go_enter Tryd.func45, Tryd.ntmps45
        go_wp2_with (first | (go_at_call 70; ((with_reducible refine (fdGood_any _ _).mono ?_); rintro e w' ⟨rfl, rfl⟩)) | (go_at_call 55; ((with_reducible refine (l1In_any _ _ _ _).mono ?_); rintro e w' ⟨rfl, rfl⟩)))
        go_ret
        exact ⟨ret_bool hrf.out.symm, hB.out⟩

end Ints
end Go.Proofs.YtnpjkcmhfpmgmaaDoor
