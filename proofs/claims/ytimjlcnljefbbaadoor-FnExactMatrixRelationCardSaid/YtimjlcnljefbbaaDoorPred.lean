/- Is it a matrix? The reference's functions. Is it a matrix? The program's functions. -/
import Derived.Test.YtimjlcnljefbbaaDoorPredPlain
import Derived.Test.YtimjlcnljefbbaaDoorFx
namespace Go.Proofs.YtimjlcnljefbbaaDoor
open Go.RowKit
namespace Ints
open Fld (goodB inB inR inR_eq inR_true inR_mk inR_no good_bounds l1In_any fdGood_any)

set_option maxHeartbeats 1000000 in
theorem l1All_any (v : Value) (n : Nat) (l : List Int) (lo hi : Int) (w : World) (h : Reads w 1 v n (ofL l)) :
    Calls Tryd.prog 54 #[v, .int .i64 lo, .int .i64 hi] w fun e w' => e = .returned (.bool (l.all fun a => inR a lo hi)) ∧ w = w' := by
  obtain ⟨hl, a, cap, rfl, hm, hc⟩ := open_reads h
  obtain ⟨r, hr⟩ : ∃ r, (l.all fun a => inR a lo hi) = r := ⟨_, rfl⟩
  rw [hr]
  have hr' := Lib.hid hr
  have hl' := Lib.hid hl
  have hc' := Lib.hid hc
  clear h hc hl hr
  go_enter Tryd.func54, Tryd.ntmps54
  go_wp2
  go_loop [11] (fun i => ∃ k : Nat, k ≤ n ∧ i = .int .i64 k ∧ Hid ((l.take k).all (fun a => inR a lo hi) = true)) (fun i => n + 1 - (intOf i).toNat)
  case atStart => exact ⟨0, by omega, rfl, all_start⟩
  case round =>
    obtain ⟨k, hk, rfl, hall⟩ := hrel
    by_cases hlt : k < n
    · obtain ⟨g, off, rfl, _, hcell⟩ := hc'.out (by omega)
      have hx := hcell k hlt
      cases hin : inR (l[k]?.getD 0) lo hi with
      | true =>
        have hall2 := Lib.hid (all_succ (d := 0) hall.out (by rw [hl'.out]; exact hlt) hin)
        clear hcell hc' hall
        generalize l[k]?.getD 0 = x at *
        go_wp2_with (go_at_call 76; ((with_reducible refine (l1In_any _ _ _ _).mono ?_); rintro e w' ⟨rfl, rfl⟩))
        go_round
        case rel => exact ⟨k + 1, by omega, by go_num, hall2⟩
        case measure => simp [intOf]; omega
      | false =>
        have hrf := Lib.hid (hr'.out.symm.trans (all_no (d := 0) (q := fun a => inR a lo hi) (by rw [hl'.out]; exact hlt) hin))
        clear hcell hc' hall
        generalize l[k]?.getD 0 = x at *
        go_wp2_with (go_at_call 76; ((with_reducible refine (l1In_any _ _ _ _).mono ?_); rintro e w' ⟨rfl, rfl⟩))
        go_ret
        exact ⟨ret_bool hrf.out.symm, rfl⟩
    · obtain rfl : k = n := by omega
      have hrt := Lib.hid (hr'.out.symm.trans (all_end (by rw [hl'.out]; exact hall.out)))
      go_wp2
      go_ret
      exact ⟨ret_bool hrt.out.symm, rfl⟩

theorem fdIn_any (p : Int) (h2 : 2 ≤ p) (h97 : p ≤ 97) (v : Value) (n : Nat) (l : List Int) (w : World) (h : Reads w 1 v n (ofL l)) :
    Calls Tryd.prog 77 #[.int .i64 p, v] w fun e w' => e = .returned (.bool (l.all (inB p))) ∧ w = w' := by
  have hcall := l1All_any v n l 0 (p - 1) w h
  rw [fdIn_eq] at hcall
  obtain ⟨r, hr⟩ : ∃ r, l.all (inB p) = r := ⟨_, rfl⟩
  rw [hr] at hcall ⊢
  have hcall' := Lib.hid hcall
  clear hcall h hr
  go_enter Tryd.func77, Tryd.ntmps77
  go_wp2_with (go_at_call 54; ((with_reducible refine (hcall'.out).mono ?_); rintro e w' ⟨rfl, rfl⟩))
  go_ret
  exact ⟨rfl, rfl⟩

set_option maxHeartbeats 2000000 in
theorem mxGood_any (p c : Int) (v : Value) (L : List (List Int)) (w : World) (h : ReadsM w v L) :
    Calls Tryd.prog 39 #[.int .i64 p, .agg #[.int .i64 c, v]] w fun e w' => e = .returned (.bool (matB p c L)) ∧ Below w.heap.size w w' := by
  have hB := Lib.hid ((Below.refl w.heap.size w).alloc (Nat.le_refl _) (.cells #[.int .i64 c, v] 30))
  obtain ⟨r, hr⟩ : ∃ r, matB p c L = r := ⟨_, rfl⟩
  rw [hr]
  have hr' := Lib.hid hr
  clear hr
  cases hg : goodB p with
  | false =>
    have hrf : Hid (r = false) := by show _ = _; rw [← hr'.out]; simp [matB, hg]
    clear h
    go_enter Tryd.func39, Tryd.ntmps39
    go_wp2_with (go_at_call 75; ((with_reducible refine (fdGood_any _ _).mono ?_); rintro e w' ⟨rfl, rfl⟩))
    go_ret
    exact ⟨ret_bool hrf.out.symm, hB.out⟩
  | true =>
    obtain ⟨h2, h97⟩ := good_bounds hg
    cases hc : inR c 0 24 with
    | false =>
      have hrf : Hid (r = false) := by show _ = _; rw [← hr'.out]; simp [matB, hc]
      clear h
      go_enter Tryd.func39, Tryd.ntmps39
      go_wp2_with (first | (go_at_call 75; ((with_reducible refine (fdGood_any _ _).mono ?_); rintro e w' ⟨rfl, rfl⟩)) | (go_at_call 76; ((with_reducible refine (l1In_any _ _ _ _).mono ?_); rintro e w' ⟨rfl, rfl⟩)))
      go_ret
      exact ⟨ret_bool hrf.out.symm, hB.out⟩
    | true =>
      have hM := Lib.hid (open_readsM (h.below hB.out))
      obtain ⟨a, cap, rfl, hm, _⟩ := open_readsM h
      obtain ⟨n, hn⟩ : ∃ n, L.length = n := ⟨_, rfl⟩
      rw [hn] at hm hB hM ⊢
      have hn' := Lib.hid hn
      clear hn h
      by_cases hlen : n ≤ 24
      · have hb1 : decide ((24 : Int) < (n : Int)) = false := by simp; omega
        have hr2 : Hid (r = rowsB p c L) := by
          show _ = _
          rw [← hr'.out]
          simp [matB, hc, hg, hn'.out, hlen]
        go_enter Tryd.func39, Tryd.ntmps39
        go_wp2_with (first | (go_at_call 75; ((with_reducible refine (fdGood_any _ _).mono ?_); rintro e w' ⟨rfl, rfl⟩)) | (go_at_call 76; ((with_reducible refine (l1In_any _ _ _ _).mono ?_); rintro e w' ⟨rfl, rfl⟩)))
        go_loop [25] (fun i => ∃ k : Nat, k ≤ n ∧ i = .int .i64 k ∧ Hid ((L.take k).all (vecB p c) = true)) (fun i => n + 1 - (intOf i).toNat)
        case atStart => exact ⟨0, by omega, rfl, all_start⟩
        case round =>
          obtain ⟨k, hk, rfl, hall⟩ := hrel
          by_cases hlt : k < n
          · obtain ⟨a', cap', e1, _, hcl⟩ := hM.out
            obtain ⟨g, off, r1, e2, _, hcell, hrd⟩ := hcl k hlt
            simp only [Value.slice.injEq] at e1
            obtain ⟨rfl, -, -⟩ := e1
            subst e2
            obtain ⟨a2, cap2, rfl⟩ := hrd.form
            have hcall := Lib.hid (fdIn_any p h2 h97 _ _ _ _ hrd)
            have hkL : k < L.length := by rw [hn'.out]; exact hlt
            have hv : vecB p c (lAt L k) = (decide (((lAt L k).length : Int) = c) && (lAt L k).all (inB p)) := rfl
            have hno := Lib.hid (fun hx => all_no (l := L) (q := vecB p c) (d := []) hkL hx)
            have hyes := Lib.hid (fun hx => all_succ (l := L) (q := vecB p c) (d := []) hall.out hkL hx)
            have hkL' := Lib.hid hkL
            clear hcl hrd hkL hM hall
            rw [show L[k]?.getD [] = lAt L k from rfl, hv] at hno hyes
            clear hv
            generalize (lAt L k).all (inB p) = b at *
            generalize (lAt L k).length = m at *
            by_cases hmc : (m : Int) = c
            · have hb2 : ((m : Int) != c) = false := by simpa using hmc
              cases b with
              | true =>
                have hall2 := Lib.hid (hyes.out (by simp [hmc]))
                clear hno hyes hmc
                go_wp2_with (go_at_call 77; ((with_reducible refine (hcall.out).mono ?_); rintro e w' ⟨rfl, rfl⟩))
                go_round
                case rel => exact ⟨k + 1, by omega, by go_num, hall2⟩
                case measure => simp [intOf]; omega
              | false =>
                have hrf : Hid (r = false) := hr2.out.trans (hno.out (by simp))
                clear hno hyes hmc
                go_wp2_with (go_at_call 77; ((with_reducible refine (hcall.out).mono ?_); rintro e w' ⟨rfl, rfl⟩))
                go_ret
                exact ⟨ret_bool hrf.out.symm, hB.out⟩
            · have hb2 : ((m : Int) != c) = true := by simpa using hmc
              have hrf : Hid (r = false) := hr2.out.trans (hno.out (by simp [hmc]))
              clear hno hyes hmc
              go_wp2
              go_ret
              exact ⟨ret_bool hrf.out.symm, hB.out⟩
          · obtain rfl : k = n := by omega
            have hrt : Hid (r = true) := hr2.out.trans (all_end (by rw [hn'.out]; exact hall.out))
            clear hM
            go_wp2
            go_ret
            exact ⟨ret_bool hrt.out.symm, hB.out⟩
      · have hb1 : decide ((24 : Int) < (n : Int)) = true := by simp; omega
        have hrf : Hid (r = false) := by
          show _ = _
          rw [← hr'.out]
          simp [matB, hn'.out, hlen]
        clear hM hlen
        go_enter Tryd.func39, Tryd.ntmps39
        go_wp2_with (first | (go_at_call 75; ((with_reducible refine (fdGood_any _ _).mono ?_); rintro e w' ⟨rfl, rfl⟩)) | (go_at_call 76; ((with_reducible refine (l1In_any _ _ _ _).mono ?_); rintro e w' ⟨rfl, rfl⟩)))
        go_ret
        exact ⟨ret_bool hrf.out.symm, hB.out⟩

end Ints
end Go.Proofs.YtimjlcnljefbbaaDoor

namespace Go.Proofs.YtimjlcnljefbbaaDoor
open Go.RowKit
namespace Ints
open Fld (goodB inB inR inR_eq inR_true inR_mk inR_no good_bounds isElement_any isField_any tab_alloc)

set_option maxHeartbeats 400000 in
theorem within_any (n lo hi : Int) (w : World) :
    Calls Tryd.prog 57 #[.int .i64 n, .int .i64 lo, .int .i64 hi] w fun e w' => e = .returned (.bool (inR n lo hi)) ∧ w = w' := by
  by_cases h : lo ≤ n
  · have h1 : decide (lo ≤ n) = true := by simpa using h
    have e1 : inR n lo hi = decide (n ≤ hi) := by simp [inR, h]
    rw [e1]
    clear h e1
    go_enter Tryd.func57, Tryd.ntmps57
    go_wp2
    go_ret
    exact ⟨by simp, rfl⟩
  · have h1 : decide (lo ≤ n) = false := by simpa using h
    have e1 : inR n lo hi = false := by simp [inR, h]
    rw [e1]
    clear h e1
    go_enter Tryd.func57, Tryd.ntmps57
    go_wp2
    go_ret
    exact ⟨by simp, rfl⟩

set_option maxHeartbeats 1000000 in
theorem isVector_any (p q : Int) (v : Value) (n : Nat) (l : List Int) (w : World) (h : Reads w 1 v n (ofL l)) :
    Calls Tryd.prog 65 #[.int .i64 p, v, .int .i64 q] w fun e w' => e = .returned (.bool (vecB p q l)) ∧ w = w' := by
  obtain ⟨hl, a, cap, rfl, hm, hc⟩ := open_reads h
  have hl' := Lib.hid hl
  have hc' := Lib.hid hc
  clear h hc
  by_cases hq : (n : Int) = q
  · have hne : ((n : Int) != q) = false := by simpa using hq
    have e1 : vecB p q l = l.all (inB p) := by simp [vecB, hl, hq]
    rw [e1]
    obtain ⟨r, hr⟩ : ∃ r, l.all (inB p) = r := ⟨_, rfl⟩
    rw [hr]
    have hr' := Lib.hid hr
    clear hl hq e1 hr
    go_enter Tryd.func65, Tryd.ntmps65
    go_wp2
    go_loop [15] (fun i => ∃ k : Nat, k ≤ n ∧ i = .int .i64 k ∧ Hid ((l.take k).all (inB p) = true)) (fun i => n + 1 - (intOf i).toNat)
    case atStart => exact ⟨0, by omega, rfl, all_start⟩
    case round =>
      obtain ⟨k, hk, rfl, hall⟩ := hrel
      by_cases hlt : k < n
      · obtain ⟨g, off, rfl, _, hcell⟩ := hc'.out (by omega)
        have hx := hcell k hlt
        cases hin : inB p (l[k]?.getD 0) with
        | true =>
          have hall2 := Lib.hid (all_succ (d := 0) hall.out (by rw [hl'.out]; exact hlt) hin)
          clear hcell hc' hall
          generalize l[k]?.getD 0 = x at *
          go_wp2_with (go_at_call 95; ((with_reducible refine (isElement_any _ _ _).mono ?_); rintro e w' ⟨rfl, rfl⟩))
          go_round
          case rel => exact ⟨k + 1, by omega, by go_num, hall2⟩
          case measure => simp [intOf]; omega
        | false =>
          have hrf := Lib.hid (hr'.out.symm.trans (all_no (d := 0) (q := inB p) (by rw [hl'.out]; exact hlt) hin))
          clear hcell hc' hall
          generalize l[k]?.getD 0 = x at *
          go_wp2_with (go_at_call 95; ((with_reducible refine (isElement_any _ _ _).mono ?_); rintro e w' ⟨rfl, rfl⟩))
          go_ret
          exact ⟨ret_bool hrf.out.symm, rfl⟩
      · obtain rfl : k = n := by omega
        have hrt := Lib.hid (hr'.out.symm.trans (all_end (by rw [hl'.out]; exact hall.out)))
        go_wp2
        go_ret
        exact ⟨ret_bool hrt.out.symm, rfl⟩
  · have hne : ((n : Int) != q) = true := by simpa using hq
    have e1 : vecB p q l = false := by simp [vecB, hl, hq]
    rw [e1]
    clear hl hq e1
    go_enter Tryd.func65, Tryd.ntmps65
    go_wp2
    go_ret
    exact ⟨rfl, rfl⟩

set_option maxHeartbeats 1000000 in
theorem areVectors_any (p q : Int) (v : Value) (L : List (List Int)) (w : World) (h : ReadsM w v L) :
    Calls Tryd.prog 79 #[.int .i64 p, v, .int .i64 q] w fun e w' => e = .returned (.bool (rowsB p q L)) ∧ w = w' := by
  obtain ⟨a, cap, rfl, hm, hc⟩ := open_readsM h
  obtain ⟨n, hn⟩ : ∃ n, L.length = n := ⟨_, rfl⟩
  rw [hn] at hm hc ⊢
  obtain ⟨r, hr⟩ : ∃ r, rowsB p q L = r := ⟨_, rfl⟩
  rw [hr]
  have hr' := Lib.hid hr
  have hn' := Lib.hid hn
  have hc' := Lib.hid hc
  clear h hc hn hr
  go_enter Tryd.func79, Tryd.ntmps79
  go_wp2
  go_loop [11] (fun i => ∃ k : Nat, k ≤ n ∧ i = .int .i64 k ∧ Hid ((L.take k).all (vecB p q) = true)) (fun i => n + 1 - (intOf i).toNat)
  case atStart => exact ⟨0, by omega, rfl, all_start⟩
  case round =>
    obtain ⟨k, hk, rfl, hall⟩ := hrel
    by_cases hlt : k < n
    · obtain ⟨g, off, r1, rfl, _, hcell, hrd⟩ := hc'.out k hlt
      have hcall := Lib.hid (isVector_any p q _ _ _ w hrd)
      have hkL : k < L.length := by rw [hn'.out]; exact hlt
      cases hin : vecB p q (lAt L k) with
      | true =>
        have hall2 := Lib.hid (all_succ (d := []) hall.out hkL hin)
        clear hrd hc' hall hkL
        generalize lAt L k = x at *
        go_wp2_with (go_at_call 65; ((with_reducible refine (hcall.out).mono ?_); rintro e w' ⟨rfl, rfl⟩))
        go_round
        case rel => exact ⟨k + 1, by omega, by go_num, hall2⟩
        case measure => simp [intOf]; omega
      | false =>
        have hrf := Lib.hid (hr'.out.symm.trans (all_no (d := []) (q := vecB p q) hkL hin))
        clear hrd hc' hall hkL
        generalize lAt L k = x at *
        go_wp2_with (go_at_call 65; ((with_reducible refine (hcall.out).mono ?_); rintro e w' ⟨rfl, rfl⟩))
        go_ret
        exact ⟨ret_bool hrf.out.symm, rfl⟩
    · obtain rfl : k = n := by omega
      have hrt := Lib.hid (hr'.out.symm.trans (all_end (by rw [hn'.out]; exact hall.out)))
      go_wp2
      go_ret
      exact ⟨ret_bool hrt.out.symm, rfl⟩

set_option maxHeartbeats 1000000 in
theorem isMatrix_any (p c : Int) (v : Value) (L : List (List Int)) (w : World) (ht : Tab w) (h : ReadsM w v L) :
    Calls Tryd.prog 42 #[.int .i64 p, .agg #[.int .i64 c, v]] w fun e w' => e = .returned (.bool (matB p c L)) ∧ Below w.heap.size w w' := by
  have hB := Lib.hid ((Below.refl w.heap.size w).alloc (Nat.le_refl _) (.cells #[.int .i64 c, v] 30))
  have htB := Lib.hid (tab_alloc ht (.cells #[.int .i64 c, v] 30))
  obtain ⟨r, hr⟩ : ∃ r, matB p c L = r := ⟨_, rfl⟩
  rw [hr]
  have hr' := Lib.hid hr
  clear hr
  have hcall := Lib.hid (areVectors_any p c v L _ (h.below hB.out))
  obtain ⟨a, cap, rfl, hm, _⟩ := open_readsM h
  obtain ⟨n, hn⟩ : ∃ n, L.length = n := ⟨_, rfl⟩
  have hn' := Lib.hid hn
  rw [hn] at hm hB hcall htB ⊢
  clear hn h ht
  cases hg : goodB p with
  | false =>
    have hrf : Hid (r = false) := by show _ = _; rw [← hr'.out]; simp [matB, hg]
    go_enter Tryd.func42, Tryd.ntmps42
    go_wp2_with (go_at_call 78; ((with_reducible refine (isField_any _ _ htB.out).mono ?_); rintro e w' ⟨rfl, rfl⟩))
    go_ret
    exact ⟨ret_bool hrf.out.symm, hB.out⟩
  | true =>
    cases hc : inR c 0 24 with
    | false =>
      have hrf : Hid (r = false) := by show _ = _; rw [← hr'.out]; simp [matB, hc]
      go_enter Tryd.func42, Tryd.ntmps42
      go_wp2_with (first | (go_at_call 78; ((with_reducible refine (isField_any _ _ htB.out).mono ?_); rintro e w' ⟨rfl, rfl⟩)) | (go_at_call 57; ((with_reducible refine (within_any _ _ _ _).mono ?_); rintro e w' ⟨rfl, rfl⟩)))
      go_ret
      exact ⟨ret_bool hrf.out.symm, hB.out⟩
    | true =>
      by_cases hlen : n ≤ 24
      · have hb1 : decide ((n : Int) ≤ (24 : Int)) = true := by simp; omega
        have hr2 : Hid (rowsB p c L = r) := by
          show _ = _
          rw [← hr'.out]
          simp [matB, hc, hg, hn'.out, hlen]
        rw [hr2.out] at hcall
        go_enter Tryd.func42, Tryd.ntmps42
        go_wp2_with (first | (go_at_call 78; ((with_reducible refine (isField_any _ _ htB.out).mono ?_); rintro e w' ⟨rfl, rfl⟩)) | (go_at_call 57; ((with_reducible refine (within_any _ _ _ _).mono ?_); rintro e w' ⟨rfl, rfl⟩)) | (go_at_call 79; ((with_reducible refine (hcall.out).mono ?_); rintro e w' ⟨rfl, rfl⟩)))
        go_ret
        exact ⟨rfl, hB.out⟩
      · have hb1 : decide ((n : Int) ≤ (24 : Int)) = false := by simp; omega
        have hrf : Hid (r = false) := by
          show _ = _
          rw [← hr'.out]
          simp [matB, hn'.out, hlen]
        clear hlen
        go_enter Tryd.func42, Tryd.ntmps42
        go_wp2_with (first | (go_at_call 78; ((with_reducible refine (isField_any _ _ htB.out).mono ?_); rintro e w' ⟨rfl, rfl⟩)) | (go_at_call 57; ((with_reducible refine (within_any _ _ _ _).mono ?_); rintro e w' ⟨rfl, rfl⟩)))
        go_ret
        exact ⟨ret_bool hrf.out.symm, hB.out⟩

end Ints
end Go.Proofs.YtimjlcnljefbbaaDoor
