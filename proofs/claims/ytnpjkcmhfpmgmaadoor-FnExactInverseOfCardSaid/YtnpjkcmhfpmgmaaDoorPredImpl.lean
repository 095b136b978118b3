/- Is it a matrix? The program's functions. -/
import Derived.Test.YtnpjkcmhfpmgmaaDoorPredPlain
import Derived.Test.YtnpjkcmhfpmgmaaDoorFxElem
import Derived.Test.YtnpjkcmhfpmgmaaDoorFxField
namespace Go.Proofs.YtnpjkcmhfpmgmaaDoor
open Go.RowKit
namespace Ints
open Fld (goodB inB inR inR_eq inR_true inR_mk inR_no good_bounds isElement_any isField_any tab_alloc)

set_option maxHeartbeats 400000 in
theorem within_any (n lo hi : Int) (w : World) :
    Calls Tryd.prog 58 #[.int .i64 n, .int .i64 lo, .int .i64 hi] w fun e w' => e = .returned (.bool (inR n lo hi)) ∧ w = w' := by
  by_cases h : lo ≤ n
  · have h1 : decide (lo ≤ n) = true := by simpa using h
    have e1 : inR n lo hi = decide (n ≤ hi) := by simp [inR, h]
    rw [e1]
    clear h e1
    go_enter Tryd.func58, Tryd.ntmps58
    go_wp2
    go_ret
    exact ⟨by simp, rfl⟩
  · have h1 : decide (lo ≤ n) = false := by simpa using h
    have e1 : inR n lo hi = false := by simp [inR, h]
    rw [e1]
    clear h e1
    go_enter Tryd.func58, Tryd.ntmps58
    go_wp2
    go_ret
    exact ⟨by simp, rfl⟩

set_option maxHeartbeats 1000000 in
theorem isVector_any (p q : Int) (v : Value) (n : Nat) (l : List Int) (w : World) (h : Reads w 1 v n (ofL l)) :
    Calls Tryd.prog 98 #[.int .i64 p, v, .int .i64 q] w fun e w' => e = .returned (.bool (vecB p q l)) ∧ w = w' := by
  obtain ⟨hl, a, cap, rfl, hm, hc⟩ := open_reads h
  have hl' := Lib.hid hl
  have hc' := Lib.hid hc
  clear h hc
  by_cases hq : (n : Int) = q
  · have hne : ((n : Int) != q) = false := by simpa using hq
    have e1 : vecB p q l = l.all (inB p) := by simp [vecB, hl, hq]
    rw [e1]
    obtain ⟨r, hr⟩ : ∃ r, l.all (inB p) = r := ⟨_, rfl⟩
    rw [hr]
    have hr' := Lib.hid hr
    clear hl hq e1 hr
    go_enter Tryd.func98, Tryd.ntmps98
    go_wp2
    go_loop [15] (fun i => ∃ k : Nat, k ≤ n ∧ i = .int .i64 k ∧ Hid ((l.take k).all (inB p) = true)) (fun i => n + 1 - (intOf i).toNat)
    case atStart => exact ⟨0, by omega, rfl, all_start⟩
    case round =>
      obtain ⟨k, hk, rfl, hall⟩ := hrel
      by_cases hlt : k < n
      · obtain ⟨g, off, rfl, _, hcell⟩ := hc'.out (by omega)
        have hx := hcell k hlt
        cases hin : inB p (l[k]?.getD 0) with
        | true =>
          have hall2 := Lib.hid (all_succ (d := 0) hall.out (by rw [hl'.out]; exact hlt) hin)
          clear hcell hc' hall
          generalize l[k]?.getD 0 = x at *
          go_wp2_with (go_at_call 102; ((with_reducible refine (isElement_any _ _ _).mono ?_); rintro e w' ⟨rfl, rfl⟩))
          go_round
          case rel => exact ⟨k + 1, by omega, by go_num, hall2⟩
          case measure => simp [intOf]; omega
        | false =>
          have hrf := Lib.hid (hr'.out.symm.trans (all_no (d := 0) (q := inB p) (by rw [hl'.out]; exact hlt) hin))
          clear hcell hc' hall
          generalize l[k]?.getD 0 = x at *
          go_wp2_with (go_at_call 102; ((with_reducible refine (isElement_any _ _ _).mono ?_); rintro e w' ⟨rfl, rfl⟩))
          go_ret
          exact ⟨ret_bool hrf.out.symm, rfl⟩
      · obtain rfl : k = n := by omega
        have hrt := Lib.hid (hr'.out.symm.trans (all_end (by rw [hl'.out]; exact hall.out)))
        go_wp2
        go_ret
        exact ⟨ret_bool hrt.out.symm, rfl⟩
  · have hne : ((n : Int) != q) = true := by simpa using hq
    have e1 : vecB p q l = false := by simp [vecB, hl, hq]
    rw [e1]
    clear hl hq e1
    go_enter Tryd.func98, Tryd.ntmps98
    go_wp2
    go_ret
    exact ⟨rfl, rfl⟩

set_option maxHeartbeats 1000000 in
theorem areVectors_any (p q : Int) (v : Value) (L : List (List Int)) (w : World) (h : ReadsM w v L) :
    Calls Tryd.prog 75 #[.int .i64 p, v, .int .i64 q] w fun e w' => e = .returned (.bool (rowsB p q L)) ∧ w = w' := by
  obtain ⟨a, cap, rfl, hm, hc⟩ := open_readsM h
  obtain ⟨n, hn⟩ : ∃ n, L.length = n := ⟨_, rfl⟩
  rw [hn] at hm hc ⊢
  obtain ⟨r, hr⟩ : ∃ r, rowsB p q L = r := ⟨_, rfl⟩
  rw [hr]
  have hr' := Lib.hid hr
  have hn' := Lib.hid hn
  have hc' := Lib.hid hc
  clear h hc hn hr
  go_enter Tryd.func75, Tryd.ntmps75
  go_wp2
  go_loop [11] (fun i => ∃ k : Nat, k ≤ n ∧ i = .int .i64 k ∧ Hid ((L.take k).all (vecB p q) = true)) (fun i => n + 1 - (intOf i).toNat)
  case atStart => exact ⟨0, by omega, rfl, all_start⟩
  case round =>
    obtain ⟨k, hk, rfl, hall⟩ := hrel
    by_cases hlt : k < n
    · obtain ⟨g, off, r1, rfl, _, hcell, hrd⟩ := hc'.out k hlt
      have hcall := Lib.hid (isVector_any p q _ _ _ w hrd)
      have hkL : k < L.length := by rw [hn'.out]; exact hlt
      cases hin : vecB p q (lAt L k) with
      | true =>
        have hall2 := Lib.hid (all_succ (d := []) hall.out hkL hin)
        clear hrd hc' hall hkL
        generalize lAt L k = x at *
        go_wp2_with (go_at_call 98; ((with_reducible refine (hcall.out).mono ?_); rintro e w' ⟨rfl, rfl⟩))
        go_round
        case rel => exact ⟨k + 1, by omega, by go_num, hall2⟩
        case measure => simp [intOf]; omega
      | false =>
        have hrf := Lib.hid (hr'.out.symm.trans (all_no (d := []) (q := vecB p q) hkL hin))
        clear hrd hc' hall hkL
        generalize lAt L k = x at *
        go_wp2_with (go_at_call 98; ((with_reducible refine (hcall.out).mono ?_); rintro e w' ⟨rfl, rfl⟩))
        go_ret
        exact ⟨ret_bool hrf.out.symm, rfl⟩
    · obtain rfl : k = n := by omega
      have hrt := Lib.hid (hr'.out.symm.trans (all_end (by rw [hn'.out]; exact hall.out)))
      go_wp2
      go_ret
      exact ⟨ret_bool hrt.out.symm, rfl⟩

set_option maxHeartbeats 1000000 in
theorem isMatrix_any (p c : Int) (v : Value) (L : List (List Int)) (w : World) (ht : Tab w) (h : ReadsM w v L) :
    Calls Tryd.prog 48 #[.int .i64 p, .agg #[.int .i64 c, v]] w fun e w' => e = .returned (.bool (matB p c L)) ∧ Below w.heap.size w w' := by
  have hB := Lib.hid ((Below.refl w.heap.size w).alloc (Nat.le_refl _) (.cells #[.int .i64 c, v] 26))
  have htB := Lib.hid (tab_alloc ht (.cells #[.int .i64 c, v] 26))
  obtain ⟨r, hr⟩ : ∃ r, matB p c L = r := ⟨_, rfl⟩
  rw [hr]
  have hr' := Lib.hid hr
  clear hr
  have hcall := Lib.hid (areVectors_any p c v L _ (h.below hB.out))
  obtain ⟨a, cap, rfl, hm, _⟩ := open_readsM h
  obtain ⟨n, hn⟩ : ∃ n, L.length = n := ⟨_, rfl⟩
  have hn' := Lib.hid hn
  rw [hn] at hm hB hcall htB ⊢
  clear hn h ht
  cases hg : goodB p with
  | false =>
    have hrf : Hid (r = false) := by show _ = _; rw [← hr'.out]; simp [matB, hg]
    go_enter Tryd.func48, Tryd.ntmps48
    go_wp2_with (go_at_call 74; ((with_reducible refine (isField_any _ _ htB.out).mono ?_); rintro e w' ⟨rfl, rfl⟩))
    go_ret
    exact ⟨ret_bool hrf.out.symm, hB.out⟩
  | true =>
    cases hc : inR c 0 24 with
    | false =>
      have hrf : Hid (r = false) := by show _ = _; rw [← hr'.out]; simp [matB, hc]
      go_enter Tryd.func48, Tryd.ntmps48
      go_wp2_with (first | (go_at_call 74; ((with_reducible refine (isField_any _ _ htB.out).mono ?_); rintro e w' ⟨rfl, rfl⟩)) | (go_at_call 58; ((with_reducible refine (within_any _ _ _ _).mono ?_); rintro e w' ⟨rfl, rfl⟩)))
      go_ret
      exact ⟨ret_bool hrf.out.symm, hB.out⟩
    | true =>
      by_cases hlen : n ≤ 24
      · have hb1 : decide ((n : Int) ≤ (24 : Int)) = true := by simp; omega
        have hr2 : Hid (rowsB p c L = r) := by
          show _ = _
          rw [← hr'.out]
          simp [matB, hc, hg, hn'.out, hlen]
        rw [hr2.out] at hcall
        go_enter Tryd.func48, Tryd.ntmps48
        go_wp2_with (first | (go_at_call 74; ((with_reducible refine (isField_any _ _ htB.out).mono ?_); rintro e w' ⟨rfl, rfl⟩)) | (go_at_call 58; ((with_reducible refine (within_any _ _ _ _).mono ?_); rintro e w' ⟨rfl, rfl⟩)) | (go_at_call 75; ((with_reducible refine (hcall.out).mono ?_); rintro e w' ⟨rfl, rfl⟩)))
        go_ret
        exact ⟨rfl, hB.out⟩
      · have hb1 : decide ((n : Int) ≤ (24 : Int)) = false := by simp; omega
        have hrf : Hid (r = false) := by
          show _ = _
          rw [← hr'.out]
          simp [matB, hn'.out, hlen]
        clear hlen
        go_enter Tryd.func48, Tryd.ntmps48
        go_wp2_with (first | (go_at_call 74; ((with_reducible refine (isField_any _ _ htB.out).mono ?_); rintro e w' ⟨rfl, rfl⟩)) | (go_at_call 58; ((with_reducible refine (within_any _ _ _ _).mono ?_); rintro e w' ⟨rfl, rfl⟩)))
        go_ret
        exact ⟨ret_bool hrf.out.symm, hB.out⟩

end Ints
end Go.Proofs.YtnpjkcmhfpmgmaaDoor
