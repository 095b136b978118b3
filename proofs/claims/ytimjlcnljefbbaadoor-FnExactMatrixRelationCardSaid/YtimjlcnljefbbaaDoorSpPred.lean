/- spRows, l1Same, spSame. (Printed by wip/gen_sppred.py.) -/
import Derived.Test.YtimjlcnljefbbaaDoorPred
import Derived.Test.YtimjlcnljefbbaaDoorRowsB
import Derived.BigQuiet
namespace Go.Proofs.YtimjlcnljefbbaaDoor
open Go.RowKit
namespace Ints
open Fld (goodB inB inR good_bounds)

set_option maxHeartbeats 1000000 in
theorem l1Same_any (va vb : Value) (n m : Nat) (la lb : List Int) (w : World) (ha : Reads w 1 va n (ofL la)) (hb : Reads w 1 vb m (ofL lb)) :
    Calls Tryd.prog 110 #[va, vb] w fun e w' => e = .returned (.bool (la == lb)) ∧ Quiet w w' := by
  obtain ⟨ha0, a, ca, rfl, ham, ha3⟩ := open_reads ha
  obtain ⟨hb0, b, cb, rfl, hbm, hb3⟩ := open_reads hb
  clear ha hb
  obtain ⟨r, hr⟩ : ∃ r, (la == lb) = r := ⟨_, rfl⟩
  rw [hr]
  have hr' := Lib.hid hr
  clear hr
  by_cases hnm : n = m
  · subst hnm
    have ha0' := Lib.hid ha0
    have hb0' := Lib.hid hb0
    have ha3' := Lib.hid ha3
    have hb3' := Lib.hid hb3
    clear ha0 hb0 ha3 hb3
    have hne : ((n : Int) != (n : Int)) = false := by simp
    go_enter Tryd.func110, Tryd.ntmps110
    go_wp2
    go_loopw [13] (fun i wr => ∃ k : Nat, k ≤ n ∧ i = .int .i64 k ∧ Hid (la.take k = lb.take k) ∧ Quiet w wr) (fun i _ => n + 1 - (intOf i).toNat)
    case atStart => exact ⟨0, by omega, rfl, show _ = _ by simp, Quiet.refl _⟩
    case round =>
      obtain ⟨k, hk, rfl, heq, hch⟩ := hrel
      by_cases hlt : k < n
      · obtain ⟨g, off, rfl, _, hca⟩ := ha3'.out (by omega)
        obtain ⟨g2, off2, rfl, _, hcb⟩ := hb3'.out (by omega)
        have hxa : wr.cell? ⟨g, off + k, none⟩ = some (.int .i64 (la[k]?.getD 0)) := (hch.cell _).trans (hca k hlt)
        have hxb : wr.cell? ⟨g2, off2 + k, none⟩ = some (.int .i64 (lb[k]?.getD 0)) := (hch.cell _).trans (hcb k hlt)
        have hta := Lib.hid (take_one la k (by rw [ha0'.out]; exact hlt))
        have htb := Lib.hid (take_one lb k (by rw [hb0'.out]; exact hlt))
        have hla : Hid (∃ y, la = la.take k ++ la[k]?.getD 0 :: y) := ⟨la.drop (k + 1), by rw [show la[k]?.getD 0 :: la.drop (k + 1) = [la[k]?.getD 0] ++ la.drop (k + 1) from rfl, ← List.append_assoc, ← hta.out, List.take_append_drop]⟩
        have hlb : Hid (∃ y, lb = lb.take k ++ lb[k]?.getD 0 :: y) := ⟨lb.drop (k + 1), by rw [show lb[k]?.getD 0 :: lb.drop (k + 1) = [lb[k]?.getD 0] ++ lb.drop (k + 1) from rfl, ← List.append_assoc, ← htb.out, List.take_append_drop]⟩
        have hch' := Lib.hid hch
        clear ha3' hb3' hca hcb hch
        generalize la[k]?.getD 0 = x at *
        generalize lb[k]?.getD 0 = y at *
        have hk0 : 0 ≤ (k : Int) := by omega
        have hkn : (k : Int) < (n : Int) := by omega
        by_cases hxy : x = y
        · subst hxy
          have hbne : (x != x) = false := by simp
          have heq2 : Hid (la.take (k + 1) = lb.take (k + 1)) := by show _ = _; rw [hta.out, htb.out, heq.out]
          clear hta htb hla hlb heq
          go_wp2
          go_quiet (fail)
          go_wp2
          go_roundw
          case rel => exact ⟨k + 1, by omega, by go_num, heq2, hch'.out.drewN _⟩
          case measure => simp [intOf]; omega
        · have hbne : (x != y) = true := by simpa using hxy
          have hrf : Hid (r = false) := by
            show _ = _
            rw [← hr'.out, beq_eq_false_iff_ne]
            intro he
            obtain ⟨y1, h1⟩ := hla.out
            obtain ⟨y2, h2⟩ := hlb.out
            rw [h1, h2, heq.out] at he
            have := List.append_cancel_left he
            simp at this
            exact hxy this.1
          clear hta htb hla hlb heq hxy
          go_wp2
          go_quiet (fail)
          go_wp2
          go_ret
          exact ⟨ret_bool hrf.out.symm, hch'.out.drewN _⟩
      · obtain rfl : k = n := by omega
        have hrt : Hid (r = true) := by
          show _ = _
          rw [← hr'.out, beq_iff_eq]
          have := heq.out
          rw [← ha0'.out] at this
          rw [List.take_length] at this
          rw [this, ha0'.out, ← hb0'.out, List.take_length]
        go_wp2
        go_ret
        exact ⟨ret_bool hrt.out.symm, hch⟩
  · have hne : ((n : Int) != (m : Int)) = true := by simp; omega
    have hrf : Hid (r = false) := by
      show _ = _
      rw [← hr'.out, beq_eq_false_iff_ne]
      intro he
      subst he
      omega
    clear ha0 hb0 ha3 hb3 hnm
    go_enter Tryd.func110, Tryd.ntmps110
    go_wp2
    go_ret
    exact ⟨ret_bool hrf.out.symm, Quiet.refl _⟩

set_option maxHeartbeats 2000000 in
theorem spSame_any (va vb : Value) (La Lb : List (List Int)) (w : World) (ha : ReadsM w va La) (hb : ReadsM w vb Lb) :
    Calls Tryd.prog 89 #[va, vb] w fun e w' => e = .returned (.bool (La == Lb)) ∧ Quiet w w' := by
  obtain ⟨a, ca, rfl, ham, ha3⟩ := open_readsM ha
  obtain ⟨b, cb, rfl, hbm, hb3⟩ := open_readsM hb
  clear ha hb
  obtain ⟨r, hr⟩ : ∃ r, (La == Lb) = r := ⟨_, rfl⟩
  obtain ⟨n, hn⟩ : ∃ n, La.length = n := ⟨_, rfl⟩
  obtain ⟨m, hm⟩ : ∃ m, Lb.length = m := ⟨_, rfl⟩
  rw [hr]
  have hr' := Lib.hid hr
  have hn' := Lib.hid hn
  have hm' := Lib.hid hm
  have ha3' := Lib.hid ha3
  have hb3' := Lib.hid hb3
  rw [hn] at ham ⊢
  rw [hm] at hbm ⊢
  clear hr ha3 hb3 hn hm
  by_cases hnm : n = m
  · subst hnm
    have hne : ((n : Int) != (n : Int)) = false := by simp
    go_enter Tryd.func89, Tryd.ntmps89
    go_wp2
    go_loopw [13] (fun i wr => ∃ k : Nat, k ≤ n ∧ i = .int .i64 k ∧ Hid (La.take k = Lb.take k) ∧ Quiet w wr) (fun i _ => n + 1 - (intOf i).toNat)
    case atStart => exact ⟨0, by omega, rfl, show _ = _ by simp, Quiet.refl _⟩
    case round =>
      obtain ⟨k, hk, rfl, heq, hch⟩ := hrel
      have hch' := Lib.hid hch
      by_cases hlt : k < n
      · obtain ⟨g, off, ra, rfl, _, hca, hra⟩ := ha3'.out k (by rw [hn'.out]; exact hlt)
        obtain ⟨g2, off2, rb, rfl, _, hcb, hrb⟩ := hb3'.out k (by rw [hm'.out]; exact hlt)
        have hxa : wr.cell? ⟨g, off + k, none⟩ = some ra := (hch.cell _).trans hca
        have hxb : wr.cell? ⟨g2, off2 + k, none⟩ = some rb := (hch.cell _).trans hcb
        have hta := Lib.hid (take_oneL La k (by rw [hn'.out]; exact hlt))
        have htb := Lib.hid (take_oneL Lb k (by rw [hm'.out]; exact hlt))
        have hla := Lib.hid (split_at La k (by rw [hn'.out]; exact hlt))
        have hlb := Lib.hid (split_at Lb k (by rw [hm'.out]; exact hlt))
        have hcall : Hid (∀ q, Calls Tryd.prog 110 #[ra, rb] (wr.drewN q) fun e w' => e = .returned (.bool (lAt La k == lAt Lb k)) ∧ Quiet (wr.drewN q) w') := fun q =>
          l1Same_any ra rb _ _ _ _ _ (hra.below ((hch.drewN q).below _)) (hrb.below ((hch.drewN q).below _))
        clear ha3' hb3' hca hcb hch hra hrb
        generalize lAt La k = x at *
        generalize lAt Lb k = y at *
        have hk0 : 0 ≤ (k : Int) := by omega
        have hkn : (k : Int) < (n : Int) := by omega
        by_cases hxy : x = y
        · subst hxy
          have hbe : (x == x) = true := by simp
          rw [hbe] at hcall
          have heq2 : Hid (La.take (k + 1) = Lb.take (k + 1)) := by show _ = _; rw [hta.out, htb.out, heq.out]
          clear hta htb hla hlb heq hbe
          go_wp2
          go_quiet ((go_at_call 110; exact Calls.quiet_of (hcall.out _)))
          go_wp2
          go_roundw
          case rel => exact ⟨k + 1, by omega, by go_num, heq2, hch'.out.drewN _⟩
          case measure => simp [intOf]; omega
        · have hbe : (x == y) = false := by simpa using hxy
          rw [hbe] at hcall
          have hrf : Hid (r = false) := by
            show _ = _
            rw [← hr'.out, beq_eq_false_iff_ne]
            intro he
            obtain ⟨y1, h1⟩ := hla.out
            obtain ⟨y2, h2⟩ := hlb.out
            rw [h1, h2, heq.out] at he
            have := List.append_cancel_left he
            simp at this
            exact hxy this.1
          clear hta htb hla hlb heq hxy hbe
          go_wp2
          go_quiet ((go_at_call 110; exact Calls.quiet_of (hcall.out _)))
          go_wp2
          go_ret
          exact ⟨ret_bool hrf.out.symm, hch'.out.drewN _⟩
      · obtain rfl : k = n := by omega
        have hrt : Hid (r = true) := by
          show _ = _
          rw [← hr'.out, beq_iff_eq]
          have h1 := heq.out
          rw [← hn'.out, List.take_length, hn'.out, ← hm'.out, List.take_length] at h1
          exact h1
        clear hch
        go_wp2
        go_ret
        exact ⟨ret_bool hrt.out.symm, hch'.out⟩
  · have hne : ((n : Int) != (m : Int)) = true := by simp; omega
    have hrf : Hid (r = false) := by
      show _ = _
      rw [← hr'.out, beq_eq_false_iff_ne]
      intro he
      have h1 := hn'.out
      have h2 := hm'.out
      rw [he] at h1
      omega
    clear ha3' hb3' hnm
    go_enter Tryd.func89, Tryd.ntmps89
    go_wp2
    go_ret
    exact ⟨ret_bool hrf.out.symm, Quiet.refl _⟩

set_option maxHeartbeats 1000000 in
theorem spRows_any (p c : Int) (h2 : 2 ≤ p) (h97 : p ≤ 97) (v : Value) (L : List (List Int)) (w : World) (h : ReadsM w v L) :
    Calls Tryd.prog 88 #[.int .i64 p, .int .i64 c, v] w fun e w' => e = .returned (.bool (rowsB p c L)) ∧ w = w' := by
  obtain ⟨r, hr⟩ : ∃ r, rowsB p c L = r := ⟨_, rfl⟩
  rw [hr]
  have hr' := Lib.hid hr
  have hM := Lib.hid (open_readsM h)
  obtain ⟨a, cap, rfl, hm, _⟩ := open_readsM h
  obtain ⟨n, hn⟩ : ∃ n, L.length = n := ⟨_, rfl⟩
  rw [hn] at hm hM ⊢
  have hn' := Lib.hid hn
  clear hn h hr
  go_enter Tryd.func88, Tryd.ntmps88
  go_wp2
  go_loop [11] (fun i => ∃ k : Nat, k ≤ n ∧ i = .int .i64 k ∧ Hid ((L.take k).all (vecB p c) = true)) (fun i => n + 1 - (intOf i).toNat)
  case atStart => exact ⟨0, by omega, rfl, all_start⟩
  case round =>
    obtain ⟨k, hk, rfl, hall⟩ := hrel
    by_cases hlt : k < n
    · obtain ⟨a', cap', e1, _, hcl⟩ := hM.out
      obtain ⟨g, off, r1, e2, _, hcell, hrd⟩ := hcl k hlt
      simp only [Value.slice.injEq] at e1
      obtain ⟨rfl, -, -⟩ := e1
      subst e2
      obtain ⟨a2, cap2, rfl⟩ := hrd.form
      have hcall := Lib.hid (fdIn_any p h2 h97 _ _ _ _ hrd)
      have hkL : k < L.length := by rw [hn'.out]; exact hlt
      have hv : vecB p c (lAt L k) = (decide (((lAt L k).length : Int) = c) && (lAt L k).all (inB p)) := rfl
      have hno := Lib.hid (fun hx => all_no (l := L) (q := vecB p c) (d := []) hkL hx)
      have hyes := Lib.hid (fun hx => all_succ (l := L) (q := vecB p c) (d := []) hall.out hkL hx)
      have hkL' := Lib.hid hkL
      clear hcl hrd hkL hM hall
      rw [show L[k]?.getD [] = lAt L k from rfl, hv] at hno hyes
      clear hv
      generalize (lAt L k).all (inB p) = b at *
      generalize (lAt L k).length = m at *
      by_cases hmc : (m : Int) = c
      · have hb2 : ((m : Int) != c) = false := by simpa using hmc
        cases b with
        | true =>
          have hall2 := Lib.hid (hyes.out (by simp [hmc]))
          clear hno hyes hmc
          go_wp2_with (go_at_call 77; ((with_reducible refine (hcall.out).mono ?_); rintro e w' ⟨rfl, rfl⟩))
          go_round
          case rel => exact ⟨k + 1, by omega, by go_num, hall2⟩
          case measure => simp [intOf]; omega
        | false =>
          have hrf : Hid (r = false) := hr'.out.symm.trans (hno.out (by simp))
          clear hno hyes hmc
          go_wp2_with (go_at_call 77; ((with_reducible refine (hcall.out).mono ?_); rintro e w' ⟨rfl, rfl⟩))
          go_ret
          exact ⟨ret_bool hrf.out.symm, rfl⟩
      · have hb2 : ((m : Int) != c) = true := by simpa using hmc
        have hrf : Hid (r = false) := hr'.out.symm.trans (hno.out (by simp [hmc]))
        clear hno hyes hmc
        go_wp2
        go_ret
        exact ⟨ret_bool hrf.out.symm, rfl⟩
    · obtain rfl : k = n := by omega
      have hrt : Hid (r = true) := hr'.out.symm.trans (all_end (by rw [hn'.out]; exact hall.out))
      clear hM
      go_wp2
      go_ret
      exact ⟨ret_bool hrt.out.symm, rfl⟩

end Ints
end Go.Proofs.YtimjlcnljefbbaaDoor
