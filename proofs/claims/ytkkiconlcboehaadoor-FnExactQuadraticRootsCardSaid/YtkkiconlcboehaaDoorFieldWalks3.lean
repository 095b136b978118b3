/- What each function of the field chapter returns: contracts over the program, third part. -/
import Derived.Test.YtkkiconlcboehaaDoorFieldWalks2
namespace Go.Proofs.YtkkiconlcboehaaDoor
open Go.RowKit
namespace Fld

set_option maxHeartbeats 1000000 in
theorem areElements_any (p : Int) (g off cap : Nat) (l : List Int) (w : World) (N : Nat) (hN : N = l.length) (ht : Tab w) (hl : l.length ≤ 1000000) (hc : ∀ k, k < l.length → w.cell? ⟨g, off + k, none⟩ = some (.int .i64 (l[k]?.getD 0))) :
    Calls Tryd.prog 40 #[.int .i64 p, .slice (some ⟨g, off, none⟩) N cap] w fun e w' => e = .returned (.bool (goodB p && l.all (inB p))) ∧ w = w' := by
  subst hN
  cases hg : goodB p with
  | false =>
    clear hc
    go_enter Tryd.func40, Tryd.ntmps40
    go_wp2_with (go_at_call 37; ((with_reducible refine (isField_any _ _ ht).mono ?_); rintro e w' ⟨rfl, rfl⟩))
    go_ret
    exact ⟨ret_bool (by simp), rfl⟩
  | true =>
    have hall0 : Hid ((true && l.all (inB p)) = l.all (inB p)) := by show _ = _; simp
    obtain ⟨n, hn⟩ : ∃ n, n = l.length := ⟨_, rfl⟩
    have hn' := Lib.hid hn
    have hc' := Lib.hid hc
    rw [← hn] at hl ⊢
    obtain ⟨r, hr⟩ : ∃ r, r = l.all (inB p) := ⟨_, rfl⟩
    rw [hall0.out, ← hr]
    have hr' := Lib.hid hr
    clear hn hc hr
    go_enter Tryd.func40, Tryd.ntmps40
    go_wp2_with (go_at_call 37; ((with_reducible refine (isField_any _ _ ht).mono ?_); rintro e w' ⟨rfl, rfl⟩))
    go_loop [12] (fun i => ∃ k : Nat, k ≤ n ∧ i = .int .i64 k ∧ Hid ((l.take k).all (inB p) = true)) (fun i => n + 1 - (intOf i).toNat)
    case atStart => exact ⟨0, by omega, rfl, show _ = _ by simp⟩
    case round =>
      obtain ⟨k, hk, rfl, hall⟩ := hrel
      by_cases hlt : k < n
      · have hcell := hc'.out k (by rw [← hn'.out]; exact hlt)
        have htk := Lib.hid (List.take_succ_eq_append_getElem (l := l) (i := k) (by rw [← hn'.out]; exact hlt))
        have hgd : Hid (l[k]?.getD 0 = l[k]'(by rw [← hn'.out]; exact hlt)) := by
          show _ = _
          rw [List.getElem?_eq_getElem (by rw [← hn'.out]; exact hlt)]; rfl
        cases hin : inB p (l[k]?.getD 0) with
        | true =>
          have hall2 : Hid ((l.take (k + 1)).all (inB p) = true) := by
            show _ = _
            rw [htk.out, List.all_append, hall.out, List.all_cons, ← hgd.out, hin]; rfl
          generalize l[k]?.getD 0 = x at *
          clear hall htk hgd
          go_wp2_with (go_at_call 50; ((with_reducible refine (isElement_any _ _ _).mono ?_); rintro e w' ⟨rfl, rfl⟩))
          go_round
          case rel => exact ⟨k + 1, by omega, by go_num, hall2⟩
          case measure => simp [intOf]; omega
        | false =>
          have hr2 : Hid (r = false) := by
            show _ = _
            rw [hr'.out, ← Bool.not_eq_true, List.all_eq_true]
            intro h
            have := h (l[k]'(by rw [← hn'.out]; exact hlt)) (List.getElem_mem _)
            rw [← hgd.out, hin] at this
            cases this
          generalize l[k]?.getD 0 = x at *
          clear hall htk hgd
          go_wp2_with (go_at_call 50; ((with_reducible refine (isElement_any _ _ _).mono ?_); rintro e w' ⟨rfl, rfl⟩))
          go_ret
          exact ⟨ret_bool (by rw [hr2.out]), rfl⟩
      · obtain rfl : k = n := by omega
        have hr2 : Hid (r = true) := by
          show _ = _
          rw [hr'.out, ← hall.out, hn'.out, List.take_length]
        go_wp2
        go_ret
        exact ⟨ret_bool (by rw [hr2.out]), rfl⟩

theorem new_ints {w : World} {t : TypeId} (l : List Int) : ∀ k, k < l.length → (w.alloc (.cells (l.map (Value.int .i64)).toArray t)).cell? ⟨w.heap.size, 0 + k, none⟩ = some (.int .i64 (l[k]?.getD 0)) := by
  intro k hk
  rw [Nat.zero_add, cell_of_row (w.alloc _) w.heap.size k _ t (0, 0) (heap_alloc_new w _)]
  simp [hk]
theorem tab_alloc {w : World} (h : Tab w) (o : Obj) : Tab (w.alloc o) := h.below (Nat.lt_of_lt_of_le h.size (Nat.le_refl _)) ((Below.refl _ _).alloc (Nat.le_refl _) o)

theorem areEl1 (p a : Int) (w : World) (ht : Tab w) :
    Calls Tryd.prog 40 #[.int .i64 p, .slice (some ⟨w.heap.size, 0, none⟩) 1 1] (w.alloc (.cells #[.int .i64 a] 3)) fun e w' => e = .returned (.bool (goodB p && inB p a)) ∧ w.alloc (.cells #[.int .i64 a] 3) = w' := by
  have h := areElements_any p w.heap.size 0 1 [a] (w.alloc (.cells #[.int .i64 a] 3)) 1 rfl (tab_alloc ht _) (by simp) (new_ints [a])
  simpa using h
theorem areEl2 (p a b : Int) (w : World) (ht : Tab w) :
    Calls Tryd.prog 40 #[.int .i64 p, .slice (some ⟨w.heap.size, 0, none⟩) 2 2] (w.alloc (.cells #[.int .i64 a, .int .i64 b] 3)) fun e w' => e = .returned (.bool (twoB p a b)) ∧ w.alloc (.cells #[.int .i64 a, .int .i64 b] 3) = w' := by
  have h := areElements_any p w.heap.size 0 2 [a, b] (w.alloc (.cells #[.int .i64 a, .int .i64 b] 3)) 2 rfl (tab_alloc ht _) (by simp) (new_ints [a, b])
  rw [show (goodB p && [a, b].all (inB p)) = twoB p a b by simp [twoB, Bool.and_assoc]] at h
  exact h
theorem areEl3 (p a b c : Int) (w : World) (ht : Tab w) :
    Calls Tryd.prog 40 #[.int .i64 p, .slice (some ⟨w.heap.size, 0, none⟩) 3 3] (w.alloc (.cells #[.int .i64 a, .int .i64 b, .int .i64 c] 3)) fun e w' => e = .returned (.bool (twoB p a b && inB p c)) ∧ w.alloc (.cells #[.int .i64 a, .int .i64 b, .int .i64 c] 3) = w' := by
  have h := areElements_any p w.heap.size 0 3 [a, b, c] (w.alloc (.cells #[.int .i64 a, .int .i64 b, .int .i64 c] 3)) 3 rfl (tab_alloc ht _) (by simp) (new_ints [a, b, c])
  rw [show (goodB p && [a, b, c].all (inB p)) = (twoB p a b && inB p c) by simp [twoB, Bool.and_assoc]] at h
  exact h

end Fld
end Go.Proofs.YtkkiconlcboehaaDoor
