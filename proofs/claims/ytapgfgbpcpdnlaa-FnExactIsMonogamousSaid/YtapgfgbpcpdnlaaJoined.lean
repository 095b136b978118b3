/- Lists one behind the other: the program's. -/
import Derived.Test.YtapgfgbpcpdnlaaRowFn
namespace Go.Proofs.Ytapgfgbpcpdnlaa
open Go.RowKit
namespace Ints

theorem flatten_succ (L : List (List Int)) (k : Nat) (h : k < L.length) : (L.take (k + 1)).flatten = (L.take k).flatten ++ lAt L k := by
  rw [take_oneL L k h, List.flatten_append]
  simp
theorem flatten_len (L : List (List Int)) (k : Nat) : (L.take k).flatten.length ≤ tot L := by
  rw [List.length_flatten]
  have := sum_take_le L k
  unfold tot
  omega

set_option maxHeartbeats 1000000 in
theorem joined_any (v : Value) (L : List (List Int)) (w : World) (h : ReadsM w v L) (hs : tot L ≤ 1048576) : Calls Try.prog 34 #[v] w (NewInts w L.flatten) := by
  obtain ⟨a, cap, rfl, hm, hc⟩ := open_readsM h
  obtain ⟨n, hn⟩ : ∃ n, L.length = n := ⟨_, rfl⟩
  have hfs := Lib.hid (fun k (hk : k < n) => flatten_succ L k (by omega))
  have hfl := Lib.hid (fun k => Nat.le_trans (flatten_len L k) hs)
  have hend := Lib.hid (show (L.take n).flatten = L.flatten by rw [← hn, List.take_length])
  have HN := Lib.hid hn
  have HC := Lib.hid hc
  rw [hn] at hm ⊢
  clear h hc hn hs
  have hB0 := Lib.hid ((Below.refl w.heap.size w).alloc (Nat.le_refl _) (.cells #[] 3))
  have hO0 := Lib.hid (World.ownsRow_lit (base := w.heap.size) (size := 1) (e := 3) w #[] 0 (Nat.le_refl _) (Nat.zero_le _) (by simp))
  go_enter Try.func34, Try.ntmps34
  go_wp2
  go_loopw [3, 9] (fun o i wr => ∃ (k : Nat) (ov : Value), k ≤ n ∧ i = .int .i64 k ∧ o = ov ∧ wr.ownsRow w.heap.size 3 1 ov (L.take k).flatten.length (ofL (L.take k).flatten) ∧ Below w.heap.size w wr) (fun _ i _ => n + 1 - (intOf i).toNat)
  case atStart => exact ⟨0, _, by omega, rfl, rfl, by simpa [ofL] using hO0.out, hB0.out⟩
  case round =>
    obtain ⟨k, ov, hk, rfl, rfl, hown, hb⟩ := hrel
    by_cases hlt : k < n
    · obtain ⟨g, off, r, rfl, hg, hcell, hrd⟩ := HC.out k (by rw [HN.out]; exact hlt)
      have hx : wr.cell? ⟨g, off + k, none⟩ = some r := (hb.cell hg).trans hcell
      have hsrc := Lib.hid (hrd.below hb)
      have hl1 := hfl.out (k + 1)
      rw [hfs.out k hlt, List.length_append] at hl1
      have hm3 := Lib.hid (show (L.take k).flatten.length + (lAt L k).length ≤ maxLen by unfold maxLen; omega)
      have hm4 := Lib.hid (show ((L.take k).flatten.length + (lAt L k).length) * 8 ≤ 140737488355328 by omega)
      have hone : Hid (∀ u ∈ ofL (lAt L k), u.oneCell' = true) := by intro u hu; simp [ofL] at hu; obtain ⟨x, _, rfl⟩ := hu; rfl
      have HFS := Lib.hid (hfs.out k hlt)
      obtain ⟨ar, cr, rfl⟩ := hrd.form
      have HO := Lib.hid hown
      have HB := Lib.hid hb
      have hsz := Lib.hid hb.size
      have hk0 : 0 ≤ (k : Int) := by omega
      have hkn : (k : Int) < (n : Int) := by omega
      generalize lAt L k = row at *
      obtain ⟨acc, hacc⟩ : ∃ l, (L.take k).flatten = l := ⟨_, rfl⟩
      rw [hacc] at HO HFS hm3 hm4
      generalize row.length = rl at *
      clear hown hb hcell hrd hl1 hg hacc
      go_wp2_with (at_builtin; refine wpList_append_reads _ rfl _ _ 23 rfl w.heap.size 3 (.int .i64 0) 1 8 Try.underlying23 infoI rfl (by decide) _ _ _ HO.out _ rl (ofL row) hsrc.out rfl rfl hone.out hm3.out hm4.out hsz.out ?_; intro v' w1 hown1 hg1)
      have hbl2 := Lib.hid (Below.grownRow HB.out HO.out hg1 hsz.out)
      have hrl : row.length = rl := by
        have := hsrc.out.1
        rw [ofL_length, Nat.mul_one] at this
        exact this
      rw [show ofL acc ++ ofL row = ofL (acc ++ row) by simp [ofL], ← hrl, ← List.length_append, ← HFS.out] at hown1
      have H1 := Lib.hid hown1
      clear hown1 hg1
      go_wp2
      go_roundw
      case rel => exact ⟨k + 1, _, by omega, by go_num, rfl, H1.out, hbl2.out⟩
      case measure => simp [intOf]; omega
    · obtain rfl : k = n := by omega
      have h1 := owns_of_row hown (by have := hfl.out k; unfold maxLen; omega)
      rw [hend.out] at h1
      have hfin : Hid (NewInts w L.flatten (.returned u3) wr) := ⟨_, rfl, h1.1, h1.2, hb⟩
      clear hown hb h1
      go_wp2
      go_ret
      exact hfin.out

end Ints
end Go.Proofs.Ytapgfgbpcpdnlaa
