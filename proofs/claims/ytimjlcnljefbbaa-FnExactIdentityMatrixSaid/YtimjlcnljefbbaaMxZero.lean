/- Matrices of zeros, unit matrices: the reference's. -/
import Derived.Test.YtimjlcnljefbbaaMemB
namespace Go.Proofs.Ytimjlcnljefbbaa
open Go.RowKit
namespace Ints

theorem zeroT_succ (k c : Nat) : zeroT (k + 1) c = zeroT k c ++ [rowT c fun _ => 0] := by
  simp [zeroT, tabT, List.range_succ]

set_option maxHeartbeats 2000000 in
theorem mxZero_any (r c : Nat) (hr : r ≤ 1000) (hc : c ≤ 1000) (w : World) :
    Calls Try.prog 71 #[.int .i64 r, .int .i64 c] w (NewMat w c (zeroT r c)) := by
  have hB := Lib.hid ((Below.refl w.heap.size w).alloc (Nat.le_refl _) (.cells #[.int .i64 0, .slice none 0 0] 24))
  have hm1 := Lib.hid (show 24 * r ≤ 281474976710656 by omega)
  have hm2 := Lib.hid (show r ≤ maxLen by unfold maxLen; omega)
  have hmk := run_make_row' (P := Try.prog) 36 3 (.int .i64 0) 8 Try.underlying36 infoI rfl .i64 .i64 c (by omega) (by omega)
  go_enter Try.func71, Try.ntmps71
  go_wp2_with (at_make; refine wpList_make_one _ rfl _ _ 22 rfl 36 (.slice none 0 0) 24 Try.underlying22 infoS rfl r rfl rfl hm1.out hm2.out ?_; intro w1 hown1 hb1 hs1)
  obtain ⟨w3, hw3⟩ : ∃ W, W = w1.alloc (.cells #[.int .i64 c, .slice (some ⟨w.heap.size + 1, 0, none⟩) r r] 24) := ⟨_, rfl⟩
  rw [← hw3]
  have hs1' : w1.heap.size = w.heap.size + 1 + 1 := by simpa using hs1
  have hb13 : Below w1.heap.size w1 w3 := by rw [hw3]; exact (Below.refl _ _).alloc (Nat.le_refl _) _
  have o0 : w3.cell? ⟨w.heap.size + 1 + 1, 0, none⟩ = some (.int .i64 c) := by rw [hw3, ← hs1']; simp [go_sem]
  have o1 : w3.cell? ⟨w.heap.size + 1 + 1, 1, none⟩ = some (.slice (some ⟨w.heap.size + 1, 0, none⟩) r r) := by rw [hw3, ← hs1']; simp [go_sem]
  have r0 : w3.cell? ⟨w.heap.size, 0, none⟩ = some (.int .i64 0) := cell_old hb13 (cell_old hb1 (by simp [go_sem]))
  have r1 : w3.cell? ⟨w.heap.size, 1, none⟩ = some (.slice none 0 0) := cell_old hb13 (cell_old hb1 (by simp [go_sem]))
  have f0 : w3.frozen? ⟨w.heap.size, 0, none⟩ = false := frozen_old hb13 (by simp; omega) (frozen_old hb1 (by simp) (by simp [go_sem]))
  have f1 : w3.frozen? ⟨w.heap.size, 1, none⟩ = false := frozen_old hb13 (by simp; omega) (frozen_old hb1 (by simp) (by simp [go_sem]))
  have hs3 : w3.heap.size = w.heap.size + 3 := by rw [hw3]; simp; omega
  have HB3 := Lib.hid ((hB.out.trans (hb1.mono hB.out.size)).trans (hb13.mono (by omega)))
  have hown3 := Lib.hid (show w3.ownsRow (w.heap.size + 1) 36 1 (.slice (some ⟨w.heap.size + 1, 0, none⟩) r r) r (List.replicate r (.slice none 0 0)) by
    have := ownsRow_below hown1 hb13
    simpa using this)
  have O0 := Lib.hid o0
  have O1 := Lib.hid o1
  have R0 := Lib.hid r0
  have R1 := Lib.hid r1
  have F0 := Lib.hid f0
  have F1 := Lib.hid f1
  have HS3 := Lib.hid hs3
  clear hw3 hs1 hs1' hb13 o0 o1 r0 r1 f0 f1 hs3 hown1 hb1 hB
  go_loopw [14] (fun i wr => ∃ (k : Nat) (rs : List Value), k ≤ r ∧ i = .int .i64 k ∧ wr.ownsRow (w.heap.size + 1) 36 1 (.slice (some ⟨w.heap.size + 1, 0, none⟩) r r) r (rs ++ List.replicate (r - k) (.slice none 0 0)) ∧ RowsOwn (w.heap.size + 3 ≤ ·) wr rs (zeroT k c) ∧ Chg (fun g => g = w.heap.size + 1) w3 wr) (fun i _ => r + 1 - (intOf i).toNat)
  case atStart => exact ⟨0, [], by omega, rfl, by simpa using hown3.out, RowsOwn.nil _ _, Chg.refl _ _⟩
  case round =>
    obtain ⟨k, rs, hk, rfl, hown, hrows, hch⟩ := hrel
    have p1 : wr.cell? ⟨w.heap.size + 1 + 1, 1, none⟩ = some (.slice (some ⟨w.heap.size + 1, 0, none⟩) r r) := (hch.cell (p := ⟨w.heap.size + 1 + 1, 1, none⟩) (by have := HS3.out; simp; omega) (by simp)).trans O1.out
    have hbig : w.heap.size + 3 ≤ wr.heap.size := by have := hch.size; have := HS3.out; omega
    by_cases hlt : k < r
    · have hrl : rs.length = k := by rw [hrows.1]; simp [zeroT, tabT_length]
      obtain ⟨m, hm3⟩ : ∃ m, r - k = m + 1 := ⟨r - k - 1, by omega⟩
      have hy : wr.cell? ⟨w.heap.size + 1, k, none⟩ = some (.slice none 0 0) := by
        rw [hown.cellAt k (by omega), List.getElem?_append_right (by omega), hrl, hm3]
        simp
      have hfr : wr.frozen? ⟨w.heap.size + 1, k, none⟩ = false := hown.frozenAt k
      obtain ⟨w4, hw4⟩ : ∃ W, W = ((wr.setCell ⟨w.heap.size + 1, k, none⟩ (.slice (some ⟨wr.heap.size, 0, none⟩) c c)).alloc (.cells (madeCells #[.int .i64 0] c) 3)).drew := ⟨_, rfl⟩
      have hw4' : w4 = ((wr.alloc (.cells (madeCells #[.int .i64 0] c) 3)).setCell ⟨w.heap.size + 1, k, none⟩ (.slice (some ⟨wr.heap.size, 0, none⟩) c c)).drew := by rw [hw4, World.setCell_alloc_past _ _ _ _ (by omega)]
      have hbk : Below wr.heap.size wr (wr.alloc (.cells (madeCells #[.int .i64 0] c) 3)) := (Below.refl _ _).alloc (Nat.le_refl _) _
      have hmade := owns_made wr 3 (.int .i64 0) c (by unfold maxLen; omega)
      rw [← ofL_replicate] at hmade
      have hown2 := ownsRow_below hown hbk
      have hst := hown2.stored k (.slice (some ⟨wr.heap.size, 0, none⟩) c c)
      have hown4 : w4.ownsRow (w.heap.size + 1) 36 1 (.slice (some ⟨w.heap.size + 1, 0, none⟩) r r) r ((rs ++ [.slice (some ⟨wr.heap.size, 0, none⟩) c c]) ++ List.replicate (r - (k + 1)) (.slice none 0 0)) := by
        have h1 := hst.1
        rw [hm3] at h1
        have h2 := set_fill (A := rs) (z := .slice none 0 0) (x := Value.slice (some ⟨wr.heap.size, 0, none⟩) c c) (m := m)
        rw [hrl] at h2
        rw [h2] at h1
        rw [show r - (k + 1) = m by omega, hw4']
        exact h1
      have hrows4 : RowsOwn (w.heap.size + 3 ≤ ·) w4 (rs ++ [.slice (some ⟨wr.heap.size, 0, none⟩) c c]) (zeroT (k + 1) c) := by
        rw [zeroT_succ, hw4']
        exact RowsOwn.drew ((hrows.snoc hbk (by rw [rowT_length]; exact hmade.1) hmade.2 (fun g hg => by omega)).grown hown2 hst.2)
      have hch4 : Chg (fun g => g = w.heap.size + 1) w3 w4 := by
        rw [hw4']
        exact ((hch.alloc _).setCell (p := ⟨w.heap.size + 1, k, none⟩) (fun _ => rfl) _).drew
      have H1 := Lib.hid hown4
      have H2 := Lib.hid hrows4
      have H3 := Lib.hid hch4
      have H4 := Lib.hid hw4
      have hk0 : 0 ≤ (k : Int) := by omega
      have hkn : (k : Int) < (r : Int) := by omega
      have hbig1 : w.heap.size + 1 < wr.heap.size := by omega
      have hbig2 : w.heap.size + 1 + 1 < wr.heap.size := by omega
      clear hown hrows hch hmade hown2 hst hown4 hrows4 hch4 hw4 hw4' hbk hrl hm3
      go_wp2
      go_region
      go_wp2
      rw [← H4.out]
      go_roundw
      case rel => exact ⟨k + 1, rs ++ [.slice (some ⟨wr.heap.size, 0, none⟩) c c], by omega, by go_num, H1.out, H2.out, H3.out⟩
      case measure => simp [intOf]; omega
    · obtain rfl : k = r := by omega
      have hx0 := HS3.out
      have p0 : wr.cell? ⟨w.heap.size + 1 + 1, 0, none⟩ = some (.int .i64 c) := (hch.cell (p := ⟨w.heap.size + 1 + 1, 0, none⟩) (by simp; omega) (by simp)).trans O0.out
      have q0 : wr.cell? ⟨w.heap.size, 0, none⟩ = some (.int .i64 0) := (hch.cell (p := ⟨w.heap.size, 0, none⟩) (by simp; omega) (by simp)).trans R0.out
      have q1 : wr.cell? ⟨w.heap.size, 1, none⟩ = some (.slice none 0 0) := (hch.cell (p := ⟨w.heap.size, 1, none⟩) (by simp; omega) (by simp)).trans R1.out
      have g0 : wr.frozen? ⟨w.heap.size, 0, none⟩ = false := (hch.frozen (p := ⟨w.heap.size, 0, none⟩) (by simp; omega) (by simp)).trans F0.out
      have g1 : wr.frozen? ⟨w.heap.size, 1, none⟩ = false := (hch.frozen (p := ⟨w.heap.size, 1, none⟩) (by simp; omega) (by simp)).trans F1.out
      have HB := Lib.hid (HB3.out.trans (hch.below (B := w.heap.size) (by omega) (fun g hg => by omega)))
      have HO := Lib.hid hown
      have HR := Lib.hid hrows
      clear hown hrows hch hx0
      go_wp2
      refine bodyPost_ret (v := .agg #[.int .i64 c, .slice (some ⟨w.heap.size + 1, 0, none⟩) k k]) (by simp [results, Try.results71, go_sem, q0, q1]) rfl ?_
      have hc2 : Chg (fun g => g = w.heap.size) wr ((wr.setCell ⟨w.heap.size, 0, none⟩ (.int .i64 c)).setCell ⟨w.heap.size, 1, none⟩ (.slice (some ⟨w.heap.size + 1, 0, none⟩) k k)) :=
        ((Chg.refl (fun g => g = w.heap.size) wr).setCell (p := ⟨w.heap.size, 0, none⟩) (fun _ => rfl) _).setCell (p := ⟨w.heap.size, 1, none⟩) (fun _ => rfl) _
      have h1 := owns_of_row HO.out hm2.out
      rw [Nat.sub_self, List.replicate_zero, List.append_nil] at h1
      refine ⟨_, rfl, ⟨rs, ?_, ?_, ?_⟩, HB.out.trans (hc2.below (by omega) fun g hg => by omega)⟩
      · rw [zeroT, tabT_length]
        exact h1.1.chg hc2 fun g hx hg e => by have := h1.2 g hx hg; omega
      · exact h1.2.mono fun g hg => by omega
      · exact (HR.out.chg hc2 fun g hg e => by omega).mono fun g hg => by omega

end Ints
end Go.Proofs.Ytimjlcnljefbbaa
