/- Unit matrices: the reference's. -/
import Derived.Test.YtimjlcnljefbbaaMxZero
namespace Go.Proofs.Ytimjlcnljefbbaa
open Go.RowKit
namespace Ints

/-- A unit matrix of which k rows are done. -/
def idPart (n k : Nat) : List (List Int) := tabT n n fun i j => if i = j ∧ i < k then 1 else 0
theorem idPart_zero (n : Nat) : zeroT n n = idPart n 0 := tabT_congr fun i j _ _ => by simp
theorem idPart_end (n : Nat) : idPart n n = idT n := tabT_congr fun i j hi _ => by simp [hi]
theorem idPart_step {n k : Nat} (h : k < n) : (idPart n k).set k ((lAt (idPart n k) k).set k 1) = idPart n (k + 1) := by
  rw [idPart, tabT_set2 _ h]
  refine tabT_congr fun i j _ _ => ?_
  by_cases e : i = k
  · subst e
    by_cases e2 : j = i
    · subst e2; simp
    · have : ¬ i = j := fun e => e2 e.symm
      simp [e2, this]
  · by_cases e2 : i < k
    · simp [e, e2, show i < k + 1 by omega]
    · simp [e, e2, show ¬ i < k + 1 by omega]

set_option maxHeartbeats 2000000 in
theorem mxId_any (n : Nat) (hn : n ≤ 1000) (w : World) :
    Calls Try.prog 40 #[.int .i64 n] w (NewMat w n (idT n)) := by
  have hB := Lib.hid ((Below.refl w.heap.size w).alloc (Nat.le_refl _) (.cells #[.int .i64 0, .slice none 0 0] 24))
  have hcall := Lib.hid (mxZero_any n n hn hn (w.alloc (.cells #[.int .i64 0, .slice none 0 0] 24)))
  go_enter Try.func40, Try.ntmps40
  go_wp2_with fail
  refine hcall.out.mono ?_
  rintro e w1 ⟨v1, rfl, ho1, hb1⟩
  rw [idPart_zero] at ho1
  obtain ⟨w2, hw2⟩ : ∃ W, W = w1.alloc (.cells #[.int .i64 n, v1] 24) := ⟨_, rfl⟩
  have hb12 : Below w1.heap.size w1 w2 := by rw [hw2]; exact (Below.refl _ _).alloc (Nat.le_refl _) _
  have hs1 : w.heap.size + 1 ≤ w1.heap.size := by have := hb1.size; simpa using this
  have ho2 := Lib.hid (ho1.bound.below hb12)
  obtain ⟨a1, c1, hv⟩ : ∃ a c, v1 = .slice a n c := by have := ho1.reads.form; rw [idPart, tabT_length] at this; exact this
  subst hv
  have R0 := Lib.hid (show w2.cell? ⟨w.heap.size, 0, none⟩ = some (.int .i64 0) from cell_old hb12 (cell_old hb1 (by simp [go_sem])))
  have R1 := Lib.hid (show w2.cell? ⟨w.heap.size, 1, none⟩ = some (.slice none 0 0) from cell_old hb12 (cell_old hb1 (by simp [go_sem])))
  have F0 := Lib.hid (show w2.frozen? ⟨w.heap.size, 0, none⟩ = false from frozen_old hb12 (by simp; omega) (frozen_old hb1 (by simp) (by simp [go_sem])))
  have F1 := Lib.hid (show w2.frozen? ⟨w.heap.size, 1, none⟩ = false from frozen_old hb12 (by simp; omega) (frozen_old hb1 (by simp) (by simp [go_sem])))
  have O0 := Lib.hid (show w2.cell? ⟨w1.heap.size, 0, none⟩ = some (.int .i64 n) by rw [hw2]; simp [go_sem])
  have O1 := Lib.hid (show w2.cell? ⟨w1.heap.size, 1, none⟩ = some (.slice a1 n c1) by rw [hw2]; simp [go_sem])
  have HB := Lib.hid ((hB.out.trans (hb1.mono hB.out.size)).trans (hb12.mono (by omega)))
  have HS := Lib.hid hs1
  have HS2 := Lib.hid (show w2.heap.size = w1.heap.size + 1 by rw [hw2]; simp)
  have HW := Lib.hid hw2
  clear hB hcall ho1 hb1 hb12 hs1 hw2
  go_wp2
  rw [← HW.out]
  go_loopw [4] (fun i wr => ∃ k : Nat, k ≤ n ∧ i = .int .i64 k ∧ OwnsM (fun g => w.heap.size + 1 ≤ g ∧ g < w1.heap.size) wr (.slice a1 n c1) (idPart n k) ∧ Chg (fun g => w.heap.size + 1 ≤ g ∧ g < w1.heap.size) w2 wr) (fun i _ => n + 1 - (intOf i).toNat)
  case atStart => exact ⟨0, by omega, rfl, by simpa using ho2.out, Chg.refl _ _⟩
  case round =>
    obtain ⟨k, hk, rfl, ho, hch⟩ := hrel
    have hs1 := HS.out
    have hs2 := HS2.out
    have p1 : wr.cell? ⟨w1.heap.size, 1, none⟩ = some (.slice a1 n c1) := hch.keep O1.out (by simp)
    by_cases hlt : k < n
    · have hkL : k < (idPart n k).length := by rw [idPart, tabT_length]; exact hlt
      have hkl : (lAt (idPart n k) k).length = n := by rw [idPart, tabT_at hlt, rowT_length]
      obtain ⟨g, off, cap, g2, off2, cap2, e, hm, hm2, hcell, hx, hfr, hS, hg2, _, hst⟩ := ho.openAt hkL (by rw [hkl]; exact hlt)
      simp only [Value.slice.injEq] at e
      obtain ⟨rfl, -, -⟩ := e
      rw [hkl] at hm2 hcell
      have hst1 := hst 1
      rw [idPart_step hlt] at hst1
      have H1 := Lib.hid hst1
      have H2 := Lib.hid (hch.setCell (p := ⟨g2, off2 + k, none⟩) (fun _ => hS) (.int .i64 1))
      have hk0 : 0 ≤ (k : Int) := by omega
      have hkn : (k : Int) < (n : Int) := by omega
      clear ho hch hst hst1 hkL hkl hm hS
      generalize at2 (idPart n k) k k = x at *
      go_wp2
      go_roundw
      case rel => exact ⟨k + 1, by omega, by go_num, H1.out, H2.out⟩
      case measure => simp [intOf]; omega
    · obtain rfl : k = n := by omega
      have p0 : wr.cell? ⟨w1.heap.size, 0, none⟩ = some (.int .i64 k) := hch.keep O0.out (by simp)
      have q0 : wr.cell? ⟨w.heap.size, 0, none⟩ = some (.int .i64 0) := hch.keep R0.out (by simp; omega)
      have q1 : wr.cell? ⟨w.heap.size, 1, none⟩ = some (.slice none 0 0) := hch.keep R1.out (by simp; omega)
      have g0 : wr.frozen? ⟨w.heap.size, 0, none⟩ = false := hch.keepF F0.out (by simp; omega) (by simp; omega)
      have g1 : wr.frozen? ⟨w.heap.size, 1, none⟩ = false := hch.keepF F1.out (by simp; omega) (by simp; omega)
      have HB2 := Lib.hid (HB.out.trans (hch.below (B := w.heap.size) (by omega) (fun g hg => by omega)))
      have HO := Lib.hid ho
      have hsz := hch.size
      clear ho hch
      go_wp2
      refine bodyPost_ret (v := .agg #[.int .i64 k, .slice a1 k c1]) (by simp [results, Try.results40, go_sem, q0, q1]) rfl ?_
      have hc2 : Chg (fun g => g = w.heap.size) wr ((wr.setCell ⟨w.heap.size, 0, none⟩ (.int .i64 k)).setCell ⟨w.heap.size, 1, none⟩ (.slice a1 k c1)) :=
        ((Chg.refl (fun g => g = w.heap.size) wr).setCell (p := ⟨w.heap.size, 0, none⟩) (fun _ => rfl) _).setCell (p := ⟨w.heap.size, 1, none⟩) (fun _ => rfl) _
      refine ⟨_, rfl, ?_, HB2.out.trans (hc2.below (by omega) fun g hg => by omega)⟩
      rw [← idPart_end]
      exact (HO.out.chg hc2 fun g hg e => by omega).mono fun g hg => by omega

end Ints
end Go.Proofs.Ytimjlcnljefbbaa
