/- The law FnExactIsMatrix. -/
import Derived.Test.YtmingbiiahoojaaDoorIsMatrixF
import Derived.Deep.RegionHeld3
import Derived.WalkSpells
namespace Go.Proofs.YtmingbiiahoojaaDoor.fnExactIsMatrix
open Go.RowKit Ints

set_option maxHeartbeats 2000000 in
theorem walk (p : Int) (_w0 : (Lit.int .i64 p).wf = true) (c : Int) (v : Value) (L : List (List Int)) (w : World) (ht : Tab w) (h : ReadsM w v L) :
    Calls Tryd.prog 3 #[.int .i64 p, .agg #[.int .i64 c, v]] w fun e w' => e = .returned (.bool true) ∧ Below w.heap.size w w' := by
  have B0 := Lib.hid ((Below.refl w.heap.size w).alloc (Nat.le_refl _) (.cells #[.int .i64 c, v] 24))
  have hsz := Lib.hid (szMatrix_any c v L 1048576 (by omega) (by omega) _ (h.below B0.out))
  obtain ⟨a, cap, rfl⟩ := h.form
  have HR := Lib.hid h
  have HT := Lib.hid ht
  clear h ht
  obtain ⟨n, hn⟩ : ∃ n, L.length = n := ⟨_, rfl⟩
  rw [hn] at B0 hsz HR ⊢
  have hn' := Lib.hid hn
  clear hn
  rcases szN_cases (tot L) 1048576 with hneg | ⟨hle, hpos⟩
  · rw [hneg] at hsz
    clear hneg
    go_enter Tryd.func3, Tryd.ntmps3
    go_wp2_with (go_at_call 12; ((with_reducible refine (hsz.out).mono ?_); rintro e w' ⟨rfl, hb⟩))
    go_ret
    exact ⟨rfl, B0.out.trans (hb.mono B0.out.size)⟩
  · obtain ⟨r, hr⟩ : ∃ r, szN (tot L) 1048576 = r := ⟨_, rfl⟩
    rw [hr] at hsz
    have hrb : decide (r < 0) = false := by simp; omega
    have htot := Lib.hid (show tot L ≤ 1048576 by omega)
    clear hpos hr hle
    go_enter Tryd.func3, Tryd.ntmps3
    go_wp2_with fail
    refine hsz.out.mono ?_
    rintro e w1 ⟨rfl, hb⟩
    have C0 : w1.cell? ⟨w.heap.size, 0, none⟩ = some (.int .i64 c) := cell_old hb (by simp [go_sem])
    have C1 : w1.cell? ⟨w.heap.size, 1, none⟩ = some (.slice a n cap) := cell_old hb (by simp [go_sem])
    have B1 := Lib.hid (B0.out.trans (hb.mono B0.out.size))
    have S1 := Lib.hid (show w.heap.size + 1 ≤ w1.heap.size by have := hb.size; simp at this; omega)
    clear hb
    go_wp2_with fail
    refine (toMatrix_any c _ L w1 (by have := HR.out; exact this.below (B1.out)) htot.out).mono ?_
    rintro e w2 ⟨v2, rfl, ho2, hb2⟩
    have C0' := cell_old hb2 C0
    have C1' := cell_old hb2 C1
    obtain ⟨a2, cap2, rfl⟩ := ho2.reads.form
    have B2 := Lib.hid (B1.out.trans (hb2.mono (Nat.le_of_succ_le S1.out)))
    have R2 := Lib.hid ho2.reads
    clear ho2 hb2 C0 C1
    go_wp2_with fail
    refine (specIsMatrix_any p c _ L w2 R2.out).mono ?_
    obtain ⟨g, hg⟩ : ∃ g, matB p c L = g := ⟨_, rfl⟩
    rw [hg]
    have hg' := Lib.hid hg
    have hgne : (g != g) = false := by simp
    clear hg
    rintro e w3 ⟨rfl, hb3⟩
    have C0 := cell_old hb3 C0'
    have C1 := cell_old hb3 C1'
    have B3 := Lib.hid (B2.out.trans (hb3.mono B2.out.size))
    clear C0' C1' hb3
    go_wp2_with fail
    refine (toMatrix_any c _ L w3 (by have := HR.out; exact this.below B3.out) htot.out).mono ?_
    rintro e w4 ⟨v4, rfl, ho4, hb4⟩
    have C0' := cell_old hb4 C0
    have C1' := cell_old hb4 C1
    obtain ⟨a4, cap4, rfl⟩ := ho4.reads.form
    have B4 := Lib.hid (B3.out.trans (hb4.mono B3.out.size))
    have R4 := Lib.hid ho4.reads
    clear ho4 hb4 C0 C1
    obtain ⟨w5, hw5⟩ : ∃ w5, w5 = w4.alloc (.cells #[.int .i64 c, .slice a4 L.length cap4] 27) := ⟨_, rfl⟩
    have hb5 : Below w4.heap.size w4 w5 := by rw [hw5]; exact (Below.refl _ _).alloc (Nat.le_refl _) _
    have D0 : w5.cell? ⟨w4.heap.size, 0, none⟩ = some (.int .i64 c) := by rw [hw5]; simp [go_sem]
    have D1 : w5.cell? ⟨w4.heap.size, 1, none⟩ = some (.slice a4 L.length cap4) := by rw [hw5]; simp [go_sem]
    have C0 := cell_old hb5 C0'
    have C1 := cell_old hb5 C1'
    have B5 := Lib.hid (B4.out.trans (hb5.mono B4.out.size))
    have R5 := Lib.hid (R4.out.below hb5)
    have HW5 := Lib.hid hw5
    clear hw5 hb5 C0' C1'
    go_wp2_with fail
    rw [← HW5.out]
    refine (implIsMatrix_any p c _ L w5 (HT.out.below HT.out.size B5.out) R5.out).mono ?_
    rw [hg'.out]
    rintro e w6 ⟨rfl, hb6⟩
    have D0' := cell_old hb6 D0
    have D1' := cell_old hb6 D1
    have C0' := cell_old hb6 C0
    have C1' := cell_old hb6 C1
    have B6 := Lib.hid (B5.out.trans (hb6.mono B5.out.size))
    have R6 := Lib.hid (R5.out.below hb6)
    clear C0 C1 D0 D1 hb6
    go_wp2_with fail
    have HC0 : ∀ W, Below w6.heap.size w6 W → W.cell? ⟨w.heap.size, 0, none⟩ = some (.int .i64 c) := fun W hW => cell_old hW C0'
    have HC1 : ∀ W, Below w6.heap.size w6 W → W.cell? ⟨w.heap.size, 1, none⟩ = some (.slice a n cap) := fun W hW => cell_old hW C1'
    have HD0 : ∀ W, Below w6.heap.size w6 W → W.cell? ⟨w4.heap.size, 0, none⟩ = some (.int .i64 c) := fun W hW => cell_old hW D0'
    have HD1 : ∀ W, Below w6.heap.size w6 W → W.cell? ⟨w4.heap.size, 1, none⟩ = some (.slice a4 L.length cap4) := fun W hW => cell_old hW D1'
    have HX : Hid (∀ W, Below w6.heap.size w6 W → ReadsM W (.slice a4 L.length cap4) L) := fun W hW => R6.out.below hW
    have HA : Hid (∀ W, Below w6.heap.size w6 W → ReadsM W (.slice a n cap) L) := fun W hW => by
      have := HR.out
      exact this.below (B6.out.trans (hW.mono B6.out.size))
    clear C0' C1' D0' D1'
    go_region_held3 (fun W => Below w6.heap.size w6 W)
      (first | exact (Below.refl _ _).drew | exact below_step (by assumption) hb7 | exact below_step (by assumption) hb8)
      (first | (go_at_call 14; refine (toMatrix_any c _ L _ (HA.out _ (by assumption)) htot.out).mono ?_; rintro e W7 ⟨v7, rfl, ho7, hb7⟩) | (go_at_call 16; refine (eqMatrix_any c c _ _ L L _ (HX.out _ (by assumption)) ho7.reads).mono ?_; rintro e W8 ⟨rfl, hb8⟩))
    go_wp2
    go_ret
    exact ⟨rfl, B6.out.trans (Below.mono (B := w6.heap.size) (by assumption) B6.out.size)⟩
end Go.Proofs.YtmingbiiahoojaaDoor.fnExactIsMatrix
