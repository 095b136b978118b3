/- Transposed matrices. -/
import Derived.Test.YtkpheigoegehoaaDoorMxZero
import Derived.Test.YtkpheigoegehoaaDoorRowFn
namespace Go.Proofs.YtkpheigoegehoaaDoor
open Go.RowKit
namespace Ints

/-- A transposed matrix of which k rows of the first one and j places of the next one are in. -/
def turnPart (c : Nat) (L : List (List Int)) (k j : Nat) : List (List Int) := tabT c L.length fun q i => if i < k ∨ (i = k ∧ q < j) then at2 L i q else 0
theorem turnPart_zero (c : Nat) (L : List (List Int)) : zeroT c L.length = turnPart c L 0 0 := tabT_congr fun q i _ _ => by simp
theorem turnPart_end (c : Nat) (L : List (List Int)) : turnPart c L L.length 0 = turnT c L := tabT_congr fun q i _ hi => by simp [hi]
theorem turnPart_row (c : Nat) (L : List (List Int)) (k : Nat) : turnPart c L k c = turnPart c L (k + 1) 0 := tabT_congr fun q i hq _ => by
  have : (i < k ∨ (i = k ∧ q < c)) = (i < k + 1 ∨ (i = k + 1 ∧ q < 0)) := by
    apply propext
    constructor
    · rintro (h | ⟨h, _⟩) <;> left <;> omega
    · rintro (h | ⟨_, h⟩)
      · rcases Nat.lt_or_ge i k with h1 | h1
        · exact .inl h1
        · exact .inr ⟨by omega, hq⟩
      · omega
  simp only [this]
theorem turnPart_step {c : Nat} {L : List (List Int)} {k j : Nat} (hj : j < c) : (turnPart c L k j).set j ((lAt (turnPart c L k j) j).set k (at2 L k j)) = turnPart c L k (j + 1) := by
  rw [turnPart, tabT_set2 _ hj]
  refine tabT_congr fun q i _ _ => ?_
  by_cases e : q = j ∧ i = k
  · obtain ⟨rfl, rfl⟩ := e
    simp
  · rw [if_neg e]
    have : (i < k ∨ (i = k ∧ q < j)) = (i < k ∨ (i = k ∧ q < j + 1)) := by
      apply propext
      constructor
      · rintro (h | ⟨h, h1⟩)
        · exact .inl h
        · exact .inr ⟨h, by omega⟩
      · rintro (h | ⟨h, h1⟩)
        · exact .inl h
        · refine .inr ⟨h, ?_⟩
          rcases Nat.lt_or_ge q j with h2 | h2
          · exact h2
          · exact absurd ⟨by omega, h⟩ e
    simp only [this]

set_option maxHeartbeats 4000000 in
theorem mxTurn_any (c : Nat) (v : Value) (L : List (List Int)) (hc : c ≤ 1000) (hn : L.length ≤ 1000) (hl : ∀ i, i < L.length → (lAt L i).length = c) (w : World) (h : ReadsM w v L) :
    Calls Tryd.prog 104 #[.agg #[.int .i64 c, v]] w (NewMat w L.length (turnT c L)) := by
  obtain ⟨a, cap, rfl, hm, hcL⟩ := open_readsM h
  obtain ⟨n, hnn⟩ : ∃ n, L.length = n := ⟨_, rfl⟩
  have hB := Lib.hid (((Below.refl w.heap.size w).alloc (Nat.le_refl _) (.cells #[.int .i64 c, .slice a n cap] 30)).alloc (by simp) (.cells #[.int .i64 0, .slice none 0 0] 30))
  have hcall := Lib.hid (mxZero_any c n hc (by omega) ((w.alloc (.cells #[.int .i64 c, .slice a n cap] 30)).alloc (.cells #[.int .i64 0, .slice none 0 0] 30)))
  have hcL' := Lib.hid hcL
  have hl' := Lib.hid hl
  have hnn' := Lib.hid hnn
  rw [hnn] at hm hn ⊢
  clear h hcL hl hnn
  go_enter Tryd.func104, Tryd.ntmps104
  go_wp2_with fail
  refine hcall.out.mono ?_
  rintro e w1 ⟨v1, rfl, ho1, hb1⟩
  rw [← hnn'.out, turnPart_zero, hnn'.out] at ho1
  obtain ⟨w2, hw2⟩ : ∃ W, W = w1.alloc (.cells #[.int .i64 n, v1] 30) := ⟨_, rfl⟩
  have hb12 : Below w1.heap.size w1 w2 := by rw [hw2]; exact (Below.refl _ _).alloc (Nat.le_refl _) _
  have hs1 : w.heap.size + 2 ≤ w1.heap.size := by have := hb1.size; simpa using this
  have ho2 := Lib.hid (ho1.bound.below hb12)
  obtain ⟨a1, c1, hv⟩ : ∃ a q, v1 = .slice a c q := by have := ho1.reads.form; rw [turnPart, tabT_length] at this; exact this
  subst hv
  have X0 := Lib.hid (show w2.cell? ⟨w.heap.size, 0, none⟩ = some (.int .i64 c) from cell_old hb12 (cell_old hb1 (by simp [go_sem])))
  have x1 : w1.cell? ⟨w.heap.size, 1, none⟩ = some (.slice a n cap) := cell_old hb1 (by simp [go_sem])
  have X1 := Lib.hid (cell_old hb12 x1)
  have R0 := Lib.hid (show w2.cell? ⟨w.heap.size + 1, 0, none⟩ = some (.int .i64 0) from cell_old hb12 (cell_old hb1 (by simp [go_sem])))
  have R1 := Lib.hid (show w2.cell? ⟨w.heap.size + 1, 1, none⟩ = some (.slice none 0 0) from cell_old hb12 (cell_old hb1 (by simp [go_sem])))
  have F0 := Lib.hid (show w2.frozen? ⟨w.heap.size + 1, 0, none⟩ = false from frozen_old hb12 (by simp; omega) (frozen_old hb1 (by simp) (by simp [go_sem])))
  have F1 := Lib.hid (show w2.frozen? ⟨w.heap.size + 1, 1, none⟩ = false from frozen_old hb12 (by simp; omega) (frozen_old hb1 (by simp) (by simp [go_sem])))
  have O0 := Lib.hid (show w2.cell? ⟨w1.heap.size, 0, none⟩ = some (.int .i64 n) by rw [hw2]; simp [go_sem])
  have O1 := Lib.hid (show w2.cell? ⟨w1.heap.size, 1, none⟩ = some (.slice a1 c c1) by rw [hw2]; simp [go_sem])
  have HB := Lib.hid ((hB.out.trans (hb1.mono hB.out.size)).trans (hb12.mono (by omega)))
  have HS := Lib.hid hs1
  have HS2 := Lib.hid (show w2.heap.size = w1.heap.size + 1 by rw [hw2]; simp)
  have HW := Lib.hid hw2
  clear hB hcall ho1 hb1 hb12 hs1 hw2
  have x1' := X1.out
  rw [HW.out] at x1'
  go_wp2
  rw [← HW.out]
  clear x1'
  go_loopw [17] (fun i wr => ∃ k : Nat, k ≤ n ∧ i = .int .i64 k ∧ OwnsM (fun g => w.heap.size + 2 ≤ g ∧ g < w1.heap.size) wr (.slice a1 c c1) (turnPart c L k 0) ∧ Chg (fun g => w.heap.size + 2 ≤ g ∧ g < w1.heap.size) w2 wr) (fun i _ => n + 1 - (intOf i).toNat)
  case atStart => exact ⟨0, by omega, rfl, by simpa using ho2.out, Chg.refl _ _⟩
  case round =>
    obtain ⟨k, hk, rfl, ho, hch⟩ := hrel
    have hs1 := HS.out
    have hs2 := HS2.out
    by_cases hlt : k < n
    · obtain ⟨g, off, r, rfl, hg, hcell, hrd⟩ := hcL'.out k (by rw [hnn'.out]; exact hlt)
      obtain ⟨_, ar, cr, rfl, hmr, hcr⟩ := open_reads hrd
      rw [hl'.out k (by rw [hnn'.out]; exact hlt)] at hcr hmr hcell
      have hrow : wr.cell? ⟨g, off + k, none⟩ = some (.slice ar c cr) := hch.keep (HB.out.cell (p := ⟨g, off + k, none⟩) hg |>.trans hcell) (by simp; omega)
      have HO := Lib.hid ho
      have HC := Lib.hid hch
      have HR := Lib.hid hcr
      have hk0 : 0 ≤ (k : Int) := by omega
      have hkn : (k : Int) < (n : Int) := by omega
      clear ho hch hcr hrd hcell hg x1 hs1 hs2
      go_wp2
      go_loopw [24] (fun i wr => ∃ j : Nat, j ≤ c ∧ i = .int .i64 j ∧ OwnsM (fun g => w.heap.size + 2 ≤ g ∧ g < w1.heap.size) wr (.slice a1 c c1) (turnPart c L k j) ∧ Chg (fun g => w.heap.size + 2 ≤ g ∧ g < w1.heap.size) w2 wr) (fun i _ => c + 1 - (intOf i).toNat)
      case atStart => exact ⟨0, by omega, rfl, HO.out, HC.out⟩
      case round =>
        obtain ⟨j, hj, rfl, ho, hch⟩ := hrel
        by_cases hltj : j < c
        · obtain ⟨gr, offr, rfl, hgr, hcells⟩ := HR.out (by omega)
          have hs1 := HS.out
          have hx : wr.cell? ⟨gr, offr + j, none⟩ = some (.int .i64 (at2 L k j)) := hch.keep (HB.out.cell (p := ⟨gr, offr + j, none⟩) hgr |>.trans (hcells j hltj)) (by simp; omega)
          have p1 : wr.cell? ⟨w1.heap.size, 1, none⟩ = some (.slice a1 c c1) := hch.keep O1.out (by simp)
          have hjL : j < (turnPart c L k j).length := by rw [turnPart, tabT_length]; exact hltj
          have hjl : (lAt (turnPart c L k j) j).length = n := by rw [turnPart, tabT_at hltj, rowT_length, hnn'.out]
          obtain ⟨g1, off1, cap1, g2, off2, cap2, e, _, hm2, hcell, hy, hfr, hS, hg2, _, hst⟩ := ho.openAt hjL (by rw [hjl]; exact hlt)
          simp only [Value.slice.injEq] at e
          obtain ⟨rfl, -, rfl⟩ := e
          rw [hjl] at hm2 hcell
          have hst1 := hst (at2 L k j)
          rw [turnPart_step hltj] at hst1
          have H1 := Lib.hid hst1
          have H2 := Lib.hid (hch.setCell (p := ⟨g2, off2 + k, none⟩) (fun _ => hS) (.int .i64 (at2 L k j)))
          have hj0 : 0 ≤ (j : Int) := by omega
          have hjn : (j : Int) < (c : Int) := by omega
          clear ho hch hst hst1 hjL hjl hcells hs1 hS
          generalize at2 (turnPart c L k j) j k = y at *
          generalize at2 L k j = x at *
          go_wp2
          go_roundw
          case rel => exact ⟨j + 1, by omega, by go_num, H1.out, H2.out⟩
          case measure => simp [intOf]; omega
        · obtain rfl : j = c := by omega
          have H1 : Hid (OwnsM (fun g => w.heap.size + 2 ≤ g ∧ g < w1.heap.size) wr (.slice a1 j c1) (turnPart j L (k + 1) 0)) := by rw [turnPart_row] at ho; exact ho
          have H2 := Lib.hid hch
          clear ho hch
          go_wp2
          go_roundw
          case rel => exact ⟨k + 1, by omega, by go_num, H1.out, H2.out⟩
          case measure => simp [intOf]; omega
    · obtain rfl : k = n := by omega
      have p0 : wr.cell? ⟨w1.heap.size, 0, none⟩ = some (.int .i64 k) := hch.keep O0.out (by simp)
      have p1 : wr.cell? ⟨w1.heap.size, 1, none⟩ = some (.slice a1 c c1) := hch.keep O1.out (by simp)
      have q0 : wr.cell? ⟨w.heap.size + 1, 0, none⟩ = some (.int .i64 0) := hch.keep R0.out (by simp)
      have q1 : wr.cell? ⟨w.heap.size + 1, 1, none⟩ = some (.slice none 0 0) := hch.keep R1.out (by simp)
      have g0 : wr.frozen? ⟨w.heap.size + 1, 0, none⟩ = false := hch.keepF F0.out (by simp; omega) (by simp)
      have g1 : wr.frozen? ⟨w.heap.size + 1, 1, none⟩ = false := hch.keepF F1.out (by simp; omega) (by simp)
      have HB2 := Lib.hid (HB.out.trans (hch.below (B := w.heap.size) (by omega) (fun g hg => by omega)))
      have HO := Lib.hid ho
      have hsz := hch.size
      clear ho hch
      go_wp2
      refine bodyPost_ret (v := .agg #[.int .i64 k, .slice a1 c c1]) (by simp [results, Tryd.results104, go_sem, q0, q1]) rfl ?_
      have hc2 : Chg (fun g => g = w.heap.size + 1) wr ((wr.setCell ⟨w.heap.size + 1, 0, none⟩ (.int .i64 k)).setCell ⟨w.heap.size + 1, 1, none⟩ (.slice a1 c c1)) :=
        ((Chg.refl (fun g => g = w.heap.size + 1) wr).setCell (p := ⟨w.heap.size + 1, 0, none⟩) (fun _ => rfl) _).setCell (p := ⟨w.heap.size + 1, 1, none⟩) (fun _ => rfl) _
      refine ⟨_, rfl, ?_, HB2.out.trans (hc2.below (by omega) fun g hg => by omega)⟩
      rw [← turnPart_end, hnn'.out]
      exact (HO.out.chg hc2 fun g hg e => by omega).mono fun g hg => by omega

end Ints
end Go.Proofs.YtkpheigoegehoaaDoor
