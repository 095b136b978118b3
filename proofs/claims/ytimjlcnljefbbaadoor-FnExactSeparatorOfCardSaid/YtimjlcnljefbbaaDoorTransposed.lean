/- Transposed rows: the program's. -/
import Derived.Test.YtimjlcnljefbbaaDoorMxTurn
namespace Go.Proofs.YtimjlcnljefbbaaDoor
open Go.RowKit
namespace Ints

/-- The first k rows of the transposed ones. -/
def turnRows (L : List (List Int)) (k : Nat) : List (List Int) := tabT k L.length fun j i => at2 L i j
theorem turnRows_succ (L : List (List Int)) (k : Nat) : turnRows L (k + 1) = turnRows L k ++ [rowT L.length fun i => at2 L i k] := by
  simp [turnRows, tabT, List.range_succ]

set_option maxHeartbeats 4000000 in
theorem transposed_any (c : Nat) (v : Value) (L : List (List Int)) (hc : c ≤ 1000) (hn : L.length ≤ 1000) (hl : ∀ i, i < L.length → (lAt L i).length = c) (w : World) (h : ReadsM w v L) :
    Calls Tryd.prog 97 #[v, .int .i64 c] w (NewRows w (turnT c L)) := by
  obtain ⟨a, cap, rfl, hm, hcL⟩ := open_readsM h
  obtain ⟨n, hnn⟩ : ∃ n, L.length = n := ⟨_, rfl⟩
  have hcL' := Lib.hid hcL
  have hl' := Lib.hid hl
  have hnn' := Lib.hid hnn
  have hm1 := Lib.hid (show 24 * c ≤ 281474976710656 by omega)
  have hm2 := Lib.hid (show c ≤ maxLen by unfold maxLen; omega)
  rw [hnn] at hm hn ⊢
  clear h hcL hl hnn
  have hcm : c ≤ 9223372036854775807 := by omega
  go_enter Tryd.func97, Tryd.ntmps97
  go_wp2_with (at_make; refine wpList_make_one _ rfl _ _ 22 rfl 41 (.slice none 0 0) 24 Tryd.underlying22 infoS rfl c rfl rfl hm1.out hm2.out ?_; intro w1 hown1 hb1 hs1)
  have hown1' := Lib.hid hown1
  have hb1' := Lib.hid hb1
  have hs1' := Lib.hid hs1
  clear hown1 hb1 hs1
  go_wp2
  go_loopw [13] (fun i wr => ∃ (k : Nat) (rs : List Value), k ≤ c ∧ i = .int .i64 k ∧ wr.ownsRow w.heap.size 41 1 (.slice (some ⟨w.heap.size, 0, none⟩) c c) c (rs ++ List.replicate (c - k) (.slice none 0 0)) ∧ RowsOwn (w.heap.size < ·) wr rs (turnRows L k) ∧ Below w.heap.size w wr) (fun i _ => c + 1 - (intOf i).toNat)
  case atStart => exact ⟨0, [], by omega, rfl, by simpa using hown1'.out, RowsOwn.nil _ _, hb1'.out⟩
  case round =>
    obtain ⟨k, rs, hk, rfl, hown, hrows, hb⟩ := hrel
    by_cases hlt : k < c
    · have hrl : rs.length = k := by rw [hrows.1, turnRows, tabT_length]
      have hz := Lib.hid (zeros_any n hn wr)
      have HO := Lib.hid hown
      have HR := Lib.hid hrows
      have HB := Lib.hid hb
      have hbig : w.heap.size < wr.heap.size := (hown.lt w.heap.size rfl).2
      clear hown hrows hb
      have hk0 : 0 ≤ (k : Int) := by omega
      have hkc : (k : Int) < (c : Int) := by omega
      obtain ⟨W0, hW0⟩ : ∃ W, W = wr := ⟨_, rfl⟩
      rw [← hW0] at HO HR HB hbig hz ⊢
      clear hW0 wr
      go_wp2_with fail
      refine hz.out.mono ?_
      rintro e w2 ⟨v2, rfl, ho2, hf2, hb2⟩
      rw [rowT_length] at ho2
      obtain ⟨a2, c2, rfl⟩ := ho2.form
      have hown2 := ownsRow_below HO.out hb2
      obtain ⟨m, hm3⟩ : ∃ m, c - k = m + 1 := ⟨c - k - 1, by omega⟩
      have hy : w2.cell? ⟨w.heap.size, k, none⟩ = some (.slice none 0 0) := by
        rw [hown2.cellAt k (by omega), List.getElem?_append_right (by omega), hrl, hm3]
        simp
      have hfr : w2.frozen? ⟨w.heap.size, k, none⟩ = false := hown2.frozenAt k
      have hst := hown2.stored k (Value.slice a2 n c2)
      obtain ⟨w3, hw3⟩ : ∃ W, W = w2.setCell ⟨w.heap.size, k, none⟩ (.slice a2 n c2) := ⟨_, rfl⟩
      rw [← hw3] at hst
      have hc23 : Chg (fun g => g = w.heap.size) w2 w3 := by rw [hw3]; exact Chg.set1 w2 ⟨w.heap.size, k, none⟩ _
      have hown3 : w3.ownsRow w.heap.size 41 1 (.slice (some ⟨w.heap.size, 0, none⟩) c c) c ((rs ++ [.slice a2 n c2]) ++ List.replicate (c - (k + 1)) (.slice none 0 0)) := by
        have h1 := hst.1
        rw [hm3] at h1
        have h2 := set_fill (A := rs) (z := .slice none 0 0) (x := Value.slice a2 n c2) (m := m)
        rw [hrl] at h2
        rw [h2] at h1
        rw [show c - (k + 1) = m by omega]
        exact h1
      have hR3 := (HR.out.bound.below hb2).chg hc23 (fun g hg e => by omega)
      have ho3 := ho2.chg hc23 (fun g hx hg e => by have := hf2 g hx hg; omega)
      have hB3 := (HB.out.trans (hb2.mono (Nat.le_of_lt hbig))).trans (hc23.below (B := w.heap.size) (Nat.le_trans (Nat.le_of_lt hbig) hb2.size) fun g hg => by omega)
      have hsz : W0.heap.size ≤ w3.heap.size := by have := hb2.size; have := hc23.size; omega
      have O3 := Lib.hid hown3
      have R3 := Lib.hid hR3
      have N3 := Lib.hid ho3
      have B3 := Lib.hid hB3
      have F3 := Lib.hid hf2
      have HW := Lib.hid hw3
      clear hown2 hm3 hst hw3 hc23 hown3 hR3 ho3 hB3 ho2 hf2 hb2 hz
      go_wp2
      rw [← HW.out]
      go_loopw [24] (fun i wr => ∃ j : Nat, j ≤ n ∧ i = .int .i64 j ∧ Owns wr 3 1 (.slice a2 n c2) n (ofL (part n j (fun i => at2 L i k) fun _ => 0)) ∧ Chg (fun g => (Value.slice a2 n c2).ownBlock = some g ∧ 0 < n) w3 wr) (fun i _ => n + 1 - (intOf i).toNat)
      case atStart => exact ⟨0, by omega, rfl, by rw [part_zero]; exact N3.out, Chg.refl _ _⟩
      case round =>
        obtain ⟨j, hj, rfl, ho, hch⟩ := hrel
        by_cases hltj : j < n
        · obtain ⟨g, off, r, rfl, hg, hcell, hrd⟩ := hcL'.out j (by rw [hnn'.out]; exact hltj)
          obtain ⟨_, ar, cr, rfl, hmr, hcr⟩ := open_reads hrd
          rw [hl'.out j (by rw [hnn'.out]; exact hltj)] at hcr hmr hcell
          obtain ⟨gr, offr, rfl, hgr, hcells⟩ := hcr (by omega)
          have hfar : ∀ g', (Value.slice a2 n c2).ownBlock = some g' ∧ 0 < n → w.heap.size < g' := by
            rintro g' ⟨h1, h2⟩
            have := F3.out g' (ofL_ne.2 (List.length_pos_iff.1 (by rw [rowT_length]; exact h2))) h1
            omega
          have hrow : wr.cell? ⟨g, off + j, none⟩ = some (.slice (some ⟨gr, offr, none⟩) c cr) := hch.keep (B3.out.cell (p := ⟨g, off + j, none⟩) hg |>.trans hcell) (fun h => by have := hfar _ h; simp at this; omega)
          have hx : wr.cell? ⟨gr, offr + k, none⟩ = some (.int .i64 (at2 L j k)) := hch.keep (B3.out.cell (p := ⟨gr, offr + k, none⟩) hgr |>.trans (hcells k hlt)) (fun h => by have := hfar _ h; simp at this; omega)
          have hout : wr.cell? ⟨w.heap.size, k, none⟩ = some (.slice a2 n c2) := by
            refine hch.keep ?_ (fun h => by have := hfar _ h; simp at this)
            rw [O3.out.cellAt k (by omega), List.append_assoc, List.getElem?_append_right (by omega), hrl]
            simp
          obtain ⟨_, a3, c3, e, hm3, hc3⟩ := open_owns ho
          simp only [Value.slice.injEq] at e
          obtain ⟨rfl, -, rfl⟩ := e
          obtain ⟨g2, off2, rfl, hg2, hjj⟩ := hc3 (by omega)
          have hy := (hjj j hltj).1
          have hfr := (hjj j hltj).2.1
          have hst := (hjj j hltj).2.2 (at2 L j k)
          rw [part_set (f := fun i => at2 L i k)] at hst
          rw [part_at hltj] at hy
          have H1 := Lib.hid hst
          have H2 := Lib.hid (hch.setCell (p := ⟨g2, off2 + j, none⟩) (fun _ => ⟨rfl, by omega⟩) (.int .i64 (at2 L j k)))
          have hj0 : 0 ≤ (j : Int) := by omega
          have hjn : (j : Int) < (n : Int) := by omega
          clear ho hch hst hcells hcr hrd hcell hc3 hjj hfar
          generalize at2 L j k = x at *
          go_wp2
          go_region
          go_wp2
          go_roundw
          case rel => exact ⟨j + 1, by omega, by go_num, H1.out, H2.out.drew⟩
          case measure => simp [intOf]; omega
        · obtain rfl : j = n := by omega
          rw [part_end] at ho
          have hfar : ∀ g', (Value.slice a2 j c2).ownBlock = some g' ∧ 0 < j → W0.heap.size ≤ g' := by
            rintro g' ⟨h1, h2⟩
            exact F3.out g' (ofL_ne.2 (List.length_pos_iff.1 (by rw [rowT_length]; exact h2))) h1
          have H1 := Lib.hid (ownsRow_keep O3.out hch (fun g hg h => by have := hfar _ h; simp [Value.ownBlock] at hg; omega))
          have H2 : Hid (RowsOwn (w.heap.size < ·) wr (rs ++ [.slice a2 j c2]) (turnRows L (k + 1))) := by
            rw [turnRows_succ, hnn'.out]
            refine RowsOwn.push (B := W0.heap.size) (R3.out.chg hch fun g hg h => ?_) (by rw [rowT_length]; exact ho) ?_
            · have := hfar _ h
              omega
            · intro g hx hg
              have := F3.out g (by rw [ofL_ne, ← List.length_pos_iff, rowT_length] at hx ⊢; exact hx) hg
              exact ⟨by omega, this⟩
          have H3 := Lib.hid (B3.out.trans (hch.below (B := w.heap.size) (by omega) fun g h => by have := hfar _ h; omega))
          clear ho hch hfar
          go_wp2
          go_roundw
          case rel => exact ⟨k + 1, _, by omega, by go_num, H1.out, H2.out, H3.out⟩
          case measure => simp [intOf]; omega
    · obtain rfl : k = c := by omega
      have hfin : Hid (NewRows w (turnT k L) (.returned (.slice (some ⟨w.heap.size, 0, none⟩) k k)) wr) := by
        have h1 := owns_of_row hown hm2.out
        rw [Nat.sub_self, List.replicate_zero, List.append_nil] at h1
        exact ⟨_, rfl, ⟨rs, by rw [turnT, tabT_length]; exact h1.1, h1.2, hrows.mono fun g hg => Nat.le_of_lt hg⟩, hb⟩
      clear hown hrows hb
      go_wp2
      go_ret
      exact hfin.out

end Ints
end Go.Proofs.YtimjlcnljefbbaaDoor
