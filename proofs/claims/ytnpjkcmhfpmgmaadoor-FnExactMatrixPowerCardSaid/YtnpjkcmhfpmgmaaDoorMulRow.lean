/- The product of a list with a matrix: the reference's and the program's. -/
import Derived.Test.YtnpjkcmhfpmgmaaDoorRowFns2
import Derived.Test.YtnpjkcmhfpmgmaaDoorFxAdd
import Derived.Test.YtnpjkcmhfpmgmaaDoorMem4
namespace Go.Proofs.YtnpjkcmhfpmgmaaDoor
open Go.RowKit
namespace Ints
open Fld (fdMul_any fdAdd_any)

theorem dotP_step (p : Int) (x : List Int) (B : List (List Int)) (j k : Nat) : (dotP p x B j k + x[k]?.getD 0 * at2 B k j % p) % p = dotP p x B j (k + 1) := by
  show _ = (dotP p x B j k + x[k]?.getD 0 * at2 B k j) % p
  rw [Int.add_emod_emod]

set_option maxHeartbeats 4000000 in
theorem mxRow_any (p : Int) (c n : Nat) (h2 : 2 ≤ p) (h97 : p ≤ 97) (hc : c ≤ 1000) (xv v : Value) (x : List Int) (B : List (List Int)) (w : World) (hx : Reads w 1 xv n (ofL x)) (hxe : ∀ i, i < n → 0 ≤ x[i]?.getD 0 ∧ x[i]?.getD 0 < p) (hB : ElemsT p n c B) (h : ReadsM w v B) :
    Calls Tryd.prog 83 #[.int .i64 p, xv, .agg #[.int .i64 c, v]] w (NewInts w (mulRow p c B x)) := by
  obtain ⟨hxl, ax, cx, rfl, hxm, hxc⟩ := open_reads hx
  obtain ⟨a, cap, rfl, hm, hcB⟩ := open_readsM h
  have hBl := hB.1
  rw [hBl] at hm hcB ⊢
  obtain ⟨f, hf⟩ : ∃ f : Nat → Nat → Int, (fun k j => dotP p x B j k) = f := ⟨_, rfl⟩
  have hmul : mulRow p c B x = rowT c (f n) := by rw [← hf, mulRow, hxl]
  rw [hmul]
  have HF := Lib.hid hf
  have HXC := Lib.hid hxc
  have HXE := Lib.hid hxe
  have HB := Lib.hid hB
  have HCB := Lib.hid hcB
  have hb0 := Lib.hid ((Below.refl w.heap.size w).alloc (Nat.le_refl _) (.cells #[.int .i64 c, .slice a n cap] 26))
  have hm1 := Lib.hid (show 8 * c ≤ 281474976710656 by omega)
  have hm2 := Lib.hid (show c ≤ maxLen by unfold maxLen; omega)
  have hcm : c ≤ 9223372036854775807 := by omega
  clear hx hxl hxc hxe h hcB hB hBl hf hmul
  go_enter Tryd.func83, Tryd.ntmps83
  go_wp2_with (at_make; refine wpList_make_one _ rfl _ _ 59 rfl 3 (.int .i64 0) 8 Tryd.underlying59 infoI rfl c rfl rfl hm1.out hm2.out ?_; intro w1 hown1 hb1 hs1)
  rw [show (w.alloc (.cells #[.int .i64 c, .slice a n cap] 26)).heap.size = w.heap.size + 1 by simp] at hown1 hs1
  have k0 : w1.cell? ⟨w.heap.size, 1, none⟩ = some (.slice a n cap) := cell_old hb1 (by simp [go_sem])
  have ho1 := owns_of_row hown1 hm2.out
  rw [← ofL_replicate, show (rowT c fun _ => (0 : Int)) = rowT c (f 0) by rw [← HF.out]; rfl] at ho1
  have HO1 := Lib.hid ho1.1
  have HB1 := Lib.hid (hb0.out.trans (hb1.mono hb0.out.size))
  have HS1 := Lib.hid hs1
  have K0 := Lib.hid k0
  clear hown1 ho1 hb1 hs1 k0
  go_wp2
  go_loopw [16] (fun i wr => ∃ k : Nat, k ≤ n ∧ i = .int .i64 k ∧ Owns wr 3 1 (.slice (some ⟨w.heap.size + 1, 0, none⟩) c c) c (ofL (rowT c (f k))) ∧ Chg (fun g => g = w.heap.size + 1) w1 wr) (fun i _ => n + 1 - (intOf i).toNat)
  case atStart => exact ⟨0, by omega, rfl, HO1.out, Chg.refl _ _⟩
  case round =>
    obtain ⟨k, hk, rfl, ho, hch⟩ := hrel
    by_cases hlt : k < n
    · obtain ⟨gx, offx, rfl, hgx, hcx⟩ := HXC.out (by omega)
      have hx : wr.cell? ⟨gx, offx + k, none⟩ = some (.int .i64 (x[k]?.getD 0)) := hch.keep (HB1.out.cell (p := ⟨gx, offx + k, none⟩) hgx |>.trans (hcx k hlt)) (by simp; omega)
      have HO := Lib.hid ho
      have HC := Lib.hid hch
      have hk0 : 0 ≤ (k : Int) := by omega
      have hkn : (k : Int) < (n : Int) := by omega
      clear ho hch hcx
      go_wp2
      go_loopw [23] (fun i wr => ∃ j : Nat, j ≤ c ∧ i = .int .i64 j ∧ Owns wr 3 1 (.slice (some ⟨w.heap.size + 1, 0, none⟩) c c) c (ofL (part c j (f (k + 1)) (f k))) ∧ Chg (fun g => g = w.heap.size + 1) w1 wr) (fun i _ => c + 1 - (intOf i).toNat)
      case atStart => exact ⟨0, by omega, rfl, by rw [part_zero]; exact HO.out, HC.out⟩
      case round =>
        obtain ⟨j, hj, rfl, ho, hch⟩ := hrel
        by_cases hltj : j < c
        · obtain ⟨g, off, r, rfl, hg, hcell, hrd⟩ := HCB.out k hlt
          obtain ⟨_, ar, cr, rfl, hmr, hcr⟩ := open_reads hrd
          have hlen := (HB.out.2 k hlt).1
          rw [hlen] at hcr hmr hcell
          obtain ⟨gr, offr, rfl, hgr, hcells⟩ := hcr (by omega)
          have hbox : wr.cell? ⟨w.heap.size, 1, none⟩ = some (.slice (some ⟨g, off, none⟩) n cap) := hch.keep K0.out (by simp)
          have hrow : wr.cell? ⟨g, off + k, none⟩ = some (.slice (some ⟨gr, offr, none⟩) c cr) := hch.keep (HB1.out.cell (p := ⟨g, off + k, none⟩) hg |>.trans hcell) (by simp; omega)
          have hb : wr.cell? ⟨gr, offr + j, none⟩ = some (.int .i64 (at2 B k j)) := hch.keep (HB1.out.cell (p := ⟨gr, offr + j, none⟩) hgr |>.trans (hcells j hltj)) (by simp; omega)
          obtain ⟨_, a2, c2, e, hm2, hc2⟩ := open_owns ho
          simp only [Value.slice.injEq] at e
          obtain ⟨rfl, -, rfl⟩ := e
          obtain ⟨g2, off2, e2, hg2, hjj⟩ := hc2 (by omega)
          simp at e2
          obtain ⟨rfl, rfl⟩ := e2
          have hy := (hjj j hltj).1
          have hfr := (hjj j hltj).2.1
          have hst := (hjj j hltj).2.2 (f (k + 1) j)
          rw [part_set] at hst
          rw [part_at hltj] at hy
          simp only [Nat.zero_add] at hy hfr hst
          have H1 := Lib.hid hst
          have H2 := Lib.hid (hch.setCell (p := ⟨w.heap.size + 1, j, none⟩) (fun _ => rfl) (.int .i64 (f (k + 1) j)))
          have hxk := HXE.out k hlt
          have hbk := (HB.out.2 k hlt).2 j hltj
          have hfk := dotP_bounds h2 x B j k
          have hst2 := dotP_step p x B j k
          have e1 : dotP p x B j k = f k j := by rw [← HF.out]
          have e2 : dotP p x B j (k + 1) = f (k + 1) j := by rw [← HF.out]
          rw [e1] at hfk
          rw [e1, e2] at hst2
          have HST := Lib.hid hst2
          clear ho hch hst hst2 hjj hcells hcr hrd hcell hlen hgr hg hc2 e1 e2
          generalize x[k]?.getD 0 = xx at *
          generalize at2 B k j = bb at *
          generalize f k j = y at *
          generalize f (k + 1) j = z at *
          obtain ⟨t, ht⟩ : ∃ t, xx * bb % p = t := ⟨_, rfl⟩
          have ht0 : 0 ≤ t := by rw [← ht]; exact Int.emod_nonneg _ (by omega)
          have ht1 : t < p := by rw [← ht]; exact Int.emod_lt_of_pos _ (by omega)
          have hc1 := Lib.hid (fun W => fdMul_any p xx bb h2 h97 hxk.1 hxk.2 hbk.1 hbk.2 W)
          have hc2 := Lib.hid (fun W => fdAdd_any p y t h2 h97 hfk.1 hfk.2 ht0 ht1 W)
          rw [ht] at hc1 HST
          rw [HST.out] at hc2
          clear HST ht
          have hj0 : 0 ≤ (j : Int) := by omega
          have hjn : (j : Int) < (c : Int) := by omega
          go_wp2
          go_region_law (first | (go_simp; (go_at_call 89; ((with_reducible refine (hc1.out _).mono ?_); rintro e w' ⟨rfl, rfl⟩))) | (go_simp; (go_at_call 47; ((with_reducible refine (hc2.out _).mono ?_); rintro e w' ⟨rfl, rfl⟩))))
          all_goals
            go_wp2
            go_roundw
            case rel => exact ⟨j + 1, by omega, by go_num, H1.out, H2.out.drew⟩
            case measure => simp [intOf]; omega
        · obtain rfl : j = c := by omega
          have H1 : Hid (Owns wr 3 1 (.slice (some ⟨w.heap.size + 1, 0, none⟩) j j) j (ofL (rowT j (f (k + 1))))) := by rw [part_end] at ho; exact ho
          have H2 := Lib.hid hch
          clear ho hch
          go_wp2
          go_roundw
          case rel => exact ⟨k + 1, by omega, by go_num, H1.out, H2.out⟩
          case measure => simp [intOf]; omega
    · obtain rfl : k = n := by omega
      have hfin : Hid (NewInts w (rowT c (f k)) (.returned (.slice (some ⟨w.heap.size + 1, 0, none⟩) c c)) wr) := by
        have hs1 := HS1.out
        refine ⟨_, rfl, by rw [rowT_length]; exact ho, fun g _ hg => by simp [Value.ownBlock] at hg; omega, HB1.out.trans (hch.below (by omega) fun g hg => by omega)⟩
      clear ho hch
      go_wp2
      go_ret
      exact hfin.out

set_option maxHeartbeats 2000000 in
theorem combine_any (p : Int) (c n : Nat) (h2 : 2 ≤ p) (h97 : p ≤ 97) (hc : c ≤ 1000) (xv v : Value) (x : List Int) (B : List (List Int)) (w : World) (hx : Reads w 1 xv n (ofL x)) (hxe : ∀ i, i < n → 0 ≤ x[i]?.getD 0 ∧ x[i]?.getD 0 < p) (hB : ElemsT p n c B) (h : ReadsM w v B) :
    Calls Tryd.prog 84 #[.int .i64 p, xv, v, .int .i64 c] w (NewInts w (mulRow p c B x)) := by
  obtain ⟨hxl, ax, cx, rfl, hxm, hxc⟩ := open_reads hx
  obtain ⟨a, cap, rfl, hm, hcB⟩ := open_readsM h
  have hBl := hB.1
  rw [hBl] at hm hcB ⊢
  obtain ⟨f, hf⟩ : ∃ f : Nat → Nat → Int, (fun k j => dotP p x B j k) = f := ⟨_, rfl⟩
  have hmul : mulRow p c B x = rowT c (f n) := by rw [← hf, mulRow, hxl]
  rw [hmul]
  have HF := Lib.hid hf
  have HXC := Lib.hid hxc
  have HXE := Lib.hid hxe
  have HB := Lib.hid hB
  have HCB := Lib.hid hcB
  have hcall := Lib.hid (zeros_any c hc w)
  clear hx hxl hxc hxe h hcB hB hBl hf hmul
  go_enter Tryd.func84, Tryd.ntmps84
  go_wp2_with fail
  refine hcall.out.mono ?_
  rintro e w1 ⟨v1, rfl, ho1, hf1, hb1⟩
  rw [show (rowT c fun _ => (0 : Int)) = rowT c (f 0) by rw [← HF.out]; rfl] at ho1 hf1
  rw [rowT_length] at ho1
  obtain ⟨av, cv, rfl⟩ := ho1.form
  have HO1 := Lib.hid ho1
  have HF1 := Lib.hid hf1
  have HB1 := Lib.hid hb1
  clear ho1 hf1 hb1 hcall
  go_wp2
  go_loopw [16] (fun i wr => ∃ k : Nat, k ≤ n ∧ i = .int .i64 k ∧ Owns wr 3 1 (.slice av c cv) c (ofL (rowT c (f k))) ∧ Chg (fun g => w.heap.size ≤ g) w1 wr) (fun i _ => n + 1 - (intOf i).toNat)
  case atStart => exact ⟨0, by omega, rfl, HO1.out, Chg.refl _ _⟩
  case round =>
    obtain ⟨k, hk, rfl, ho, hch⟩ := hrel
    by_cases hlt : k < n
    · obtain ⟨gx, offx, rfl, hgx, hcx⟩ := HXC.out (by omega)
      have hx : wr.cell? ⟨gx, offx + k, none⟩ = some (.int .i64 (x[k]?.getD 0)) := hch.keep (HB1.out.cell (p := ⟨gx, offx + k, none⟩) hgx |>.trans (hcx k hlt)) (by simp; omega)
      obtain ⟨g, off, r, rfl, hg, hcell, hrd⟩ := HCB.out k hlt
      have hrow : wr.cell? ⟨g, off + k, none⟩ = some r := hch.keep (HB1.out.cell (p := ⟨g, off + k, none⟩) hg |>.trans hcell) (by simp; omega)
      have hlen := (HB.out.2 k hlt).1
      have hBW : Below w.heap.size w wr := HB1.out.trans (hch.below HB1.out.size fun _ hg => hg)
      have hrd2 := hrd.below hBW
      rw [hlen] at hrd2
      have hfar : blkIn (fun g => w.heap.size ≤ g) (.slice av c cv) (ofL (rowT c (f 0))) := HF1.out
      have hd : blkIn (fun g => (Value.slice av c cv).ownBlock ≠ some g) r (ofL (lAt B k)) := by
        intro g' hx' hg' e
        have h1 := hrd.lt g' hx' hg'
        have hp : 0 < c := by rw [← hlen]; exact List.length_pos_iff.2 (ofL_ne.1 hx')
        have h3 := hfar g' (ofL_ne.2 (List.length_pos_iff.1 (by rw [rowT_length]; exact hp))) e
        omega
      have hxk := HXE.out k hlt
      have hcall := Lib.hid (addTimes_any p (x[k]?.getD 0) h2 h97 (by omega) (by omega) (.slice av c cv) r c (rowT c (f k)) (lAt B k) wr ho hrd2 hd
        (fun j hj => by rw [rowT_at hj, ← HF.out]; exact dotP_bounds h2 x B j k) (fun j hj => (HB.out.2 k hlt).2 j hj))
      have er : (rowT c fun j => ((rowT c (f k))[j]?.getD 0 + x[k]?.getD 0 * (lAt B k)[j]?.getD 0) % p) = rowT c (f (k + 1)) := by
        refine rowT_congr fun j hj => ?_
        rw [rowT_at hj, ← HF.out]
        rfl
      rw [er] at hcall
      have HC := Lib.hid hch
      have HFA := Lib.hid hfar
      clear ho hch hcx hcell hrd hrd2 hlen hBW hfar hd hg er
      generalize x[k]?.getD 0 = xx at *
      have hk0 : 0 ≤ (k : Int) := by omega
      have hkn : (k : Int) < (n : Int) := by omega
      go_wp2_with fail
      refine hcall.out.mono ?_
      rintro e w2 ⟨rfl, ho2, hc2⟩
      have H1 := Lib.hid ho2
      have H2 := Lib.hid (HC.out.trans (hc2.mono fun g _ h => HFA.out g (ofL_ne.2 (List.length_pos_iff.1 (by rw [rowT_length]; exact h.2))) h.1))
      clear ho2 hc2 hcall
      go_wp2
      go_roundw
      case rel => exact ⟨k + 1, by omega, by go_num, H1.out, H2.out⟩
      case measure => simp [intOf]; omega
    · obtain rfl : k = n := by omega
      have hfin : Hid (NewInts w (rowT c (f k)) (.returned (.slice av c cv)) wr) := by
        refine ⟨_, rfl, by rw [rowT_length]; exact ho, fun g hx hg => HF1.out g ?_ hg, HB1.out.trans (hch.below HB1.out.size fun _ hg => hg)⟩
        rw [ofL_ne, ← List.length_pos_iff, rowT_length] at hx ⊢
        exact hx
      clear ho hch
      go_wp2
      go_ret
      exact hfin.out

end Ints
end Go.Proofs.YtnpjkcmhfpmgmaaDoor
