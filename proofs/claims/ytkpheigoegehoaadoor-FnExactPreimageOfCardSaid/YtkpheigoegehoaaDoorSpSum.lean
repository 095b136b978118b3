/- A linear combination: the reference's; the image of rows. -/
import Derived.Test.YtkpheigoegehoaaDoorSpReduce
import Derived.Test.YtkpheigoegehoaaDoorSpPlain
import Derived.Test.YtkpheigoegehoaaDoorMem4
import Derived.StillTailTactics
import Derived.IntWalk
namespace Go.Proofs.YtkpheigoegehoaaDoor
open Go.RowKit
namespace Ints

set_option maxHeartbeats 2000000 in
set_option maxRecDepth 100000 in
theorem spSum_any (p : Int) (c n : Nat) (h2 : 2 ≤ p) (h97 : p ≤ 97) (hc : c ≤ 1000) (xv v : Value) (x : List Int) (B : List (List Int)) (w : World) (hx : Reads w 1 xv n (ofL x)) (hxe : ∀ i, i < n → 0 ≤ x[i]?.getD 0 ∧ x[i]?.getD 0 < p) (hB : ElemsT p n c B) (h : ReadsM w v B) :
    Calls Tryd.prog 142 #[.int .i64 p, .int .i64 c, v, xv] w (NewInts w (mulRow p c B x)) := by
  obtain ⟨hxl, ax, cx, rfl, hxm, hxc⟩ := open_reads hx
  obtain ⟨a, cap, rfl, hm, hcB⟩ := open_readsM h
  rw [hB.1] at hm hcB ⊢
  have HB := Lib.hid hB
  have HXE := Lib.hid hxe
  have HXC := Lib.hid hxc
  have HCB := Lib.hid hcB
  have HXL := Lib.hid hxl
  have hmb := Lib.hid (show 8 * c ≤ 281474976710656 by omega)
  have hm2 := Lib.hid (show c ≤ maxLen by unfold maxLen; omega)
  have hcm : c ≤ 9223372036854775807 := by omega
  have hp0 : (p == 0) = false := by simp; omega
  have hp1 : ¬ p = 0 := by omega
  clear hx hxe hB h hxc hcB hxl
  go_enter Tryd.func142, Tryd.ntmps142
  go_wp2_with (at_make; refine wpList_make_one _ rfl _ _ 67 rfl 3 (.int .i64 0) 8 Tryd.underlying67 infoI rfl c rfl rfl hmb.out hm2.out ?_; intro w1 hown1 hb1 hs1)
  have ho1 := owns_of_row hown1 hm2.out
  rw [← ofL_replicate] at ho1
  have HO1 := Lib.hid ho1.1
  have HB1 := Lib.hid hb1
  clear hown1 ho1 hb1
  go_wp2
  go_loopw [18] (fun i wr => ∃ k : Nat, k ≤ n ∧ i = .int .i64 k ∧ Owns wr 3 1 (.slice (some ⟨w.heap.size, 0, none⟩) c c) c (ofL (rowT c fun j => dotP p x B j k)) ∧ Below w.heap.size w wr) (fun i _ => n + 1 - (intOf i).toNat)
  case atStart => exact ⟨0, by omega, rfl, HO1.out, HB1.out⟩
  case round =>
    obtain ⟨k, hk, rfl, ho, hb⟩ := hrel
    by_cases hlt : k < n
    · obtain ⟨g, off, r, rfl, hg, hcell, hrd⟩ := HCB.out k hlt
      have hrow : wr.cell? ⟨g, off + k, none⟩ = some r := (hb.cell hg).trans hcell
      have hlr := HB.out.2 k hlt
      rw [hlr.1] at hrd
      have HRD := Lib.hid hrd
      obtain ⟨ar, cr, rfl⟩ := hrd.form
      have hk0 : 0 ≤ (k : Int) := by omega
      have hki : (k : Int) < (n : Int) := by omega
      have ho0 : Hid (Owns wr 3 1 (.slice (some ⟨w.heap.size, 0, none⟩) c c) c (ofL (part c 0 (fun j => dotP p x B j (k + 1)) (fun j => dotP p x B j k)))) := by show Owns _ _ _ _ _ _; rw [part_zero]; exact ho
      have HBW := Lib.hid hb
      clear hcell hrd ho hb
      obtain ⟨w2, hw2⟩ : ∃ W, W = wr := ⟨_, rfl⟩
      rw [← hw2] at ho0 HBW hrow ⊢
      clear hw2 wr
      go_wp2
      go_loopw [25] (fun i wr => ∃ j : Nat, j ≤ c ∧ i = .int .i64 j ∧ Owns wr 3 1 (.slice (some ⟨w.heap.size, 0, none⟩) c c) c (ofL (part c j (fun j => dotP p x B j (k + 1)) (fun j => dotP p x B j k))) ∧ Below w.heap.size w wr) (fun i _ => c + 1 - (intOf i).toNat)
      case atStart => exact ⟨0, by omega, rfl, ho0.out, HBW.out⟩
      case round =>
        obtain ⟨j, hj, rfl, ho, hb⟩ := hrel
        by_cases hltj : j < c
        · obtain ⟨_, a3, c3, e3, hmr, hcr⟩ := open_reads (HRD.out.below hb)
          simp only [Value.slice.injEq] at e3
          obtain ⟨rfl, -, rfl⟩ := e3
          obtain ⟨gr, offr, rfl, hgr, hcellr⟩ := hcr (by omega)
          have hu : wr.cell? ⟨gr, offr + j, none⟩ = some (.int .i64 (at2 B k j)) := hcellr j hltj
          obtain ⟨gx, offx, rfl, hgx, hcellx⟩ := HXC.out (by omega)
          have hv : wr.cell? ⟨gx, offx + k, none⟩ = some (.int .i64 (x[k]?.getD 0)) := (hb.cell (p := ⟨gx, offx + k, none⟩) hgx).trans (hcellx k hlt)
          obtain ⟨_, a4, c4, e, _, hc4⟩ := open_owns ho
          simp only [Value.slice.injEq] at e
          obtain ⟨rfl, -, rfl⟩ := e
          obtain ⟨g4, off4, e4, hg4, hj4⟩ := hc4 (by omega)
          simp only [Option.some.injEq, Addr.mk.injEq, and_true] at e4
          obtain ⟨rfl, rfl⟩ := e4
          have hy := (hj4 j hltj).1
          have hfrz := (hj4 j hltj).2.1
          have hst := (hj4 j hltj).2.2 (dotP p x B j (k + 1))
          rw [part_set (f := fun j => dotP p x B j (k + 1))] at hst
          rw [part_at hltj] at hy
          rw [Nat.zero_add] at hy hfrz hst
          have hdb := dotP_bounds h2 x B j k
          have hxb := HXE.out k hlt
          have hbb := hlr.2 j hltj
          have hfk : dotP p x B j (k + 1) = (dotP p x B j k + x[k]?.getD 0 * at2 B k j) % p := rfl
          obtain ⟨m0, m1⟩ := Fld.mul_bounds h97 hxb.1 hxb.2 hbb.1 hbb.2
          generalize dotP p x B j k = o at *
          generalize x[k]?.getD 0 = xk at *
          generalize at2 B k j = y at *
          obtain ⟨z, hz⟩ : ∃ z, dotP p x B j (k + 1) = z := ⟨_, rfl⟩
          rw [hz] at hst hfk
          have H1 := Lib.hid hst
          have H2 := Lib.hid (hb.setCell (p := ⟨w.heap.size, j, none⟩) (Nat.le_refl _) (.int .i64 z))
          have HZ := Lib.hid hfk
          have hj0 : 0 ≤ (j : Int) := by omega
          have hjc : (j : Int) < (c : Int) := by omega
          obtain ⟨t, ht⟩ : ∃ t, xk * y = t := ⟨_, rfl⟩
          rw [ht] at m0 m1 HZ
          have hw1 : IntKind.i64.wrap (xk * y) = t := by rw [ht]; exact IntWalk.i64_in _ (by omega)
          have hw2 : IntKind.i64.wrap (o + t) = o + t := IntWalk.i64_in _ (by omega)
          have hmod : (o + t).tmod p = z := by rw [Int.tmod_eq_emod_of_nonneg (by omega)]; exact HZ.out.symm
          clear ho hb hc4 hj4 hst hz hfk hcr hcellr hcellx hxb hbb ht hgr hgx hg4
          go_wp2
          go_still_tail 16, (by kernel_rfl)
          change wpList _ _ _ _ _ wr.drew
          go_wp2
          go_roundw
          case rel => exact ⟨j + 1, by omega, by go_num, H1.out, H2.out.drew⟩
          case measure => simp [intOf]; omega
        · have hjc : j = c := by omega
          rw [hjc] at ho hltj ⊢
          rw [part_end] at ho
          have H1 := Lib.hid ho
          have H2 := Lib.hid hb
          clear hjc hj j ho hb
          go_wp2
          go_roundw
          case rel => exact ⟨k + 1, by omega, by go_num, H1.out, H2.out⟩
          case measure => simp [intOf]; omega
    · have hkn : k = n := by omega
      rw [hkn] at ho hlt ⊢
      have hmr : mulRow p c B x = rowT c fun j => dotP p x B j n := by unfold mulRow; rw [HXL.out]
      have hfin : Hid (NewInts w (mulRow p c B x) (.returned (.slice (some ⟨w.heap.size, 0, none⟩) c c)) wr) := by
        rw [hmr]
        exact ⟨_, rfl, by rw [rowT_length]; exact ho, fun g _ hg => by simp [Value.ownBlock] at hg; omega, hb⟩
      clear ho hb hkn hmr
      go_wp2
      go_ret
      exact hfin.out

end Ints
end Go.Proofs.YtkpheigoegehoaaDoor
