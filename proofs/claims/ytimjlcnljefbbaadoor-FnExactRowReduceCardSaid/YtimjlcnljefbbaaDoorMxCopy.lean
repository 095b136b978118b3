/- A matrix with rows of its own: the reference's. -/
import Derived.Test.YtimjlcnljefbbaaDoorRowFn
import Derived.Test.YtimjlcnljefbbaaDoorMem4
import Derived.Deep.RegionLaw
namespace Go.Proofs.YtimjlcnljefbbaaDoor
open Go.RowKit
namespace Ints

set_option maxHeartbeats 4000000 in
theorem mxCopy_any (c : Int) (u : Value) (A : List (List Int)) (w : World) (hal : A.length ≤ 1000) (hrl : ∀ i, i < A.length → (lAt A i).length ≤ 1000) (hu : ReadsM w u A) :
    Calls Tryd.prog 81 #[.agg #[.int .i64 c, u]] w (NewMat w c A) := by
  obtain ⟨ua, uc, rfl, hm, hcA⟩ := open_readsM hu
  obtain ⟨r, hr⟩ : ∃ r, A.length = r := ⟨_, rfl⟩
  rw [hr] at hm hcA hal hrl ⊢
  obtain ⟨w1, hw1⟩ : ∃ W, W = (((w.alloc (.cells #[.int .i64 c, .slice ua r uc] 30)).alloc (.cells #[.int .i64 0, .slice none 0 0] 30)).alloc (.cells #[.int .i64 c, .slice none 0 0] 30)) := ⟨_, rfl⟩
  have hB1 : Below w.heap.size w w1 := by rw [hw1]; exact (((Below.refl w.heap.size w).alloc (by simp) _).alloc (by simp) _).alloc (by simp; omega) _
  have hs1 : w1.heap.size = w.heap.size + 3 := by rw [hw1]; simp
  have hQ0 : w1.cell? ⟨w.heap.size + 1, 0, none⟩ = some (.int .i64 0) := by rw [hw1]; simp [go_sem]
  have hQ1 : w1.cell? ⟨w.heap.size + 1, 1, none⟩ = some (.slice none 0 0) := by rw [hw1]; simp [go_sem]
  have hG0 : w1.frozen? ⟨w.heap.size + 1, 0, none⟩ = false := by rw [hw1]; simp [go_sem]
  have hG1 : w1.frozen? ⟨w.heap.size + 1, 1, none⟩ = false := by rw [hw1]; simp [go_sem]
  have O0 : w1.cell? ⟨w.heap.size + 2, 0, none⟩ = some (.int .i64 c) := by rw [hw1]; simp [go_sem]
  have O1 : w1.cell? ⟨w.heap.size + 2, 1, none⟩ = some (.slice none 0 0) := by rw [hw1]; simp [go_sem]
  have F1 : w1.frozen? ⟨w.heap.size + 2, 1, none⟩ = false := by rw [hw1]; simp [go_sem]
  have hGG : Gather w1 (w.heap.size + 2) (w.heap.size + 3) [] 0 (.slice none 0 0) [] w1 := Gather.start ⟨rfl, .inl ⟨rfl, rfl⟩⟩ (by simp [Value.ownBlock]) ⟨_, 30, (0, 0), by rw [hw1, show w.heap.size + 2 = ((w.alloc (.cells #[.int .i64 c, .slice ua r uc] 30)).alloc (.cells #[.int .i64 0, .slice none 0 0] 30)).heap.size by simp]; exact heap_alloc_new _ _, by decide⟩ (by omega)
  have HQ := Lib.hid (And.intro hQ0 (And.intro hQ1 (And.intro hG0 hG1)))
  have HO := Lib.hid (And.intro O0 (And.intro O1 F1))
  have HG := Lib.hid hGG
  have HW := Lib.hid hw1
  have HB1 := Lib.hid hB1
  have HS := Lib.hid hs1
  have HCA := Lib.hid hcA
  have HR := Lib.hid hr
  have HRL := Lib.hid hrl
  have hfit := Lib.hid (show r ≤ maxLen by unfold maxLen; omega)
  clear hw1 hB1 hs1 hQ0 hQ1 hG0 hG1 O0 O1 F1 hGG hu hcA hr hrl
  go_enter Tryd.func81, Tryd.ntmps81
  go_wp2
  rw [← HW.out]
  go_loopw [12] (fun i wr => ∃ (k : Nat) (rs : List Value) (o : Value), k ≤ r ∧ i = .int .i64 k ∧ Gather w1 (w.heap.size + 2) (w.heap.size + 3) (A.take k) k o rs wr ∧ wr.cell? ⟨w.heap.size + 2, 0, none⟩ = some (.int .i64 c) ∧ wr.cell? ⟨w.heap.size + 2, 1, none⟩ = some o ∧ wr.frozen? ⟨w.heap.size + 2, 1, none⟩ = false) (fun i _ => r + 1 - (intOf i).toNat)
  case atStart => exact ⟨0, [], _, by omega, rfl, HG.out, HO.out.1, HO.out.2.1, HO.out.2.2⟩
  case round =>
    obtain ⟨k, rs, o, hk, rfl, hG, o0, o1, f1⟩ := hrel
    by_cases hlt : k < r
    · obtain ⟨g, off, rv, rfl, hg, hcell, hrd⟩ := HCA.out k hlt
      have hBW : Below w.heap.size w wr := HB1.out.trans (hG.below (by omega) (by omega))
      have hrow : wr.cell? ⟨g, off + k, none⟩ = some rv := (hBW.cell (p := ⟨g, off + k, none⟩) hg).trans hcell
      obtain ⟨ar, cr, rfl⟩ := hrd.form
      have hcall := Lib.hid (l1Own_any _ _ (lAt A k) wr.drew (hrd.below hBW.drew) (by have := HRL.out k hlt; omega))
      have htk : A.take (k + 1) = A.take k ++ [lAt A k] := take_oneL A k (by rw [HR.out]; exact hlt)
      have HTK := Lib.hid htk
      have HGG := Lib.hid hG
      have HO0 := Lib.hid o0
      have HF1 := Lib.hid f1
      have hm3 := Lib.hid (show k + 1 ≤ maxLen by have := hfit.out; omega)
      have hm4 := Lib.hid (show (k + 1) * 24 ≤ 140737488355328 by omega)
      obtain ⟨ao, co, rfl⟩ := hG.form
      have hk0 : 0 ≤ (k : Int) := by omega
      have hkn : (k : Int) < (r : Int) := by omega
      generalize lAt A k = row at *
      clear hG hcell hrd hBW htk hg f1
      obtain ⟨W0, hW0⟩ : ∃ W, W = wr := ⟨_, rfl⟩
      rw [← hW0] at HGG HO0 HF1 hcall hrow o0 o1 ⊢
      clear hW0 wr
      go_wp2
      go_region_law (first
        | (go_simp; go_at_call 107; refine hcall.out.mono ?_; rintro e w2 ⟨v2, rfl, ho2, hf2, hb2⟩; obtain ⟨a2, c2, rfl⟩ := ho2.form; have hb2' : Below W0.heap.size W0 w2 := ⟨hb2.os, hb2.tape, hb2.output, hb2.size, hb2.block⟩; have z1 := cell_old hb2' o1; have z2 := fun ob => cell_old (below_alloc (Below.refl w2.heap.size w2) (o := ob)) z1)
        | (refine step_append_one (by rfl) _ _ 22 (by rfl) (w.heap.size + 3) 41 (.slice none 0 0) 24 Tryd.underlying22 infoS rfl (.slice ao k co) k rs (.slice a2 row.length c2) (ownsRow_below HGG.out.own hb2') (by rfl) (by rfl) rfl hm3.out hm4.out (Nat.le_trans HGG.out.lt hb2'.size) ?_; intro v' w3 hown3 hg3; obtain ⟨a3, c3, rfl⟩ := ownsRow_form hown3; have q1 := HGG.out.after hb2' hg3 o1; have p1 := HGG.out.afterF hb2' hg3 HF1.out))
      all_goals
        have H1 := Lib.hid (HGG.out.push ho2 hf2 hb2' hown3 hg3 1)
        rw [← HTK.out] at H1
        have q0 := HGG.out.after hb2' hg3 HO0.out
        have H2 := Lib.hid (show (w3.setCell ⟨w.heap.size + 2, 1, none⟩ (.slice a3 (k + 1) c3)).cell? ⟨w.heap.size + 2, 0, none⟩ = some (.int .i64 c) by simp [go_sem, q0])
        have H3 := Lib.hid (show (w3.setCell ⟨w.heap.size + 2, 1, none⟩ (.slice a3 (k + 1) c3)).cell? ⟨w.heap.size + 2, 1, none⟩ = some (.slice a3 (k + 1) c3) by simp [go_sem, q1])
        have H4 := Lib.hid (show (w3.setCell ⟨w.heap.size + 2, 1, none⟩ (.slice a3 (k + 1) c3)).frozen? ⟨w.heap.size + 2, 1, none⟩ = false by simp [go_sem, p1])
        clear hown3 hg3 ho2 hf2 hb2 hb2' q0 q1 p1
        go_wp2
        go_roundw
        case rel => exact ⟨k + 1, _, _, by omega, by go_num, H1.out, H2.out, H3.out, H4.out⟩
        case measure => simp [intOf]; omega
    · obtain rfl : k = r := by omega
      have q0 : wr.cell? ⟨w.heap.size + 1, 0, none⟩ = some (.int .i64 0) := hG.keep HQ.out.1 (by simp) (by simp)
      have q1 : wr.cell? ⟨w.heap.size + 1, 1, none⟩ = some (.slice none 0 0) := hG.keep HQ.out.2.1 (by simp) (by simp)
      have g0 : wr.frozen? ⟨w.heap.size + 1, 0, none⟩ = false := hG.keepF HQ.out.2.2.1 (by simp) (by simp)
      have g1 : wr.frozen? ⟨w.heap.size + 1, 1, none⟩ = false := hG.keepF HQ.out.2.2.2 (by simp) (by simp)
      have ho := hG.owns (by rw [List.length_take, HR.out]; omega) hfit.out
      rw [← HR.out, List.take_length] at ho
      obtain ⟨ao, co, rfl⟩ := hG.form
      have hfin : Hid (NewMat w c A (.returned (.agg #[.int .i64 c, .slice ao k co])) ((wr.setCell ⟨w.heap.size + 1, 0, none⟩ (.int .i64 c)).setCell ⟨w.heap.size + 1, 1, none⟩ (.slice ao k co))) := by
        have hc2 : Chg (fun g => g = w.heap.size + 1) wr ((wr.setCell ⟨w.heap.size + 1, 0, none⟩ (.int .i64 c)).setCell ⟨w.heap.size + 1, 1, none⟩ (.slice ao k co)) :=
          (Chg.set1 wr ⟨w.heap.size + 1, 0, none⟩ _).setCell (p := ⟨w.heap.size + 1, 1, none⟩) (fun _ => rfl) _
        have hl := hG.lt
        exact ⟨_, rfl, (ho.chg hc2 fun g hg e => by omega).mono fun g hg => by omega, (HB1.out.trans (hG.below (by omega) (by omega))).trans (hc2.below (by omega) fun g hg => by omega)⟩
      clear hG f1 ho
      go_wp2
      refine bodyPost_ret (v := .agg #[.int .i64 c, .slice ao k co]) (by simp [results, Tryd.results81, go_sem, q0, q1]) rfl ?_
      exact hfin.out

end Ints
end Go.Proofs.YtimjlcnljefbbaaDoor
