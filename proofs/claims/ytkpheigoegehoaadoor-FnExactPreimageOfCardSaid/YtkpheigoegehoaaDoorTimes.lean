/- The product of two matrices: the program's. -/
import Derived.Test.YtkpheigoegehoaaDoorMulRow
import Derived.Deep.RegionLaw
namespace Go.Proofs.YtkpheigoegehoaaDoor
open Go.RowKit
namespace Ints

set_option maxHeartbeats 4000000 in
theorem times_any (p ca : Int) (c n : Nat) (h2 : 2 ≤ p) (h97 : p ≤ 97) (hc : c ≤ 1000) (u v : Value) (A B : List (List Int)) (w : World) (hal : A.length ≤ 1000) (hA : ElemsT p A.length n A) (hB : ElemsT p n c B) (hu : ReadsM w u A) (hv : ReadsM w v B) :
    Calls Tryd.prog 113 #[.int .i64 p, .agg #[.int .i64 ca, u], .agg #[.int .i64 c, v]] w (NewMat w c (mulT p c A B)) := by
  obtain ⟨ua, uc, rfl, hm, hcA⟩ := open_readsM hu
  obtain ⟨va, vc, rfl⟩ := hv.form
  obtain ⟨r, hr⟩ : ∃ r, A.length = r := ⟨_, rfl⟩
  have hBl := hB.1
  rw [hr] at hm hcA hal hA ⊢
  rw [hBl] at hv ⊢
  obtain ⟨w1, hw1⟩ : ∃ W, W = (((((w.alloc (.cells #[.int .i64 ca, .slice ua r uc] 30)).alloc (.cells #[.int .i64 c, .slice va n vc] 30)).alloc (.cells #[.int .i64 0, .slice none 0 0] 30)).alloc (.cells #[] 67)).alloc (.cells #[.int .i64 c, .slice (some ⟨w.heap.size + 3, 0, none⟩) 0 0] 30)) := ⟨_, rfl⟩
  have hB1 : Below w.heap.size w w1 := by rw [hw1]; exact (((((Below.refl w.heap.size w).alloc (by simp) _).alloc (by simp) _).alloc (by simp; omega) _).alloc (by simp; omega) _).alloc (by simp; omega) _
  have hs1 : w1.heap.size = w.heap.size + 5 := by rw [hw1]; simp
  have X0 : w1.cell? ⟨w.heap.size + 1, 0, none⟩ = some (.int .i64 c) := by rw [hw1]; simp [go_sem]
  have X1 : w1.cell? ⟨w.heap.size + 1, 1, none⟩ = some (.slice va n vc) := by rw [hw1]; simp [go_sem]
  have Q0 : w1.cell? ⟨w.heap.size + 2, 0, none⟩ = some (.int .i64 0) := by rw [hw1]; simp [go_sem]
  have Q1 : w1.cell? ⟨w.heap.size + 2, 1, none⟩ = some (.slice none 0 0) := by rw [hw1]; simp [go_sem]
  have G0 : w1.frozen? ⟨w.heap.size + 2, 0, none⟩ = false := by rw [hw1]; simp [go_sem]
  have G1 : w1.frozen? ⟨w.heap.size + 2, 1, none⟩ = false := by rw [hw1]; simp [go_sem]
  have O0 : w1.cell? ⟨w.heap.size + 4, 0, none⟩ = some (.int .i64 c) := by rw [hw1]; simp [go_sem]
  have O1 : w1.cell? ⟨w.heap.size + 4, 1, none⟩ = some (.slice (some ⟨w.heap.size + 3, 0, none⟩) 0 0) := by rw [hw1]; simp [go_sem]
  have F1 : w1.frozen? ⟨w.heap.size + 4, 1, none⟩ = false := by rw [hw1]; simp [go_sem]
  have hG0 : Gather w1 (w.heap.size + 4) (w.heap.size + 3) [] 0 (.slice (some ⟨w.heap.size + 3, 0, none⟩) 0 0) [] w1 := by
    have e3 : w.heap.size + 3 = (((w.alloc (.cells #[.int .i64 ca, .slice ua r uc] 30)).alloc (.cells #[.int .i64 c, .slice va n vc] 30)).alloc (.cells #[.int .i64 0, .slice none 0 0] 30)).heap.size := by simp
    have e4 : w.heap.size + 4 = ((((w.alloc (.cells #[.int .i64 ca, .slice ua r uc] 30)).alloc (.cells #[.int .i64 c, .slice va n vc] 30)).alloc (.cells #[.int .i64 0, .slice none 0 0] 30)).alloc (.cells #[] 67)).heap.size := by simp
    refine Gather.start ?_ (by simp [Value.ownBlock]) ⟨_, 30, (0, 0), by rw [hw1, e4]; exact heap_alloc_new _ _, by decide⟩ (by omega)
    rw [hw1, e3]
    exact (World.ownsRow_lit (base := (((w.alloc (.cells #[.int .i64 ca, .slice ua r uc] 30)).alloc (.cells #[.int .i64 c, .slice va n vc] 30)).alloc (.cells #[.int .i64 0, .slice none 0 0] 30)).heap.size) (size := 1) (e := 67) _ #[] 0 (Nat.le_refl _) (Nat.zero_le _) (by simp)).alloc _
  have HX := Lib.hid (And.intro X0 X1)
  have HQ := Lib.hid (And.intro Q0 (And.intro Q1 (And.intro G0 G1)))
  have HO := Lib.hid (And.intro O0 (And.intro O1 F1))
  have HG := Lib.hid hG0
  have HW := Lib.hid hw1
  have HB1 := Lib.hid hB1
  have HS := Lib.hid hs1
  have HA := Lib.hid hA
  have HB := Lib.hid hB
  have HCA := Lib.hid hcA
  have HV := Lib.hid hv
  have HR := Lib.hid hr
  have hfit := Lib.hid (show r ≤ maxLen by unfold maxLen; omega)
  clear hw1 hB1 hs1 X0 X1 Q0 Q1 G0 G1 O0 O1 F1 hG0 hA hB hu hv hcA hBl hr
  go_enter Tryd.func113, Tryd.ntmps113
  go_wp2
  rw [← HW.out]
  go_loopw [17] (fun i wr => ∃ (k : Nat) (rs : List Value) (o : Value), k ≤ r ∧ i = .int .i64 k ∧ Gather w1 (w.heap.size + 4) (w.heap.size + 3) (mulT p c (A.take k) B) k o rs wr ∧ wr.cell? ⟨w.heap.size + 4, 0, none⟩ = some (.int .i64 c) ∧ wr.cell? ⟨w.heap.size + 4, 1, none⟩ = some o ∧ wr.frozen? ⟨w.heap.size + 4, 1, none⟩ = false) (fun i _ => r + 1 - (intOf i).toNat)
  case atStart => exact ⟨0, [], _, by omega, rfl, HG.out, HO.out.1, HO.out.2.1, HO.out.2.2⟩
  case round =>
    obtain ⟨k, rs, o, hk, rfl, hG, o0, o1, f1⟩ := hrel
    by_cases hlt : k < r
    · obtain ⟨g, off, rv, rfl, hg, hcell, hrd⟩ := HCA.out k hlt
      have hBW : Below w.heap.size w wr := HB1.out.trans (hG.below (by omega) (by omega))
      have hrow : wr.cell? ⟨g, off + k, none⟩ = some rv := (hBW.cell (p := ⟨g, off + k, none⟩) hg).trans hcell
      have x0 : wr.cell? ⟨w.heap.size + 1, 0, none⟩ = some (.int .i64 c) := hG.keep HX.out.1 (by simp) (by simp)
      have x1 : wr.cell? ⟨w.heap.size + 1, 1, none⟩ = some (.slice va n vc) := hG.keep HX.out.2 (by simp) (by simp)
      have hlen := (HA.out.2 k hlt).1
      rw [hlen] at hrd
      have hBD : Below wr.heap.size wr wr.drew := (Below.refl _ _).drew
      have hcall := Lib.hid (combine_any p c n h2 h97 hc rv (.slice va n vc) (lAt A k) B wr.drew (hrd.below (hBW.drew)) (fun i hi => (HA.out.2 k hlt).2 i hi) HB.out (HV.out.below hBW.drew))
      have htk : mulT p c (A.take (k + 1)) B = mulT p c (A.take k) B ++ [mulRow p c B (lAt A k)] := lAt_map_take A _ k (by rw [HR.out]; exact hlt)
      have HTK := Lib.hid htk
      have HGG := Lib.hid hG
      have HO0 := Lib.hid o0
      have HF1 := Lib.hid f1
      have hml : (mulRow p c B (lAt A k)).length = c := rowT_length _ _
      have HML := Lib.hid hml
      have hm3 := Lib.hid (show k + 1 ≤ maxLen by have := hfit.out; omega)
      have hm4 := Lib.hid (show (k + 1) * 24 ≤ 140737488355328 by omega)
      obtain ⟨ao, co, rfl⟩ := hG.form
      have hk0 : 0 ≤ (k : Int) := by omega
      have hkn : (k : Int) < (r : Int) := by omega
      generalize mulRow p c B (lAt A k) = row at *
      clear hG hcell hrd hlen hBW hBD htk hml hg f1
      obtain ⟨W0, hW0⟩ : ∃ W, W = wr := ⟨_, rfl⟩
      rw [← hW0] at HGG HO0 HF1 hcall hrow x0 x1 o0 o1 ⊢
      clear hW0 wr
      go_wp2
      go_region_law (first
        | (go_simp; go_at_call 111; refine hcall.out.mono ?_; rintro e w2 ⟨v2, rfl, ho2, hf2, hb2⟩; rw [HML.out] at ho2; obtain ⟨a2, c2, rfl⟩ := ho2.form; have hb2' : Below W0.heap.size W0 w2 := ⟨hb2.os, hb2.tape, hb2.output, hb2.size, hb2.block⟩; have z1 := cell_old hb2' o1; have z2 := fun ob => cell_old (below_alloc (Below.refl w2.heap.size w2) (o := ob)) z1; have y0 := cell_old hb2' x0; have y1 := cell_old hb2' x1)
        | (refine step_append_one (by rfl) _ _ 22 (by rfl) (w.heap.size + 3) 67 (.slice none 0 0) 24 Tryd.underlying22 infoS rfl (.slice ao k co) k rs (.slice a2 c c2) (ownsRow_below HGG.out.own hb2') (by rfl) (by rfl) rfl hm3.out hm4.out (Nat.le_trans HGG.out.lt hb2'.size) ?_; intro v' w3 hown3 hg3; obtain ⟨a3, c3, rfl⟩ := ownsRow_form hown3; have q1 := HGG.out.after hb2' hg3 o1; have p1 := HGG.out.afterF hb2' hg3 HF1.out))
      all_goals
        have H1 := Lib.hid (HGG.out.push (HML.out ▸ ho2) hf2 hb2' hown3 hg3 1)
        rw [← HTK.out] at H1
        have q0 := HGG.out.after hb2' hg3 HO0.out
        have H2 := Lib.hid (show (w3.setCell ⟨w.heap.size + 4, 1, none⟩ (.slice a3 (k + 1) c3)).cell? ⟨w.heap.size + 4, 0, none⟩ = some (.int .i64 c) by simp [go_sem, q0])
        have H3 := Lib.hid (show (w3.setCell ⟨w.heap.size + 4, 1, none⟩ (.slice a3 (k + 1) c3)).cell? ⟨w.heap.size + 4, 1, none⟩ = some (.slice a3 (k + 1) c3) by simp [go_sem, q1])
        have H4 := Lib.hid (show (w3.setCell ⟨w.heap.size + 4, 1, none⟩ (.slice a3 (k + 1) c3)).frozen? ⟨w.heap.size + 4, 1, none⟩ = false by simp [go_sem, p1])
        clear hown3 hg3 ho2 hf2 hb2 hb2' q0 q1 p1
        go_wp2
        go_roundw
        case rel => exact ⟨k + 1, _, _, by omega, by go_num, H1.out, H2.out, H3.out, H4.out⟩
        case measure => simp [intOf]; omega
    · obtain rfl : k = r := by omega
      have q0 : wr.cell? ⟨w.heap.size + 2, 0, none⟩ = some (.int .i64 0) := hG.keep HQ.out.1 (by simp) (by simp)
      have q1 : wr.cell? ⟨w.heap.size + 2, 1, none⟩ = some (.slice none 0 0) := hG.keep HQ.out.2.1 (by simp) (by simp)
      have g0 : wr.frozen? ⟨w.heap.size + 2, 0, none⟩ = false := hG.keepF HQ.out.2.2.1 (by simp) (by simp)
      have g1 : wr.frozen? ⟨w.heap.size + 2, 1, none⟩ = false := hG.keepF HQ.out.2.2.2 (by simp) (by simp)
      have ho := hG.owns (by rw [mulT, List.length_map, List.length_take, HR.out]; omega) hfit.out
      rw [← HR.out, List.take_length] at ho
      obtain ⟨ao, co, rfl⟩ := hG.form
      have hfin : Hid (NewMat w c (mulT p c A B) (.returned (.agg #[.int .i64 c, .slice ao k co])) ((wr.setCell ⟨w.heap.size + 2, 0, none⟩ (.int .i64 c)).setCell ⟨w.heap.size + 2, 1, none⟩ (.slice ao k co))) := by
        have hc2 : Chg (fun g => g = w.heap.size + 2) wr ((wr.setCell ⟨w.heap.size + 2, 0, none⟩ (.int .i64 c)).setCell ⟨w.heap.size + 2, 1, none⟩ (.slice ao k co)) :=
          (Chg.set1 wr ⟨w.heap.size + 2, 0, none⟩ _).setCell (p := ⟨w.heap.size + 2, 1, none⟩) (fun _ => rfl) _
        have hl := hG.lt
        exact ⟨_, rfl, (ho.chg hc2 fun g hg e => by omega).mono fun g hg => by omega, (HB1.out.trans (hG.below (by omega) (by omega))).trans (hc2.below (by omega) fun g hg => by omega)⟩
      clear hG f1 ho
      go_wp2
      refine bodyPost_ret (v := .agg #[.int .i64 c, .slice ao k co]) (by simp [results, Tryd.results113, go_sem, q0, q1]) rfl ?_
      exact hfin.out

end Ints
end Go.Proofs.YtkpheigoegehoaaDoor
