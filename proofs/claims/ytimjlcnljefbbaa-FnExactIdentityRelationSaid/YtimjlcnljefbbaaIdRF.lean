/- IdentityRelation, both. (Printed by wip/gen_id.py.) -/
import Derived.Test.YtimjlcnljefbbaaMRelF
import Derived.Test.YtimjlcnljefbbaaClones
import Derived.Test.YtimjlcnljefbbaaPred
import Derived.Test.YtimjlcnljefbbaaLawBase
import Derived.Deep.RegionLaw
import Derived.IntWalk
namespace Go.Proofs.Ytimjlcnljefbbaa
open Go.RowKit
namespace Ints

def irB (n : Int) : Bool := Fld.inR n 0 12
def irRows (n : Nat) : List (List Int) := (List.range n).map fun k => unitL n k ++ unitL n k
def irOut (n : Int) : List (List Int) := if irB n then irRows n.toNat else []
def irCols (n : Int) : Int := if irB n then n else 0
theorem irB_parts {n : Int} (h : irB n = true) : ∃ m : Nat, n = m ∧ m ≤ 12 := by
  have := h
  unfold irB Fld.inR at this
  simp only [Bool.and_eq_true, decide_eq_true_eq] at this
  exact ⟨n.toNat, by omega, by omega⟩
theorem irRows_length (n : Nat) : (irRows n).length = n := by simp [irRows]
theorem irRows_take (n k : Nat) (h : k < n) : (irRows n).take (k + 1) = (irRows n).take k ++ [unitL n k ++ unitL n k] := by
  rw [take_oneL _ k (by rw [irRows_length]; exact h)]
  simp [irRows, lAt, h]
theorem irOut_ctr (n : Int) : (1 : Int) + (sumL (irOut n) : Int) ≤ 1000000000 := by
  unfold irOut
  split
  · rename_i h
    obtain ⟨m, rfl, hm⟩ := irB_parts h
    simp only [Int.toNat_natCast]
    have h1 := sum_le_mul List.length 24 (irRows m) (fun l hl => by
      simp only [irRows, List.mem_map, List.mem_range] at hl
      obtain ⟨k, hk, rfl⟩ := hl
      rw [List.length_append, unitL_length]
      omega)
    rw [irRows_length] at h1
    unfold sumL
    omega
  · exact ctr_nil
theorem ir_none {n : Int} (h : irB n = false) : irOut n = [] ∧ irCols n = 0 := by simp [irOut, irCols, h]
theorem ir_fits (n : Int) : fitsB n n = irB n := by
  rw [Bool.eq_iff_iff]
  unfold fitsB irB Fld.inR
  simp
  omega
theorem two_sets (n k : Nat) (hk : k < n) : ((rowT (2 * n) fun _ => (0 : Int)).set k 1).set (n + k) 1 = unitL n k ++ unitL n k := by
  apply List.ext_getElem
  · simp [unitL, rowT]; omega
  · intro j h1 h2
    simp only [List.length_set, rowT_length] at h1
    by_cases hj : j < n
    · rw [List.getElem_append_left (by rw [unitL_length]; exact hj)]
      simp only [List.getElem_set, unitL, rowT, List.getElem_map, List.getElem_range]
      rw [if_neg (by omega : ¬ n + k = j)]
    · rw [List.getElem_append_right (by rw [unitL_length]; omega)]
      simp only [List.getElem_set, unitL, rowT, List.getElem_map, List.getElem_range, List.length_map, List.length_range]
      rw [if_neg (by omega : ¬ k = j)]
      by_cases e : n + k = j
      · rw [if_pos e, if_pos (by omega)]
      · rw [if_neg e, if_neg (by omega)]
theorem unit2_facts {w2 : World} {base b n k : Nat} (h : w2.ownsRow base 3 1 (.slice (some ⟨b, 0, none⟩) (2 * n) (2 * n)) (2 * n) (List.replicate (2 * n) (.int .i64 0))) (hn : 2 * n ≤ maxLen) (hk : k < n) :
    w2.cell? ⟨b, k, none⟩ = some (.int .i64 0) ∧ w2.frozen? ⟨b, k, none⟩ = false ∧ (w2.setCell ⟨b, k, none⟩ (.int .i64 1)).cell? ⟨b, n + k, none⟩ = some (.int .i64 0) ∧ (w2.setCell ⟨b, k, none⟩ (.int .i64 1)).frozen? ⟨b, n + k, none⟩ = false ∧
    ((w2.setCell ⟨b, k, none⟩ (.int .i64 1)).setCell ⟨b, n + k, none⟩ (.int .i64 1)).ownsRow base 3 1 (.slice (some ⟨b, 0, none⟩) (2 * n) (2 * n)) (2 * n) (ofL (unitL n k ++ unitL n k)) := by
  have ho := owns_of_row h hn
  obtain ⟨_, a3, c3, e3, _, hc3⟩ := open_owns (l := rowT (2 * n) fun _ => 0) (by rw [ofL_replicate]; exact ho.1)
  simp only [Value.slice.injEq] at e3
  obtain ⟨rfl, -, rfl⟩ := e3
  obtain ⟨g3, off3, e4, hg3, hj3⟩ := hc3 (by omega)
  simp only [Option.some.injEq, Addr.mk.injEq, and_true] at e4
  obtain ⟨rfl, rfl⟩ := e4
  obtain ⟨hy, hfy, hst1⟩ := hj3 k (by omega)
  have hst := hst1 1
  rw [Nat.zero_add] at hy hfy hst
  rw [rowT_at (by omega)] at hy
  obtain ⟨_, a5, c5, e5, _, hc5⟩ := open_owns hst
  simp only [Value.slice.injEq] at e5
  obtain ⟨rfl, -, rfl⟩ := e5
  obtain ⟨g5, off5, e6, hg5, hj5⟩ := hc5 (by omega)
  simp only [Option.some.injEq, Addr.mk.injEq, and_true] at e6
  obtain ⟨rfl, rfl⟩ := e6
  obtain ⟨hz, hfz, _⟩ := hj5 (n + k) (by omega)
  rw [Nat.zero_add] at hz hfz
  rw [List.getElem?_set_ne (by omega), rowT_at (by omega)] at hz
  refine ⟨hy, hfy, hz, hfz, ?_⟩
  have hs := ownsRow_store (j := n + k) (.int .i64 1) (ownsRow_store (j := k) (.int .i64 1) h)
  rw [← ofL_replicate, show ((ofL (rowT (2 * n) fun _ => 0)).set k (.int .i64 1)).set (n + k) (.int .i64 1) = ofL (unitL n k ++ unitL n k) by rw [← two_sets n k hk]; simp [ofL, List.map_set]] at hs
  exact hs

set_option maxHeartbeats 8000000 in
set_option maxRecDepth 100000 in
theorem rlId_any (n : Nat) (hn : n ≤ 12) (w : World) : Calls Try.prog 46 #[.int .i64 n] w (NewRel w n n (irRows n)) := by
  have htk := Lib.hid (fun k (hk : k < n) => irRows_take n k hk)
  have hml := Lib.hid (irRows_length n)
  obtain ⟨MR, hMR⟩ : ∃ M, irRows n = M := ⟨_, rfl⟩
  rw [hMR] at htk hml ⊢
  obtain ⟨w1, hw1⟩ : ∃ W, W = ((w.alloc (.cells #[.int .i64 0, .int .i64 0, .slice none 0 0] 31)).alloc (.cells #[.int .i64 n, .int .i64 n, .slice none 0 0] 31)) := ⟨_, rfl⟩
  have hB1 : Below w.heap.size w w1 := by rw [hw1]; exact ((Below.refl w.heap.size w).alloc (by simp) _).alloc (by simp) _
  have hs1 : w1.heap.size = w.heap.size + 2 := by rw [hw1]; simp
  have Q0 : w1.cell? ⟨w.heap.size, 0, none⟩ = some (.int .i64 0) := by rw [hw1]; simp [go_sem]
  have Q1 : w1.cell? ⟨w.heap.size, 1, none⟩ = some (.int .i64 0) := by rw [hw1]; simp [go_sem]
  have Q2 : w1.cell? ⟨w.heap.size, 2, none⟩ = some (.slice none 0 0) := by rw [hw1]; simp [go_sem]
  have G0 : w1.frozen? ⟨w.heap.size, 0, none⟩ = false := by rw [hw1]; simp [go_sem]
  have G1 : w1.frozen? ⟨w.heap.size, 1, none⟩ = false := by rw [hw1]; simp [go_sem]
  have G2 : w1.frozen? ⟨w.heap.size, 2, none⟩ = false := by rw [hw1]; simp [go_sem]
  have O0 : w1.cell? ⟨w.heap.size + 1, 0, none⟩ = some (.int .i64 n) := by rw [hw1]; simp [go_sem]
  have O1 : w1.cell? ⟨w.heap.size + 1, 1, none⟩ = some (.int .i64 n) := by rw [hw1]; simp [go_sem]
  have O2 : w1.cell? ⟨w.heap.size + 1, 2, none⟩ = some (.slice none 0 0) := by rw [hw1]; simp [go_sem]
  have F2 : w1.frozen? ⟨w.heap.size + 1, 2, none⟩ = false := by rw [hw1]; simp [go_sem]
  have hG0 : Gather w1 (w.heap.size + 1) (w.heap.size + 2) [] 0 (.slice none 0 0) [] w1 := Gather.start ⟨rfl, .inl ⟨rfl, rfl⟩⟩ (by simp [Value.ownBlock]) ⟨_, 31, (0, 0), by rw [hw1, show w.heap.size + 1 = (w.alloc (.cells #[.int .i64 0, .int .i64 0, .slice none 0 0] 31)).heap.size by simp]; exact heap_alloc_new _ _, by decide⟩ (by omega)
  have HQ := Lib.hid (And.intro Q0 (And.intro Q1 Q2))
  have HGZ := Lib.hid (And.intro G0 (And.intro G1 G2))
  have HO := Lib.hid (And.intro O0 (And.intro O1 (And.intro O2 F2)))
  have HG := Lib.hid hG0
  have HW := Lib.hid hw1
  have HB1 := Lib.hid hB1
  have HS := Lib.hid hs1
  have hfit := Lib.hid (show n ≤ maxLen by unfold maxLen; omega)
  have hfit2 := Lib.hid (show 2 * n ≤ maxLen by unfold maxLen; omega)
  have hmk1 := Lib.hid (show 8 * (2 * n) ≤ 281474976710656 by omega)
  have hwm : IntKind.i64.wrap (2 * (n : Int)) = ((2 * n : Nat) : Int) := by rw [IntWalk.i64_in _ (by omega)]; omega
  clear hw1 hB1 hs1 Q0 Q1 Q2 G0 G1 G2 O0 O1 O2 F2 hG0 hMR
  go_enter Try.func46, Try.ntmps46
  go_wp2
  rw [← HW.out]
  go_loopw [4] (fun i wr => ∃ (k : Nat) (rs : List Value) (o : Value), k ≤ n ∧ i = .int .i64 k ∧ Gather w1 (w.heap.size + 1) (w.heap.size + 2) (MR.take k) k o rs wr ∧ wr.cell? ⟨w.heap.size + 1, 0, none⟩ = some (.int .i64 n) ∧ wr.cell? ⟨w.heap.size + 1, 1, none⟩ = some (.int .i64 n) ∧ wr.cell? ⟨w.heap.size + 1, 2, none⟩ = some o ∧ wr.frozen? ⟨w.heap.size + 1, 2, none⟩ = false) (fun i _ => n + 1 - (intOf i).toNat)
  case atStart => exact ⟨0, [], _, by omega, rfl, HG.out, HO.out.1, HO.out.2.1, HO.out.2.2.1, HO.out.2.2.2⟩
  case round =>
    obtain ⟨k, rs, o, hk, rfl, hG, o0, o1, o2, f2⟩ := hrel
    by_cases hlt : k < n
    · have HTK := Lib.hid (htk.out k hlt)
      have HGG := Lib.hid hG
      have HO0 := Lib.hid o0
      have HO1 := Lib.hid o1
      have HO2 := Lib.hid o2
      have HF2 := Lib.hid f2
      have hm3 := Lib.hid (show k + 1 ≤ maxLen by have := hfit.out; omega)
      have hm4 := Lib.hid (show (k + 1) * 24 ≤ 140737488355328 by omega)
      obtain ⟨ao, co, rfl⟩ := hG.form
      have hk0 : 0 ≤ (k : Int) := by omega
      have hkn : (k : Int) < (n : Int) := by omega
      have hk2 : (k : Int) < ((2 * n : Nat) : Int) := by omega
      have hnk0 : 0 ≤ ((n + k : Nat) : Int) := by omega
      have hnk : ((n + k : Nat) : Int) < ((2 * n : Nat) : Int) := by omega
      have hwa : IntKind.i64.wrap ((n : Int) + (k : Int)) = ((n + k : Nat) : Int) := by rw [IntWalk.i64_in _ (by omega)]; omega
      have HLT := Lib.hid hlt
      clear hG f2 o0 o1 o2
      obtain ⟨W0, hW0⟩ : ∃ W, W = wr := ⟨_, rfl⟩
      rw [← hW0] at HGG HO0 HO1 HO2 HF2 ⊢
      clear hW0 wr
      go_upto_region 8 with (at_make; refine wpList_make_one _ rfl _ _ 36 rfl 3 (.int .i64 0) 8 Try.underlying36 infoI rfl (2 * n) rfl rfl hmk1.out hfit2.out ?_; intro w2 hown2 hb2 hs2; have uf := Lib.hid (unit2_facts hown2 hfit2.out hlt); have hy := uf.out.1; have hfy := uf.out.2.1; have hz := uf.out.2.2.1; have hfz := uf.out.2.2.2.1; have HB3 := Lib.hid ((hb2.setCell (p := ⟨W0.heap.size, k, none⟩) (Nat.le_refl _) (.int .i64 1)).setCell (p := ⟨W0.heap.size, n + k, none⟩) (Nat.le_refl _) (.int .i64 1)); clear hown2 hb2 hs2)
      have huf := uf.out.2.2.2.2
      obtain ⟨w3, hw3⟩ : ∃ W, W = (w2.setCell ⟨W0.heap.size, k, none⟩ (.int .i64 1)).setCell ⟨W0.heap.size, n + k, none⟩ (.int .i64 1) := ⟨_, rfl⟩
      rw [← hw3] at HB3 huf
      have HUF := Lib.hid huf
      have HW3 := Lib.hid hw3
      have z2 := cell_old HB3.out HO2.out
      clear hw3 huf uf
      rw [← HW3.out]
      clear hy hfy hz hfz
      go_wp2_with (at_builtin; go_must (refine wpList_append_one _ rfl _ _ 22 rfl (w.heap.size + 2) 36 (.slice none 0 0) 24 Try.underlying22 infoS rfl (.slice ao k co) k rs (.slice (some ⟨W0.heap.size, 0, none⟩) (2 * n) (2 * n)) (ownsRow_below HGG.out.own HB3.out) rfl rfl rfl hm3.out hm4.out (Nat.le_trans HGG.out.lt HB3.out.size) ?_); intro v5 w5 hown5 hg5; obtain ⟨a5, c5, rfl⟩ := ownsRow_form hown5; have q1 := HGG.out.after HB3.out hg5 HO2.out; have p1 := HGG.out.afterF HB3.out hg5 HF2.out)
      have ho4 := owns_of_row HUF.out hfit2.out
      have hrl : (unitL n k ++ unitL n k).length = 2 * n := by rw [List.length_append, unitL_length]; omega
      have H1 := Lib.hid (HGG.out.push (by rw [hrl]; exact ho4.1) ho4.2 HB3.out hown5 hg5 2)
      rw [← HTK.out] at H1
      have q0 := HGG.out.after HB3.out hg5 HO0.out
      have q2 := HGG.out.after HB3.out hg5 HO1.out
      have H2 := Lib.hid (show (w5.setCell ⟨w.heap.size + 1, 2, none⟩ (.slice a5 (k + 1) c5)).cell? ⟨w.heap.size + 1, 0, none⟩ = some (.int .i64 n) by simp [go_sem, q0])
      have H3 := Lib.hid (show (w5.setCell ⟨w.heap.size + 1, 2, none⟩ (.slice a5 (k + 1) c5)).cell? ⟨w.heap.size + 1, 1, none⟩ = some (.int .i64 n) by simp [go_sem, q2])
      have H4 := Lib.hid (show (w5.setCell ⟨w.heap.size + 1, 2, none⟩ (.slice a5 (k + 1) c5)).cell? ⟨w.heap.size + 1, 2, none⟩ = some (.slice a5 (k + 1) c5) by simp [go_sem, q1])
      have H5 := Lib.hid (show (w5.setCell ⟨w.heap.size + 1, 2, none⟩ (.slice a5 (k + 1) c5)).frozen? ⟨w.heap.size + 1, 2, none⟩ = false by simp [go_sem, p1])
      clear hown5 hg5 ho4 q0 q1 q2 p1 HB3 z2
      go_wp2
      go_roundw
      case rel => exact ⟨k + 1, _, _, Nat.succ_le_of_lt HLT.out, by go_num, H1.out, H2.out, H3.out, H4.out, H5.out⟩
      case measure => have := HLT.out; simp [intOf]; omega
    · have hkn : k = n := by omega
      rw [hkn] at hG hlt ⊢
      have q0 : wr.cell? ⟨w.heap.size, 0, none⟩ = some (.int .i64 0) := hG.keep HQ.out.1 (by simp) (by simp)
      have q1 : wr.cell? ⟨w.heap.size, 1, none⟩ = some (.int .i64 0) := hG.keep HQ.out.2.1 (by simp) (by simp)
      have q2 : wr.cell? ⟨w.heap.size, 2, none⟩ = some (.slice none 0 0) := hG.keep HQ.out.2.2 (by simp) (by simp)
      have g0 : wr.frozen? ⟨w.heap.size, 0, none⟩ = false := hG.keepF HGZ.out.1 (by simp) (by simp)
      have g1 : wr.frozen? ⟨w.heap.size, 1, none⟩ = false := hG.keepF HGZ.out.2.1 (by simp) (by simp)
      have g2 : wr.frozen? ⟨w.heap.size, 2, none⟩ = false := hG.keepF HGZ.out.2.2 (by simp) (by simp)
      rw [List.take_of_length_le (by rw [hml.out]; exact Nat.le_refl _)] at hG
      have ho := hG.owns hml.out hfit.out
      obtain ⟨ao, co, rfl⟩ := hG.form
      have hfin : Hid (NewRel w n n MR (.returned (.agg #[.int .i64 n, .int .i64 n, .slice ao n co])) (((wr.setCell ⟨w.heap.size, 0, none⟩ (.int .i64 n)).setCell ⟨w.heap.size, 1, none⟩ (.int .i64 n)).setCell ⟨w.heap.size, 2, none⟩ (.slice ao n co))) := by
        have hc2 := relBox_chg wr w.heap.size (.int .i64 n) (.int .i64 n) (.slice ao n co)
        have hl2 := hG.lt
        exact ⟨_, rfl, (ho.chg hc2 fun g hg e => by omega).mono fun g hg => by omega, (HB1.out.trans (hG.below (by omega) (by omega))).trans (hc2.below (by omega) fun g hg => by omega)⟩
      clear hG f2 ho
      go_wp2
      refine bodyPost_ret (v := .agg #[.int .i64 n, .int .i64 n, .slice ao n co]) (by simp [results, Try.results46, go_sem, q0, q1, q2]) rfl ?_
      exact hfin.out


set_option maxHeartbeats 8000000 in
set_option maxRecDepth 100000 in
theorem identityRelation_any (n : Nat) (hn : n ≤ 12) (w : World) : Calls Try.prog 48 #[.int .i64 n] w (NewRel w n n (irRows n)) := by
  have htk := Lib.hid (fun k (hk : k < n) => irRows_take n k hk)
  have hml := Lib.hid (irRows_length n)
  have hunit := Lib.hid (fun k (hk : k < n) W => unit_any n k (by omega) hk W)
  obtain ⟨MR, hMR⟩ : ∃ M, irRows n = M := ⟨_, rfl⟩
  rw [hMR] at htk hml ⊢
  obtain ⟨w1, hw1⟩ : ∃ W, W = ((w.alloc (.cells #[.int .i64 0, .int .i64 0, .slice none 0 0] 31)).alloc (.cells #[.int .i64 n, .int .i64 n, .slice none 0 0] 31)) := ⟨_, rfl⟩
  have hB1 : Below w.heap.size w w1 := by rw [hw1]; exact ((Below.refl w.heap.size w).alloc (by simp) _).alloc (by simp) _
  have hs1 : w1.heap.size = w.heap.size + 2 := by rw [hw1]; simp
  have Q0 : w1.cell? ⟨w.heap.size, 0, none⟩ = some (.int .i64 0) := by rw [hw1]; simp [go_sem]
  have Q1 : w1.cell? ⟨w.heap.size, 1, none⟩ = some (.int .i64 0) := by rw [hw1]; simp [go_sem]
  have Q2 : w1.cell? ⟨w.heap.size, 2, none⟩ = some (.slice none 0 0) := by rw [hw1]; simp [go_sem]
  have G0 : w1.frozen? ⟨w.heap.size, 0, none⟩ = false := by rw [hw1]; simp [go_sem]
  have G1 : w1.frozen? ⟨w.heap.size, 1, none⟩ = false := by rw [hw1]; simp [go_sem]
  have G2 : w1.frozen? ⟨w.heap.size, 2, none⟩ = false := by rw [hw1]; simp [go_sem]
  have O0 : w1.cell? ⟨w.heap.size + 1, 0, none⟩ = some (.int .i64 n) := by rw [hw1]; simp [go_sem]
  have O1 : w1.cell? ⟨w.heap.size + 1, 1, none⟩ = some (.int .i64 n) := by rw [hw1]; simp [go_sem]
  have O2 : w1.cell? ⟨w.heap.size + 1, 2, none⟩ = some (.slice none 0 0) := by rw [hw1]; simp [go_sem]
  have F2 : w1.frozen? ⟨w.heap.size + 1, 2, none⟩ = false := by rw [hw1]; simp [go_sem]
  have hG0 : Gather w1 (w.heap.size + 1) (w.heap.size + 2) [] 0 (.slice none 0 0) [] w1 := Gather.start ⟨rfl, .inl ⟨rfl, rfl⟩⟩ (by simp [Value.ownBlock]) ⟨_, 31, (0, 0), by rw [hw1, show w.heap.size + 1 = (w.alloc (.cells #[.int .i64 0, .int .i64 0, .slice none 0 0] 31)).heap.size by simp]; exact heap_alloc_new _ _, by decide⟩ (by omega)
  have HQ := Lib.hid (And.intro Q0 (And.intro Q1 Q2))
  have HGZ := Lib.hid (And.intro G0 (And.intro G1 G2))
  have HO := Lib.hid (And.intro O0 (And.intro O1 (And.intro O2 F2)))
  have HG := Lib.hid hG0
  have HW := Lib.hid hw1
  have HB1 := Lib.hid hB1
  have HS := Lib.hid hs1
  have hfit := Lib.hid (show n ≤ maxLen by unfold maxLen; omega)
  clear hw1 hB1 hs1 Q0 Q1 Q2 G0 G1 G2 O0 O1 O2 F2 hG0 hMR
  go_enter Try.func48, Try.ntmps48
  go_wp2
  rw [← HW.out]
  go_loopw [9] (fun i wr => ∃ (k : Nat) (rs : List Value) (o : Value), k ≤ n ∧ i = .int .i64 k ∧ Gather w1 (w.heap.size + 1) (w.heap.size + 2) (MR.take k) k o rs wr ∧ wr.cell? ⟨w.heap.size + 1, 0, none⟩ = some (.int .i64 n) ∧ wr.cell? ⟨w.heap.size + 1, 1, none⟩ = some (.int .i64 n) ∧ wr.cell? ⟨w.heap.size + 1, 2, none⟩ = some o ∧ wr.frozen? ⟨w.heap.size + 1, 2, none⟩ = false) (fun i _ => n + 1 - (intOf i).toNat)
  case atStart => exact ⟨0, [], _, by omega, rfl, HG.out, HO.out.1, HO.out.2.1, HO.out.2.2.1, HO.out.2.2.2⟩
  case round =>
    obtain ⟨k, rs, o, hk, rfl, hG, o0, o1, o2, f2⟩ := hrel
    by_cases hlt : k < n
    · have HTK := Lib.hid (htk.out k hlt)
      have HGG := Lib.hid hG
      have HO0 := Lib.hid o0
      have HO1 := Lib.hid o1
      have HO2 := Lib.hid o2
      have HF2 := Lib.hid f2
      have hm3 := Lib.hid (show k + 1 ≤ maxLen by have := hfit.out; omega)
      have hm4 := Lib.hid (show (k + 1) * 24 ≤ 140737488355328 by omega)
      obtain ⟨ao, co, rfl⟩ := hG.form
      have hk0 : 0 ≤ (k : Int) := by omega
      have hkn : (k : Int) < (n : Int) := by omega
      have HHN := Lib.hid hn
      clear hG f2 o0 o1 o2 hn
      obtain ⟨W0, hW0⟩ : ∃ W, W = wr := ⟨_, rfl⟩
      rw [← hW0] at HGG HO0 HO1 HO2 HF2 ⊢
      clear hW0 wr
      have hu1 := Lib.hid (hunit.out k hlt W0.drew)
      have hu2 := Lib.hid (fun W => hunit.out k hlt W)
      have o2d : W0.drew.cell? ⟨w.heap.size + 1, 2, none⟩ = some (.slice ao k co) := HO2.out
      go_wp2
      go_region_law (first
        | (go_simp; go_at_call 72; (with_reducible refine hu1.out.mono ?_); rintro e w4 ⟨v4, rfl, ho4, hf4, hb4⟩; rw [show (rowT n fun j => if k = j then (1 : Int) else 0).length = n from rowT_length _ _] at ho4; obtain ⟨a4, c4, rfl⟩ := ho4.form; have hb4' : Below W0.heap.size W0 w4 := ⟨hb4.os, hb4.tape, hb4.output, hb4.size, hb4.block⟩; have y1 := cell_old hb4' HO2.out)
        | (go_simp; go_at_call 72; (with_reducible refine (hu2.out w4).mono ?_); rintro e w5 ⟨v5, rfl, ho5, hf5, hb5⟩; rw [show (rowT n fun j => if k = j then (1 : Int) else 0).length = n from rowT_length _ _] at ho5; obtain ⟨a5, c5, rfl⟩ := ho5.form; have hb5' := below_step hb4' hb5; have y2 := cell_old hb5' HO2.out; have y3 := fun ob => cell_old (below_alloc (Below.refl w5.heap.size w5) (o := ob)) y2; have hj := joined_two n n (unitL n k) (unitL n k) (.slice a4 n c4) (.slice a5 n c5) w5 (unitL_length n k) (unitL_length n k) (ho4.reads.below hb5) ho5.reads (by have := HHN.out; omega))
        | (go_simp; go_at_call 73; (with_reducible refine hj.mono ?_); rintro e w6 ⟨v6, rfl, ho6, hf6, hb6⟩; rw [two_len n n (unitL n k) (unitL n k) (unitL_length n k) (unitL_length n k)] at ho6; obtain ⟨a6, c6, rfl⟩ := ho6.form; have hb6' : Below W0.heap.size W0 w6 := below_step hb5' (below_via_alloc hb6); have z2 := cell_old hb6' HO2.out; have z3 := fun ob => cell_old (below_alloc (Below.refl w6.heap.size w6) (o := ob)) z2)
        | (refine step_append_one (by rfl) _ _ 22 (by rfl) (w.heap.size + 2) 36 (.slice none 0 0) 24 Try.underlying22 infoS rfl (.slice ao k co) k rs (.slice a6 (n + n) c6) (ownsRow_below HGG.out.own hb6') (by rfl) (by rfl) rfl hm3.out hm4.out (Nat.le_trans HGG.out.lt hb6'.size) ?_; intro v7 w7 hown7 hg7; obtain ⟨a7, c7, rfl⟩ := ownsRow_form hown7; have q1 := HGG.out.after hb6' hg7 HO2.out; have p1 := HGG.out.afterF hb6' hg7 HF2.out))
      all_goals
        have hrl := two_len n n (unitL n k) (unitL n k) (unitL_length n k) (unitL_length n k)
        have H1 := Lib.hid (HGG.out.push (l := unitL n k ++ unitL n k) (by rw [two_flat] at ho6 hrl; rw [hrl]; exact ho6) (by rw [two_flat] at hf6; exact hf6.mono fun g hg => Nat.le_trans hb5'.size (Nat.le_trans (by simp) hg)) hb6' hown7 hg7 2)
        rw [← HTK.out] at H1
        have q0 := HGG.out.after hb6' hg7 HO0.out
        have q2 := HGG.out.after hb6' hg7 HO1.out
        have H2 := Lib.hid (show (w7.setCell ⟨w.heap.size + 1, 2, none⟩ (.slice a7 (k + 1) c7)).cell? ⟨w.heap.size + 1, 0, none⟩ = some (.int .i64 n) by simp [go_sem, q0])
        have H3 := Lib.hid (show (w7.setCell ⟨w.heap.size + 1, 2, none⟩ (.slice a7 (k + 1) c7)).cell? ⟨w.heap.size + 1, 1, none⟩ = some (.int .i64 n) by simp [go_sem, q2])
        have H4 := Lib.hid (show (w7.setCell ⟨w.heap.size + 1, 2, none⟩ (.slice a7 (k + 1) c7)).cell? ⟨w.heap.size + 1, 2, none⟩ = some (.slice a7 (k + 1) c7) by simp [go_sem, q1])
        have H5 := Lib.hid (show (w7.setCell ⟨w.heap.size + 1, 2, none⟩ (.slice a7 (k + 1) c7)).frozen? ⟨w.heap.size + 1, 2, none⟩ = false by simp [go_sem, p1])
        have hn := HHN.out
        clear hown7 hg7 ho4 hf4 hb4 hb4' ho5 hf5 hb5 ho6 hf6 hb6 hb5' hb6' q0 q1 q2 p1 hj
        go_wp2
        go_roundw
        case rel => exact ⟨k + 1, _, _, by omega, by go_num, H1.out, H2.out, H3.out, H4.out, H5.out⟩
        case measure => simp [intOf]; omega
    · have hkn : k = n := by omega
      rw [hkn] at hG hlt ⊢
      have q0 : wr.cell? ⟨w.heap.size, 0, none⟩ = some (.int .i64 0) := hG.keep HQ.out.1 (by simp) (by simp)
      have q1 : wr.cell? ⟨w.heap.size, 1, none⟩ = some (.int .i64 0) := hG.keep HQ.out.2.1 (by simp) (by simp)
      have q2 : wr.cell? ⟨w.heap.size, 2, none⟩ = some (.slice none 0 0) := hG.keep HQ.out.2.2 (by simp) (by simp)
      have g0 : wr.frozen? ⟨w.heap.size, 0, none⟩ = false := hG.keepF HGZ.out.1 (by simp) (by simp)
      have g1 : wr.frozen? ⟨w.heap.size, 1, none⟩ = false := hG.keepF HGZ.out.2.1 (by simp) (by simp)
      have g2 : wr.frozen? ⟨w.heap.size, 2, none⟩ = false := hG.keepF HGZ.out.2.2 (by simp) (by simp)
      rw [List.take_of_length_le (by rw [hml.out]; exact Nat.le_refl _)] at hG
      have ho := hG.owns hml.out hfit.out
      obtain ⟨ao, co, rfl⟩ := hG.form
      have hfin : Hid (NewRel w n n MR (.returned (.agg #[.int .i64 n, .int .i64 n, .slice ao n co])) (((wr.setCell ⟨w.heap.size, 0, none⟩ (.int .i64 n)).setCell ⟨w.heap.size, 1, none⟩ (.int .i64 n)).setCell ⟨w.heap.size, 2, none⟩ (.slice ao n co))) := by
        have hc2 := relBox_chg wr w.heap.size (.int .i64 n) (.int .i64 n) (.slice ao n co)
        have hl2 := hG.lt
        exact ⟨_, rfl, (ho.chg hc2 fun g hg e => by omega).mono fun g hg => by omega, (HB1.out.trans (hG.below (by omega) (by omega))).trans (hc2.below (by omega) fun g hg => by omega)⟩
      clear hG f2 ho
      go_wp2
      refine bodyPost_ret (v := .agg #[.int .i64 n, .int .i64 n, .slice ao n co]) (by simp [results, Try.results48, go_sem, q0, q1, q2]) rfl ?_
      exact hfin.out

set_option maxRecDepth 100000 in
set_option maxHeartbeats 4000000 in
theorem specIdR_any (n : Int) (w : World)  :
    Calls Try.prog 14 #[.int .i64 n] w (OptRel w (irB n) (irCols n) (irCols n) (irOut n)) := by
  obtain ⟨w0, hw0⟩ : ∃ W, W = (w.alloc (.cells #[.int .i64 0, .int .i64 0, .slice none 0 0] 31)) := ⟨_, rfl⟩
  have hB : Below w.heap.size w w0 := by rw [hw0]; exact ((Below.refl w.heap.size w).alloc (by simp) (.cells #[.int .i64 0, .int .i64 0, .slice none 0 0] 31))
  have hs0 : w0.heap.size = w.heap.size + 1 := by rw [hw0]; simp
  have Q0 : ∀ W, Below w0.heap.size w0 W → W.cell? ⟨w.heap.size, 0, none⟩ = some (.int .i64 0) := fun W hW => cell_old hW (by rw [hw0]; simp [go_sem])
  have G0 : ∀ W, Below w0.heap.size w0 W → W.frozen? ⟨w.heap.size, 0, none⟩ = false := fun W hW => frozen_old hW (by show w.heap.size < _; omega) (by rw [hw0]; simp [go_sem])
  have Q1 : ∀ W, Below w0.heap.size w0 W → W.cell? ⟨w.heap.size, 1, none⟩ = some (.int .i64 0) := fun W hW => cell_old hW (by rw [hw0]; simp [go_sem])
  have G1 : ∀ W, Below w0.heap.size w0 W → W.frozen? ⟨w.heap.size, 1, none⟩ = false := fun W hW => frozen_old hW (by show w.heap.size < _; omega) (by rw [hw0]; simp [go_sem])
  have Q2 : ∀ W, Below w0.heap.size w0 W → W.cell? ⟨w.heap.size, 2, none⟩ = some (.slice none 0 0) := fun W hW => cell_old hW (by rw [hw0]; simp [go_sem])
  have G2 : ∀ W, Below w0.heap.size w0 W → W.frozen? ⟨w.heap.size, 2, none⟩ = false := fun W hW => frozen_old hW (by show w.heap.size < _; omega) (by rw [hw0]; simp [go_sem])
  have HW := Lib.hid hw0
  have HB := Lib.hid hB
  have HS := Lib.hid hs0
  obtain ⟨b1, hb1⟩ : ∃ b, (Fld.inR n 0 12) = b := ⟨_, rfl⟩
  have Cb1 := Lib.hid (fun W (_ : Below w0.heap.size w0 W) => Fld.l1In_any n 0 12 W)
  rw [hb1] at Cb1
  clear hw0 hB hs0 
  cases b1 with
  | false =>
    have e0 : irB n = false := hb1
    rw [e0, (ir_none e0).1, (ir_none e0).2]
    clear e0
    clear hb1
    go_enter Try.func14, Try.ntmps14
    go_wp2_with fail
    rw [← HW.out]
    refine (Cb1.out w0 (Below.refl _ _)).mono ?_
    rintro e w1 ⟨rfl, rfl⟩
    have BR := Below.refl w0.heap.size w0
    go_wp2
    refine bodyPost_ret (v := .tuple #[.agg #[.int .i64 0, .int .i64 0, .slice none 0 0], .bool false]) (by simp [results, Try.results14, go_sem, Q0 _ (Below.refl w0.heap.size w0), Q1 _ (Below.refl w0.heap.size w0), Q2 _ (Below.refl w0.heap.size w0)]) rfl ?_
    exact optRel_none (HB.out.trans ((Below.refl w0.heap.size w0).mono HB.out.size)) (by omega)
  | true =>
    have e0 : irB n = true := hb1
    obtain ⟨m, rfl, hm⟩ := irB_parts e0
    have e1 : irOut m = irRows m := by simp [irOut, e0]
    have e2 : irCols m = m := by simp [irCols, e0]
    rw [e0, e1, e2]
    obtain ⟨R, hR⟩ : ∃ R, irRows m = R := ⟨_, rfl⟩
    rw [hR]
    have HR := Lib.hid hR
    clear e0 e1 e2 hb1 hR
    go_enter Try.func14, Try.ntmps14
    go_wp2_with fail
    rw [← HW.out]
    refine (Cb1.out w0 (Below.refl _ _)).mono ?_
    rintro e w1 ⟨rfl, rfl⟩
    have hc := Lib.hid (fun W => rlId_any m hm W)
    rw [HR.out] at hc
    go_wp2_with fail
    refine (hc.out _).mono ?_
    rintro e w9 ⟨v9, rfl, ho9, hb9⟩
    obtain ⟨a9, c9, rfl⟩ := ho9.reads.form
    have q0 := Q0 _ hb9
    have q1 := Q1 _ hb9
    have q2 := Q2 _ hb9
    have g0 := G0 _ hb9
    have g1 := G1 _ hb9
    have g2 := G2 _ hb9
    have hfin := Lib.hid (optRel_put HB.out hb9 ho9 (b := w.heap.size) (by omega) (by have h2 := HS.out; omega) (c := (m : Int)) (d := (m : Int)))
    clear ho9 hb9
    go_wp2
    refine bodyPost_ret (v := .tuple #[.agg #[.int .i64 (m : Int), .int .i64 (m : Int), .slice a9 R.length c9], .bool true]) (by simp [results, Try.results14, go_sem, q0, q1, q2]) rfl ?_
    exact hfin.out

set_option maxRecDepth 100000 in
set_option maxHeartbeats 4000000 in
theorem implIdR_any (n : Int) (hwl : (Lit.int .i64 n).wf = true) (w : World)  :
    Calls Try.prog 15 #[.int .i64 n] w (OptRel w (irB n) (irCols n) (irCols n) (irOut n)) := by
  obtain ⟨w0, hw0⟩ : ∃ W, W = (w.alloc (.cells #[.int .i64 0, .int .i64 0, .slice none 0 0] 31)) := ⟨_, rfl⟩
  have hB : Below w.heap.size w w0 := by rw [hw0]; exact ((Below.refl w.heap.size w).alloc (by simp) (.cells #[.int .i64 0, .int .i64 0, .slice none 0 0] 31))
  have hs0 : w0.heap.size = w.heap.size + 1 := by rw [hw0]; simp
  have Q0 : ∀ W, Below w0.heap.size w0 W → W.cell? ⟨w.heap.size, 0, none⟩ = some (.int .i64 0) := fun W hW => cell_old hW (by rw [hw0]; simp [go_sem])
  have G0 : ∀ W, Below w0.heap.size w0 W → W.frozen? ⟨w.heap.size, 0, none⟩ = false := fun W hW => frozen_old hW (by show w.heap.size < _; omega) (by rw [hw0]; simp [go_sem])
  have Q1 : ∀ W, Below w0.heap.size w0 W → W.cell? ⟨w.heap.size, 1, none⟩ = some (.int .i64 0) := fun W hW => cell_old hW (by rw [hw0]; simp [go_sem])
  have G1 : ∀ W, Below w0.heap.size w0 W → W.frozen? ⟨w.heap.size, 1, none⟩ = false := fun W hW => frozen_old hW (by show w.heap.size < _; omega) (by rw [hw0]; simp [go_sem])
  have Q2 : ∀ W, Below w0.heap.size w0 W → W.cell? ⟨w.heap.size, 2, none⟩ = some (.slice none 0 0) := fun W hW => cell_old hW (by rw [hw0]; simp [go_sem])
  have G2 : ∀ W, Below w0.heap.size w0 W → W.frozen? ⟨w.heap.size, 2, none⟩ = false := fun W hW => frozen_old hW (by show w.heap.size < _; omega) (by rw [hw0]; simp [go_sem])
  have HW := Lib.hid hw0
  have HB := Lib.hid hB
  have HS := Lib.hid hs0
  have Cb1 := Lib.hid (fun W (_ : Below w0.heap.size w0 W) => fits_any n n hwl W)
  rw [ir_fits] at Cb1
  obtain ⟨b1, hb1⟩ : ∃ b, (irB n) = b := ⟨_, rfl⟩
  rw [hb1] at Cb1
  clear hw0 hB hs0
  cases b1 with
  | false =>
    have e0 : irB n = false := hb1
    rw [e0, (ir_none e0).1, (ir_none e0).2]
    clear e0
    clear hb1
    go_enter Try.func15, Try.ntmps15
    go_wp2_with fail
    rw [← HW.out]
    refine (Cb1.out w0 (Below.refl _ _)).mono ?_
    rintro e w1 ⟨rfl, rfl⟩
    have BR := Below.refl w0.heap.size w0
    go_wp2
    refine bodyPost_ret (v := .tuple #[.agg #[.int .i64 0, .int .i64 0, .slice none 0 0], .bool false]) (by simp [results, Try.results15, go_sem, Q0 _ (Below.refl w0.heap.size w0), Q1 _ (Below.refl w0.heap.size w0), Q2 _ (Below.refl w0.heap.size w0)]) rfl ?_
    exact optRel_none (HB.out.trans ((Below.refl w0.heap.size w0).mono HB.out.size)) (by omega)
  | true =>
    have e0 : irB n = true := hb1
    obtain ⟨m, rfl, hm⟩ := irB_parts e0
    have e1 : irOut m = irRows m := by simp [irOut, e0]
    have e2 : irCols m = m := by simp [irCols, e0]
    rw [e0, e1, e2]
    obtain ⟨R, hR⟩ : ∃ R, irRows m = R := ⟨_, rfl⟩
    rw [hR]
    have HR := Lib.hid hR
    clear e0 e1 e2 hb1 hR
    go_enter Try.func15, Try.ntmps15
    go_wp2_with fail
    rw [← HW.out]
    refine (Cb1.out w0 (Below.refl _ _)).mono ?_
    rintro e w1 ⟨rfl, rfl⟩
    have hc := Lib.hid (fun W => identityRelation_any m hm W)
    rw [HR.out] at hc
    go_wp2_with fail
    refine (hc.out _).mono ?_
    rintro e w9 ⟨v9, rfl, ho9, hb9⟩
    obtain ⟨a9, c9, rfl⟩ := ho9.reads.form
    have q0 := Q0 _ hb9
    have q1 := Q1 _ hb9
    have q2 := Q2 _ hb9
    have g0 := G0 _ hb9
    have g1 := G1 _ hb9
    have g2 := G2 _ hb9
    have hfin := Lib.hid (optRel_put HB.out hb9 ho9 (b := w.heap.size) (by omega) (by have h2 := HS.out; omega) (c := (m : Int)) (d := (m : Int)))
    clear ho9 hb9
    go_wp2
    refine bodyPost_ret (v := .tuple #[.agg #[.int .i64 (m : Int), .int .i64 (m : Int), .slice a9 R.length c9], .bool true]) (by simp [results, Try.results15, go_sem, q0, q1, q2]) rfl ?_
    exact hfin.out

end Ints
end Go.Proofs.Ytimjlcnljefbbaa
