/- The sums of weights, both sides. (Printed by wip/gen_sum.py.) -/
import Derived.Test.YtimjlcnljefbbaaWeigh
namespace Go.Proofs.Ytimjlcnljefbbaa
open Go.RowKit
namespace Ints
open Fld (inR)

def wAt (l : List Int) (k : Int) : Int := l[(k - 1).toNat]?.getD 0
def sumW (l : List Int) (es : List EdgeL) : Int := (es.map fun e => wAt l e.kind).sum
theorem sumW_succ (l : List Int) (es : List EdgeL) (k : Nat) (h : k < es.length) : sumW l (es.take (k + 1)) = sumW l (es.take k) + wAt l (eAt es k).kind := by
  unfold sumW
  rw [take_oneE es k h]
  simp
theorem kind_of (es : List EdgeL) (h : edgesB es = true) (k : Nat) (hk : k < es.length) : ∃ j : Nat, (eAt es k).kind = (j : Int) + 1 ∧ j < 14 := by
  unfold edgesB at h
  rw [List.all_eq_true] at h
  have h1 := h (eAt es k) (by rw [eAt_eq es k hk]; exact List.getElem_mem hk)
  unfold edgeB inR at h1
  simp at h1
  exact ⟨((eAt es k).kind - 1).toNat, by omega, by omega⟩

set_option maxRecDepth 100000 in
set_option maxHeartbeats 2000000 in
theorem cpWeight_any (c : Int) (v1 v2 v3 v : Value) (L : GraphL) (l : List Int) (w : World) (h : ReadsG w v1 v2 v3 L) (hl : ReadsI w v l) (hb : edgesB L.edges = true) (hw : weightsB l = true) (h60 : L.edges.length ≤ 60) :
    Calls Try.prog 64 #[.agg #[.int .i64 c, v1, v2, v3], v] w fun e w' => e = .returned (.int .i64 (sumW l L.edges)) ∧ Below w.heap.size w w' := by
  obtain ⟨w0, hw0⟩ : ∃ W, W = w.alloc (.cells #[.int .i64 c, v1, v2, v3] 49) := ⟨_, rfl⟩
  have hB : Below w.heap.size w w0 := by rw [hw0]; exact (Below.refl _ _).alloc (Nat.le_refl _) _
  obtain ⟨a, cap, rfl, hm, hE⟩ := open_readsE h.1
  obtain ⟨_, p, d, rfl, hm2, hr⟩ := open_reads hl
  have h14 : l.length = 14 ∧ ∀ j : Nat, j < 14 → 0 ≤ l[j]?.getD 0 ∧ l[j]?.getD 0 ≤ 1000 := by
    unfold weightsB inR at hw
    rw [Bool.and_eq_true, decide_eq_true_eq, List.all_eq_true] at hw
    refine ⟨hw.1, fun j hj => ?_⟩
    rw [List.getElem?_eq_getElem (by omega)]
    have := hw.2 l[j] (List.getElem_mem _)
    simpa using this
  rw [h14.1] at hr ⊢
  have HK := Lib.hid (kind_of L.edges hb)
  have H14 := Lib.hid h14
  have HEE := Lib.hid hE
  have HR := Lib.hid hr
  have HB := Lib.hid hB
  have HW := Lib.hid hw0
  obtain ⟨n, hn⟩ : ∃ n, L.edges.length = n := ⟨_, rfl⟩
  have HN := Lib.hid hn
  rw [hn] at hm HEE HK HW h60
  have H60 := Lib.hid h60
  clear h hl hb hw hE hr h14 hB hw0 hn h60 hm2
  rw [HN.out]
  go_enter Try.func64, Try.ntmps64
  go_wp2
  go_loopw [11, 5, 7] (fun i s q wr => ∃ (k : Nat) (z : Int), k ≤ n ∧ i = .int .i64 k ∧ s = .int .i64 z ∧ Hid (z = sumW l (L.edges.take k) ∧ 0 ≤ z ∧ z ≤ 1000 * k ∧ Below w0.heap.size w0 wr)) (fun i _ _ _ => n + 1 - (intOf i).toNat)
  case atStart => exact ⟨0, 0, by omega, rfl, rfl, Lib.hid ⟨by simp [sumW], by omega, by omega, by rw [HW.out]; exact Below.refl _ _⟩⟩
  case round =>
    obtain ⟨k, z, hk, rfl, rfl, H⟩ := hrel
    by_cases hlt : k < n
    · obtain ⟨g, off, a1, c1, a2, c2, rfl, hg, hEk⟩ := HEE.out k hlt
      have hbk : Below w.heap.size w wr := HB.out.trans (H.out.2.2.2.mono HB.out.size)
      obtain ⟨y0, y1, y2, y3, -, -⟩ := hEk.below hbk
      obtain ⟨j, hj, hj14⟩ := HK.out k hlt
      obtain ⟨g2, o2, rfl, _, k2⟩ := HR.out (by omega)
      have hbo : Below wr.heap.size wr (wr.alloc (.cells #[.int .i64 ((j : Int) + 1), .int .i64 (eAt L.edges k).value, .slice a1 (eAt L.edges k).ins.length c1, .slice a2 (eAt L.edges k).outs.length c2] 92)) := (Below.refl _ _).alloc (Nat.le_refl _) _
      have yw := cell_old hbo (cell_old hbk (k2 j hj14))
      rw [hj] at y0
      have hwj : IntKind.i64.wrap ((j : Int) + 1 - 1) = (j : Int) := by rw [show (j : Int) + 1 - 1 = j by omega]; exact IntWalk.i64_in _ (by omega)
      have hs := sumW_succ l L.edges k (by rw [HN.out]; exact hlt)
      rw [hj] at hs
      have ha : wAt l ((j : Int) + 1) = l[j]?.getD 0 := by unfold wAt; rw [show ((j : Int) + 1 - 1).toNat = j by omega]
      rw [ha] at hs
      have h14 := H14.out.2 j hj14
      obtain ⟨x, hx⟩ : ∃ x, l[j]?.getD 0 = x := ⟨_, rfl⟩
      rw [hx] at yw hs h14
      have hwz : IntKind.i64.wrap (z + x) = z + x := by
        have h1 := H.out
        have h2 := H60.out
        exact IntWalk.i64_in _ (by omega)
      have hnx : Hid (z + x = sumW l (L.edges.take (k + 1)) ∧ 0 ≤ z + x ∧ z + x ≤ 1000 * ((k + 1 : Nat) : Int) ∧ Below w0.heap.size w0 (wr.alloc (.cells #[.int .i64 ((j : Int) + 1), .int .i64 (eAt L.edges k).value, .slice a1 (eAt L.edges k).ins.length c1, .slice a2 (eAt L.edges k).outs.length c2] 92))) := by
        have h1 := H.out
        exact Lib.hid ⟨by rw [hs, ← h1.1], by omega, by omega, h1.2.2.2.trans (hbo.mono h1.2.2.2.size)⟩
      have hk0 : 0 ≤ (k : Int) := by omega
      have hkn : (k : Int) < (n : Int) := by omega
      have hj0 : 0 ≤ (j : Int) := by omega
      have hjn : (j : Int) < 14 := by omega
      clear hEk hbk hbo hs ha h14 hx k2 hj
      go_wp2
      go_roundw
      case rel => exact ⟨k + 1, z + x, by omega, by go_num, rfl, hnx⟩
      case measure => simp [intOf]; omega
    · obtain rfl : k = n := by omega
      have hz := H.out.1
      rw [← HN.out, List.take_length] at hz
      have HZ := Lib.hid hz
      have hfin := Lib.hid (HB.out.trans (H.out.2.2.2.mono HB.out.size))
      clear hz
      go_wp2
      go_ret
      exact ⟨ret_int HZ.out, hfin.out⟩

set_option maxRecDepth 100000 in
set_option maxHeartbeats 2000000 in
theorem weight_any (c : Int) (v1 v2 v3 v : Value) (L : GraphL) (l : List Int) (w : World) (h : ReadsG w v1 v2 v3 L) (hl : ReadsI w v l) (hb : edgesB L.edges = true) (hw : weightsB l = true) (h60 : L.edges.length ≤ 60) :
    Calls Try.prog 68 #[.agg #[.int .i64 c, v1, v2, v3], v] w fun e w' => e = .returned (.int .i64 (sumW l L.edges)) ∧ Below w.heap.size w w' := by
  obtain ⟨w0, hw0⟩ : ∃ W, W = w.alloc (.cells #[.int .i64 c, v1, v2, v3] 49) := ⟨_, rfl⟩
  have hB : Below w.heap.size w w0 := by rw [hw0]; exact (Below.refl _ _).alloc (Nat.le_refl _) _
  obtain ⟨a, cap, rfl, hm, hE⟩ := open_readsE h.1
  obtain ⟨_, p, d, rfl, hm2, hr⟩ := open_reads hl
  have h14 : l.length = 14 ∧ ∀ j : Nat, j < 14 → 0 ≤ l[j]?.getD 0 ∧ l[j]?.getD 0 ≤ 1000 := by
    unfold weightsB inR at hw
    rw [Bool.and_eq_true, decide_eq_true_eq, List.all_eq_true] at hw
    refine ⟨hw.1, fun j hj => ?_⟩
    rw [List.getElem?_eq_getElem (by omega)]
    have := hw.2 l[j] (List.getElem_mem _)
    simpa using this
  rw [h14.1] at hr ⊢
  have HK := Lib.hid (kind_of L.edges hb)
  have H14 := Lib.hid h14
  have HEE := Lib.hid hE
  have HR := Lib.hid hr
  have HB := Lib.hid hB
  have HW := Lib.hid hw0
  obtain ⟨n, hn⟩ : ∃ n, L.edges.length = n := ⟨_, rfl⟩
  have HN := Lib.hid hn
  rw [hn] at hm HEE HK HW h60
  have H60 := Lib.hid h60
  clear h hl hb hw hE hr h14 hB hw0 hn h60 hm2
  rw [HN.out]
  go_enter Try.func68, Try.ntmps68
  go_wp2
  go_loopw [11, 5, 7] (fun i s q wr => ∃ (k : Nat) (z : Int), k ≤ n ∧ i = .int .i64 k ∧ s = .int .i64 z ∧ Hid (z = sumW l (L.edges.take k) ∧ 0 ≤ z ∧ z ≤ 1000 * k ∧ Below w0.heap.size w0 wr)) (fun i _ _ _ => n + 1 - (intOf i).toNat)
  case atStart => exact ⟨0, 0, by omega, rfl, rfl, Lib.hid ⟨by simp [sumW], by omega, by omega, by rw [HW.out]; exact Below.refl _ _⟩⟩
  case round =>
    obtain ⟨k, z, hk, rfl, rfl, H⟩ := hrel
    by_cases hlt : k < n
    · obtain ⟨g, off, a1, c1, a2, c2, rfl, hg, hEk⟩ := HEE.out k hlt
      have hbk : Below w.heap.size w wr := HB.out.trans (H.out.2.2.2.mono HB.out.size)
      obtain ⟨y0, y1, y2, y3, -, -⟩ := hEk.below hbk
      obtain ⟨j, hj, hj14⟩ := HK.out k hlt
      obtain ⟨g2, o2, rfl, _, k2⟩ := HR.out (by omega)
      have hbo : Below wr.heap.size wr (wr.alloc (.cells #[.int .i64 ((j : Int) + 1), .int .i64 (eAt L.edges k).value, .slice a1 (eAt L.edges k).ins.length c1, .slice a2 (eAt L.edges k).outs.length c2] 92)) := (Below.refl _ _).alloc (Nat.le_refl _) _
      have yw := cell_old hbo (cell_old hbk (k2 j hj14))
      rw [hj] at y0
      have hwj : IntKind.i64.wrap ((j : Int) + 1 - 1) = (j : Int) := by rw [show (j : Int) + 1 - 1 = j by omega]; exact IntWalk.i64_in _ (by omega)
      have hs := sumW_succ l L.edges k (by rw [HN.out]; exact hlt)
      rw [hj] at hs
      have ha : wAt l ((j : Int) + 1) = l[j]?.getD 0 := by unfold wAt; rw [show ((j : Int) + 1 - 1).toNat = j by omega]
      rw [ha] at hs
      have h14 := H14.out.2 j hj14
      obtain ⟨x, hx⟩ : ∃ x, l[j]?.getD 0 = x := ⟨_, rfl⟩
      rw [hx] at yw hs h14
      have hwz : IntKind.i64.wrap (z + x) = z + x := by
        have h1 := H.out
        have h2 := H60.out
        exact IntWalk.i64_in _ (by omega)
      have hnx : Hid (z + x = sumW l (L.edges.take (k + 1)) ∧ 0 ≤ z + x ∧ z + x ≤ 1000 * ((k + 1 : Nat) : Int) ∧ Below w0.heap.size w0 (wr.alloc (.cells #[.int .i64 ((j : Int) + 1), .int .i64 (eAt L.edges k).value, .slice a1 (eAt L.edges k).ins.length c1, .slice a2 (eAt L.edges k).outs.length c2] 92))) := by
        have h1 := H.out
        exact Lib.hid ⟨by rw [hs, ← h1.1], by omega, by omega, h1.2.2.2.trans (hbo.mono h1.2.2.2.size)⟩
      have hk0 : 0 ≤ (k : Int) := by omega
      have hkn : (k : Int) < (n : Int) := by omega
      have hj0 : 0 ≤ (j : Int) := by omega
      have hjn : (j : Int) < 14 := by omega
      clear hEk hbk hbo hs ha h14 hx k2 hj
      go_wp2
      go_roundw
      case rel => exact ⟨k + 1, z + x, by omega, by go_num, rfl, hnx⟩
      case measure => simp [intOf]; omega
    · obtain rfl : k = n := by omega
      have hz := H.out.1
      rw [← HN.out, List.take_length] at hz
      have HZ := Lib.hid hz
      have hfin := Lib.hid (HB.out.trans (H.out.2.2.2.mono HB.out.size))
      clear hz
      go_wp2
      go_ret
      exact ⟨ret_int HZ.out, hfin.out⟩

end Ints
end Go.Proofs.Ytimjlcnljefbbaa
