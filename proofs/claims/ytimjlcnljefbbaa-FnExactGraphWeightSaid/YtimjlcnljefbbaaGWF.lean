/- GraphWeight, both. (Printed by wip/gen_gw.py.) -/
import Derived.Test.YtimjlcnljefbbaaSumW
namespace Go.Proofs.Ytimjlcnljefbbaa
open Go.RowKit
namespace Ints
open Fld (inR)

def gwB (c : Int) (L : GraphL) (l : List Int) : Bool := graphB c L && weightsB l
def gwN (c : Int) (L : GraphL) (l : List Int) : Int := if gwB c L l = true then sumW l L.edges else 0
theorem graphB_parts {c : Int} {L : GraphL} (h : graphB c L = true) : edgesB L.edges = true ∧ L.edges.length ≤ 60 := by
  unfold graphB at h
  simp only [Bool.and_eq_true, Bool.not_eq_true', decide_eq_false_iff_not] at h
  exact ⟨h.1.1.2, by omega⟩

set_option maxRecDepth 100000 in
set_option maxHeartbeats 2000000 in
theorem specGW_any (c : Int) (v1 v2 v3 v : Value) (L : GraphL) (l : List Int) (w : World) (h : ReadsG w v1 v2 v3 L) (hl : ReadsI w v l) (hT : totG L ≤ 1048576) :
    Calls Try.prog 32 #[.agg #[.int .i64 c, v1, v2, v3], v] w fun e w' => e = .returned (.tuple #[.int .i64 (gwN c L l), .bool (gwB c L l)]) ∧ Below w.heap.size w w' := by
  obtain ⟨w0, hw0⟩ : ∃ W, W = w.alloc (.cells #[.int .i64 c, v1, v2, v3] 49) := ⟨_, rfl⟩
  have hB : Below w.heap.size w w0 := by rw [hw0]; exact (Below.refl _ _).alloc (Nat.le_refl _) _
  obtain ⟨a, k, a', k', a'', k'', rfl, rfl, rfl⟩ := h.form
  obtain ⟨p, d, rfl⟩ := hl.form
  have hX : Hid (∀ W, Below w0.heap.size w0 W → W.cell? ⟨w.heap.size, 0, none⟩ = some (.int .i64 c) ∧ W.cell? ⟨w.heap.size, 1, none⟩ = some (.slice a L.edges.length k) ∧ W.cell? ⟨w.heap.size, 2, none⟩ = some (.slice a' L.ins.length k') ∧ W.cell? ⟨w.heap.size, 3, none⟩ = some (.slice a'' L.outs.length k'')) :=
    fun W hW => ⟨cell_old hW (by rw [hw0]; simp [go_sem]), cell_old hW (by rw [hw0]; simp [go_sem]), cell_old hW (by rw [hw0]; simp [go_sem]), cell_old hW (by rw [hw0]; simp [go_sem])⟩
  have hv := Lib.hid (fun W (hW : ReadsG W (.slice a L.edges.length k) (.slice a' L.ins.length k') (.slice a'' L.outs.length k'') L) => hgValid_any c _ _ _ L W hW hT)
  have hwt := Lib.hid (fun W hW => cpWeights_any (.slice p l.length d) l W hW)
  have HR := Lib.hid h
  have HL := Lib.hid hl
  have HB := Lib.hid hB
  have HW := Lib.hid hw0
  clear h hl hw0 hB
  obtain ⟨b, hb⟩ : ∃ b, graphB c L = b := ⟨_, rfl⟩
  obtain ⟨b2, hb2⟩ : ∃ b, weightsB l = b := ⟨_, rfl⟩
  have hG : gwB c L l = (b && b2) := by unfold gwB; rw [hb, hb2]
  have hN : gwN c L l = if (b && b2) = true then sumW l L.edges else 0 := by unfold gwN; rw [hG]
  rw [hG, hN]
  rw [hb] at hv
  rw [hb2] at hwt
  clear hG hN
  cases b
  · clear hb hb2 hwt
    go_enter Try.func32, Try.ntmps32
    go_wp2_with fail
    rw [← HW.out]
    refine (hv.out w0 (HR.out.below HB.out)).mono ?_
    rintro e w1 ⟨rfl, q1⟩
    have Q1 := Lib.hid (HB.out.trans (q1.mono HB.out.size))
    clear q1
    go_wp2
    go_ret2
    exact ⟨rfl, Q1.out⟩
  · cases b2
    · clear hb hb2
      go_enter Try.func32, Try.ntmps32
      go_wp2_with fail
      rw [← HW.out]
      refine (hv.out w0 (HR.out.below HB.out)).mono ?_
      rintro e w1 ⟨rfl, q1⟩
      have Q1 := Lib.hid (HB.out.trans (q1.mono HB.out.size))
      clear q1
      go_wp2_with (go_at_call 63; ((with_reducible refine (hwt.out _ (HL.out.below Q1.out)).mono ?_); rintro e w' ⟨rfl, rfl⟩))
      go_ret2
      exact ⟨rfl, Q1.out⟩
    · have hs := Lib.hid (fun W hW hW2 => cpWeight_any c (.slice a L.edges.length k) (.slice a' L.ins.length k') (.slice a'' L.outs.length k'') (.slice p l.length d) L l W hW hW2 (graphB_parts hb).1 hb2 (graphB_parts hb).2)
      clear hb hb2
      go_enter Try.func32, Try.ntmps32
      go_wp2_with fail
      rw [← HW.out]
      refine (hv.out w0 (HR.out.below HB.out)).mono ?_
      rintro e w1 ⟨rfl, q1⟩
      obtain ⟨x0, x1, x2, x3⟩ := hX.out w1 q1
      have Q1 := Lib.hid (HB.out.trans (q1.mono HB.out.size))
      clear q1
      go_wp2_with (first | (go_at_call 63; ((with_reducible refine (hwt.out _ (HL.out.below Q1.out)).mono ?_); rintro e w' ⟨rfl, rfl⟩)) | fail)
      refine (hs.out w1 (HR.out.below Q1.out) (HL.out.below Q1.out)).mono ?_
      rintro e w2 ⟨rfl, q2⟩
      have Q2 := Lib.hid (Q1.out.trans (q2.mono Q1.out.size))
      clear q2
      go_wp2
      go_ret2
      exact ⟨rfl, Q2.out⟩

set_option maxRecDepth 100000 in
set_option maxHeartbeats 2000000 in
theorem implGW_any (c : Int) (v1 v2 v3 v : Value) (L : GraphL) (l : List Int) (w : World) (h : ReadsG w v1 v2 v3 L) (hl : ReadsI w v l) :
    Calls Try.prog 35 #[.agg #[.int .i64 c, v1, v2, v3], v] w fun e w' => e = .returned (.tuple #[.int .i64 (gwN c L l), .bool (gwB c L l)]) ∧ Below w.heap.size w w' := by
  obtain ⟨w0, hw0⟩ : ∃ W, W = w.alloc (.cells #[.int .i64 c, v1, v2, v3] 49) := ⟨_, rfl⟩
  have hB : Below w.heap.size w w0 := by rw [hw0]; exact (Below.refl _ _).alloc (Nat.le_refl _) _
  obtain ⟨a, k, a', k', a'', k'', rfl, rfl, rfl⟩ := h.form
  obtain ⟨p, d, rfl⟩ := hl.form
  have hX : Hid (∀ W, Below w0.heap.size w0 W → W.cell? ⟨w.heap.size, 0, none⟩ = some (.int .i64 c) ∧ W.cell? ⟨w.heap.size, 1, none⟩ = some (.slice a L.edges.length k) ∧ W.cell? ⟨w.heap.size, 2, none⟩ = some (.slice a' L.ins.length k') ∧ W.cell? ⟨w.heap.size, 3, none⟩ = some (.slice a'' L.outs.length k'')) :=
    fun W hW => ⟨cell_old hW (by rw [hw0]; simp [go_sem]), cell_old hW (by rw [hw0]; simp [go_sem]), cell_old hW (by rw [hw0]; simp [go_sem]), cell_old hW (by rw [hw0]; simp [go_sem])⟩
  have hv := Lib.hid (fun W (hW : ReadsG W (.slice a L.edges.length k) (.slice a' L.ins.length k') (.slice a'' L.outs.length k'') L) => isGraph_any c _ _ _ L W hW)
  have hwt := Lib.hid (fun W hW => areWeights_any (.slice p l.length d) l W hW)
  have HR := Lib.hid h
  have HL := Lib.hid hl
  have HB := Lib.hid hB
  have HW := Lib.hid hw0
  clear h hl hw0 hB
  obtain ⟨b, hb⟩ : ∃ b, graphB c L = b := ⟨_, rfl⟩
  obtain ⟨b2, hb2⟩ : ∃ b, weightsB l = b := ⟨_, rfl⟩
  have hG : gwB c L l = (b && b2) := by unfold gwB; rw [hb, hb2]
  have hN : gwN c L l = if (b && b2) = true then sumW l L.edges else 0 := by unfold gwN; rw [hG]
  rw [hG, hN]
  rw [hb] at hv
  rw [hb2] at hwt
  clear hG hN
  cases b
  · clear hb hb2 hwt
    go_enter Try.func35, Try.ntmps35
    go_wp2_with fail
    rw [← HW.out]
    refine (hv.out w0 (HR.out.below HB.out)).mono ?_
    rintro e w1 ⟨rfl, q1⟩
    have Q1 := Lib.hid (HB.out.trans (q1.mono HB.out.size))
    clear q1
    go_wp2
    go_ret2
    exact ⟨rfl, Q1.out⟩
  · cases b2
    · clear hb hb2
      go_enter Try.func35, Try.ntmps35
      go_wp2_with fail
      rw [← HW.out]
      refine (hv.out w0 (HR.out.below HB.out)).mono ?_
      rintro e w1 ⟨rfl, q1⟩
      have Q1 := Lib.hid (HB.out.trans (q1.mono HB.out.size))
      clear q1
      go_wp2_with (go_at_call 67; ((with_reducible refine (hwt.out _ (HL.out.below Q1.out)).mono ?_); rintro e w' ⟨rfl, rfl⟩))
      go_ret2
      exact ⟨rfl, Q1.out⟩
    · have hs := Lib.hid (fun W hW hW2 => weight_any c (.slice a L.edges.length k) (.slice a' L.ins.length k') (.slice a'' L.outs.length k'') (.slice p l.length d) L l W hW hW2 (graphB_parts hb).1 hb2 (graphB_parts hb).2)
      clear hb hb2
      go_enter Try.func35, Try.ntmps35
      go_wp2_with fail
      rw [← HW.out]
      refine (hv.out w0 (HR.out.below HB.out)).mono ?_
      rintro e w1 ⟨rfl, q1⟩
      obtain ⟨x0, x1, x2, x3⟩ := hX.out w1 q1
      have Q1 := Lib.hid (HB.out.trans (q1.mono HB.out.size))
      clear q1
      go_wp2_with (first | (go_at_call 67; ((with_reducible refine (hwt.out _ (HL.out.below Q1.out)).mono ?_); rintro e w' ⟨rfl, rfl⟩)) | fail)
      refine (hs.out w1 (HR.out.below Q1.out) (HL.out.below Q1.out)).mono ?_
      rintro e w2 ⟨rfl, q2⟩
      have Q2 := Lib.hid (Q1.out.trans (q2.mono Q1.out.size))
      clear q2
      go_wp2
      go_ret2
      exact ⟨rfl, Q2.out⟩

end Ints
end Go.Proofs.Ytimjlcnljefbbaa
