/- DeterminantOf, both. -/
import Derived.Test.YtkpheigoegehoaaDoorMxReduce
import Derived.Test.YtkpheigoegehoaaDoorDetImpl
import Derived.Test.YtkpheigoegehoaaDoorLinAll
import Derived.Test.YtkpheigoegehoaaDoorPred
namespace Go.Proofs.YtkpheigoegehoaaDoor
open Go.RowKit
namespace Ints
open Fld (tab_alloc)

set_option maxHeartbeats 1000000 in
theorem mxSquare_any (p c : Int) (v : Value) (L : List (List Int)) (w : World) (h : ReadsM w v L) :
    Calls Tryd.prog 78 #[.int .i64 p, .agg #[.int .i64 c, v]] w fun e w' => e = .returned (.bool (matB p c L && decide ((L.length : Int) = c))) ∧ Below w.heap.size w w' := by
  have hB := Lib.hid ((Below.refl w.heap.size w).alloc (Nat.le_refl _) (.cells #[.int .i64 c, v] 30))
  have hcall := Lib.hid (mxGood_any p c v L _ (h.below hB.out))
  obtain ⟨a, cap, rfl⟩ := h.form
  obtain ⟨r, hr⟩ : ∃ r, matB p c L = r := ⟨_, rfl⟩
  obtain ⟨b, hb⟩ : ∃ b, decide ((L.length : Int) = c) = b := ⟨_, rfl⟩
  rw [hr] at hcall ⊢
  rw [hb]
  have hb2 : ((L.length : Int) == c) = b := by rw [← hb]; rfl
  clear h hr hb
  cases r with
  | false =>
    go_enter Tryd.func78, Tryd.ntmps78
    go_wp2_with (go_at_call 72; ((with_reducible refine (hcall.out).mono ?_); rintro e w' ⟨rfl, hq⟩))
    go_ret
    exact ⟨rfl, hB.out.trans (hq.mono hB.out.size)⟩
  | true =>
    go_enter Tryd.func78, Tryd.ntmps78
    go_wp2_with fail
    refine hcall.out.mono ?_
    rintro e w1 ⟨rfl, hq⟩
    have c0 : w1.cell? ⟨w.heap.size, 0, none⟩ = some (.int .i64 c) := cell_old hq (by simp [go_sem])
    have c1 : w1.cell? ⟨w.heap.size, 1, none⟩ = some (.slice a L.length cap) := cell_old hq (by simp [go_sem])
    have HQ := Lib.hid hq
    clear hq
    go_wp2
    go_ret
    exact ⟨rfl, hB.out.trans (HQ.out.mono hB.out.size)⟩

set_option maxHeartbeats 1000000 in
theorem isSquare_any (c : Int) (v : Value) (L : List (List Int)) (w : World) (h : ReadsM w v L) :
    Calls Tryd.prog 80 #[.agg #[.int .i64 c, v]] w fun e w' => e = .returned (.bool (decide ((L.length : Int) = c))) ∧ Below w.heap.size w w' := by
  have hB := Lib.hid ((Below.refl w.heap.size w).alloc (Nat.le_refl _) (.cells #[.int .i64 c, v] 30))
  obtain ⟨a, cap, rfl⟩ := h.form
  obtain ⟨b, hb⟩ : ∃ b, decide ((L.length : Int) = c) = b := ⟨_, rfl⟩
  rw [hb]
  have hb2 : ((L.length : Int) == c) = b := by rw [← hb]; rfl
  clear h hb
  go_enter Tryd.func80, Tryd.ntmps80
  go_wp2
  go_ret
  exact ⟨rfl, hB.out⟩


def sqB (p c : Int) (L : List (List Int)) : Bool := matB p c L && decide ((L.length : Int) = c)
theorem sq_parts {p c : Int} {L : List (List Int)} (h : sqB p c L = true) : ∃ n : Nat, c = n ∧ n ≤ 24 ∧ L.length = n ∧ Fld.goodB p = true ∧ ElemsT p n n L := by
  simp only [sqB, Bool.and_eq_true, decide_eq_true_eq] at h
  obtain ⟨h1, h2⟩ := h
  obtain ⟨n, e1, hn, hl, hp, hA⟩ := mat_nats h1
  have hl2 : L.length = n := by omega
  rw [hl2] at hA
  exact ⟨n, e1, hn, hl2, (mat_parts h1).1, hA⟩

def detOut (p c : Int) (L : List (List Int)) : Int := if sqB p c L then detOf p c.toNat L else 0

set_option maxHeartbeats 1000000 in
set_option maxRecDepth 100000 in
theorem specDet_any (p c : Int) (u : Value) (A : List (List Int)) (w : World) (hu : ReadsM w u A) :
    Calls Tryd.prog 27 #[.int .i64 p, .agg #[.int .i64 c, u]] w fun e w' => e = .returned (.tuple #[.int .i64 (detOut p c A), .bool (sqB p c A)]) ∧ Below w.heap.size w w' := by
  have hB := Lib.hid ((Below.refl w.heap.size w).alloc (Nat.le_refl _) (.cells #[.int .i64 c, u] 30))
  have hgood := Lib.hid (mxSquare_any p c u A _ (hu.below hB.out))
  obtain ⟨ua, uc, rfl⟩ := hu.form
  rw [show (matB p c A && decide ((A.length : Int) = c)) = sqB p c A from rfl] at hgood
  cases hb : sqB p c A with
  | false =>
    have e1 : detOut p c A = 0 := by simp [detOut, hb]
    rw [e1]
    rw [hb] at hgood
    clear hu hb e1
    go_enter Tryd.func27, Tryd.ntmps27
    go_wp2_with (go_at_call 78; ((with_reducible refine (hgood.out).mono ?_); rintro e w' ⟨rfl, hq⟩))
    go_ret2
    exact ⟨rfl, hB.out.trans (hq.mono hB.out.size)⟩
  | true =>
    obtain ⟨n, rfl, hn, hl, hg, hA⟩ := sq_parts hb
    have e1 : detOut p n A = detOf p n A := by simp [detOut, hb]
    rw [e1]
    rw [hb] at hgood
    have HU := Lib.hid hu
    have hcall := Lib.hid (fun W (hW : Below w.heap.size w W) => mxReduce_any p hg n n (by omega) (by omega) (.slice ua A.length uc) A W hA (HU.out.below hW))
    have hld := Lin.low_det hg hA n (Nat.le_refl _)
    obtain ⟨S, hS⟩ : ∃ S, Lin.detN p ⟨⟨A, idT n, 0⟩, 1⟩ n = S := ⟨_, rfl⟩
    rw [hS] at hld
    have hfall : (S.s.r = n ∧ detOf p n A = S.det) ∨ (S.s.r < n ∧ detOf p n A = 0) := by
      rcases hld with ⟨x, hx, _, h2, h3, _⟩ | ⟨hx, h2⟩
      · exact .inl ⟨h2, by unfold detOf; rw [hx]; exact h3⟩
      · exact .inr ⟨h2, by unfold detOf; rw [hx]⟩
    have HSS := Lib.hid hS
    obtain ⟨D, hD⟩ : ∃ D, detOf p n A = D := ⟨_, rfl⟩
    rw [hD] at hfall ⊢
    clear hu hb e1 hA hg hld hS hD hl
    go_enter Tryd.func27, Tryd.ntmps27
    go_wp2_with fail
    refine hgood.out.mono ?_
    rintro e w1 ⟨rfl, hq⟩
    have c0 : w1.cell? ⟨w.heap.size, 0, none⟩ = some (.int .i64 n) := cell_old hq (by simp [go_sem])
    have c1 : w1.cell? ⟨w.heap.size, 1, none⟩ = some (.slice ua A.length uc) := cell_old hq (by simp [go_sem])
    have HQ := Lib.hid (hB.out.trans (hq.mono hB.out.size))
    have hsz1 := Lib.hid (show w.heap.size < w1.heap.size by have := hq.size; simp at this; omega)
    clear hq
    go_wp2_with fail
    refine (hcall.out w1 HQ.out).mono ?_
    rintro e w2 ⟨v8, v9, m, rfl, h8, h9, hb1⟩
    rw [HSS.out] at h8 h9 ⊢
    obtain ⟨a8, c8, rfl⟩ := h8.reads.form
    obtain ⟨a9, c9, rfl⟩ := h9.reads.form
    have d0 : w2.cell? ⟨w.heap.size, 0, none⟩ = some (.int .i64 n) := cell_old hb1 c0
    have HB1 := Lib.hid (HQ.out.trans (hb1.mono HQ.out.size))
    have hs := HB1.out.size
    have hs2 : w.heap.size < w2.heap.size := Nat.lt_of_lt_of_le hsz1.out hb1.size
    have hs3 : ¬ w2.heap.size = w.heap.size := by omega
    have hs4 : ¬ w2.heap.size + 1 = w.heap.size := by omega
    generalize S.s.M.length = l8 at *
    generalize S.s.T.length = l9 at *
    obtain ⟨r, hr⟩ : ∃ r, S.s.r = r := ⟨_, rfl⟩
    obtain ⟨dd, hdd⟩ : ∃ r, S.det = r := ⟨_, rfl⟩
    rw [hr, hdd] at hfall ⊢
    have hfin : Hid (Below w.heap.size w ((w2.alloc (.cells #[.int .i64 n, .slice a8 l8 c8] 30)).alloc (.cells #[.int .i64 n, .slice a9 l9 c9] 30))) := (HB1.out.alloc hs _).alloc (by simp; omega) _
    clear h8 h9 hb1 hcall c0 c1 hr hdd HSS
    rcases hfall with ⟨rfl, rfl⟩ | ⟨hlt, rfl⟩
    · go_wp2
      go_ret2
      exact ⟨rfl, hfin.out⟩
    · have hri : (r : Int) < (n : Int) := by omega
      go_wp2
      go_ret2
      exact ⟨rfl, hfin.out⟩

set_option maxHeartbeats 1000000 in
set_option maxRecDepth 100000 in
theorem implDet_any (p c : Int) (u : Value) (A : List (List Int)) (w : World) (ht : Tab w) (hu : ReadsM w u A) :
    Calls Tryd.prog 28 #[.int .i64 p, .agg #[.int .i64 c, u]] w fun e w' => e = .returned (.tuple #[.int .i64 (detOut p c A), .bool (sqB p c A)]) ∧ Below w.heap.size w w' := by
  have hB := Lib.hid ((Below.refl w.heap.size w).alloc (Nat.le_refl _) (.cells #[.int .i64 c, u] 30))
  have hgood := Lib.hid (isMatrix_any p c u A _ (tab_alloc ht _) (hu.below hB.out))
  obtain ⟨ua, uc, rfl⟩ := hu.form
  have hsq := Lib.hid (fun W (hW : Below w.heap.size w W) => isSquare_any c (.slice ua A.length uc) A W (hu.below hW))
  have hsb : sqB p c A = (matB p c A && decide ((A.length : Int) = c)) := rfl
  cases hb : matB p c A with
  | false =>
    have e0 : sqB p c A = false := by rw [hsb, hb]; rfl
    have e1 : detOut p c A = 0 := by simp [detOut, e0]
    rw [e1, e0]
    rw [hb] at hgood
    clear hu hb e1 e0 hsb ht
    go_enter Tryd.func28, Tryd.ntmps28
    go_wp2_with (go_at_call 74; ((with_reducible refine (hgood.out).mono ?_); rintro e w' ⟨rfl, hq⟩))
    go_ret2
    exact ⟨rfl, hB.out.trans (hq.mono hB.out.size)⟩
  | true =>
    rw [hb] at hgood
    rw [hb, Bool.true_and] at hsb
    rw [← hsb] at hsq
    cases hs : sqB p c A with
    | false =>
      have e1 : detOut p c A = 0 := by simp [detOut, hs]
      rw [e1]
      rw [hs] at hsq
      clear hu hb e1 hsb ht hs
      go_enter Tryd.func28, Tryd.ntmps28
      go_wp2_with fail
      refine hgood.out.mono ?_
      rintro e w1 ⟨rfl, hq⟩
      have c0 : w1.cell? ⟨w.heap.size, 0, none⟩ = some (.int .i64 c) := cell_old hq (by simp [go_sem])
      have c1 : w1.cell? ⟨w.heap.size, 1, none⟩ = some (.slice ua A.length uc) := cell_old hq (by simp [go_sem])
      have HQ := Lib.hid (hB.out.trans (hq.mono hB.out.size))
      clear hq
      go_wp2_with fail
      refine (hsq.out w1 HQ.out).mono ?_
      rintro e w2 ⟨rfl, hq2⟩
      have HQ2 := Lib.hid (HQ.out.trans (hq2.mono HQ.out.size))
      clear hq2 c0 c1
      go_wp2
      go_ret2
      exact ⟨rfl, HQ2.out⟩
    | true =>
      rw [hs] at hsq
      obtain ⟨n, rfl, hn, hl, hg, hA⟩ := sq_parts hs
      have e1 : detOut p n A = detOf p n A := by simp [detOut, hs]
      rw [e1]
      have HU := Lib.hid hu
      have hcall := Lib.hid (fun W (hW : Below w.heap.size w W) => determinant_any p hg n (by omega) (.slice ua A.length uc) A W hA (HU.out.below hW))
      obtain ⟨D, hD⟩ : ∃ D, detOf p n A = D := ⟨_, rfl⟩
      rw [hD] at hcall ⊢
      clear hu hb e1 hsb ht hs hg hA hD hl
      go_enter Tryd.func28, Tryd.ntmps28
      go_wp2_with fail
      refine hgood.out.mono ?_
      rintro e w1 ⟨rfl, hq⟩
      have c0 : w1.cell? ⟨w.heap.size, 0, none⟩ = some (.int .i64 n) := cell_old hq (by simp [go_sem])
      have c1 : w1.cell? ⟨w.heap.size, 1, none⟩ = some (.slice ua A.length uc) := cell_old hq (by simp [go_sem])
      have HQ := Lib.hid (hB.out.trans (hq.mono hB.out.size))
      have HC0 := Lib.hid c0
      have HC1 := Lib.hid c1
      clear hq
      go_wp2_with fail
      refine (hsq.out w1 HQ.out).mono ?_
      rintro e w2 ⟨rfl, hq2⟩
      have d1 : w2.cell? ⟨w.heap.size, 1, none⟩ = some (.slice ua A.length uc) := cell_old hq2 HC1.out
      have HQ2 := Lib.hid (HQ.out.trans (hq2.mono HQ.out.size))
      clear hq2 c0 c1
      go_wp2_with fail
      refine (hcall.out w2 HQ2.out).mono ?_
      rintro e w3 ⟨rfl, hq3⟩
      have HQ3 := Lib.hid (HQ2.out.trans (hq3.mono HQ2.out.size))
      clear hq3
      go_wp2
      go_ret2
      exact ⟨rfl, HQ3.out⟩

end Ints
end Go.Proofs.YtkpheigoegehoaaDoor
