/- What a leaf is, and its wires: both sides. -/
import Derived.Test.YtoegbphkheohoaaGenW
import Derived.Test.YtoegbphkheohoaaFind
import Derived.Deep.RegionLaw
import Derived.Deep.RegionHeld3
import Derived.BigQuiet
import Derived.StillTailTactics
import Derived.Laws.StructEq
namespace Go.Proofs.Ytoegbphkheohoaa
open Go.RowKit
namespace Ints
open Fld (inR l1In_any)

set_option maxHeartbeats 400000 in
theorem isGenerator_any (k : Int) (w : World) : Calls Try.prog 68 #[.int .i64 k] w fun e w' => e = .returned (.bool (inR k 3 14)) ∧ w = w' := by
  have hc := Lib.hid (fun W => within_any k 3 14 W)
  go_enter Try.func68, Try.ntmps68
  go_wp2_with (go_at_call 56; ((with_reducible refine (hc.out _).mono ?_); rintro e w' ⟨rfl, rfl⟩))
  go_ret
  exact ⟨rfl, rfl⟩

set_option maxHeartbeats 400000 in
theorem hasValue_any (k : Int) (w : World) : Calls Try.prog 72 #[.int .i64 k] w fun e w' => e = .returned (.bool (decide (k = 7 ∨ k = 13))) ∧ w = w' := by
  by_cases h7 : k = 7
  · subst h7
    go_enter Try.func72, Try.ntmps72
    go_wp2
    go_ret
    exact ⟨rfl, rfl⟩
  · have b7 : (k == 7) = false := by simpa using h7
    have e : decide (k = 7 ∨ k = 13) = (k == 13) := by rw [Bool.eq_iff_iff]; simp [h7]
    rw [e]
    clear e h7
    go_enter Try.func72, Try.ntmps72
    go_wp2
    go_ret
    exact ⟨rfl, rfl⟩

set_option maxHeartbeats 400000 in
theorem isGeneratorValue_any (k v : Int) (w : World) : Calls Try.prog 70 #[.int .i64 k, .int .i64 v] w fun e w' => e = .returned (.bool (valB k v)) ∧ w = w' := by
  have hv := Lib.hid (fun W => hasValue_any k W)
  have hc := Lib.hid (fun W => within_any v 0 96 W)
  by_cases h : k = 7 ∨ k = 13
  · have e : valB k v = inR v 0 96 := by simp [valB, h]
    have e2 : decide (k = 7 ∨ k = 13) = true := by simpa using h
    rw [e]
    rw [e2] at hv
    clear e e2 h
    go_enter Try.func70, Try.ntmps70
    go_wp2_with (first | (go_at_call 72; ((with_reducible refine (hv.out _).mono ?_); rintro e w' ⟨rfl, rfl⟩)) | (go_at_call 56; ((with_reducible refine (hc.out _).mono ?_); rintro e w' ⟨rfl, rfl⟩)))
    go_ret
    exact ⟨rfl, rfl⟩
  · have e : valB k v = (v == 0) := by simp [valB, h]
    have e2 : decide (k = 7 ∨ k = 13) = false := by simpa using h
    rw [e]
    rw [e2] at hv
    clear e e2 h
    go_enter Try.func70, Try.ntmps70
    go_wp2_with (first | (go_at_call 72; ((with_reducible refine (hv.out _).mono ?_); rintro e w' ⟨rfl, rfl⟩)) | (go_at_call 56; ((with_reducible refine (hc.out _).mono ?_); rintro e w' ⟨rfl, rfl⟩)))
    go_ret
    exact ⟨rfl, rfl⟩

/-- The reference's arities, of whatever kind. -/
def tkI (k : Int) : Int := if k = 2 then 2 else tmIn k
def tkO (k : Int) : Int := if k = 2 then 2 else tmOut k
def emptyB (s : ByteArray) : Bool := s.toList == []
def leafB (n : NodeL) : Bool := emptyB n.name && inR n.kind 1 14 && (if n.kind = 1 then inR n.value 0 12 else valB n.kind n.value)
def leafW (n : NodeL) : Int × Int := if n.kind = 1 then (n.value, n.value) else (tkI n.kind, tkO n.kind)

set_option maxHeartbeats 2000000 in
theorem tmKind_all (k : Int) (w : World) : Calls Try.prog 60 #[.int .i64 k] w fun e w' => e = .returned (.tuple #[.int .i64 (tkI k), .int .i64 (tkO k)]) ∧ w = w' := by
  by_cases h : k = 2 ∨ k = 3 ∨ k = 11 ∨ k = 4 ∨ k = 12 ∨ k = 5 ∨ k = 9 ∨ k = 6 ∨ k = 10
  · rcases h with rfl | rfl | rfl | rfl | rfl | rfl | rfl | rfl | rfl
    all_goals
      go_enter Try.func60, Try.ntmps60
      go_wp2
      go_ret2
      exact ⟨rfl, rfl⟩
  · have b2 : (k == 2) = false := by simp; omega
    have b3 : (k == 3) = false := by simp; omega
    have b11 : (k == 11) = false := by simp; omega
    have b4 : (k == 4) = false := by simp; omega
    have b12 : (k == 12) = false := by simp; omega
    have b5 : (k == 5) = false := by simp; omega
    have b9 : (k == 9) = false := by simp; omega
    have b6 : (k == 6) = false := by simp; omega
    have b10 : (k == 10) = false := by simp; omega
    have e1 : tkI k = 1 := by unfold tkI tmIn; rw [if_neg (by omega), if_neg (by omega), if_neg (by omega)]
    have e2 : tkO k = 1 := by unfold tkO tmOut; rw [if_neg (by omega), if_neg (by omega), if_neg (by omega)]
    rw [e1, e2]
    clear e1 e2 h
    go_enter Try.func60, Try.ntmps60
    go_wp2
    go_ret2
    exact ⟨rfl, rfl⟩

set_option maxHeartbeats 1000000 in
theorem tmArity_any (n : NodeL) (w : World) : Calls Try.prog 49 #[.agg #[.int .i64 n.kind, .int .i64 n.value, .string n.name]] w fun e w' => e = .returned (.tuple #[.int .i64 (leafW n).1, .int .i64 (leafW n).2]) ∧ Below w.heap.size w w' := by
  obtain ⟨k, v, s⟩ := n
  have hB := Lib.hid ((Below.refl w.heap.size w).alloc (Nat.le_refl _) (.cells #[.int .i64 k, .int .i64 v, .string s] 71))
  have hk := Lib.hid (fun W => tmKind_all k W)
  have hl : Hid (leafW ⟨k, v, s⟩ = if k = 1 then (v, v) else (tkI k, tkO k)) := rfl
  by_cases h1 : k = 1
  · subst h1
    rw [hl.out]
    simp only [if_true]
    go_enter Try.func49, Try.ntmps49
    go_wp2
    go_region
    all_goals
      go_wp2
      go_ret2
      exact ⟨rfl, hB.out.drew⟩
  · rw [hl.out, if_neg h1]
    have b1 : (k == 1) = false := by simpa using h1
    clear h1
    go_enter Try.func49, Try.ntmps49
    go_wp2_with (go_at_call 60; ((with_reducible refine (hk.out _).mono ?_); rintro e w' ⟨rfl, rfl⟩))
    go_ret2
    exact ⟨rfl, hB.out⟩

set_option maxHeartbeats 1000000 in
theorem tmLeaf_all (n : NodeL) (w : World) : Calls Try.prog 48 #[.agg #[.int .i64 n.kind, .int .i64 n.value, .string n.name]] w fun e w' => e = .returned (.bool (leafB n)) ∧ Below w.heap.size w w' := by
  obtain ⟨k, v, s⟩ := n
  have hB := Lib.hid ((Below.refl w.heap.size w).alloc (Nat.le_refl _) (.cells #[.int .i64 k, .int .i64 v, .string s] 71))
  have hl : Hid (leafB ⟨k, v, s⟩ = (emptyB s && inR k 1 14 && (if k = 1 then inR v 0 12 else valB k v))) := rfl
  have hr1 := Lib.hid (fun W => l1In_any k 1 14 W)
  have hr2 := Lib.hid (fun W => l1In_any v 0 12 W)
  have hr3 := Lib.hid (fun W => l1In_any v 0 96 W)
  have hes : (s.toList == []) = emptyB s := rfl
  obtain ⟨r, hr⟩ : ∃ r, leafB ⟨k, v, s⟩ = r := ⟨_, rfl⟩
  rw [hr] at hl ⊢
  clear hr
  cases he : emptyB s with
  | false =>
    rw [he] at hes hl
    have hrf : Hid (r = false) := by show _ = _; rw [hl.out]; rfl
    clear he
    go_enter Try.func48, Try.ntmps48
    go_wp2
    go_ret
    exact ⟨ret_bool hrf.out.symm, hB.out⟩
  | true =>
    rw [he] at hes hl
    cases hi : inR k 1 14 with
    | false =>
      rw [hi] at hr1 hl
      have hrf : Hid (r = false) := by show _ = _; rw [hl.out]; rfl
      clear he hi
      go_enter Try.func48, Try.ntmps48
      go_wp2_with (go_at_call 47; ((with_reducible refine (hr1.out _).mono ?_); rintro e w' ⟨rfl, rfl⟩))
      go_ret
      exact ⟨ret_bool hrf.out.symm, hB.out⟩
    | true =>
      rw [hi] at hr1 hl
      have hl2 : Hid (r = if k = 1 then inR v 0 12 else valB k v) := by show _ = _; rw [hl.out]; rfl
      clear hi
      by_cases h1 : k = 1
      · subst h1
        have hrf : Hid (r = inR v 0 12) := hl2.out
        go_enter Try.func48, Try.ntmps48
        go_wp2_with (first | (go_at_call 47; ((with_reducible refine (hr1.out _).mono ?_); rintro e w' ⟨rfl, rfl⟩)) | (go_at_call 47; ((with_reducible refine (hr2.out _).mono ?_); rintro e w' ⟨rfl, rfl⟩)))
        go_ret
        exact ⟨ret_bool hrf.out.symm, hB.out⟩
      · have b1 : (k == 1) = false := by simpa using h1
        by_cases h7 : k = 7 ∨ k = 13
        · have hrf : Hid (r = inR v 0 96) := by show _ = _; rw [hl2.out, if_neg h1]; unfold valB; rw [if_pos h7]
          rcases h7 with rfl | rfl
          all_goals
            go_enter Try.func48, Try.ntmps48
            go_wp2_with (first | (go_at_call 47; ((with_reducible refine (hr1.out _).mono ?_); rintro e w' ⟨rfl, rfl⟩)) | (go_at_call 47; ((with_reducible refine (hr3.out _).mono ?_); rintro e w' ⟨rfl, rfl⟩)))
            go_ret
            exact ⟨ret_bool hrf.out.symm, hB.out⟩
        · have hrf : Hid (r = (v == 0)) := by show _ = _; rw [hl2.out, if_neg h1]; unfold valB; rw [if_neg h7]
          have b7 : (k == 7) = false := by simp; omega
          have b13 : (k == 13) = false := by simp; omega
          clear h1 h7
          go_enter Try.func48, Try.ntmps48
          go_wp2_with (go_at_call 47; ((with_reducible refine (hr1.out _).mono ?_); rintro e w' ⟨rfl, rfl⟩))
          go_ret
          exact ⟨ret_bool hrf.out.symm, hB.out⟩

/-- What a leaf's typing returns. -/
def LeafOut (w : World) (ok : Bool) (p : Int × Int) (e : Ending) (w' : World) : Prop :=
  ∃ a b, e = .returned (.tuple #[.agg #[.int .i64 a, .int .i64 b], .bool ok]) ∧ (ok = true → (a, b) = p) ∧ Below w.heap.size w w'

set_option maxRecDepth 100000 in
set_option maxHeartbeats 2000000 in
theorem leafWires_any (n : NodeL) (w : World) : Calls Try.prog 59 #[.agg #[.int .i64 n.kind, .int .i64 n.value, .string n.name]] w (LeafOut w (leafB n) (leafW n)) := by
  obtain ⟨k, v, s⟩ := n
  obtain ⟨w0, hw0⟩ : ∃ W, W = (w.alloc (.cells #[.int .i64 k, .int .i64 v, .string s] 71)).alloc (.cells #[.int .i64 0, .int .i64 0] 83) := ⟨_, rfl⟩
  have hB := Lib.hid (show Below w.heap.size w w0 by rw [hw0]; exact ((Below.refl w.heap.size w).alloc (Nat.le_refl _) _).alloc (by simp) _)
  have HW := Lib.hid hw0
  have HX := Lib.hid (show (∀ W, Below w0.heap.size w0 W → W.cell? ⟨w.heap.size, 0, none⟩ = some (.int .i64 k)) ∧ (∀ W, Below w0.heap.size w0 W → W.cell? ⟨w.heap.size, 1, none⟩ = some (.int .i64 v)) ∧ (∀ W, Below w0.heap.size w0 W → W.heap[w.heap.size + 1]? = some (.cells #[.int .i64 0, .int .i64 0] 83 (0, 0))) from by
    refine ⟨fun W hW => cell_old hW (by rw [hw0]; simp [go_sem]), fun W hW => cell_old hW (by rw [hw0]; simp [go_sem]), fun W hW => block_old ?_ hW⟩
    rw [hw0]
    have := heap_alloc_new (w.alloc (.cells #[.int .i64 k, .int .i64 v, .string s] 71)) (.cells #[.int .i64 0, .int .i64 0] 83)
    simpa using this)
  have hl : Hid (leafB ⟨k, v, s⟩ = (emptyB s && inR k 1 14 && (if k = 1 then inR v 0 12 else valB k v))) := rfl
  have hlw : Hid (leafW ⟨k, v, s⟩ = if k = 1 then (v, v) else (tkI k, tkO k)) := rfl
  have hwin := Lib.hid (fun W => within_any v 0 12 W)
  have hgen := Lib.hid (fun W => isGenerator_any k W)
  have hval := Lib.hid (fun W => isGeneratorValue_any k v W)
  have hes : (s.toList == []) = emptyB s := rfl
  obtain ⟨r, hr⟩ : ∃ r, leafB ⟨k, v, s⟩ = r := ⟨_, rfl⟩
  obtain ⟨q, hq⟩ : ∃ q, leafW ⟨k, v, s⟩ = q := ⟨_, rfl⟩
  rw [hr] at hl ⊢
  rw [hq] at hlw ⊢
  clear hr hw0 hq
  cases he : emptyB s with
  | false =>
    rw [he] at hes hl
    have hrf : Hid (r = false) := by show _ = _; rw [hl.out]; rfl
    rw [hrf.out]
    clear he
    go_enter Try.func59, Try.ntmps59
    go_wp2
    refine bodyPost_ret (v := .tuple #[.agg #[.int .i64 0, .int .i64 0], .bool false]) (by simp [results, Try.results59, go_sem]) rfl ?_
    rw [← HW.out]
    exact ⟨_, _, rfl, (fun h => by cases h), hB.out⟩
  | true =>
    rw [he] at hes hl
    clear he
    by_cases h1 : k = 1
    · subst h1
      have hrf : Hid (r = inR v 0 12) := by show _ = _; rw [hl.out]; rfl
      have hqv : Hid (q = (v, v)) := by show _ = _; rw [hlw.out]; rfl
      rw [hrf.out]
      go_enter Try.func59, Try.ntmps59
      go_wp2
      have hwin2 := Lib.hid (fun W => (within_any v 0 12 W).mono fun e w' h => And.intro h.1 h.2.symm)
      rw [← HW.out]
      have x1 := HX.out.2.1 w0 (Below.refl _ _)
      go_still_tail 8, (by kernel_rfl)
      repeat still_step
      still_call (hwin2.out _)
      repeat still_step
      refine wpStill_nil ?_
      change wpList _ _ _ _ _ w0.drew
      have hblk := HX.out.2.2 w0 (Below.refl _ _)
      have y0 := (Go.Joins.cell_of_block hblk 0).trans rfl
      have y1 := (Go.Joins.cell_of_block hblk 1).trans rfl
      have f0 := Go.Joins.unfrozen_of_block hblk 0
      have f1 := Go.Joins.unfrozen_of_block hblk 1
      have HB2 := Lib.hid ((hB.out.drew.setCell (p := ⟨w.heap.size + 1, 0, none⟩) (by simp) (.int .i64 v)).setCell (p := ⟨w.heap.size + 1, 1, none⟩) (by simp) (.int .i64 v))
      clear hblk
      go_wp2
      refine bodyPost_ret (v := .tuple #[.agg #[.int .i64 v, .int .i64 v], .bool (inR v 0 12)]) (by simp [results, Try.results59, go_sem, y0, y1]) rfl ?_
      exact ⟨_, _, rfl, (fun _ => hqv.out.symm), HB2.out⟩
    · have b1 : (k == 1) = false := by simpa using h1
      by_cases h2 : k = 2
      · subst h2
        have hrf : Hid (r = (v == 0)) := by show _ = _; rw [hl.out]; rfl
        have hqv : Hid (q = (2, 2)) := by show _ = _; rw [hlw.out]; rfl
        rw [hrf.out]
        go_enter Try.func59, Try.ntmps59
        go_wp2
        rw [← HW.out]
        have x1 := HX.out.2.1 w0 (Below.refl _ _)
        have hblk := HX.out.2.2 w0 (Below.refl _ _)
        have y0 := (Go.Joins.cell_of_block hblk 0).trans rfl
        have y1 := (Go.Joins.cell_of_block hblk 1).trans rfl
        have f0 := Go.Joins.unfrozen_of_block hblk 0
        have f1 := Go.Joins.unfrozen_of_block hblk 1
        have HB2 := Lib.hid (((hB.out.setCell (p := ⟨w.heap.size + 1, 0, none⟩) (by simp) (.int .i64 2)).setCell (p := ⟨w.heap.size + 1, 1, none⟩) (by simp) (.int .i64 2)).drew)
        clear hblk
        go_region
        all_goals
          go_wp2
          refine bodyPost_ret (v := .tuple #[.agg #[.int .i64 2, .int .i64 2], .bool (v == 0)]) (by simp [results, Try.results59, go_sem, y0, y1]) rfl ?_
          exact ⟨_, _, rfl, (fun _ => hqv.out.symm), HB2.out⟩
      · have b2 : (k == 2) = false := by simpa using h2
        cases hg : inR k 3 14 with
        | false =>
          have hrf : Hid (r = false) := by
            show _ = _
            rw [hl.out]
            have : inR k 1 14 = false := by
              unfold inR at hg ⊢
              simp at hg ⊢
              omega
            rw [this]
            rfl
          rw [hrf.out]
          rw [hg] at hgen
          clear hg h1 h2
          go_enter Try.func59, Try.ntmps59
          go_wp2_with (go_at_call 68; ((with_reducible refine (hgen.out _).mono ?_); rintro e w' ⟨rfl, rfl⟩))
          refine bodyPost_ret (v := .tuple #[.agg #[.int .i64 0, .int .i64 0], .bool false]) (by simp [results, Try.results59, go_sem]) rfl ?_
          rw [← HW.out]
          exact ⟨_, _, rfl, (fun h => by cases h), hB.out⟩
        | true =>
          have hrf : Hid (r = valB k v) := by
            show _ = _
            rw [hl.out, if_neg h1]
            have : inR k 1 14 = true := by
              unfold inR at hg ⊢
              simp at hg ⊢
              omega
            rw [this]
            rfl
          have hqv : Hid (q = (tmIn k, tmOut k)) := by
            show _ = _
            rw [hlw.out, if_neg h1]
            unfold tkI tkO
            rw [if_neg h2, if_neg h2]
          have hgw := Lib.hid (fun W => generatorWires_any k hg W)
          rw [hrf.out]
          rw [hg] at hgen
          clear hg h1 h2
          obtain ⟨ti, hti⟩ : ∃ x, tmIn k = x := ⟨_, rfl⟩
          obtain ⟨to, hto⟩ : ∃ x, tmOut k = x := ⟨_, rfl⟩
          rw [hti, hto] at hqv hgw
          clear hti hto
          go_enter Try.func59, Try.ntmps59
          go_wp2_with (go_at_call 68; ((with_reducible refine (hgen.out _).mono ?_); rintro e w' ⟨rfl, rfl⟩))
          rw [← HW.out]
          have S0 := Lib.hid (And.intro (HX.out.1 w0.drew (Below.refl _ _).drew) (HX.out.2.1 w0.drew (Below.refl _ _).drew))
          go_region_held3 (fun W => W.cell? ⟨w.heap.size, 0, none⟩ = some (.int .i64 k) ∧ W.cell? ⟨w.heap.size, 1, none⟩ = some (.int .i64 v))
            (first | exact S0.out | exact S7.out | go_keep)
            (first | (go_at_call 69; (with_reducible refine (hgw.out _).mono ?_); rintro e w7 ⟨rfl, hb7⟩; have hbb := below_step (w := w0) (w1 := w0.drew) (Below.refl _ _).drew hb7; have S7 := Lib.hid (And.intro (HX.out.1 w7 hbb) (HX.out.2.1 w7 hbb)); have hblk := HX.out.2.2 w7 hbb; have y0 := (Go.Joins.cell_of_block hblk 0).trans rfl; have y1 := (Go.Joins.cell_of_block hblk 1).trans rfl; have f0 := Go.Joins.unfrozen_of_block hblk 0; have f1 := Go.Joins.unfrozen_of_block hblk 1; have HB7 := Lib.hid (hB.out.trans (hbb.mono hB.out.size)); clear hblk hbb hb7) | (go_at_call 70; ((with_reducible refine (hval.out _).mono ?_); rintro e w' ⟨rfl, rfl⟩)))
          have HB2 := Lib.hid ((HB7.out.setCell (p := ⟨w.heap.size + 1, 0, none⟩) (by simp) (.int .i64 ti)).setCell (p := ⟨w.heap.size + 1, 1, none⟩) (by simp) (.int .i64 to))
          go_wp2
          refine bodyPost_ret (v := .tuple #[.agg #[.int .i64 ti, .int .i64 to], .bool (valB k v)]) (by simp [results, Try.results59, go_sem, y0, y1]) rfl ?_
          exact ⟨_, _, rfl, (fun _ => hqv.out.symm), HB2.out⟩

end Ints
end Go.Proofs.Ytoegbphkheohoaa
