/- Is it an edge? Both sides. -/
import Derived.Test.YtapgfgbpcpdnlaaEdges
import Derived.Test.YtapgfgbpcpdnlaaPred
import Derived.Test.YtapgfgbpcpdnlaaGenW
import Derived.Deep.RegionLaw
import Derived.Deep.RegionHeld3
import Derived.Laws.StructEq
namespace Go.Proofs.Ytapgfgbpcpdnlaa
open Go.RowKit
namespace Ints
open Fld (inR l1In_any)

set_option maxHeartbeats 400000 in
theorem isGenerator_any (k : Int) (w : World) : Calls Try.prog 35 #[.int .i64 k] w fun e w' => e = .returned (.bool (inR k 3 14)) ∧ w = w' := by
  have hc := Lib.hid (fun W => within_any k 3 14 W)
  go_enter Try.func35, Try.ntmps35
  go_wp2_with (go_at_call 29; ((with_reducible refine (hc.out _).mono ?_); rintro e w' ⟨rfl, rfl⟩))
  go_ret
  exact ⟨rfl, rfl⟩

set_option maxHeartbeats 400000 in
theorem hasValue_any (k : Int) (w : World) : Calls Try.prog 38 #[.int .i64 k] w fun e w' => e = .returned (.bool (decide (k = 7 ∨ k = 13))) ∧ w = w' := by
  by_cases h7 : k = 7
  · subst h7
    go_enter Try.func38, Try.ntmps38
    go_wp2
    go_ret
    exact ⟨rfl, rfl⟩
  · have b7 : (k == 7) = false := by simpa using h7
    have e : decide (k = 7 ∨ k = 13) = (k == 13) := by rw [Bool.eq_iff_iff]; simp [h7]
    rw [e]
    clear e h7
    go_enter Try.func38, Try.ntmps38
    go_wp2
    go_ret
    exact ⟨rfl, rfl⟩

set_option maxHeartbeats 400000 in
theorem isGeneratorValue_any (k v : Int) (w : World) : Calls Try.prog 36 #[.int .i64 k, .int .i64 v] w fun e w' => e = .returned (.bool (valB k v)) ∧ w = w' := by
  have hv := Lib.hid (fun W => hasValue_any k W)
  have hc := Lib.hid (fun W => within_any v 0 96 W)
  by_cases h : k = 7 ∨ k = 13
  · have e : valB k v = inR v 0 96 := by simp [valB, h]
    have e2 : decide (k = 7 ∨ k = 13) = true := by simpa using h
    rw [e]
    rw [e2] at hv
    clear e e2 h
    go_enter Try.func36, Try.ntmps36
    go_wp2_with (first | (go_at_call 38; ((with_reducible refine (hv.out _).mono ?_); rintro e w' ⟨rfl, rfl⟩)) | (go_at_call 29; ((with_reducible refine (hc.out _).mono ?_); rintro e w' ⟨rfl, rfl⟩)))
    go_ret
    exact ⟨rfl, rfl⟩
  · have e : valB k v = (v == 0) := by simp [valB, h]
    have e2 : decide (k = 7 ∨ k = 13) = false := by simpa using h
    rw [e]
    rw [e2] at hv
    clear e e2 h
    go_enter Try.func36, Try.ntmps36
    go_wp2_with (first | (go_at_call 38; ((with_reducible refine (hv.out _).mono ?_); rintro e w' ⟨rfl, rfl⟩)) | (go_at_call 29; ((with_reducible refine (hc.out _).mono ?_); rintro e w' ⟨rfl, rfl⟩)))
    go_ret
    exact ⟨rfl, rfl⟩

theorem eqWires (a b c d : Int) (w : World) : (Op.equalIn 10000 67 (.agg #[.int .i64 a, .int .i64 b]) (.agg #[.int .i64 c, .int .i64 d])).run Try.prog w = .ok (a == c && b == d) w := by
  have u3 := Try.underlying3
  have a3 := Try.isAgg3
  have z3 := Try.sizeOf3
  have hS : Try.prog.underlying 67 = some (.struct (Try.prog.fieldsOf 67)) := by kernel_rfl
  rw [show (10000 : Nat) = 9999 + 1 from rfl, run_equalIn_agg w 9999 67 _ _ hS (by kernel_rfl)]
  simp only [Program.fieldsOf, Try.underlying67]
  go_simp
  by_cases h1 : a = c <;> by_cases h2 : b = d <;> simp [h1, h2]

set_option maxHeartbeats 1000000 in
theorem tmLeaf_any (k v : Int) (hk : inR k 3 14 = true) (w : World) : Calls Try.prog 27 #[.agg #[.int .i64 k, .int .i64 v, .string ⟨#[]⟩]] w fun e w' => e = .returned (.bool (valB k v)) ∧ Below w.heap.size w w' := by
  have h1 := Lib.hid (fun W => l1In_any k 1 14 W)
  have h2 := Lib.hid (fun W => l1In_any v 0 96 W)
  have e1 : inR k 1 14 = true := by unfold inR at hk ⊢; simp at hk ⊢; omega
  have k1 : (k == 1) = false := by unfold inR at hk; simp at hk ⊢; omega
  rw [e1] at h1
  have hB := Lib.hid ((Below.refl w.heap.size w).alloc (Nat.le_refl _) (.cells #[.int .i64 k, .int .i64 v, .string ⟨#[]⟩] 56))
  clear hk e1
  by_cases h7 : k = 7
  · subst h7
    have e : valB 7 v = inR v 0 96 := by simp [valB]
    rw [e]
    clear e
    go_enter Try.func27, Try.ntmps27
    go_wp2_with (first | (go_at_call 19; ((with_reducible refine (h1.out _).mono ?_); rintro e w' ⟨rfl, rfl⟩)) | (go_at_call 19; ((with_reducible refine (h2.out _).mono ?_); rintro e w' ⟨rfl, rfl⟩)))
    go_ret
    exact ⟨rfl, hB.out⟩
  · have k7 : (k == 7) = false := by simpa using h7
    by_cases h13 : k = 13
    · subst h13
      have e : valB 13 v = inR v 0 96 := by simp [valB]
      rw [e]
      clear e
      go_enter Try.func27, Try.ntmps27
      go_wp2_with (first | (go_at_call 19; ((with_reducible refine (h1.out _).mono ?_); rintro e w' ⟨rfl, rfl⟩)) | (go_at_call 19; ((with_reducible refine (h2.out _).mono ?_); rintro e w' ⟨rfl, rfl⟩)))
      go_ret
      exact ⟨rfl, hB.out⟩
    · have k13 : (k == 13) = false := by simpa using h13
      have e : valB k v = (v == 0) := by simp [valB, h7, h13]
      rw [e]
      clear e h7 h13
      go_enter Try.func27, Try.ntmps27
      go_wp2_with (first | (go_at_call 19; ((with_reducible refine (h1.out _).mono ?_); rintro e w' ⟨rfl, rfl⟩)) | (go_at_call 19; ((with_reducible refine (h2.out _).mono ?_); rintro e w' ⟨rfl, rfl⟩)))
      go_ret
      exact ⟨rfl, hB.out⟩

set_option maxHeartbeats 2000000 in
theorem isEdge_any (ek ev : Int) (v1 v2 : Value) (L : List Int × List Int) (w : World) (h : ReadsP w v1 v2 L) :
    Calls Try.prog 30 #[.agg #[.int .i64 ek, .int .i64 ev, v1, v2]] w fun e w' => e = .returned (.bool (edgeB ek ev L.1.length L.2.length)) ∧ Below w.heap.size w w' := by
  obtain ⟨a, c, a', c', rfl, rfl⟩ := h.form
  obtain ⟨n1, hn1⟩ : ∃ n, L.1.length = n := ⟨_, rfl⟩
  obtain ⟨n2, hn2⟩ : ∃ n, L.2.length = n := ⟨_, rfl⟩
  rw [hn1, hn2]
  clear hn1 hn2 h L
  have hB := Lib.hid ((Below.refl w.heap.size w).alloc (Nat.le_refl _) (.cells #[.int .i64 ek, .int .i64 ev, .slice a n1 c, .slice a' n2 c'] 46))
  have hg := Lib.hid (fun W => isGenerator_any ek W)
  have hv := Lib.hid (fun W => isGeneratorValue_any ek ev W)
  by_cases hk : inR ek 3 14 = true
  · rw [hk] at hg
    by_cases hvv : valB ek ev = true
    · rw [hvv] at hv
      obtain ⟨w0, hw0⟩ : ∃ W, W = w.alloc (.cells #[.int .i64 ek, .int .i64 ev, .slice a n1 c, .slice a' n2 c'] 46) := ⟨_, rfl⟩
      have hw := Lib.hid (fun W => generatorWires_any ek hk W)
      have e : edgeB ek ev n1 n2 = (((n1 : Int) == tmIn ek) && ((n2 : Int) == tmOut ek)) := by simp [edgeB, hk, hvv]
      have hr : edgeB ek ev n1 n2 = ((tmIn ek == (n1 : Int)) && (tmOut ek == (n2 : Int))) := by
        rw [e, Bool.eq_iff_iff]
        simp only [Bool.and_eq_true, beq_iff_eq]
        exact ⟨fun h => ⟨h.1.symm, h.2.symm⟩, fun h => ⟨h.1.symm, h.2.symm⟩⟩
      rw [hr]
      obtain ⟨g1, hg1⟩ : ∃ g, tmIn ek = g := ⟨_, rfl⟩
      obtain ⟨g2, hg2⟩ : ∃ g, tmOut ek = g := ⟨_, rfl⟩
      rw [hg1, hg2] at hw ⊢
      have x0 : ∀ W, Below w0.heap.size w0 W → W.cell? ⟨w.heap.size, 0, none⟩ = some (.int .i64 ek) := fun W hW => cell_old hW (by rw [hw0]; simp [go_sem])
      have x2 : ∀ W, Below w0.heap.size w0 W → W.cell? ⟨w.heap.size, 2, none⟩ = some (.slice a n1 c) := fun W hW => cell_old hW (by rw [hw0]; simp [go_sem])
      have x3 : ∀ W, Below w0.heap.size w0 W → W.cell? ⟨w.heap.size, 3, none⟩ = some (.slice a' n2 c') := fun W hW => cell_old hW (by rw [hw0]; simp [go_sem])
      have HX := Lib.hid (And.intro x0 (And.intro x2 x3))
      have HW := Lib.hid hw0
      have HB0 := Lib.hid (show Below w.heap.size w w0 by rw [hw0]; exact (Below.refl w.heap.size w).alloc (Nat.le_refl _) _)
      clear hw0 x0 x2 x3 hr e hg1 hg2 hk hvv hB
      have heq := fun W => eqWires g1 g2 (n1 : Int) (n2 : Int) W
      go_enter Try.func30, Try.ntmps30
      go_wp2_with (first | (go_at_call 35; ((with_reducible refine (hg.out _).mono ?_); rintro e w' ⟨rfl, rfl⟩)) | (go_at_call 36; ((with_reducible refine (hv.out _).mono ?_); rintro e w' ⟨rfl, rfl⟩)))
      rw [← HW.out]
      have x0 := HX.out.1
      have x2 := HX.out.2.1
      have x3 := HX.out.2.2
      go_region_held3 (fun W => Below w0.heap.size w0 W)
        (first | exact (Below.refl _ _).drew | exact below_step (by assumption) hb7)
        (first | (go_at_call 37; (with_reducible refine (hw.out _).mono ?_); rintro e w7 ⟨rfl, hb7⟩))
      have hb : Below w0.heap.size w0 w7 := by assumption
      go_wp2
      go_ret
      exact ⟨rfl, HB0.out.trans (hb.mono HB0.out.size)⟩
    · have hvf : valB ek ev = false := by simpa using hvv
      have e : edgeB ek ev n1 n2 = false := by simp [edgeB, hvf]
      rw [hvf] at hv
      rw [e]
      clear e hvf hvv hk
      go_enter Try.func30, Try.ntmps30
      go_wp2_with (first | (go_at_call 35; ((with_reducible refine (hg.out _).mono ?_); rintro e w' ⟨rfl, rfl⟩)) | (go_at_call 36; ((with_reducible refine (hv.out _).mono ?_); rintro e w' ⟨rfl, rfl⟩)))
      go_ret
      exact ⟨rfl, hB.out⟩
  · have hkf : inR ek 3 14 = false := by simpa using hk
    have e : edgeB ek ev n1 n2 = false := by simp [edgeB, hkf]
    rw [hkf] at hg
    rw [e]
    clear e hkf hk hv
    go_enter Try.func30, Try.ntmps30
    go_wp2_with (go_at_call 35; ((with_reducible refine (hg.out _).mono ?_); rintro e w' ⟨rfl, rfl⟩))
    go_ret
    exact ⟨rfl, hB.out⟩

/-- The reference's: the lists' wires too. -/
def edgeR (c : Int) (l1 l2 : List Int) : Bool := (l1.all fun a => inR a 0 (c - 1)) && (l2.all fun a => inR a 0 (c - 1))

set_option maxHeartbeats 2000000 in
theorem hgEdge_any (ek ev c0 : Int) (hc0 : 0 ≤ c0) (hc1 : c0 ≤ 100) (v1 v2 : Value) (L : List Int × List Int) (w : World) (h : ReadsP w v1 v2 L) :
    Calls Try.prog 21 #[.agg #[.int .i64 ek, .int .i64 ev, v1, v2], .int .i64 c0] w fun e w' => e = .returned (.bool (edgeB ek ev L.1.length L.2.length && edgeR c0 L.1 L.2)) ∧ Below w.heap.size w w' := by
  obtain ⟨w0, hw0⟩ : ∃ W, W = w.alloc (.cells #[.int .i64 ek, .int .i64 ev, v1, v2] 46) := ⟨_, rfl⟩
  have hB : Below w.heap.size w w0 := by rw [hw0]; exact (Below.refl w.heap.size w).alloc (Nat.le_refl _) _
  have hall1 := Lib.hid (fun W (hW : Below w.heap.size w W) => l1All_any v1 L.1.length L.1 0 (c0 - 1) W (h.1.below hW))
  have hall2 := Lib.hid (fun W (hW : Below w.heap.size w W) => l1All_any v2 L.2.length L.2 0 (c0 - 1) W (h.2.below hW))
  obtain ⟨a, c, a', c', rfl, rfl⟩ := h.form
  have hwr : IntKind.i64.wrap (c0 - 1) = c0 - 1 := IntWalk.i64_in _ (by omega)
  have hg := Lib.hid (fun W => l1In_any ek 3 14 W)
  unfold edgeR
  obtain ⟨r1, hr1⟩ : ∃ r, (L.1.all fun a => inR a 0 (c0 - 1)) = r := ⟨_, rfl⟩
  obtain ⟨r2, hr2⟩ : ∃ r, (L.2.all fun a => inR a 0 (c0 - 1)) = r := ⟨_, rfl⟩
  obtain ⟨n1, hn1⟩ : ∃ n, L.1.length = n := ⟨_, rfl⟩
  obtain ⟨n2, hn2⟩ : ∃ n, L.2.length = n := ⟨_, rfl⟩
  rw [hr1, hn1] at hall1
  rw [hr2, hn2] at hall2
  rw [hr1, hr2, hn1, hn2]
  rw [hn1, hn2] at hw0
  have HW := Lib.hid hw0
  have HB := Lib.hid hB
  have hX : Hid (∀ W, Below w0.heap.size w0 W → W.cell? ⟨w.heap.size, 0, none⟩ = some (.int .i64 ek) ∧ W.cell? ⟨w.heap.size, 2, none⟩ = some (.slice a n1 c) ∧ W.cell? ⟨w.heap.size, 3, none⟩ = some (.slice a' n2 c')) :=
    fun W hW => ⟨cell_old hW (by rw [hw0]; simp [go_sem]), cell_old hW (by rw [hw0]; simp [go_sem]), cell_old hW (by rw [hw0]; simp [go_sem])⟩
  clear hn1 hn2 h hr1 hr2 hw0 hB L
  by_cases hk : inR ek 3 14 = true
  · rw [hk] at hg
    have htl := Lib.hid (fun W => tmLeaf_any ek ev hk W)
    by_cases hvv : valB ek ev = true
    · rw [hvv] at htl
      have htk := Lib.hid (fun W => tmKind_any ek hk W)
      obtain ⟨g1, hg1⟩ : ∃ g, tmIn ek = g := ⟨_, rfl⟩
      obtain ⟨g2, hg2⟩ : ∃ g, tmOut ek = g := ⟨_, rfl⟩
      have e : edgeB ek ev n1 n2 = (((n1 : Int) == g1) && ((n2 : Int) == g2)) := by simp [edgeB, hk, hvv, hg1, hg2]
      rw [e]
      rw [hg1, hg2] at htk
      clear e hg1 hg2 hk hvv
      obtain ⟨b1, hb1⟩ : ∃ b, ((n1 : Int) == g1) = b := ⟨_, rfl⟩
      obtain ⟨b2, hb2⟩ : ∃ b, ((n2 : Int) == g2) = b := ⟨_, rfl⟩
      rw [hb1, hb2]
      cases b1 <;> cases b2 <;> cases r1
      all_goals
        go_enter Try.func21, Try.ntmps21
        go_wp2_with (first | (go_at_call 19; ((with_reducible refine (hg.out _).mono ?_); rintro e w' ⟨rfl, rfl⟩)) | fail)
        rw [← HW.out]
        refine (htl.out _).mono ?_
        rintro e w1 ⟨rfl, hq⟩
        obtain ⟨x0, x2, x3⟩ := hX.out w1 hq
        have HQ := Lib.hid (HB.out.trans (hq.mono HB.out.size))
        clear hq
        go_wp2_with (first | (go_at_call 28; ((with_reducible refine (htk.out _).mono ?_); rintro e w' ⟨rfl, rfl⟩)) | (go_at_call 20; ((with_reducible refine (hall1.out _ HQ.out).mono ?_); rintro e w' ⟨rfl, rfl⟩)) | (go_at_call 20; ((with_reducible refine (hall2.out _ HQ.out).mono ?_); rintro e w' ⟨rfl, rfl⟩)))
        go_ret
        exact ⟨by simp, HQ.out⟩
    · have hvf : valB ek ev = false := by simpa using hvv
      have e : edgeB ek ev n1 n2 = false := by simp [edgeB, hvf]
      rw [hvf] at htl
      rw [e]
      clear e hvf hvv hk
      go_enter Try.func21, Try.ntmps21
      go_wp2_with (first | (go_at_call 19; ((with_reducible refine (hg.out _).mono ?_); rintro e w' ⟨rfl, rfl⟩)) | fail)
      rw [← HW.out]
      refine (htl.out _).mono ?_
      rintro e w1 ⟨rfl, hq⟩
      have HQ := Lib.hid (HB.out.trans (hq.mono HB.out.size))
      clear hq
      go_wp2
      go_ret
      exact ⟨rfl, HQ.out⟩
  · have hkf : inR ek 3 14 = false := by simpa using hk
    have e : edgeB ek ev n1 n2 = false := by simp [edgeB, hkf]
    rw [hkf] at hg
    rw [e]
    clear e hkf hk
    go_enter Try.func21, Try.ntmps21
    go_wp2_with (first | (go_at_call 19; ((with_reducible refine (hg.out _).mono ?_); rintro e w' ⟨rfl, rfl⟩)) | fail)
    rw [← HW.out]
    go_ret
    exact ⟨rfl, HB.out⟩

end Ints
end Go.Proofs.Ytapgfgbpcpdnlaa
