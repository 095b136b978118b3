/- Is it a graph over a field? Both. (Printed by wip/gen_igf.py.) -/
import Derived.Test.YtapgfgbpcpdnlaaDoorValidS
namespace Go.Proofs.YtapgfgbpcpdnlaaDoor
open Go.RowKit
namespace Ints
open Fld (inR goodB good_bounds fdGood_any isField_any tab_alloc)

def overB (p : Int) (es : List EdgeL) : Bool := es.all fun e => !decide (p ≤ e.value)
def igB (p c : Int) (L : GraphL) : Bool := goodB p && graphB c L && overB p L.edges
theorem overB_succ (p : Int) (es : List EdgeL) (k : Nat) (h : k < es.length) : overB p (es.take (k + 1)) = (overB p (es.take k) && !decide (p ≤ (eAt es k).value)) := by
  unfold overB
  rw [take_oneE es k h]
  simp
theorem overB_not (p : Int) (es : List EdgeL) (k : Nat) (h : k < es.length) (hb : decide (p ≤ (eAt es k).value) = true) : overB p es = false := by
  unfold overB
  rw [List.all_eq_false]
  refine ⟨eAt es k, ?_, by rw [hb]; simp⟩
  rw [eAt_eq es k h]
  exact List.getElem_mem h
theorem over_kind {p c : Int} {L : GraphL} (hp : 2 ≤ p) (hg : graphB c L = true) (k : Nat) (h : k < L.edges.length) (hb : decide (p ≤ (eAt L.edges k).value) = true) : decide ((eAt L.edges k).kind = 7 ∨ (eAt L.edges k).kind = 13) = true := by
  unfold graphB at hg
  simp only [Bool.and_eq_true] at hg
  have he := hg.1.1.2
  unfold edgesB at he
  rw [List.all_eq_true] at he
  have h1 := he (eAt L.edges k) (by rw [eAt_eq _ k h]; exact List.getElem_mem h)
  unfold edgeB valB at h1
  simp only [Bool.and_eq_true] at h1
  have h2 := h1.1.1.2
  simp only [decide_eq_true_eq] at hb ⊢
  by_cases hk : (eAt L.edges k).kind = 7 ∨ (eAt L.edges k).kind = 13
  · exact hk
  · rw [if_neg hk, beq_iff_eq] at h2
    omega

set_option maxRecDepth 100000 in
set_option maxHeartbeats 2000000 in
theorem hgGood_any (p c : Int) (v1 v2 v3 : Value) (L : GraphL) (w : World) (h : ReadsG w v1 v2 v3 L) (hT : totG L ≤ 1048576) :
    Calls Tryd.prog 11 #[.int .i64 p, .agg #[.int .i64 c, v1, v2, v3]] w fun e w' => e = .returned (.bool (igB p c L)) ∧ Below w.heap.size w w' := by
  obtain ⟨w0, hw0⟩ : ∃ W, W = w.alloc (.cells #[.int .i64 c, v1, v2, v3] 30) := ⟨_, rfl⟩
  have hB : Below w.heap.size w w0 := by rw [hw0]; exact (Below.refl _ _).alloc (Nat.le_refl _) _
  obtain ⟨a, cap, rfl, hm, hE⟩ := open_readsE h.1
  obtain ⟨a', c', e'⟩ := h.2.1.form
  obtain ⟨a'', c'', e''⟩ := h.2.2.form
  subst e' e''
  have hX : Hid (∀ W, Below w0.heap.size w0 W → W.cell? ⟨w.heap.size, 0, none⟩ = some (.int .i64 c) ∧ W.cell? ⟨w.heap.size, 1, none⟩ = some (.slice a L.edges.length cap) ∧ W.cell? ⟨w.heap.size, 2, none⟩ = some (.slice a' L.ins.length c') ∧ W.cell? ⟨w.heap.size, 3, none⟩ = some (.slice a'' L.outs.length c'')) :=
    fun W hW => ⟨cell_old hW (by rw [hw0]; simp [go_sem]), cell_old hW (by rw [hw0]; simp [go_sem]), cell_old hW (by rw [hw0]; simp [go_sem]), cell_old hW (by rw [hw0]; simp [go_sem])⟩
  have hv := Lib.hid (fun W (hW : ReadsG W (.slice a L.edges.length cap) (.slice a' L.ins.length c') (.slice a'' L.outs.length c'') L) => hgValid_any c _ _ _ L W hW hT)
  have hgd := Lib.hid (fun W => fdGood_any p W)
  
  have HR := Lib.hid h
  have HEE := Lib.hid hE
  have HB := Lib.hid hB
  have HW := Lib.hid hw0
  clear h hE hB hw0 hT
  obtain ⟨r, hr⟩ : ∃ r, igB p c L = r := ⟨_, rfl⟩
  rw [hr]
  have HRR := Lib.hid hr
  clear hr
  cases hg : goodB p with
  | false =>
    have hrf : Hid (r = false) := by show _ = _; rw [← HRR.out]; simp [igB, hg]
    rw [hg] at hgd
    clear hg HRR
    go_enter Tryd.func11, Tryd.ntmps11
    go_wp2_with (go_at_call 18; ((with_reducible refine (hgd.out _).mono ?_); rintro e w' ⟨rfl, rfl⟩))
    rw [← HW.out]
    go_ret
    exact ⟨ret_bool hrf.out.symm, HB.out⟩
  | true =>
    have hp2 := (good_bounds hg).1
    rw [hg] at hgd
    cases hgr : graphB c L with
    | false =>
      have hrf : Hid (r = false) := by show _ = _; rw [← HRR.out]; simp [igB, hgr]
      rw [hgr] at hv
      clear hg hgr HRR
      go_enter Tryd.func11, Tryd.ntmps11
      go_wp2_with (first | (go_at_call 18; ((with_reducible refine (hgd.out _).mono ?_); rintro e w' ⟨rfl, rfl⟩)) | fail)
      rw [← HW.out]
      refine (hv.out w0 (HR.out.below HB.out)).mono ?_
      rintro e w1 ⟨rfl, q1⟩
      have Q1 := Lib.hid (HB.out.trans (q1.mono HB.out.size))
      clear q1
      go_wp2
      go_ret
      exact ⟨ret_bool hrf.out.symm, Q1.out⟩
    | true =>
      have hro : Hid (overB p L.edges = r) := by show _ = _; rw [← HRR.out]; simp [igB, hgr, hg]
      have HK := Lib.hid (fun k => over_kind hp2 hgr k)
      rw [hgr] at hv
      obtain ⟨n, hn⟩ : ∃ n, L.edges.length = n := ⟨_, rfl⟩
      have HN := Lib.hid hn
      rw [hn] at hm HW hv hX HR HEE HK ⊢
      clear hg hgr HRR hn hp2
      go_enter Tryd.func11, Tryd.ntmps11
      go_wp2_with (first | (go_at_call 18; ((with_reducible refine (hgd.out _).mono ?_); rintro e w' ⟨rfl, rfl⟩)) | fail)
      rw [← HW.out]
      refine (hv.out w0 (HR.out.below HB.out)).mono ?_
      rintro e w1 ⟨rfl, q1⟩
      obtain ⟨x0, x1, x2, x3⟩ := hX.out w1 q1
      have Q1 := Lib.hid q1
      clear q1
      go_wp2
      go_loopw [18, 6] (fun i q wr => ∃ k : Nat, k ≤ n ∧ i = .int .i64 k ∧ Hid (overB p (L.edges.take k) = true ∧ Below w0.heap.size w0 wr)) (fun i _ _ => n + 1 - (intOf i).toNat)
      case atStart => exact ⟨0, by omega, rfl, Lib.hid ⟨by simp [overB], Q1.out⟩⟩
      case round =>
        obtain ⟨k, hk, rfl, H⟩ := hrel
        by_cases hlt : k < n
        · obtain ⟨g, off, a1, c1, a2, c2, rfl, hgg, hEk⟩ := HEE.out k hlt
          have hbk : Below w.heap.size w wr := HB.out.trans (H.out.2.mono HB.out.size)
          obtain ⟨y0, y1, y2, y3, -, -⟩ := hEk.below hbk
          have hk0 : 0 ≤ (k : Int) := by omega
          have hkn : (k : Int) < (n : Int) := by omega
          have htk := Lib.hid (overB_succ p L.edges k (by rw [HN.out]; exact hlt))
          have hno := Lib.hid (overB_not p L.edges k (by rw [HN.out]; exact hlt))
          have hkd := Lib.hid (HK.out k hlt)
          have hbo := Lib.hid (H.out.2.alloc H.out.2.size (.cells #[.int .i64 (eAt L.edges k).kind, .int .i64 (eAt L.edges k).value, .slice a1 (eAt L.edges k).ins.length c1, .slice a2 (eAt L.edges k).outs.length c2] 45))
          obtain ⟨kd, hkk⟩ : ∃ z, (eAt L.edges k).kind = z := ⟨_, rfl⟩
          obtain ⟨vl, hvv⟩ : ∃ z, (eAt L.edges k).value = z := ⟨_, rfl⟩
          rw [hkk] at y0 hbo hkd
          rw [hvv] at y1 hbo htk hno hkd
          clear hEk hbk hkk hvv
          cases hge : decide (p ≤ vl) with
          | true =>
            have hrf := Lib.hid (hro.out.symm.trans (hno.out hge))
            
            have hfin := Lib.hid (HB.out.trans (hbo.out.mono HB.out.size))
            go_wp2
            go_ret
            exact ⟨ret_bool hrf.out.symm, hfin.out⟩
          | false =>
            have htk2 : Hid (overB p (L.edges.take (k + 1)) = true) := by
              show _ = _
              rw [htk.out, H.out.1, hge]
              rfl
            go_wp2
            go_roundw
            case rel => exact ⟨k + 1, by omega, by go_num, Lib.hid ⟨htk2.out, hbo.out⟩⟩
            case measure => simp [intOf]; omega
        · obtain rfl : k = n := by omega
          have hz := H.out.1
          rw [← HN.out, List.take_length] at hz
          have hrt := Lib.hid (hro.out.symm.trans hz)
          have hfin := Lib.hid (HB.out.trans (H.out.2.mono HB.out.size))
          clear hz
          go_wp2
          go_ret
          exact ⟨ret_bool hrt.out.symm, hfin.out⟩

set_option maxRecDepth 100000 in
set_option maxHeartbeats 2000000 in
theorem isGraphOver_any (p c : Int) (v1 v2 v3 : Value) (L : GraphL) (w : World) (ht : Tab w) (h : ReadsG w v1 v2 v3 L) :
    Calls Tryd.prog 14 #[.int .i64 p, .agg #[.int .i64 c, v1, v2, v3]] w fun e w' => e = .returned (.bool (igB p c L)) ∧ Below w.heap.size w w' := by
  obtain ⟨w0, hw0⟩ : ∃ W, W = w.alloc (.cells #[.int .i64 c, v1, v2, v3] 30) := ⟨_, rfl⟩
  have hB : Below w.heap.size w w0 := by rw [hw0]; exact (Below.refl _ _).alloc (Nat.le_refl _) _
  obtain ⟨a, cap, rfl, hm, hE⟩ := open_readsE h.1
  obtain ⟨a', c', e'⟩ := h.2.1.form
  obtain ⟨a'', c'', e''⟩ := h.2.2.form
  subst e' e''
  have hX : Hid (∀ W, Below w0.heap.size w0 W → W.cell? ⟨w.heap.size, 0, none⟩ = some (.int .i64 c) ∧ W.cell? ⟨w.heap.size, 1, none⟩ = some (.slice a L.edges.length cap) ∧ W.cell? ⟨w.heap.size, 2, none⟩ = some (.slice a' L.ins.length c') ∧ W.cell? ⟨w.heap.size, 3, none⟩ = some (.slice a'' L.outs.length c'')) :=
    fun W hW => ⟨cell_old hW (by rw [hw0]; simp [go_sem]), cell_old hW (by rw [hw0]; simp [go_sem]), cell_old hW (by rw [hw0]; simp [go_sem]), cell_old hW (by rw [hw0]; simp [go_sem])⟩
  have hv := Lib.hid (fun W (hW : ReadsG W (.slice a L.edges.length cap) (.slice a' L.ins.length c') (.slice a'' L.outs.length c'') L) => isGraph_any c _ _ _ L W hW)
  have hgd := Lib.hid (fun W (hW : Tab W) => isField_any p W hW)
  have HT := Lib.hid (tab_alloc ht (.cells #[.int .i64 c, .slice a L.edges.length cap, .slice a' L.ins.length c', .slice a'' L.outs.length c''] 30))
  have HR := Lib.hid h
  have HEE := Lib.hid hE
  have HB := Lib.hid hB
  have HW := Lib.hid hw0
  clear h hE hB hw0 ht
  obtain ⟨r, hr⟩ : ∃ r, igB p c L = r := ⟨_, rfl⟩
  rw [hr]
  have HRR := Lib.hid hr
  clear hr
  cases hg : goodB p with
  | false =>
    have hrf : Hid (r = false) := by show _ = _; rw [← HRR.out]; simp [igB, hg]
    rw [hg] at hgd
    clear hg HRR
    go_enter Tryd.func14, Tryd.ntmps14
    go_wp2_with (go_at_call 21; ((with_reducible refine (hgd.out _ HT.out).mono ?_); rintro e w' ⟨rfl, rfl⟩))
    rw [← HW.out]
    go_ret
    exact ⟨ret_bool hrf.out.symm, HB.out⟩
  | true =>
    have hp2 := (good_bounds hg).1
    rw [hg] at hgd
    cases hgr : graphB c L with
    | false =>
      have hrf : Hid (r = false) := by show _ = _; rw [← HRR.out]; simp [igB, hgr]
      rw [hgr] at hv
      clear hg hgr HRR
      go_enter Tryd.func14, Tryd.ntmps14
      go_wp2_with (first | (go_at_call 21; ((with_reducible refine (hgd.out _ HT.out).mono ?_); rintro e w' ⟨rfl, rfl⟩)) | fail)
      rw [← HW.out]
      refine (hv.out w0 (HR.out.below HB.out)).mono ?_
      rintro e w1 ⟨rfl, q1⟩
      have Q1 := Lib.hid (HB.out.trans (q1.mono HB.out.size))
      clear q1
      go_wp2
      go_ret
      exact ⟨ret_bool hrf.out.symm, Q1.out⟩
    | true =>
      have hro : Hid (overB p L.edges = r) := by show _ = _; rw [← HRR.out]; simp [igB, hgr, hg]
      have HK := Lib.hid (fun k => over_kind hp2 hgr k)
      rw [hgr] at hv
      obtain ⟨n, hn⟩ : ∃ n, L.edges.length = n := ⟨_, rfl⟩
      have HN := Lib.hid hn
      rw [hn] at hm HW hv hX HR HEE HK HT ⊢
      clear hg hgr HRR hn hp2
      go_enter Tryd.func14, Tryd.ntmps14
      go_wp2_with (first | (go_at_call 21; ((with_reducible refine (hgd.out _ HT.out).mono ?_); rintro e w' ⟨rfl, rfl⟩)) | fail)
      rw [← HW.out]
      refine (hv.out w0 (HR.out.below HB.out)).mono ?_
      rintro e w1 ⟨rfl, q1⟩
      obtain ⟨x0, x1, x2, x3⟩ := hX.out w1 q1
      have Q1 := Lib.hid q1
      clear q1
      go_wp2
      go_loopw [18, 6] (fun i q wr => ∃ k : Nat, k ≤ n ∧ i = .int .i64 k ∧ Hid (overB p (L.edges.take k) = true ∧ Below w0.heap.size w0 wr)) (fun i _ _ => n + 1 - (intOf i).toNat)
      case atStart => exact ⟨0, by omega, rfl, Lib.hid ⟨by simp [overB], Q1.out⟩⟩
      case round =>
        obtain ⟨k, hk, rfl, H⟩ := hrel
        by_cases hlt : k < n
        · obtain ⟨g, off, a1, c1, a2, c2, rfl, hgg, hEk⟩ := HEE.out k hlt
          have hbk : Below w.heap.size w wr := HB.out.trans (H.out.2.mono HB.out.size)
          obtain ⟨y0, y1, y2, y3, -, -⟩ := hEk.below hbk
          have hk0 : 0 ≤ (k : Int) := by omega
          have hkn : (k : Int) < (n : Int) := by omega
          have htk := Lib.hid (overB_succ p L.edges k (by rw [HN.out]; exact hlt))
          have hno := Lib.hid (overB_not p L.edges k (by rw [HN.out]; exact hlt))
          have hkd := Lib.hid (HK.out k hlt)
          have hhv := Lib.hid (fun W => hasValue_any (eAt L.edges k).kind W)
          have hbo := Lib.hid (H.out.2.alloc H.out.2.size (.cells #[.int .i64 (eAt L.edges k).kind, .int .i64 (eAt L.edges k).value, .slice a1 (eAt L.edges k).ins.length c1, .slice a2 (eAt L.edges k).outs.length c2] 45))
          obtain ⟨kd, hkk⟩ : ∃ z, (eAt L.edges k).kind = z := ⟨_, rfl⟩
          obtain ⟨vl, hvv⟩ : ∃ z, (eAt L.edges k).value = z := ⟨_, rfl⟩
          rw [hkk] at y0 hbo hkd hhv
          rw [hvv] at y1 hbo htk hno hkd
          clear hEk hbk hkk hvv
          cases hge : decide (p ≤ vl) with
          | true =>
            have hrf := Lib.hid (hro.out.symm.trans (hno.out hge))
            rw [hkd.out hge] at hhv
            have hfin := Lib.hid (HB.out.trans (hbo.out.mono HB.out.size))
            go_wp2_with (go_at_call 23; ((with_reducible refine (hhv.out _).mono ?_); rintro e w' ⟨rfl, rfl⟩))
            go_ret
            exact ⟨ret_bool hrf.out.symm, hfin.out⟩
          | false =>
            have htk2 : Hid (overB p (L.edges.take (k + 1)) = true) := by
              show _ = _
              rw [htk.out, H.out.1, hge]
              rfl
            cases hh : decide (kd = 7 ∨ kd = 13) with
            | true =>
              rw [hh] at hhv
              go_wp2_with (go_at_call 23; ((with_reducible refine (hhv.out _).mono ?_); rintro e w' ⟨rfl, rfl⟩))
              go_roundw
              case rel => exact ⟨k + 1, by omega, by go_num, Lib.hid ⟨htk2.out, hbo.out⟩⟩
              case measure => simp [intOf]; omega
            | false =>
              rw [hh] at hhv
              go_wp2_with (go_at_call 23; ((with_reducible refine (hhv.out _).mono ?_); rintro e w' ⟨rfl, rfl⟩))
              go_roundw
              case rel => exact ⟨k + 1, by omega, by go_num, Lib.hid ⟨htk2.out, hbo.out⟩⟩
              case measure => simp [intOf]; omega
        · obtain rfl : k = n := by omega
          have hz := H.out.1
          rw [← HN.out, List.take_length] at hz
          have hrt := Lib.hid (hro.out.symm.trans hz)
          have hfin := Lib.hid (HB.out.trans (H.out.2.mono HB.out.size))
          clear hz
          go_wp2
          go_ret
          exact ⟨ret_bool hrt.out.symm, hfin.out⟩

set_option maxRecDepth 100000 in
set_option maxHeartbeats 1000000 in
theorem specIsGraph_any (p c : Int) (v1 v2 v3 : Value) (L : GraphL) (w : World) (h : ReadsG w v1 v2 v3 L) (hT : totG L ≤ 1048576) :
    Calls Tryd.prog 5 #[.int .i64 p, .agg #[.int .i64 c, v1, v2, v3]] w fun e w' => e = .returned (.bool (igB p c L)) ∧ Below w.heap.size w w' := by
  obtain ⟨w0, hw0⟩ : ∃ W, W = w.alloc (.cells #[.int .i64 c, v1, v2, v3] 30) := ⟨_, rfl⟩
  have hB : Below w.heap.size w w0 := by rw [hw0]; exact (Below.refl _ _).alloc (Nat.le_refl _) _
  have hc := Lib.hid (hgGood_any p c v1 v2 v3 L w0 (h.below hB) hT)
  have HB := Lib.hid hB
  have HW := Lib.hid hw0
  clear h hB hw0 hT
  go_enter Tryd.func5, Tryd.ntmps5
  go_wp2_with fail
  rw [← HW.out]
  refine hc.out.mono ?_
  rintro e w1 ⟨rfl, q1⟩
  have Q1 := Lib.hid (HB.out.trans (q1.mono HB.out.size))
  clear q1
  go_wp2
  go_ret
  exact ⟨rfl, Q1.out⟩

set_option maxRecDepth 100000 in
set_option maxHeartbeats 1000000 in
theorem implIsGraph_any (p c : Int) (v1 v2 v3 : Value) (L : GraphL) (w : World) (ht : Tab w) (h : ReadsG w v1 v2 v3 L) :
    Calls Tryd.prog 7 #[.int .i64 p, .agg #[.int .i64 c, v1, v2, v3]] w fun e w' => e = .returned (.bool (igB p c L)) ∧ Below w.heap.size w w' := by
  obtain ⟨w0, hw0⟩ : ∃ W, W = w.alloc (.cells #[.int .i64 c, v1, v2, v3] 30) := ⟨_, rfl⟩
  have hB : Below w.heap.size w w0 := by rw [hw0]; exact (Below.refl _ _).alloc (Nat.le_refl _) _
  have hc := Lib.hid (isGraphOver_any p c v1 v2 v3 L w0 (by rw [hw0]; exact tab_alloc ht _) (h.below hB))
  have HB := Lib.hid hB
  have HW := Lib.hid hw0
  clear h hB hw0 ht
  go_enter Tryd.func7, Tryd.ntmps7
  go_wp2_with fail
  rw [← HW.out]
  refine hc.out.mono ?_
  rintro e w1 ⟨rfl, q1⟩
  have Q1 := Lib.hid (HB.out.trans (q1.mono HB.out.size))
  clear q1
  go_wp2
  go_ret
  exact ⟨rfl, Q1.out⟩

end Ints
end Go.Proofs.YtapgfgbpcpdnlaaDoor
