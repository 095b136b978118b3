/- Is it a graph? The reference's. (Printed by wip/gen_valid.py.) -/
import Derived.Test.YtapgfgbpcpdnlaaValidP
namespace Go.Proofs.Ytapgfgbpcpdnlaa
open Go.RowKit
namespace Ints
open Fld (inR l1In_any)

theorem edgesR_succ (c : Int) (es : List EdgeL) (k : Nat) (h : k < es.length) : edgesR c (es.take (k + 1)) = (edgesR c (es.take k) && (edgeB (eAt es k).kind (eAt es k).value (eAt es k).ins.length (eAt es k).outs.length && edgeR c (eAt es k).ins (eAt es k).outs)) := by
  unfold edgesR
  rw [take_oneE es k h]
  simp
theorem edgesR_not (c : Int) (es : List EdgeL) (k : Nat) (h : k < es.length) (hb : (edgeB (eAt es k).kind (eAt es k).value (eAt es k).ins.length (eAt es k).outs.length && edgeR c (eAt es k).ins (eAt es k).outs) = false) : edgesR c es = false := by
  unfold edgesR
  rw [List.all_eq_false]
  refine ⟨eAt es k, ?_, by rw [hb]; simp⟩
  rw [eAt_eq es k h]
  exact List.getElem_mem h

set_option maxRecDepth 100000 in
set_option maxHeartbeats 4000000 in
theorem hgValid_any (c : Int) (v1 v2 v3 : Value) (L : GraphL) (w : World) (h : ReadsG w v1 v2 v3 L) (hs : totG L ≤ 1048576) :
    Calls Try.prog 11 #[.agg #[.int .i64 c, v1, v2, v3]] w fun e w' => e = .returned (.bool (graphB c L)) ∧ Below w.heap.size w w' := by
  obtain ⟨w0, hw0⟩ : ∃ W, W = w.alloc (.cells #[.int .i64 c, v1, v2, v3] 30) := ⟨_, rfl⟩
  have hB : Below w.heap.size w w0 := by rw [hw0]; exact (Below.refl _ _).alloc (Nat.le_refl _) _
  have hall1 := Lib.hid (fun W (hW : Below w.heap.size w W) => l1All_any v2 L.ins.length L.ins 0 (c - 1) W (h.2.1.below hW))
  have hall2 := Lib.hid (fun W (hW : Below w.heap.size w W) => l1All_any v3 L.outs.length L.outs 0 (c - 1) W (h.2.2.below hW))
  obtain ⟨a, cap, rfl, hm, hE⟩ := open_readsE h.1
  obtain ⟨a', c', e'⟩ := h.2.1.form
  obtain ⟨a'', c'', e''⟩ := h.2.2.form
  subst e' e''
  obtain ⟨n, hn⟩ : ∃ n, L.edges.length = n := ⟨_, rfl⟩
  obtain ⟨n1, hn1⟩ : ∃ n, L.ins.length = n := ⟨_, rfl⟩
  obtain ⟨n2, hn2⟩ : ∃ n, L.outs.length = n := ⟨_, rfl⟩
  have hX : Hid (∀ W, Below w0.heap.size w0 W → W.cell? ⟨w.heap.size, 0, none⟩ = some (.int .i64 c) ∧ W.cell? ⟨w.heap.size, 1, none⟩ = some (.slice a n cap) ∧ W.cell? ⟨w.heap.size, 2, none⟩ = some (.slice a' n1 c') ∧ W.cell? ⟨w.heap.size, 3, none⟩ = some (.slice a'' n2 c'')) :=
    fun W hW => ⟨cell_old hW (by rw [hw0]; simp [go_sem]), cell_old hW (by rw [hw0]; simp [go_sem, hn]), cell_old hW (by rw [hw0]; simp [go_sem, hn1]), cell_old hW (by rw [hw0]; simp [go_sem, hn2])⟩
  have hwin := Lib.hid (fun W => l1In_any c 0 100 W)
  rw [hn, hn1, hn2] at hw0
  rw [hn] at hm hE ⊢
  rw [hn1] at hall1 ⊢
  rw [hn2] at hall2 ⊢
  have HR := Lib.hid h
  have HEE := Lib.hid hE
  have HW := Lib.hid hw0
  have HB := Lib.hid hB
  have HN := Lib.hid (And.intro hn (And.intro hn1 hn2))
  have HT := Lib.hid hs
  have hBW : Hid (Below w.heap.size w (w.alloc (.cells #[.int .i64 c, .slice a n cap, .slice a' n1 c', .slice a'' n2 c''] 30))) := by rw [← hw0]; exact Lib.hid hB
  clear h hE hw0 hB hn hn1 hn2 hs
  obtain ⟨r, hr⟩ : ∃ r, graphB c L = r := ⟨_, rfl⟩
  rw [hr]
  have HRR := Lib.hid hr
  clear hr
  have hf : Hid (inR c 0 100 = false ∨ 60 < n ∨ 12 < n1 ∨ 12 < n2 → r = false) := by
    intro hh
    rw [← HRR.out]
    unfold graphB
    rw [HN.out.1, HN.out.2.1, HN.out.2.2]
    rcases hh with hh | hh | hh | hh <;> simp [hh]
  by_cases hc : inR c 0 100 = true
  · rw [hc] at hwin
    by_cases h60 : 60 < n
    · have b1 : decide ((60 : Int) < (n : Int)) = true := by simp; omega
      have hrf := Lib.hid (hf.out (.inr (.inl h60)))
      clear hc h60 hf HRR
      go_enter Try.func11, Try.ntmps11
      go_wp2_with (first | (go_at_call 19; ((with_reducible refine (hwin.out _).mono ?_); rintro e w' ⟨rfl, rfl⟩)) | (go_at_call 20; ((with_reducible refine (hall1.out _ hBW.out).mono ?_); rintro e w' ⟨rfl, rfl⟩)) | (go_at_call 20; ((with_reducible refine (hall2.out _ hBW.out).mono ?_); rintro e w' ⟨rfl, rfl⟩)))
      rw [← HW.out]
      go_ret
      exact ⟨ret_bool hrf.out.symm, HB.out⟩
    · have b1 : decide ((60 : Int) < (n : Int)) = false := by simp; omega
      by_cases h12 : 12 < n1
      · have b2 : decide ((12 : Int) < (n1 : Int)) = true := by simp; omega
        have hrf := Lib.hid (hf.out (.inr (.inr (.inl h12))))
        clear hc h60 hf HRR h12
        go_enter Try.func11, Try.ntmps11
        go_wp2_with (first | (go_at_call 19; ((with_reducible refine (hwin.out _).mono ?_); rintro e w' ⟨rfl, rfl⟩)) | (go_at_call 20; ((with_reducible refine (hall1.out _ hBW.out).mono ?_); rintro e w' ⟨rfl, rfl⟩)) | (go_at_call 20; ((with_reducible refine (hall2.out _ hBW.out).mono ?_); rintro e w' ⟨rfl, rfl⟩)))
        rw [← HW.out]
        go_ret
        exact ⟨ret_bool hrf.out.symm, HB.out⟩
      · have b2 : decide ((12 : Int) < (n1 : Int)) = false := by simp; omega
        by_cases h12' : 12 < n2
        · have b3 : decide ((12 : Int) < (n2 : Int)) = true := by simp; omega
          have hrf := Lib.hid (hf.out (.inr (.inr (.inr h12'))))
          clear hc h60 hf HRR h12 h12'
          go_enter Try.func11, Try.ntmps11
          go_wp2_with (first | (go_at_call 19; ((with_reducible refine (hwin.out _).mono ?_); rintro e w' ⟨rfl, rfl⟩)) | (go_at_call 20; ((with_reducible refine (hall1.out _ hBW.out).mono ?_); rintro e w' ⟨rfl, rfl⟩)) | (go_at_call 20; ((with_reducible refine (hall2.out _ hBW.out).mono ?_); rintro e w' ⟨rfl, rfl⟩)))
          rw [← HW.out]
          go_ret
          exact ⟨ret_bool hrf.out.symm, HB.out⟩
        · have b3 : decide ((12 : Int) < (n2 : Int)) = false := by simp; omega
          obtain ⟨cn, rfl, hcn⟩ : ∃ cn : Nat, c = cn ∧ cn ≤ 100 := by
            have hc' := hc
            unfold inR at hc'
            simp at hc'
            exact ⟨c.toNat, by omega, by omega⟩
          have hwr : IntKind.i64.wrap ((cn : Int) - 1) = (cn : Int) - 1 := IntWalk.i64_in _ (by omega)
          have hS : Hid (r = ((L.ins.all fun a => inR a 0 ((cn : Int) - 1)) && (L.outs.all fun a => inR a 0 ((cn : Int) - 1)) && edgesR cn L.edges && allUsed cn L)) := by
            show _ = _
            rw [← HRR.out, ← graphS_eq, HN.out.1, HN.out.2.1, HN.out.2.2]
            simp [hc, h60, h12, h12']
          have HCN := Lib.hid hcn
          clear hc h60 hf HRR h12 h12' hcn
          obtain ⟨r1, hr1⟩ : ∃ r, (L.ins.all fun a => inR a 0 ((cn : Int) - 1)) = r := ⟨_, rfl⟩
          obtain ⟨r2, hr2⟩ : ∃ r, (L.outs.all fun a => inR a 0 ((cn : Int) - 1)) = r := ⟨_, rfl⟩
          have HOK := Lib.hid (And.intro hr1 hr2)
          rw [hr1] at hall1 hS
          rw [hr2] at hall2 hS
          clear hr1 hr2
          cases r1
          · have hrf : Hid (r = false) := by rw [hS.out]; exact Lib.hid rfl
            go_enter Try.func11, Try.ntmps11
            go_wp2_with (first | (go_at_call 19; ((with_reducible refine (hwin.out _).mono ?_); rintro e w' ⟨rfl, rfl⟩)) | (go_at_call 20; ((with_reducible refine (hall1.out _ hBW.out).mono ?_); rintro e w' ⟨rfl, rfl⟩)) | (go_at_call 20; ((with_reducible refine (hall2.out _ hBW.out).mono ?_); rintro e w' ⟨rfl, rfl⟩)))
            rw [← HW.out]
            go_ret
            exact ⟨ret_bool hrf.out.symm, HB.out⟩
          · cases r2
            · have hrf : Hid (r = false) := by rw [hS.out]; exact Lib.hid rfl
              go_enter Try.func11, Try.ntmps11
              go_wp2_with (first | (go_at_call 19; ((with_reducible refine (hwin.out _).mono ?_); rintro e w' ⟨rfl, rfl⟩)) | (go_at_call 20; ((with_reducible refine (hall1.out _ hBW.out).mono ?_); rintro e w' ⟨rfl, rfl⟩)) | (go_at_call 20; ((with_reducible refine (hall2.out _ hBW.out).mono ?_); rintro e w' ⟨rfl, rfl⟩)))
              rw [← HW.out]
              go_ret
              exact ⟨ret_bool hrf.out.symm, HB.out⟩
            · go_enter Try.func11, Try.ntmps11
              go_wp2_with (first | (go_at_call 19; ((with_reducible refine (hwin.out _).mono ?_); rintro e w' ⟨rfl, rfl⟩)) | (go_at_call 20; ((with_reducible refine (hall1.out _ hBW.out).mono ?_); rintro e w' ⟨rfl, rfl⟩)) | (go_at_call 20; ((with_reducible refine (hall2.out _ hBW.out).mono ?_); rintro e w' ⟨rfl, rfl⟩)))
              go_loopw [51, 4] (fun i q wr => ∃ k : Nat, k ≤ n ∧ i = .int .i64 k ∧ Hid (edgesR cn (L.edges.take k) = true ∧ Below w0.heap.size w0 wr)) (fun i _ _ => n + 1 - (intOf i).toNat)
              case atStart => exact ⟨0, by omega, rfl, Lib.hid ⟨by simp [edgesR], by rw [HW.out]; exact Below.refl _ _⟩⟩
              case round =>
                obtain ⟨k, hk, rfl, H⟩ := hrel
                by_cases hlt : k < n
                · obtain ⟨g, off, a1, c1, a2, c2, rfl, hg, hEk⟩ := HEE.out k hlt
                  have hbk : Below w.heap.size w wr := HB.out.trans (H.out.2.mono HB.out.size)
                  obtain ⟨y0, y1, y2, y3, hi, ho⟩ := hEk.below hbk
                  have hk0 : 0 ≤ (k : Int) := by omega
                  have hkn : (k : Int) < (n : Int) := by omega
                  have hbo : Below wr.heap.size wr (wr.alloc (.cells #[.int .i64 (eAt L.edges k).kind, .int .i64 (eAt L.edges k).value, .slice a1 (eAt L.edges k).ins.length c1, .slice a2 (eAt L.edges k).outs.length c2] 46)) := (Below.refl _ _).alloc (Nat.le_refl _) _
                  have x0 := cell_old hbo (hX.out wr H.out.2).1
                  have hcn := HCN.out
                  have hcall := Lib.hid (fun W (hW : Below wr.heap.size wr W) => hgEdge_any (eAt L.edges k).kind (eAt L.edges k).value cn (by omega) (by omega) _ _ ((eAt L.edges k).ins, (eAt L.edges k).outs) W ⟨hi.below hW, ho.below hW⟩)
                  have htk := Lib.hid (edgesR_succ cn L.edges k (by rw [HN.out.1]; exact hlt))
                  have hno := Lib.hid (edgesR_not cn L.edges k (by rw [HN.out.1]; exact hlt))
                  obtain ⟨b, hb⟩ : ∃ b, (edgeB (eAt L.edges k).kind (eAt L.edges k).value (eAt L.edges k).ins.length (eAt L.edges k).outs.length && edgeR cn (eAt L.edges k).ins (eAt L.edges k).outs) = b := ⟨_, rfl⟩
                  simp only at hcall
                  rw [hb] at hcall htk hno
                  clear hEk hbk hi ho hb hcn hbo
                  cases b
                  · have hrf : Hid (r = false) := by
                      show _ = _
                      rw [hS.out, hno.out rfl]
                      rfl
                    go_wp2_with fail
                    refine (hcall.out _ (below_alloc (Below.refl _ _))).mono ?_
                    rintro e w5 ⟨rfl, hq⟩
                    have hfin := Lib.hid (HB.out.trans (((H.out.2.alloc H.out.2.size _).trans (hq.mono (Nat.le_trans H.out.2.size (by simp)))).mono HB.out.size))
                    clear hq y0 y1 y2 y3 x0
                    go_wp2
                    go_ret
                    exact ⟨ret_bool hrf.out.symm, hfin.out⟩
                  · have htk2 : Hid (edgesR cn (L.edges.take (k + 1)) = true) := by
                      show _ = _
                      rw [htk.out, H.out.1]
                      rfl
                    go_wp2_with fail
                    refine (hcall.out _ (below_alloc (Below.refl _ _))).mono ?_
                    rintro e w5 ⟨rfl, hq⟩
                    have hfin := Lib.hid ((H.out.2.alloc H.out.2.size _).trans (hq.mono (Nat.le_trans H.out.2.size (by simp))))
                    clear hq y0 y1 y2 y3 x0
                    go_wp2
                    go_roundw
                    case rel => exact ⟨k + 1, by omega, by go_num, Lib.hid ⟨htk2.out, hfin.out⟩⟩
                    case measure => simp [intOf]; omega
                · obtain rfl : k = n := by omega
                  have hok := H.out.1
                  rw [← HN.out.1, List.take_length] at hok
                  have hw : (wiresOf L).all (okB cn) = true := by
                    have h1 := hok
                    rw [edgesR_eq, Bool.and_eq_true] at h1
                    unfold wiresOf
                    rw [List.all_append, List.all_append, h1.2]
                    have h2 : L.ins.all (okB cn) = true := HOK.out.1
                    have h3 : L.outs.all (okB cn) = true := HOK.out.2
                    rw [h2, h3]
                    rfl
                  have hln : (wiresOf L).length ≤ 4000000 := by
                    have h1 := HT.out
                    have hcc : ∀ es : List EdgeL, (edgeWires es).length = (es.map cellsE).sum := by
                      intro es
                      unfold edgeWires
                      induction es with
                      | nil => rfl
                      | cons e es ih => simp only [List.map_cons, List.flatten_cons, List.length_append, ih, List.sum_cons, cellsE]
                    unfold totG totE at h1
                    unfold wiresOf
                    rw [List.length_append, List.length_append, hcc]
                    omega
                  have hrr : Hid (r = allUsed cn L) := by
                    show _ = _
                    rw [hS.out, hok]
                    rfl
                  obtain ⟨x0, x1, x2, x3⟩ := hX.out wr H.out.2
                  have hBwr := Lib.hid (HB.out.trans (H.out.2.mono HB.out.size))
                  have hcnt := hgCounts_any cn HCN.out _ _ _ L wr (HR.out.below hBwr.out) hw hln
                  rw [HN.out.1, HN.out.2.1, HN.out.2.2] at hcnt
                  have HCT := Lib.hid hcnt
                  clear hcnt hw hln hok
                  go_wp2_with fail
                  refine HCT.out.mono ?_
                  rintro e w6 ⟨u1, u2, rfl, hu1, hu2, hb6⟩
                  have hlc : ∀ A, (cntL cn A).length = cn := fun A => by simp [cntL]
                  obtain ⟨_, p1, d1, rfl, hm1, hr1⟩ := open_reads hu1
                  obtain ⟨_, p2, d2, rfl, hm2, hr2⟩ := open_reads hu2
                  rw [hlc] at hm1 hr1 hm2 hr2 ⊢
                  rw [hlc]
                  have hat : ∀ (A : List Int) (k : Nat), k < cn → (cntL cn A)[k]?.getD 0 = (A.count (k : Int) : Int) := fun A k hk => by simp [cntL, hk]
                  have hcl : (fromL L).length ≤ 4000000 ∧ (toL L).length ≤ 4000000 := by
                    have h1 := HT.out
                    have hcc : ∀ es : List EdgeL, (insOf es).length + (outsOf es).length = (es.map cellsE).sum := by
                      intro es
                      unfold insOf outsOf
                      induction es with
                      | nil => rfl
                      | cons e es ih => simp only [List.map_cons, List.flatten_cons, List.length_append, List.sum_cons, cellsE]; omega
                    have h2 := hcc L.edges
                    unfold totG totE at h1
                    unfold fromL toL
                    rw [List.length_append, List.length_append]
                    omega
                  have HCL := Lib.hid hcl
                  have HAT := Lib.hid hat
                  have HR1 := Lib.hid hr1
                  have HR2 := Lib.hid hr2
                  have HBF := Lib.hid (hBwr.out.trans (hb6.mono hBwr.out.size))
                  clear hlc hr1 hr2 hcl hat hu1 hu2 hb6 x0 x1 x2 x3 HCT
                  go_wp2
                  go_loopw [68, 7] (fun i q wq => ∃ q : Nat, q ≤ cn ∧ i = .int .i64 q ∧ Hid (((List.range q).all fun i => !noneB L i) = true ∧ Quiet w6 wq)) (fun i _ _ => cn + 1 - (intOf i).toNat)
                  case atStart => exact ⟨0, by omega, rfl, Lib.hid ⟨by simp, Quiet.refl _⟩⟩
                  case round =>
                    obtain ⟨q, hq, rfl, H2⟩ := hrel
                    by_cases hlt2 : q < cn
                    · obtain ⟨g1, o1, rfl, _, k1⟩ := HR1.out (by omega)
                      obtain ⟨g2, o2, rfl, _, k2⟩ := HR2.out (by omega)
                      have y1 := (H2.out.2.cell _).trans ((k1 q hlt2).trans (by rw [HAT.out _ q hlt2]))
                      have y2 := (H2.out.2.cell _).trans ((k2 q hlt2).trans (by rw [HAT.out _ q hlt2]))
                      have l1 := List.count_le_length (a := (q : Int)) (l := fromL L)
                      have l2 := List.count_le_length (a := (q : Int)) (l := toL L)
                      have hwr2 : IntKind.i64.wrap (((fromL L).count (q : Int) : Int) + ((toL L).count (q : Int) : Int)) = ((fromL L).count (q : Int) : Int) + ((toL L).count (q : Int) : Int) := by
                        have := HCL.out
                        exact IntWalk.i64_in _ (by omega)
                      have hk0 : 0 ≤ (q : Int) := by omega
                      have hkn : (q : Int) < (cn : Int) := by omega
                      have hrs : Hid (((List.range (q + 1)).all fun i => !noneB L i) = (((List.range q).all fun i => !noneB L i) && !noneB L q)) := by
                        show _ = _
                        rw [List.range_succ, List.all_append]
                        simp
                      have hno : Hid (noneB L q = true → allUsed cn L = false) := Lib.hid fun hn => by
                        unfold allUsed
                        rw [List.all_eq_false]
                        exact ⟨q, List.mem_range.2 hlt2, by simp [hn]⟩
                      obtain ⟨b, hb⟩ : ∃ b, noneB L q = b := ⟨_, rfl⟩
                      have hbe : ((((fromL L).count (q : Int) : Int) + ((toL L).count (q : Int) : Int)) == 0) = b := hb
                      rw [hb] at hrs hno
                      obtain ⟨zA, hzA⟩ : ∃ z : Int, ((fromL L).count (q : Int) : Int) = z := ⟨_, rfl⟩
                      obtain ⟨zB, hzB⟩ : ∃ z : Int, ((toL L).count (q : Int) : Int) = z := ⟨_, rfl⟩
                      rw [hzA] at y1 hwr2 hbe
                      rw [hzB] at y2 hwr2 hbe
                      clear l1 l2 hzA hzB hb k1 k2
                      cases b
                      · have hnx : Hid (((List.range (q + 1)).all fun i => !noneB L i) = true) := by
                          show _ = _
                          rw [hrs.out, H2.out.1]
                          rfl
                        go_wp2
                        go_region
                        all_goals
                          go_wp2
                          go_roundw
                          case rel => exact ⟨q + 1, by omega, by go_num, Lib.hid ⟨hnx.out, by first | exact H2.out.2.drewN _ | exact H2.out.2.drewN 1⟩⟩
                          case measure => simp [intOf]; omega
                      · have hrf : Hid (r = false) := by
                          show _ = _
                          rw [hrr.out]
                          exact hno.out rfl
                        go_wp2
                        go_region
                        all_goals
                          go_wp2
                          go_ret
                          exact ⟨ret_bool hrf.out.symm, HBF.out.trans (((by first | exact H2.out.2.drewN _ | exact H2.out.2.drewN 1 : Quiet w6 _).below w6.heap.size).mono HBF.out.size)⟩
                    · obtain rfl : q = cn := by omega
                      have hrt : Hid (r = true) := by
                        show _ = _
                        rw [hrr.out]
                        exact H2.out.1
                      go_wp2
                      go_ret
                      exact ⟨ret_bool hrt.out.symm, HBF.out.trans ((H2.out.2.below w6.heap.size).mono HBF.out.size)⟩
  · have hcf : inR c 0 100 = false := by simpa using hc
    rw [hcf] at hwin
    have hrf := Lib.hid (hf.out (.inl hcf))
    clear hc hcf hf HRR
    go_enter Try.func11, Try.ntmps11
    go_wp2_with (first | (go_at_call 19; ((with_reducible refine (hwin.out _).mono ?_); rintro e w' ⟨rfl, rfl⟩)) | (go_at_call 20; ((with_reducible refine (hall1.out _ hBW.out).mono ?_); rintro e w' ⟨rfl, rfl⟩)) | (go_at_call 20; ((with_reducible refine (hall2.out _ hBW.out).mono ?_); rintro e w' ⟨rfl, rfl⟩)))
    rw [← HW.out]
    go_ret
    exact ⟨ret_bool hrf.out.symm, HB.out⟩

end Ints
end Go.Proofs.Ytapgfgbpcpdnlaa
