/- Is it a graph? The program's. -/
import Derived.Test.YtapgfgbpcpdnlaaVisit
import Derived.Test.YtapgfgbpcpdnlaaEdgeW
namespace Go.Proofs.Ytapgfgbpcpdnlaa
open Go.RowKit
namespace Ints
open Fld (inR)

def edgesB (es : List EdgeL) : Bool := es.all fun e => edgeB e.kind e.value e.ins.length e.outs.length
def graphB (c : Int) (L : GraphL) : Bool :=
  inR c 0 100 && !decide (60 < L.edges.length) && !decide (12 < L.ins.length) && !decide (12 < L.outs.length) && edgesB L.edges && (wiresOf L).all (okB c.toNat) && (seenN c.toNat (wiresOf L) == c.toNat)
theorem infoB : (Try.prog.info? 4).map (fun i => (i.zero, i.size, i.bytes)) = some (some (.bool false), 1, 1) := by kernel_rfl
theorem edgesB_succ (es : List EdgeL) (k : Nat) (h : k < es.length) : edgesB (es.take (k + 1)) = (edgesB (es.take k) && edgeB (eAt es k).kind (eAt es k).value (eAt es k).ins.length (eAt es k).outs.length) := by
  unfold edgesB
  rw [take_oneE es k h]
  simp
theorem edgesB_not (es : List EdgeL) (k : Nat) (h : k < es.length) (hb : edgeB (eAt es k).kind (eAt es k).value (eAt es k).ins.length (eAt es k).outs.length = false) : edgesB es = false := by
  unfold edgesB
  rw [List.all_eq_false]
  refine ⟨eAt es k, ?_, by simp [hb]⟩
  rw [eAt_eq es k h]
  exact List.getElem_mem h

/-- The round's state at its start. -/
theorem seen_start {w' wr : World} {G c : Nat} (hG : w'.cell? ⟨G, 0, none⟩ = some (.int .i64 c)) (hs : w'.heap.size = wr.heap.size + 1)
    (hown : w'.ownsRow wr.heap.size 4 1 (.slice (some ⟨wr.heap.size, 0, none⟩) c c) c (List.replicate c (.bool false))) :
    SeenSt G wr.heap.size c [] (((w'.alloc (.cells #[.slice (some ⟨wr.heap.size, 0, none⟩) c c] 59)).alloc (.cells #[.bool true] 4)).alloc (.cells #[.int .i64 0] 3)) := by
  obtain ⟨b1, b2, b3⟩ := three_blocks w' (.cells #[.slice (some ⟨wr.heap.size, 0, none⟩) c c] 59) (.cells #[.bool true] 4) (.cells #[.int .i64 0] 3)
  have hb : Below w'.heap.size w' (((w'.alloc (.cells #[.slice (some ⟨wr.heap.size, 0, none⟩) c c] 59)).alloc (.cells #[.bool true] 4)).alloc (.cells #[.int .i64 0] 3)) := (((Below.refl _ _).alloc (Nat.le_refl _) _).alloc (by simp) _).alloc (by simp; omega) _
  rw [hs] at b1 b2 b3
  obtain ⟨_, h2⟩ := hown
  rcases h2 with ⟨hh, _⟩ | ⟨g, cap, cur, hv, _, hh, _, _, hz, ht⟩
  · simp at hh
  · simp only [Value.slice.injEq, Option.some.injEq, Addr.mk.injEq, and_true] at hv
    obtain ⟨rfl, -, rfl⟩ := hv
    refine ⟨cell_old hb hG, (Go.Joins.cell_of_block b1 0).trans rfl, b2, ?_, cur, block_old hh hb, by omega, fun i hi => ?_⟩
    · have e : seenN c [] = 0 := by simp [seenN]
      rw [e]
      exact b3
    · have e : cur.toList[i]? = (List.replicate c (Value.bool false))[i]? := by
        rw [← ht, List.getElem?_take, if_pos (by omega)]
      rw [List.getElem?_replicate, if_pos hi] at e
      rw [← Array.getElem?_toList, e]
      simp

set_option maxRecDepth 100000 in
set_option maxHeartbeats 4000000 in
theorem isGraph_any (c : Int) (v1 v2 v3 : Value) (L : GraphL) (w : World) (h : ReadsG w v1 v2 v3 L) :
    Calls Try.prog 24 #[.agg #[.int .i64 c, v1, v2, v3]] w fun e w' => e = .returned (.bool (graphB c L)) ∧ Below w.heap.size w w' := by
  obtain ⟨w0, hw0⟩ : ∃ W, W = w.alloc (.cells #[.int .i64 c, v1, v2, v3] 30) := ⟨_, rfl⟩
  have hB : Below w.heap.size w w0 := by rw [hw0]; exact (Below.refl _ _).alloc (Nat.le_refl _) _
  have hs0 : w.heap.size < w0.heap.size := by rw [hw0]; simp
  obtain ⟨a, cap, rfl, hm, hE⟩ := open_readsE h.1
  obtain ⟨a', c', e'⟩ := h.2.1.form
  obtain ⟨a'', c'', e''⟩ := h.2.2.form
  subst e' e''
  obtain ⟨n, hn⟩ : ∃ n, L.edges.length = n := ⟨_, rfl⟩
  obtain ⟨n1, hn1⟩ : ∃ n, L.ins.length = n := ⟨_, rfl⟩
  obtain ⟨n2, hn2⟩ : ∃ n, L.outs.length = n := ⟨_, rfl⟩
  have hX : Hid (∀ W, Below w0.heap.size w0 W → W.cell? ⟨w.heap.size, 0, none⟩ = some (.int .i64 c) ∧ W.cell? ⟨w.heap.size, 1, none⟩ = some (.slice a n cap) ∧ W.cell? ⟨w.heap.size, 2, none⟩ = some (.slice a' n1 c') ∧ W.cell? ⟨w.heap.size, 3, none⟩ = some (.slice a'' n2 c'')) :=
    fun W hW => ⟨cell_old hW (by rw [hw0]; simp [go_sem]), cell_old hW (by rw [hw0]; simp [go_sem, hn]), cell_old hW (by rw [hw0]; simp [go_sem, hn1]), cell_old hW (by rw [hw0]; simp [go_sem, hn2])⟩
  have hwin := Lib.hid (fun W => within_any c 0 100 W)
  rw [hn, hn1, hn2] at hw0
  rw [hn] at hm hE ⊢
  rw [hn1, hn2]
  have HR := Lib.hid h
  have HEE := Lib.hid hE
  have HW := Lib.hid hw0
  have HB := Lib.hid hB
  have HN := Lib.hid (And.intro hn (And.intro hn1 hn2))
  have HS0 := Lib.hid hs0
  clear h hE hw0 hB hn hn1 hn2 hs0
  obtain ⟨r, hr⟩ : ∃ r, graphB c L = r := ⟨_, rfl⟩
  rw [hr]
  have HRR := Lib.hid hr
  clear hr
  have hf : Hid (inR c 0 100 = false ∨ 60 < n ∨ 12 < n1 ∨ 12 < n2 → r = false) := by
    intro hh
    rw [← HRR.out]
    unfold graphB
    rw [HN.out.1, HN.out.2.1, HN.out.2.2]
    rcases hh with hh | hh | hh | hh <;> simp [hh]
  by_cases hc : inR c 0 100 = true
  · rw [hc] at hwin
    by_cases h60 : 60 < n
    · have b1 : decide ((60 : Int) < (n : Int)) = true := by simp; omega
      have hrf := Lib.hid (hf.out (.inr (.inl h60)))
      clear hc h60 hf HRR
      go_enter Try.func24, Try.ntmps24
      go_wp2_with (go_at_call 29; ((with_reducible refine (hwin.out _).mono ?_); rintro e w' ⟨rfl, rfl⟩))
      rw [← HW.out]
      go_ret
      exact ⟨ret_bool hrf.out.symm, HB.out⟩
    · have b1 : decide ((60 : Int) < (n : Int)) = false := by simp; omega
      by_cases h12 : 12 < n1
      · have b2 : decide ((12 : Int) < (n1 : Int)) = true := by simp; omega
        have hrf := Lib.hid (hf.out (.inr (.inr (.inl h12))))
        clear hc h60 hf HRR h12
        go_enter Try.func24, Try.ntmps24
        go_wp2_with (go_at_call 29; ((with_reducible refine (hwin.out _).mono ?_); rintro e w' ⟨rfl, rfl⟩))
        rw [← HW.out]
        go_ret
        exact ⟨ret_bool hrf.out.symm, HB.out⟩
      · have b2 : decide ((12 : Int) < (n1 : Int)) = false := by simp; omega
        by_cases h12' : 12 < n2
        · have b3 : decide ((12 : Int) < (n2 : Int)) = true := by simp; omega
          have hrf := Lib.hid (hf.out (.inr (.inr (.inr h12'))))
          clear hc h60 hf HRR h12 h12'
          go_enter Try.func24, Try.ntmps24
          go_wp2_with (go_at_call 29; ((with_reducible refine (hwin.out _).mono ?_); rintro e w' ⟨rfl, rfl⟩))
          rw [← HW.out]
          go_ret
          exact ⟨ret_bool hrf.out.symm, HB.out⟩
        · have b3 : decide ((12 : Int) < (n2 : Int)) = false := by simp; omega
          obtain ⟨cn, rfl, hcn⟩ : ∃ cn : Nat, c = cn ∧ cn ≤ 100 := by
            have hc' := hc
            unfold inR at hc'
            simp at hc'
            exact ⟨c.toNat, by omega, by omega⟩
          have hgood : Hid (edgesB L.edges = true → r = ((wiresOf L).all (okB cn) && (seenN cn (wiresOf L) == cn))) := by
            intro hh
            rw [← HRR.out]
            unfold graphB
            rw [HN.out.1, HN.out.2.1, HN.out.2.2]
            simp [hc, h60, h12, h12', hh]
          have hbadE : Hid (edgesB L.edges = false → r = false) := by
            intro hh
            rw [← HRR.out]
            unfold graphB
            simp [hh]
          have hm1 := Lib.hid (show 1 * cn ≤ 281474976710656 by omega)
          have hm2 := Lib.hid (show cn ≤ maxLen by unfold maxLen; omega)
          have HCN := Lib.hid hcn
          clear hc h60 hf HRR h12 h12' hcn
          go_enter Try.func24, Try.ntmps24
          go_wp2_with (go_at_call 29; ((with_reducible refine (hwin.out _).mono ?_); rintro e w' ⟨rfl, rfl⟩))
          go_loopw [33, 4] (fun i q wr => ∃ k : Nat, k ≤ n ∧ i = .int .i64 k ∧ Hid (edgesB (L.edges.take k) = true ∧ Below w0.heap.size w0 wr)) (fun i _ _ => n + 1 - (intOf i).toNat)
          case atStart => exact ⟨0, by omega, rfl, Lib.hid ⟨by simp [edgesB], by rw [HW.out]; exact Below.refl _ _⟩⟩
          case round =>
            obtain ⟨k, hk, rfl, H⟩ := hrel
            by_cases hlt : k < n
            · obtain ⟨g, off, a1, c1, a2, c2, rfl, hg, hEk⟩ := HEE.out k hlt
              have hbk : Below w.heap.size w wr := HB.out.trans (H.out.2.mono HB.out.size)
              obtain ⟨y0, y1, y2, y3, hi, ho⟩ := hEk.below hbk
              have hk0 : 0 ≤ (k : Int) := by omega
              have hkn : (k : Int) < (n : Int) := by omega
              have hcall := Lib.hid (fun W (hW : Below wr.heap.size wr W) => isEdge_any (eAt L.edges k).kind (eAt L.edges k).value _ _ ((eAt L.edges k).ins, (eAt L.edges k).outs) W ⟨hi.below hW, ho.below hW⟩)
              have htk := Lib.hid (edgesB_succ L.edges k (by rw [HN.out.1]; exact hlt))
              have hno := Lib.hid (edgesB_not L.edges k (by rw [HN.out.1]; exact hlt))
              obtain ⟨b, hb⟩ : ∃ b, edgeB (eAt L.edges k).kind (eAt L.edges k).value (eAt L.edges k).ins.length (eAt L.edges k).outs.length = b := ⟨_, rfl⟩
              simp only at hcall
              rw [hb] at hcall htk hno
              clear hEk hbk hi ho hb
              cases b
              · have hrf := Lib.hid (hbadE.out (hno.out rfl))
                go_wp2_with fail
                refine (hcall.out _ (below_alloc (Below.refl _ _))).mono ?_
                rintro e w5 ⟨rfl, hq⟩
                have hfin := Lib.hid (HB.out.trans (((H.out.2.alloc H.out.2.size _).trans (hq.mono (Nat.le_trans H.out.2.size (by simp)))).mono HB.out.size))
                clear hq y0 y1 y2 y3
                go_wp2
                go_ret
                exact ⟨ret_bool hrf.out.symm, hfin.out⟩
              · have htk2 : Hid (edgesB (L.edges.take (k + 1)) = true) := by
                  show _ = _
                  rw [htk.out, H.out.1]
                  rfl
                go_wp2_with fail
                refine (hcall.out _ (below_alloc (Below.refl _ _))).mono ?_
                rintro e w5 ⟨rfl, hq⟩
                have hfin := Lib.hid ((H.out.2.alloc H.out.2.size _).trans (hq.mono (Nat.le_trans H.out.2.size (by simp))))
                clear hq y0 y1 y2 y3
                go_wp2
                go_roundw
                case rel => exact ⟨k + 1, by omega, by go_num, Lib.hid ⟨htk2.out, hfin.out⟩⟩
                case measure => simp [intOf]; omega
            · obtain rfl : k = n := by omega
              have hok := H.out.1
              rw [← HN.out.1, List.take_length] at hok
              have hgr := Lib.hid (hgood.out hok)
              obtain ⟨x0, x1, x2, x3⟩ := hX.out wr H.out.2
              have hBwr := Lib.hid (HB.out.trans (H.out.2.mono HB.out.size))
              have hGlt := Lib.hid (show w.heap.size < wr.heap.size from Nat.lt_of_lt_of_le HS0.out H.out.2.size)
              clear hok
              go_wp2_with (at_make; refine wpList_make_one _ rfl _ _ 59 rfl 4 (.bool false) 1 Try.underlying59 infoB rfl cn rfl rfl hm1.out hm2.out ?_; intro w6 hown hb6 hs6; have hb3 : Below w6.heap.size w6 (((w6.alloc (.cells #[.slice (some ⟨wr.heap.size, 0, none⟩) cn cn] 59)).alloc (.cells #[.bool true] 4)).alloc (.cells #[.int .i64 0] 3)) := (((Below.refl _ _).alloc (Nat.le_refl _) _).alloc (by simp) _).alloc (by simp; omega) _; have z0 := cell_old hb6 x0; have y0 := cell_old hb3 z0; have y1 := cell_old hb3 (cell_old hb6 x1); have y2 := cell_old hb3 (cell_old hb6 x2); have y3 := cell_old hb3 (cell_old hb6 x3); clear hb3)
              have hl := lists_any w.heap.size cn wr hGlt.out HCN.out _ _ _ L (((w6.alloc (.cells #[.slice (some ⟨wr.heap.size, 0, none⟩) cn cn] 59)).alloc (.cells #[.bool true] 4)).alloc (.cells #[.int .i64 0] 3)) (HR.out.below hBwr.out) (((hb6.alloc hb6.size _).alloc (Nat.le_trans hb6.size (by simp)) _).alloc (Nat.le_trans hb6.size (by simp; omega)) _) (by simp [hs6]) (seen_start z0 hs6 hown)
              rw [HN.out.1, HN.out.2.1, HN.out.2.2] at hl
              refine hl.mono ?_
              rintro e w7 ⟨rfl, hS7, hB7⟩
              obtain ⟨q0, q1, q2, q3, -⟩ := hS7
              clear y0 y1 y2 y3
              have y2 := (Go.Joins.cell_of_block q2 0).trans rfl
              have y3 := (Go.Joins.cell_of_block q3 0).trans rfl
              have hfin := Lib.hid (hBwr.out.trans (hB7.mono hBwr.out.size))
              have hrr : Hid (r = ((wiresOf L).all (okB cn) && ((seenN cn (wiresOf L) : Int) == (cn : Int)))) := by
                show _ = _
                rw [hgr.out]
                congr 1
                rw [Bool.eq_iff_iff, beq_iff_eq, beq_iff_eq]
                omega
              obtain ⟨b, hb⟩ : ∃ b, (wiresOf L).all (okB cn) = b := ⟨_, rfl⟩
              rw [hb] at y2 hrr
              clear hl q1 q2 q3 hB7 hgr hb z0 hown hb6 x0 x1 x2 x3
              cases b
              · go_wp2
                go_ret
                exact ⟨ret_bool (by rw [hrr.out]; rfl), hfin.out⟩
              · go_wp2
                go_ret
                exact ⟨ret_bool (by rw [hrr.out]; rfl), hfin.out⟩
  · have hcf : inR c 0 100 = false := by simpa using hc
    rw [hcf] at hwin
    have hrf := Lib.hid (hf.out (.inl hcf))
    clear hc hcf hf HRR
    go_enter Try.func24, Try.ntmps24
    go_wp2_with (go_at_call 29; ((with_reducible refine (hwin.out _).mono ?_); rintro e w' ⟨rfl, rfl⟩))
    rw [← HW.out]
    go_ret
    exact ⟨ret_bool hrf.out.symm, HB.out⟩

end Ints
end Go.Proofs.Ytapgfgbpcpdnlaa
