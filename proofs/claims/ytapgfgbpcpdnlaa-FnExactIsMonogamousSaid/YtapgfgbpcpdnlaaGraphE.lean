/- The copy of a graph, and a graph against itself. -/
import Derived.Test.YtapgfgbpcpdnlaaGraphT
import Derived.BigQuiet
import Derived.Deep.RegionLaw
namespace Go.Proofs.Ytapgfgbpcpdnlaa
open Go.RowKit
namespace Ints

/-- What a copied graph is. -/
def NewGraph (w : World) (c : Int) (L : GraphL) (e : Ending) (w' : World) : Prop := ∃ u1 u2 u3, e = .returned (.agg #[.int .i64 c, u1, u2, u3]) ∧ ReadsG w' u1 u2 u3 L ∧ Below w.heap.size w w'

set_option maxHeartbeats 1000000 in
theorem toGraph_any (wires : Int) (v1 v2 v3 : Value) (L : GraphL) (w : World) (h : ReadsG w v1 v2 v3 L) (hs : totG L ≤ 1048576) :
    Calls Try.prog 6 #[.agg #[.int .i64 wires, v1, v2, v3]] w (NewGraph w wires L) := by
  obtain ⟨w0, hw0⟩ : ∃ W, W = ((w.alloc (.cells #[.int .i64 wires, v1, v2, v3] 25)).alloc (.cells #[.int .i64 0, .slice none 0 0, .slice none 0 0, .slice none 0 0] 30)).alloc (.cells #[.int .i64 wires, .slice none 0 0, .slice none 0 0, .slice none 0 0] 30) := ⟨_, rfl⟩
  have hB : Below w.heap.size w w0 := by rw [hw0]; exact (((Below.refl w.heap.size w).alloc (Nat.le_refl _) _).alloc (by simp) _).alloc (by simp; omega) _
  have hs0 : w0.heap.size = w.heap.size + 3 := by rw [hw0]; simp
  have hr := h.below hB
  obtain ⟨a, c, a', c', a'', c'', rfl, rfl, rfl⟩ := h.form
  have ht : totE L.edges ≤ 1048576 ∧ totI L.ins ≤ 1048576 ∧ totI L.outs ≤ 1048576 := by unfold totG at hs; unfold totI; omega
  have hc1 := Lib.hid (toEdgeS_any _ L.edges w0 hr.1 ht.1)
  have hc2 := Lib.hid (fun W (hW : ReadsI W (.slice a' L.ins.length c') L.ins) => toIntS_b _ L.ins W hW ht.2.1)
  have hc3 := Lib.hid (fun W (hW : ReadsI W (.slice a'' L.outs.length c'') L.outs) => toIntS_b _ L.outs W hW ht.2.2)
  obtain ⟨b0, b1, b2⟩ := three_blocks w (.cells #[.int .i64 wires, .slice a L.edges.length c, .slice a' L.ins.length c', .slice a'' L.outs.length c''] 25) (.cells #[.int .i64 0, .slice none 0 0, .slice none 0 0, .slice none 0 0] 30) (.cells #[.int .i64 wires, .slice none 0 0, .slice none 0 0, .slice none 0 0] 30)
  rw [← hw0] at b0 b1 b2
  have HX0 := Lib.hid (And.intro b0 (And.intro b1 b2))
  have HR := Lib.hid h
  have HW0 := Lib.hid hw0
  have HB0 := Lib.hid hB
  have HS := Lib.hid hs0
  have HSZ0 := Lib.hid (show w.heap.size + 3 ≤ w0.heap.size by omega)
  clear h hs hr hw0 hB hs0 b0 b1 b2 ht
  go_enter Try.func6, Try.ntmps6
  go_wp2_with fail
  rw [← HW0.out]
  refine hc1.out.mono ?_
  rintro e w1 ⟨u1, rfl, ho1, hb1⟩
  obtain ⟨k1, j1, rfl⟩ := ho1.reads.form
  have hs0 := HS.out
  have hsz := HSZ0.out
  have hsb := hb1.size
  have d0 := block_old HX0.out.1 hb1
  have d1 := block_old HX0.out.2.1 hb1
  have d2 := block_old HX0.out.2.2 hb1
  have hcg := Chg.set1 w1 ⟨w.heap.size + 2, 1, none⟩ (.slice k1 L.edges.length j1)
  have ho1b := ho1.bound.chg hcg fun g hg e => by simp only at e; omega
  have B2 : Below w.heap.size w (w1.setCell ⟨w.heap.size + 2, 1, none⟩ (.slice k1 L.edges.length j1)) := (HB0.out.trans (hb1.mono HB0.out.size)).setCell (p := ⟨w.heap.size + 2, 1, none⟩) (by simp) _
  have f0 := block_keep d0 hcg (fun e => by simp only at e; omega)
  have f1 := block_keep d1 hcg (fun e => by simp only at e; omega)
  have f2 : (w1.setCell ⟨w.heap.size + 2, 1, none⟩ (.slice k1 L.edges.length j1)).heap[w.heap.size + 2]? = some (.cells #[.int .i64 wires, .slice k1 L.edges.length j1, .slice none 0 0, .slice none 0 0] 30 (0, 0)) := Go.Joins.block_setCell (g := w.heap.size + 2) (i := 1) d2 _
  obtain ⟨p0, p1, p2, p3⟩ := cells4 d2
  obtain ⟨r0, r1, r2, r3⟩ := frees4 d2
  obtain ⟨q0, q1, q2, q3⟩ := cells4 d0
  have hsz2 : w.heap.size + 3 ≤ (w1.setCell ⟨w.heap.size + 2, 1, none⟩ (.slice k1 L.edges.length j1)).heap.size := by simp; omega
  obtain ⟨W1, hw⟩ : ∃ W, W = (w1.setCell ⟨w.heap.size + 2, 1, none⟩ (.slice k1 L.edges.length j1)) := ⟨_, rfl⟩
  rw [← hw] at ho1b B2 f0 f1 f2 hsz2
  have HO1 := Lib.hid (ho1b.mono (T := fun g => w.heap.size + 3 ≤ g) fun g hg => by omega)
  have HB1 := Lib.hid B2
  have HX1 := Lib.hid (And.intro f0 (And.intro f1 f2))
  have HW1 := Lib.hid hw
  have HSZ1 := Lib.hid hsz2
  clear ho1 hb1 hcg ho1b  B2 d0 d1 d2 f0 f1 f2 hsz2 hw hs0 hsz hsb
  go_wp2_with fail
  rw [← HW1.out]
  clear p0 p1 p2 p3 r0 r1 r2 r3 q0 q1 q2 q3
  refine (hc2.out W1 (HR.out.2.1.below HB1.out)).mono ?_
  rintro e w2 ⟨u2, rfl, ho2, hb2⟩
  obtain ⟨k2, j2, rfl⟩ := ho2.reads.form
  have hs0 := HS.out
  have hsz := HSZ1.out
  have hsb := hb2.size
  have d0 := block_old HX1.out.1 hb2
  have d1 := block_old HX1.out.2.1 hb2
  have d2 := block_old HX1.out.2.2 hb2
  have hp1 := HO1.out.below hb2
  have hcg := Chg.set1 w2 ⟨w.heap.size + 2, 2, none⟩ (.slice k2 L.ins.length j2)
  have ho2b := ho2.bound.chg hcg fun g hg e => by simp only at e; omega
  have B2 : Below w.heap.size w (w2.setCell ⟨w.heap.size + 2, 2, none⟩ (.slice k2 L.ins.length j2)) := (HB1.out.trans (hb2.mono HB1.out.size)).setCell (p := ⟨w.heap.size + 2, 2, none⟩) (by simp) _
  have ho1b := hp1.chg hcg fun g hg e => by simp only at e; omega
  have f0 := block_keep d0 hcg (fun e => by simp only at e; omega)
  have f1 := block_keep d1 hcg (fun e => by simp only at e; omega)
  have f2 : (w2.setCell ⟨w.heap.size + 2, 2, none⟩ (.slice k2 L.ins.length j2)).heap[w.heap.size + 2]? = some (.cells #[.int .i64 wires, .slice k1 L.edges.length j1, .slice k2 L.ins.length j2, .slice none 0 0] 30 (0, 0)) := Go.Joins.block_setCell (g := w.heap.size + 2) (i := 2) d2 _
  obtain ⟨p0, p1, p2, p3⟩ := cells4 d2
  obtain ⟨r0, r1, r2, r3⟩ := frees4 d2
  obtain ⟨q0, q1, q2, q3⟩ := cells4 d0
  have hsz2 : w.heap.size + 3 ≤ (w2.setCell ⟨w.heap.size + 2, 2, none⟩ (.slice k2 L.ins.length j2)).heap.size := by simp; omega
  obtain ⟨W2, hw⟩ : ∃ W, W = (w2.setCell ⟨w.heap.size + 2, 2, none⟩ (.slice k2 L.ins.length j2)) := ⟨_, rfl⟩
  rw [← hw] at ho1b ho2b B2 f0 f1 f2 hsz2
  have HO1 := Lib.hid (ho1b.mono (T := fun g => w.heap.size + 3 ≤ g) fun g hg => by omega)
  have HO2 := Lib.hid (ho2b.mono (T := fun g => w.heap.size + 3 ≤ g) fun g hg => by omega)
  have HB2 := Lib.hid B2
  have HX2 := Lib.hid (And.intro f0 (And.intro f1 f2))
  have HW2 := Lib.hid hw
  have HSZ2 := Lib.hid hsz2
  clear ho2 hb2 hcg ho1b ho2b hp1 B2 d0 d1 d2 f0 f1 f2 hsz2 hw hs0 hsz hsb
  go_wp2_with fail
  rw [← HW2.out]
  clear p0 p1 p2 p3 r0 r1 r2 r3 q0 q1 q2 q3
  refine (hc3.out W2 (HR.out.2.2.below HB2.out)).mono ?_
  rintro e w3 ⟨u3, rfl, ho3, hb3⟩
  obtain ⟨k3, j3, rfl⟩ := ho3.reads.form
  have hs0 := HS.out
  have hsz := HSZ2.out
  have hsb := hb3.size
  have d0 := block_old HX2.out.1 hb3
  have d1 := block_old HX2.out.2.1 hb3
  have d2 := block_old HX2.out.2.2 hb3
  have hp1 := HO1.out.below hb3
  have hp2 := HO2.out.below hb3
  obtain ⟨p0, p1, p2, p3⟩ := cells4 d2
  obtain ⟨-, -, -, n3⟩ := frees4 d2
  obtain ⟨q0, q1, q2, q3⟩ := cells4 d1
  obtain ⟨r0, r1, r2, r3⟩ := frees4 d1
  have HFin : Hid (∀ W, Chg (fun g => g = w.heap.size + 1 ∨ g = w.heap.size + 2) w3 W → NewGraph w wires L (.returned (.agg #[.int .i64 wires, .slice k1 L.edges.length j1, .slice k2 L.ins.length j2, .slice k3 L.outs.length j3])) W) := by
    intro W hch
    have hb5 := HB2.out.size
    refine ⟨_, _, _, rfl, ⟨(hp1.chg hch fun g hg e => by omega).reads, (hp2.chg hch fun g hg e => by omega).reads, (ho3.chg hch fun g hg e => by omega).reads⟩, ?_⟩
    exact (HB2.out.trans (hb3.mono HB2.out.size)).trans (hch.below (by omega) fun g hg => by omega)
  clear hp1 hp2 ho3 hb3 hs0 hsz hsb d0 d1 d2
  go_wp2
  refine bodyPost_ret (v := .agg #[.int .i64 wires, .slice k1 L.edges.length j1, .slice k2 L.ins.length j2, .slice k3 L.outs.length j3]) (by simp [results, Try.results6, go_sem, q0, q1, q2, q3]) rfl ?_
  refine HFin.out _ ?_
  exact (((((Chg.refl _ w3).setCell (fun _ => by simp) _).setCell (fun _ => by simp) _).setCell (fun _ => by simp) _).setCell (fun _ => by simp) _).setCell (fun _ => by simp) _

set_option maxHeartbeats 1000000 in
theorem eqEdge_same (ek ev : Int) (v1 v2 u1 u2 : Value) (L : List Int × List Int) (w : World) (ha : ReadsP w v1 v2 L) (hb : ReadsP w u1 u2 L) :
    Calls Try.prog 26 #[.agg #[.int .i64 ek, .int .i64 ev, v1, v2], .agg #[.int .i64 ek, .int .i64 ev, u1, u2]] w fun e w' => e = .returned (.bool true) ∧ Below w.heap.size w w' := by
  have hB := Lib.hid (((Below.refl w.heap.size w).alloc (Nat.le_refl _) (.cells #[.int .i64 ek, .int .i64 ev, v1, v2] 46)).alloc (by simp) (.cells #[.int .i64 ek, .int .i64 ev, u1, u2] 46))
  have hc1 := Lib.hid (fun W (hW : Below w.heap.size w W) => eqIntS_any v1 u1 L.1.length L.1.length L.1 L.1 W (ha.1.below hW) (hb.1.below hW))
  have hc2 := Lib.hid (fun W (hW : Below w.heap.size w W) => eqIntS_any v2 u2 L.2.length L.2.length L.2 L.2 W (ha.2.below hW) (hb.2.below hW))
  simp only [beq_self_eq_true] at hc1 hc2
  have n1 : (ek != ek) = false := by simp
  have n2 : (ev != ev) = false := by simp
  clear ha hb
  go_enter Try.func26, Try.ntmps26
  go_wp2_with fail
  refine (hc1.out _ hB.out).mono ?_
  rintro e w1 ⟨rfl, hq⟩
  have HB1 := Lib.hid (hB.out.trans (hq.below w.heap.size))
  have e1 : w1.cell? ⟨w.heap.size, 3, none⟩ = some v2 := (hq.cell _).trans (by simp [go_sem])
  have e2 : w1.cell? ⟨w.heap.size + 1, 3, none⟩ = some u2 := (hq.cell _).trans (by simp [go_sem])
  clear hq
  go_wp2_with fail
  refine (hc2.out _ HB1.out).mono ?_
  rintro e w2 ⟨rfl, hq⟩
  have HB2 := Lib.hid (HB1.out.trans (hq.below w.heap.size))
  clear hq
  go_wp2
  go_ret
  exact ⟨rfl, HB2.out⟩

set_option maxHeartbeats 1000000 in
theorem eqEdgeS_same (va vb : Value) (es : List EdgeL) (w : World) (ha : ReadsE w va es) (hb : ReadsE w vb es) :
    Calls Try.prog 16 #[va, vb] w fun e w' => e = .returned (.bool true) ∧ Below w.heap.size w w' := by
  obtain ⟨a, ca, rfl, ham, ha3⟩ := open_readsE ha
  obtain ⟨b, cb, rfl, hbm, hb3⟩ := open_readsE hb
  clear ha hb
  obtain ⟨n, hn⟩ : ∃ n, es.length = n := ⟨_, rfl⟩
  have hn' := Lib.hid hn
  have ha3' := Lib.hid ha3
  have hb3' := Lib.hid hb3
  rw [hn] at ham ⊢
  clear ha3 hb3 hn
  have hne : ((n : Int) != (n : Int)) = false := by simp
  go_enter Try.func16, Try.ntmps16
  go_wp2
  go_loopw [5] (fun i wr => ∃ k : Nat, k ≤ n ∧ i = .int .i64 k ∧ Hid (Below w.heap.size w wr)) (fun i _ => n + 1 - (intOf i).toNat)
  case atStart => exact ⟨0, by omega, rfl, Lib.hid (Below.refl _ _)⟩
  case round =>
    obtain ⟨k, hk, rfl, hB⟩ := hrel
    by_cases hlt : k < n
    · obtain ⟨g, off, a1, c1, a2, c2, rfl, _, hE⟩ := ha3'.out k (by rw [hn'.out]; exact hlt)
      obtain ⟨g', off', a3, c3, a4, c4, rfl, _, hF⟩ := hb3'.out k (by rw [hn'.out]; exact hlt)
      obtain ⟨x0, x1, x2, x3, hi, ho⟩ := hE.below hB.out
      obtain ⟨y0, y1, y2, y3, hj, hp⟩ := hF.below hB.out
      have hbd : Below wr.heap.size wr wr.drew := ⟨rfl, rfl, rfl, Nat.le_refl _, fun _ _ => rfl⟩
      have hcall : Hid (Calls Try.prog 26 #[.agg #[.int .i64 (eAt es k).kind, .int .i64 (eAt es k).value, .slice a1 (eAt es k).ins.length c1, .slice a2 (eAt es k).outs.length c2], .agg #[.int .i64 (eAt es k).kind, .int .i64 (eAt es k).value, .slice a3 (eAt es k).ins.length c3, .slice a4 (eAt es k).outs.length c4]] wr.drew fun e w' => e = .returned (.bool true) ∧ Below wr.drew.heap.size wr.drew w') :=
        Lib.hid (eqEdge_same _ _ _ _ _ _ ((eAt es k).ins, (eAt es k).outs) wr.drew ⟨hi.below hbd, ho.below hbd⟩ ⟨hj.below hbd, hp.below hbd⟩)
      have hB2 : Hid (Below w.heap.size w wr.drew) := Lib.hid (hB.out.trans (hbd.mono hB.out.size))
      have hk0 : 0 ≤ (k : Int) := by omega
      have hkn : (k : Int) < (n : Int) := by omega
      clear hE hF hi ho hj hp ha3' hb3' hbd
      go_wp2
      go_region_law (go_simp; with_reducible refine hcall.out.mono ?_; rintro e w1 ⟨rfl, hb1⟩)
      all_goals
        have hB3 := Lib.hid (hB2.out.trans (hb1.mono hB2.out.size))
        clear hb1
        go_wp2
        go_roundw
        case rel => exact ⟨k + 1, by omega, by go_num, hB3⟩
        case measure => simp [intOf]; omega
    · obtain rfl : k = n := by omega
      go_wp2
      go_ret
      exact ⟨rfl, hB.out⟩

set_option maxHeartbeats 1000000 in
theorem eqGraph_same (c : Int) (v1 v2 v3 u1 u2 u3 : Value) (L : GraphL) (w : World) (ha : ReadsG w v1 v2 v3 L) (hb : ReadsG w u1 u2 u3 L) :
    Calls Try.prog 8 #[.agg #[.int .i64 c, v1, v2, v3], .agg #[.int .i64 c, u1, u2, u3]] w fun e w' => e = .returned (.bool true) ∧ Below w.heap.size w w' := by
  obtain ⟨w0, hw0⟩ : ∃ W, W = (w.alloc (.cells #[.int .i64 c, v1, v2, v3] 30)).alloc (.cells #[.int .i64 c, u1, u2, u3] 30) := ⟨_, rfl⟩
  have hB : Below w.heap.size w w0 := by rw [hw0]; exact ((Below.refl w.heap.size w).alloc (Nat.le_refl _) _).alloc (by simp) _
  have hc0 := Lib.hid (eqEdgeS_same v1 u1 L.edges w0 (ha.1.below hB) (hb.1.below hB))
  have hc1 := Lib.hid (fun W (hW : Below w.heap.size w W) => eqIntS_any v2 u2 L.ins.length L.ins.length L.ins L.ins W (ha.2.1.below hW) (hb.2.1.below hW))
  have hc2 := Lib.hid (fun W (hW : Below w.heap.size w W) => eqIntS_any v3 u3 L.outs.length L.outs.length L.outs L.outs W (ha.2.2.below hW) (hb.2.2.below hW))
  simp only [beq_self_eq_true] at hc1 hc2
  have x2 : w0.cell? ⟨w.heap.size, 2, none⟩ = some v2 := by rw [hw0]; simp [go_sem]
  have x3 : w0.cell? ⟨w.heap.size, 3, none⟩ = some v3 := by rw [hw0]; simp [go_sem]
  have y2 : w0.cell? ⟨w.heap.size + 1, 2, none⟩ = some u2 := by rw [hw0]; simp [go_sem]
  have y3 : w0.cell? ⟨w.heap.size + 1, 3, none⟩ = some u3 := by rw [hw0]; simp [go_sem]
  have HB := Lib.hid hB
  have HW := Lib.hid hw0
  have HX := Lib.hid (And.intro x2 (And.intro y2 (And.intro x3 y3)))
  have hcc : (c != c) = false := by simp
  clear ha hb hB hw0 x2 y2 x3 y3
  go_enter Try.func8, Try.ntmps8
  go_wp2_with fail
  rw [← HW.out]
  refine hc0.out.mono ?_
  rintro e w1 ⟨rfl, hq⟩
  have HB1 := Lib.hid (HB.out.trans (hq.mono HB.out.size))
  have x2 := cell_old hq HX.out.1
  have y2 := cell_old hq HX.out.2.1
  have x3 := Lib.hid (cell_old hq HX.out.2.2.1)
  have y3 := Lib.hid (cell_old hq HX.out.2.2.2)
  clear hq
  go_wp2_with fail
  refine (hc1.out _ HB1.out).mono ?_
  rintro e w2 ⟨rfl, hq⟩
  have HB2 := Lib.hid (HB1.out.trans (hq.below w.heap.size))
  have e1 : w2.cell? ⟨w.heap.size, 3, none⟩ = some v3 := (hq.cell _).trans x3.out
  have e2 : w2.cell? ⟨w.heap.size + 1, 3, none⟩ = some u3 := (hq.cell _).trans y3.out
  clear hq x2 y2
  go_wp2_with fail
  refine (hc2.out _ HB2.out).mono ?_
  rintro e w3 ⟨rfl, hq⟩
  have HB3 := Lib.hid (HB2.out.trans (hq.below w.heap.size))
  clear hq
  go_wp2
  go_ret
  exact ⟨rfl, HB3.out⟩

end Ints
end Go.Proofs.Ytapgfgbpcpdnlaa
