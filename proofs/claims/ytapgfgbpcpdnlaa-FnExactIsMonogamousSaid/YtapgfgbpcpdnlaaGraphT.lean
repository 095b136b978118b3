/- The laws' own helpers over graphs: the count of cells, and the copy. -/
import Derived.Test.YtapgfgbpcpdnlaaEdges
import Derived.OwnWalk
import Derived.Lib.SmallJoins
namespace Go.Proofs.Ytapgfgbpcpdnlaa
open Go.RowKit
namespace Ints

set_option maxHeartbeats 1000000 in
theorem szGraph_any (wires : Int) (v1 v2 v3 : Value) (L : GraphL) (left : Int) (h0 : 0 ≤ left) (hl : left ≤ 1048576) (w : World) (h : ReadsG w v1 v2 v3 L) :
    Calls Try.prog 4 #[.agg #[.int .i64 wires, v1, v2, v3], .int .i64 left] w fun e w' => e = .returned (.int .i64 (szN (totG L) left)) ∧ Below w.heap.size w w' := by
  obtain ⟨w0, hw0⟩ : ∃ W, W = w.alloc (.cells #[.int .i64 wires, v1, v2, v3] 25) := ⟨_, rfl⟩
  have hB : Below w.heap.size w w0 := by rw [hw0]; exact (Below.refl w.heap.size w).alloc (Nat.le_refl _) _
  obtain ⟨hl1, a, c, e1, hm1, _⟩ := open_reads h.2.1
  obtain ⟨hl2, a', c', e2, hm2, _⟩ := open_reads h.2.2
  subst e1 e2
  have y2 : w0.cell? ⟨w.heap.size, 2, none⟩ = some (.slice a L.ins.length c) := by rw [hw0]; simp [go_sem]
  have y3 : w0.cell? ⟨w.heap.size, 3, none⟩ = some (.slice a' L.outs.length c') := by rw [hw0]; simp [go_sem]
  have hc1 := Lib.hid (szEdgeS_any v1 L.edges left h0 hl w0 (h.1.below hB))
  have HB := Lib.hid hB
  obtain ⟨n1, hn1⟩ : ∃ n, L.ins.length = n := ⟨_, rfl⟩
  obtain ⟨n2, hn2⟩ : ∃ n, L.outs.length = n := ⟨_, rfl⟩
  obtain ⟨n0, hn0⟩ : ∃ n, totE L.edges = n := ⟨_, rfl⟩
  have htt : totG L = n0 + n1 + n2 := by simp only [totG, hn0, hn1, hn2]
  rw [htt]
  rw [hn1] at hm1 y2 ⊢
  rw [hn2] at hm2 y3 ⊢
  rw [hn0] at hc1
  rw [hn1, hn2] at hw0
  have HW := Lib.hid hw0
  have HY := Lib.hid (And.intro y2 y3)
  clear h hl1 hl2 htt hn0 hn1 hn2 hB hw0 y2 y3
  have cell_keep : Hid (∀ w1, Below w0.heap.size w0 w1 → w1.cell? ⟨w.heap.size, 2, none⟩ = some (.slice a n1 c) ∧ w1.cell? ⟨w.heap.size, 3, none⟩ = some (.slice a' n2 c')) :=
    Lib.hid fun w1 hb => ⟨cell_old hb HY.out.1, cell_old hb HY.out.2⟩
  obtain ⟨r, hr⟩ : ∃ r, szN (n0 + n1 + n2) left = r := ⟨_, rfl⟩
  rw [hr]
  rcases szN_add n0 (n1 + n2) left with ⟨g0, g1, g2⟩ | ⟨g0, g1, g2⟩
  · rw [← Nat.add_assoc, hr] at g2
    rw [g1] at hc1
    obtain ⟨l1, hl1⟩ : ∃ x, left - (n0 : Int) = x := ⟨_, rfl⟩
    rw [hl1] at hc1 g2
    have hl10 : 0 ≤ l1 := by omega
    have hl1m : l1 ≤ 1048576 := by omega
    have hb1 : decide (l1 < 0) = false := by simp; omega
    clear g0 g1 hl1 hr
    have hc2 := Lib.hid (fun W => szIntS_any a n1 c l1 hl10 hl1m (by omega) W)
    rcases szN_add n1 n2 l1 with ⟨k0, k1, k2⟩ | ⟨k0, k1, k2⟩
    · rw [k1] at hc2
      rw [k2] at g2
      obtain ⟨l2, hl2⟩ : ∃ x, l1 - (n1 : Int) = x := ⟨_, rfl⟩
      rw [hl2] at hc2 g2
      have hl20 : 0 ≤ l2 := by omega
      have hl2m : l2 ≤ 1048576 := by omega
      have hb2 : decide (l2 < 0) = false := by simp; omega
      clear k0 k1 k2 hl2
      have hc3 := Lib.hid (fun W => szIntS_any a' n2 c' l2 hl20 hl2m (by omega) W)
      rw [← g2] at hc3
      have hr3 : r = -1 ∨ decide (r < 0) = false := by
        rcases szN_part n2 l2 with ⟨_, _, q⟩ | ⟨q, _⟩
        · rw [← g2] at q; exact .inr q
        · rw [← g2] at q; exact .inl q
      clear g2
      rcases hr3 with rfl | hr3
      · go_enter Try.func4, Try.ntmps4
        go_wp2_with fail
        rw [← HW.out]
        refine hc1.out.mono ?_
        rintro e w1 ⟨rfl, q1⟩
        obtain ⟨z2, z3⟩ := cell_keep.out w1 q1
        have Q1 := Lib.hid (HB.out.trans (q1.mono HB.out.size))
        clear q1
        go_wp2_with fail
        refine (hc2.out _).mono ?_
        rintro e w' ⟨rfl, rfl⟩
        go_wp2_with fail
        refine (hc3.out _).mono ?_
        rintro e w' ⟨rfl, rfl⟩
        go_wp2
        go_ret
        exact ⟨rfl, Q1.out⟩
      · go_enter Try.func4, Try.ntmps4
        go_wp2_with fail
        rw [← HW.out]
        refine hc1.out.mono ?_
        rintro e w1 ⟨rfl, q1⟩
        obtain ⟨z2, z3⟩ := cell_keep.out w1 q1
        have Q1 := Lib.hid (HB.out.trans (q1.mono HB.out.size))
        clear q1
        go_wp2_with fail
        refine (hc2.out _).mono ?_
        rintro e w' ⟨rfl, rfl⟩
        go_wp2_with fail
        refine (hc3.out _).mono ?_
        rintro e w' ⟨rfl, rfl⟩
        go_wp2
        go_ret
        exact ⟨rfl, Q1.out⟩
    · rw [k1] at hc2
      rw [k2] at g2
      subst g2
      clear k0 k1 k2
      go_enter Try.func4, Try.ntmps4
      go_wp2_with fail
      rw [← HW.out]
      refine hc1.out.mono ?_
      rintro e w1 ⟨rfl, q1⟩
      obtain ⟨z2, z3⟩ := cell_keep.out w1 q1
      have Q1 := Lib.hid (HB.out.trans (q1.mono HB.out.size))
      clear q1
      go_wp2_with fail
      refine (hc2.out _).mono ?_
      rintro e w' ⟨rfl, rfl⟩
      go_wp2
      go_ret
      exact ⟨rfl, Q1.out⟩
  · rw [← Nat.add_assoc, hr] at g2
    subst g2
    rw [g1] at hc1
    clear g0 g1 hr
    go_enter Try.func4, Try.ntmps4
    go_wp2_with fail
    rw [← HW.out]
    refine hc1.out.mono ?_
    rintro e w1 ⟨rfl, q1⟩
    have Q1 := Lib.hid (HB.out.trans (q1.mono HB.out.size))
    clear q1
    go_wp2
    go_ret
    exact ⟨rfl, Q1.out⟩

theorem cells4 {w : World} {g : Nat} {a b c d : Value} {t : TypeId} (h : w.heap[g]? = some (.cells #[a, b, c, d] t (0, 0))) :
    w.cell? ⟨g, 0, none⟩ = some a ∧ w.cell? ⟨g, 1, none⟩ = some b ∧ w.cell? ⟨g, 2, none⟩ = some c ∧ w.cell? ⟨g, 3, none⟩ = some d := by
  refine ⟨?_, ?_, ?_, ?_⟩ <;> rw [Go.Joins.cell_of_block h] <;> rfl
theorem frees4 {w : World} {g : Nat} {cs : Array Value} {t : TypeId} (h : w.heap[g]? = some (.cells cs t (0, 0))) :
    w.frozen? ⟨g, 0, none⟩ = false ∧ w.frozen? ⟨g, 1, none⟩ = false ∧ w.frozen? ⟨g, 2, none⟩ = false ∧ w.frozen? ⟨g, 3, none⟩ = false :=
  ⟨Go.Joins.unfrozen_of_block h _, Go.Joins.unfrozen_of_block h _, Go.Joins.unfrozen_of_block h _, Go.Joins.unfrozen_of_block h _⟩

/-- What a copied edge is: a struct of two lists in new memory. -/
def NewEdge (w : World) (ek ev : Int) (L : List Int × List Int) (e : Ending) (w' : World) : Prop := ∃ u1 u2, e = .returned (.agg #[.int .i64 ek, .int .i64 ev, u1, u2]) ∧ OwnsI (w.heap.size ≤ ·) w' u1 L.1 ∧ OwnsI (w.heap.size ≤ ·) w' u2 L.2 ∧ Below w.heap.size w w'

set_option maxHeartbeats 1000000 in
theorem toEdge_any (ek ev : Int) (v1 v2 : Value) (L : List Int × List Int) (w : World) (h : ReadsP w v1 v2 L) (hs : totP L ≤ 1048576) :
    Calls Try.prog 23 #[.agg #[.int .i64 ek, .int .i64 ev, v1, v2]] w (NewEdge w ek ev L) := by
  obtain ⟨w0, hw0⟩ : ∃ W, W = ((w.alloc (.cells #[.int .i64 ek, .int .i64 ev, v1, v2] 43)).alloc (.cells #[.int .i64 0, .int .i64 0, .slice none 0 0, .slice none 0 0] 46)).alloc (.cells #[.int .i64 ek, .int .i64 ev, .slice none 0 0, .slice none 0 0] 46) := ⟨_, rfl⟩
  have hB : Below w.heap.size w w0 := by rw [hw0]; exact (((Below.refl w.heap.size w).alloc (Nat.le_refl _) _).alloc (by simp) _).alloc (by simp; omega) _
  have hs0 : w0.heap.size = w.heap.size + 3 := by rw [hw0]; simp
  have hr := h.below hB
  obtain ⟨a, c, a', c', rfl, rfl⟩ := h.form
  have hc1 := Lib.hid (toIntS_b _ L.1 w0 hr.1 (by unfold totP at hs; unfold totI; omega))
  have hc2 := Lib.hid (fun W (hW : ReadsI W (.slice a' L.2.length c') L.2) => toIntS_b _ L.2 W hW (by unfold totP at hs; unfold totI; omega))
  obtain ⟨b0, b1, b2⟩ := three_blocks w (.cells #[.int .i64 ek, .int .i64 ev, .slice a L.1.length c, .slice a' L.2.length c'] 43) (.cells #[.int .i64 0, .int .i64 0, .slice none 0 0, .slice none 0 0] 46) (.cells #[.int .i64 ek, .int .i64 ev, .slice none 0 0, .slice none 0 0] 46)
  rw [← hw0] at b0 b1 b2
  have HX := Lib.hid (And.intro b0 (And.intro b1 b2))
  have x3 := (cells4 b0).2.2.2
  have HR := Lib.hid h.2
  have HW := Lib.hid hw0
  have HB := Lib.hid hB
  have HS := Lib.hid hs0
  clear h hs hr hw0 hB hs0 b0 b1 b2
  go_enter Try.func23, Try.ntmps23
  go_wp2_with fail
  rw [← HW.out]
  refine hc1.out.mono ?_
  rintro e w1 ⟨u1, rfl, ho1, hb1⟩
  obtain ⟨k1, j1, rfl⟩ := ho1.reads.form
  have hs0 := HS.out
  have hsb := hb1.size
  have hcg := Chg.set1 w1 ⟨w.heap.size + 2, 2, none⟩ (.slice k1 L.1.length j1)
  have ho1b := (ho1.bound.chg hcg fun g hg e => by simp only at e; omega)
  have B2 : Below w.heap.size w (w1.setCell ⟨w.heap.size + 2, 2, none⟩ (.slice k1 L.1.length j1)) := (HB.out.trans (hb1.mono HB.out.size)).setCell (p := ⟨w.heap.size + 2, 2, none⟩) (by simp) _
  have d0 := block_old HX.out.1 hb1
  have d1 := block_old HX.out.2.1 hb1
  have d2 := block_old HX.out.2.2 hb1
  have f0 := block_keep d0 hcg (fun e => by simp only at e; omega)
  have f1 := block_keep d1 hcg (fun e => by simp only at e; omega)
  have f2 : (w1.setCell ⟨w.heap.size + 2, 2, none⟩ (.slice k1 L.1.length j1)).heap[w.heap.size + 2]? = some (.cells #[.int .i64 ek, .int .i64 ev, .slice k1 L.1.length j1, .slice none 0 0] 46 (0, 0)) := Go.Joins.block_setCell (g := w.heap.size + 2) (i := 2) d2 _
  obtain ⟨-, -, m2, -⟩ := cells4 d2
  obtain ⟨-, -, n2, -⟩ := frees4 d2
  have hsz2 : w1.heap.size ≤ (w1.setCell ⟨w.heap.size + 2, 2, none⟩ (.slice k1 L.1.length j1)).heap.size := by simp
  obtain ⟨w2, hw2⟩ : ∃ W, W = w1.setCell ⟨w.heap.size + 2, 2, none⟩ (.slice k1 L.1.length j1) := ⟨_, rfl⟩
  rw [← hw2] at ho1b B2 f0 f1 f2 hsz2
  have z3 := (cells4 d0).2.2.2
  clear x3
  have HO1 := Lib.hid ho1b
  have HB2 := Lib.hid B2
  have HF := Lib.hid (And.intro f1 f2)
  have HW2 := Lib.hid hw2
  have HSZ := Lib.hid (Nat.le_trans hsb hsz2)
  clear ho1 hb1 hcg ho1b B2 d0 d1 d2 f0 f1 f2 hsz2 hw2 hs0 hsb
  go_wp2_with fail
  rw [← HW2.out]
  clear m2 n2 z3
  refine (hc2.out w2 (HR.out.below HB2.out)).mono ?_
  rintro e w3 ⟨u2, rfl, ho2, hb3⟩
  obtain ⟨k2, j2, rfl⟩ := ho2.reads.form
  have hs0 := HS.out
  have hsz := HSZ.out
  have d1 := block_old HF.out.1 hb3
  have d2 := block_old HF.out.2 hb3
  obtain ⟨p0, p1, p2, p3⟩ := cells4 d2
  obtain ⟨-, -, -, n3⟩ := frees4 d2
  obtain ⟨q0, q1, q2, q3⟩ := cells4 d1
  obtain ⟨r0, r1, r2, r3⟩ := frees4 d1
  have ho1c := HO1.out.below hb3
  have HFin : Hid (∀ W, Chg (fun g => g = w.heap.size + 1 ∨ g = w.heap.size + 2) w3 W → NewEdge w ek ev L (.returned (.agg #[.int .i64 ek, .int .i64 ev, .slice k1 L.1.length j1, .slice k2 L.2.length j2])) W) := by
    intro W hch
    have hb4 := hb3.size
    have hb5 := HB2.out.size
    refine ⟨_, _, rfl, (ho1c.chg hch fun g hg e => by omega).mono fun g hg => by omega, (ho2.chg hch fun g hg e => by omega).mono fun g hg => by omega, ?_⟩
    exact (HB2.out.trans (hb3.mono HB2.out.size)).trans (hch.below (by omega) fun g hg => by omega)
  clear ho1c ho2 hb3 hs0 hsz d1 d2
  go_wp2
  refine bodyPost_ret (v := .agg #[.int .i64 ek, .int .i64 ev, .slice k1 L.1.length j1, .slice k2 L.2.length j2]) (by simp [results, Try.results23, go_sem, q0, q1, q2, q3]) rfl ?_
  refine HFin.out _ ?_
  exact (((((Chg.refl _ w3).setCell (fun _ => by simp) _).setCell (fun _ => by simp) _).setCell (fun _ => by simp) _).setCell (fun _ => by simp) _).setCell (fun _ => by simp) _

/-- Edge j stands in the cells; its lists lie in blocks among S. -/
def Filled (S : Nat → Prop) (w : World) (cs : Array Value) (j : Nat) (e : EdgeL) : Prop :=
  ∃ A B, cs[j * 4]? = some (.int .i64 e.kind) ∧ cs[j * 4 + 1]? = some (.int .i64 e.value) ∧ cs[j * 4 + 2]? = some A ∧ cs[j * 4 + 3]? = some B ∧ OwnsI S w A e.ins ∧ OwnsI S w B e.outs
theorem Filled.chg {S T : Nat → Prop} {w w' : World} {cs : Array Value} {j : Nat} {e : EdgeL} (h : Filled S w cs j e) (hc : Chg T w w') (hd : ∀ g, S g → ¬ T g) : Filled S w' cs j e := by
  obtain ⟨A, B, h0, h1, h2, h3, h4, h5⟩ := h
  exact ⟨A, B, h0, h1, h2, h3, h4.chg hc hd, h5.chg hc hd⟩
theorem Filled.below {S : Nat → Prop} {w w' : World} {cs : Array Value} {j : Nat} {e : EdgeL} (h : Filled S w cs j e) (hb : Below w.heap.size w w') : Filled S w' cs j e := h.chg (T := fun _ => False) (Below.chg hb _) (fun _ _ => id)
/-- The four cells of element k. -/
def put4 (cs : Array Value) (k : Nat) (a b c d : Value) : Array Value := (((cs.setIfInBounds (k * 4) a).setIfInBounds (k * 4 + 1) b).setIfInBounds (k * 4 + 2) c).setIfInBounds (k * 4 + 3) d
theorem put4_size (cs : Array Value) (k : Nat) (a b c d : Value) : (put4 cs k a b c d).size = cs.size := by simp [put4]
theorem put4_other (cs : Array Value) (k i : Nat) (a b c d : Value) (h : i < k * 4 ∨ k * 4 + 4 ≤ i) : (put4 cs k a b c d)[i]? = cs[i]? := by
  unfold put4
  rw [Array.getElem?_setIfInBounds_ne (by omega), Array.getElem?_setIfInBounds_ne (by omega), Array.getElem?_setIfInBounds_ne (by omega), Array.getElem?_setIfInBounds_ne (by omega)]
theorem put4_at (cs : Array Value) (k : Nat) (a b c d : Value) (h : k * 4 + 4 ≤ cs.size) : (put4 cs k a b c d)[k * 4]? = some a ∧ (put4 cs k a b c d)[k * 4 + 1]? = some b ∧ (put4 cs k a b c d)[k * 4 + 2]? = some c ∧ (put4 cs k a b c d)[k * 4 + 3]? = some d := by
  unfold put4
  refine ⟨?_, ?_, ?_, ?_⟩
  · rw [Array.getElem?_setIfInBounds_ne (by omega), Array.getElem?_setIfInBounds_ne (by omega), Array.getElem?_setIfInBounds_ne (by omega), Array.getElem?_setIfInBounds_self_of_lt (by omega)]
  · rw [Array.getElem?_setIfInBounds_ne (by omega), Array.getElem?_setIfInBounds_ne (by omega), Array.getElem?_setIfInBounds_self_of_lt (by simp; omega)]
  · rw [Array.getElem?_setIfInBounds_ne (by omega), Array.getElem?_setIfInBounds_self_of_lt (by simp; omega)]
  · rw [Array.getElem?_setIfInBounds_self_of_lt (by simp; omega)]
theorem Filled.put {S : Nat → Prop} {w : World} {cs : Array Value} {j k : Nat} {e : EdgeL} (a b c d : Value) (h : Filled S w cs j e) (hjk : j < k) : Filled S w (put4 cs k a b c d) j e := by
  obtain ⟨A, B, h0, h1, h2, h3, h4, h5⟩ := h
  exact ⟨A, B, by rw [put4_other _ _ _ _ _ _ _ (by omega)]; exact h0, by rw [put4_other _ _ _ _ _ _ _ (by omega)]; exact h1, by rw [put4_other _ _ _ _ _ _ _ (by omega)]; exact h2, by rw [put4_other _ _ _ _ _ _ _ (by omega)]; exact h3, h4, h5⟩
theorem infoEdge : (Try.prog.info? 46).map (fun i => (i.zero, i.size, i.bytes)) = some (some (.agg #[.int .i64 0, .int .i64 0, .slice none 0 0, .slice none 0 0]), 4, 64) := by kernel_rfl

/-- What the copy of a slice of edges is. -/
def NewEdges (w : World) (es : List EdgeL) (e : Ending) (w' : World) : Prop := ∃ v, e = .returned v ∧ OwnsE (w.heap.size ≤ ·) w' v es ∧ Below w.heap.size w w'

set_option maxHeartbeats 1000000 in
theorem toEdgeS_any (v : Value) (es : List EdgeL) (w : World) (h : ReadsE w v es) (hs : totE es ≤ 1048576) : Calls Try.prog 13 #[v] w (NewEdges w es) := by
  obtain ⟨a, cap, rfl, hm, hc⟩ := open_readsE h
  obtain ⟨n, hn⟩ : ∃ n, es.length = n := ⟨_, rfl⟩
  have hnt : n ≤ 1048576 := by unfold totE at hs; omega
  have hrow : Hid (∀ k, k < n → totP ((eAt es k).ins, (eAt es k).outs) ≤ 1048576) := by
    intro k hk
    have h1 := sumE_succ es k (by omega)
    have h2 := sumE_le es (k + 1)
    have h3 : totP ((eAt es k).ins, (eAt es k).outs) = cellsE (eAt es k) := rfl
    unfold totE at hs
    omega
  have hn' := Lib.hid hn
  have hc' := Lib.hid hc
  rw [hn] at hm ⊢
  clear h hc hn hs
  have hm1 := Lib.hid (show 64 * n ≤ 281474976710656 by omega)
  have hm2 := Lib.hid (show n ≤ maxLen by unfold maxLen; omega)
  go_enter Try.func13, Try.ntmps13
  go_wp2_with (at_make; refine wpList_make_cells _ rfl _ _ 28 rfl 46 _ 4 64 Try.underlying28 infoEdge n rfl rfl hm1.out hm2.out ?_; intro w1 cs hh1 hcs1 hb1)
  have HH1 := Lib.hid hh1
  have HC1 := Lib.hid hcs1
  have HB1 := Lib.hid hb1
  clear hh1 hcs1 hb1
  go_wp2
  go_loopw [4] (fun i wr => ∃ (k : Nat) (cs : Array Value), k ≤ n ∧ i = .int .i64 k ∧ Hid (wr.heap[w.heap.size]? = some (.cells cs 46 (0, 0)) ∧ cs.size = n * 4 ∧ (∀ j, j < k → Filled (w.heap.size < ·) wr cs j (eAt es j)) ∧ Below w.heap.size w wr)) (fun i _ => n + 1 - (intOf i).toNat)
  case atStart => exact ⟨0, cs, by omega, rfl, Lib.hid ⟨HH1.out, HC1.out, fun j hj => by omega, HB1.out⟩⟩
  case round =>
    obtain ⟨k, cs, hk, rfl, H⟩ := hrel
    by_cases hlt : k < n
    · obtain ⟨g, off, a1, c1, a2, c2, rfl, hg, hE⟩ := hc'.out k (by rw [hn'.out]; exact hlt)
      obtain ⟨x0, x1, x2, x3, hi, ho⟩ := hE.below H.out.2.2.2
      have hsz := Lib.hid (toEdge_any (eAt es k).kind (eAt es k).value _ _ ((eAt es k).ins, (eAt es k).outs) wr ⟨hi, ho⟩ (hrow.out k hlt))
      have hk0 : 0 ≤ (k : Int) := by omega
      have hkn : (k : Int) < (n : Int) := by omega
      clear hE hi ho hc'
      go_wp2_with fail
      refine hsz.out.mono ?_
      rintro e w2 ⟨u1, u2, rfl, ho1, ho2, hb2⟩
      obtain ⟨b1, j1, rfl⟩ := ho1.reads.form
      obtain ⟨b2, j2, rfl⟩ := ho2.reads.form
      clear x0 x1 x2 x3
      have d := block_old H.out.1 hb2
      have hcs := H.out.2.1
      obtain ⟨z0, e0⟩ : ∃ z, cs[k * 4]? = some z := ⟨_, Array.getElem?_eq_getElem (by omega)⟩
      obtain ⟨z1, e1⟩ : ∃ z, cs[k * 4 + 1]? = some z := ⟨_, Array.getElem?_eq_getElem (by omega)⟩
      obtain ⟨z2, e2⟩ : ∃ z, cs[k * 4 + 2]? = some z := ⟨_, Array.getElem?_eq_getElem (by omega)⟩
      obtain ⟨z3, e3⟩ : ∃ z, cs[k * 4 + 3]? = some z := ⟨_, Array.getElem?_eq_getElem (by omega)⟩
      have y0 : w2.cell? ⟨w.heap.size, k * 4, none⟩ = some z0 := (Go.Joins.cell_of_block d _).trans e0
      have y1 : w2.cell? ⟨w.heap.size, k * 4 + 1, none⟩ = some z1 := (Go.Joins.cell_of_block d _).trans e1
      have y2 : w2.cell? ⟨w.heap.size, k * 4 + 2, none⟩ = some z2 := (Go.Joins.cell_of_block d _).trans e2
      have y3 : w2.cell? ⟨w.heap.size, k * 4 + 3, none⟩ = some z3 := (Go.Joins.cell_of_block d _).trans e3
      have f0 : w2.frozen? ⟨w.heap.size, k * 4, none⟩ = false := Go.Joins.unfrozen_of_block d _
      have f1 : w2.frozen? ⟨w.heap.size, k * 4 + 1, none⟩ = false := Go.Joins.unfrozen_of_block d _
      have f2 : w2.frozen? ⟨w.heap.size, k * 4 + 2, none⟩ = false := Go.Joins.unfrozen_of_block d _
      have f3 : w2.frozen? ⟨w.heap.size, k * 4 + 3, none⟩ = false := Go.Joins.unfrozen_of_block d _
      have D := Lib.hid d
      have HO := Lib.hid (And.intro ho1 ho2)
      have HB2 := Lib.hid hb2
      clear d ho1 ho2 hb2 e0 e1 e2 e3 hcs
      go_wp2
      go_roundw
      case rel =>
        refine ⟨k + 1, put4 cs k (.int .i64 (eAt es k).kind) (.int .i64 (eAt es k).value) (.slice b1 (eAt es k).ins.length j1) (.slice b2 (eAt es k).outs.length j2), by omega, by go_num, Lib.hid ?_⟩
        have hlt2 : w.heap.size < wr.heap.size := (Array.getElem?_eq_some_iff.1 H.out.1).1
        have hch : Chg (fun g => g = w.heap.size) w2 ((((w2.setCell ⟨w.heap.size, k * 4, none⟩ (.int .i64 (eAt es k).kind)).setCell ⟨w.heap.size, k * 4 + 1, none⟩ (.int .i64 (eAt es k).value)).setCell ⟨w.heap.size, k * 4 + 2, none⟩ (.slice b1 (eAt es k).ins.length j1)).setCell ⟨w.heap.size, k * 4 + 3, none⟩ (.slice b2 (eAt es k).outs.length j2)) :=
          ((((Chg.refl (fun g => g = w.heap.size) w2).setCell (p := ⟨w.heap.size, k * 4, none⟩) (fun _ => rfl) _).setCell (p := ⟨w.heap.size, k * 4 + 1, none⟩) (fun _ => rfl) _).setCell (p := ⟨w.heap.size, k * 4 + 2, none⟩) (fun _ => rfl) _).setCell (p := ⟨w.heap.size, k * 4 + 3, none⟩) (fun _ => rfl) _
        refine ⟨?_, by rw [put4_size]; exact H.out.2.1, fun j hj => ?_, ?_⟩
        · exact Go.Joins.block_setCell (g := w.heap.size) (i := k * 4 + 3) (Go.Joins.block_setCell (g := w.heap.size) (i := k * 4 + 2) (Go.Joins.block_setCell (g := w.heap.size) (i := k * 4 + 1) (Go.Joins.block_setCell (g := w.heap.size) (i := k * 4) D.out _) _) _) _
        · by_cases hjk : j < k
          · exact ((((H.out.2.2.1 j hjk).below HB2.out).chg hch fun g hg e => by omega).put _ _ _ _ hjk)
          · obtain rfl : j = k := by omega
            have hcs := H.out.2.1
            obtain ⟨p0, p1, p2, p3⟩ := put4_at cs j (.int .i64 (eAt es j).kind) (.int .i64 (eAt es j).value) (.slice b1 (eAt es j).ins.length j1) (.slice b2 (eAt es j).outs.length j2) (by omega)
            exact ⟨_, _, p0, p1, p2, p3, (HO.out.1.chg hch fun g hg e => by omega).mono fun g hg => by omega, (HO.out.2.chg hch fun g hg e => by omega).mono fun g hg => by omega⟩
        · exact (H.out.2.2.2.trans (HB2.out.mono H.out.2.2.2.size)).trans (hch.below (Nat.le_trans H.out.2.2.2.size HB2.out.size) fun g hg => by omega)
      case measure => simp [intOf]; omega
    · obtain rfl : k = n := by omega
      have hfin : Hid (NewEdges w es (.returned (.slice (some ⟨w.heap.size, 0, none⟩) k k)) wr) := by
        refine ⟨_, rfl, ⟨_, k, by rw [hn'.out], Nat.le_of_eq hn'.out, hm2.out, fun j hj => ?_⟩, H.out.2.2.2⟩
        obtain ⟨A, B, h0, h1, h2, h3, h4, h5⟩ := H.out.2.2.1 j (by rw [← hn'.out]; exact hj)
        have d := H.out.1
        refine ⟨w.heap.size, 0, A, B, rfl, Nat.le_refl _, ⟨?_, ?_, ?_, ?_, h4.reads, h5.reads⟩, h4.mono fun g hg => Nat.le_of_lt hg, h5.mono fun g hg => Nat.le_of_lt hg⟩
        · rw [Nat.zero_add]; exact (Go.Joins.cell_of_block d _).trans h0
        · rw [Nat.zero_add]; exact (Go.Joins.cell_of_block d _).trans h1
        · rw [Nat.zero_add]; exact (Go.Joins.cell_of_block d _).trans h2
        · rw [Nat.zero_add]; exact (Go.Joins.cell_of_block d _).trans h3
      go_wp2
      go_ret
      exact hfin.out

end Ints
end Go.Proofs.Ytapgfgbpcpdnlaa
