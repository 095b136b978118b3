/- The laws' helpers over nodes and definitions: copies of definitions; equality. -/
import Derived.Test.YtoegbphkheohoaaNodeC
import Derived.BigQuiet
import Derived.Deep.RegionLaw
namespace Go.Proofs.Ytoegbphkheohoaa
open Go.RowKit
namespace Ints

theorem cells4 {w : World} {g : Nat} {a b c d : Value} {t : TypeId} (h : w.heap[g]? = some (.cells #[a, b, c, d] t (0, 0))) :
    w.cell? ⟨g, 0, none⟩ = some a ∧ w.cell? ⟨g, 1, none⟩ = some b ∧ w.cell? ⟨g, 2, none⟩ = some c ∧ w.cell? ⟨g, 3, none⟩ = some d := by
  refine ⟨?_, ?_, ?_, ?_⟩ <;> rw [Go.Joins.cell_of_block h] <;> rfl
theorem frees4 {w : World} {g : Nat} {cs : Array Value} {t : TypeId} (h : w.heap[g]? = some (.cells cs t (0, 0))) :
    w.frozen? ⟨g, 0, none⟩ = false ∧ w.frozen? ⟨g, 1, none⟩ = false ∧ w.frozen? ⟨g, 2, none⟩ = false ∧ w.frozen? ⟨g, 3, none⟩ = false :=
  ⟨Go.Joins.unfrozen_of_block h _, Go.Joins.unfrozen_of_block h _, Go.Joins.unfrozen_of_block h _, Go.Joins.unfrozen_of_block h _⟩

def NewDef (w : World) (d : DefL) (e : Ending) (w' : World) : Prop := ∃ v, e = .returned (.agg #[.string d.name, .int .i64 d.inp, .int .i64 d.out, v]) ∧ OwnsN (w.heap.size ≤ ·) w' v d.body ∧ Below w.heap.size w w'

set_option maxRecDepth 100000 in
set_option maxHeartbeats 1000000 in
theorem toDef_any (d : DefL) (v : Value) (w : World) (h : ReadsN w v d.body) (hs : totN d.body ≤ 1048576) :
    Calls Try.prog 25 #[.agg #[.string d.name, .int .i64 d.inp, .int .i64 d.out, v]] w (NewDef w d) := by
  obtain ⟨w0, hw0⟩ : ∃ W, W = ((w.alloc (.cells #[.string d.name, .int .i64 d.inp, .int .i64 d.out, v] 49)).alloc (.cells #[.string ⟨#[]⟩, .int .i64 0, .int .i64 0, .slice none 0 0] 55)).alloc (.cells #[.string d.name, .int .i64 d.inp, .int .i64 d.out, .slice none 0 0] 55) := ⟨_, rfl⟩
  have hB : Below w.heap.size w w0 := by rw [hw0]; exact (((Below.refl w.heap.size w).alloc (Nat.le_refl _) _).alloc (by simp) _).alloc (by simp; omega) _
  have hs0 : w0.heap.size = w.heap.size + 3 := by rw [hw0]; simp
  obtain ⟨b0, b1, b2⟩ := three_blocks w (.cells #[.string d.name, .int .i64 d.inp, .int .i64 d.out, v] 49) (.cells #[.string ⟨#[]⟩, .int .i64 0, .int .i64 0, .slice none 0 0] 55) (.cells #[.string d.name, .int .i64 d.inp, .int .i64 d.out, .slice none 0 0] 55)
  rw [← hw0] at b0 b1 b2
  have hc1 := Lib.hid (toTerm_any v d.body w0 (h.below hB) hs)
  obtain ⟨a, cap, rfl⟩ := h.form
  have HX := Lib.hid (And.intro b1 b2)
  have HW := Lib.hid hw0
  have HB := Lib.hid hB
  have HS := Lib.hid hs0
  clear h hs hw0 hB hs0 b0 b1 b2
  go_enter Try.func25, Try.ntmps25
  go_wp2_with fail
  rw [← HW.out]
  refine hc1.out.mono ?_
  rintro e w1 ⟨u1, rfl, ho1, hb1⟩
  obtain ⟨k1, j1, rfl⟩ := ho1.reads.form
  have hs0 := HS.out
  have hsb := hb1.size
  have d1 := block_old HX.out.1 hb1
  have d2 := block_old HX.out.2 hb1
  obtain ⟨p0, p1, p2, p3⟩ := cells4 d2
  obtain ⟨-, -, -, n3⟩ := frees4 d2
  obtain ⟨q0, q1, q2, q3⟩ := cells4 d1
  obtain ⟨r0, r1, r2, r3⟩ := frees4 d1
  have HFin : Hid (∀ W, Chg (fun g => g = w.heap.size + 1 ∨ g = w.heap.size + 2) w1 W → NewDef w d (.returned (.agg #[.string d.name, .int .i64 d.inp, .int .i64 d.out, .slice k1 d.body.length j1])) W) := by
    intro W hch
    have hb5 := HB.out.size
    refine ⟨_, rfl, (ho1.chg hch fun g hg e => by omega).mono fun g hg => by omega, ?_⟩
    exact (HB.out.trans (hb1.mono HB.out.size)).trans (hch.below (by omega) fun g hg => by omega)
  clear ho1 hb1 hs0 hsb d1 d2
  go_wp2
  refine bodyPost_ret (v := .agg #[.string d.name, .int .i64 d.inp, .int .i64 d.out, .slice k1 d.body.length j1]) (by simp [results, Try.results25, go_sem, q0, q1, q2, q3]) rfl ?_
  refine HFin.out _ ?_
  exact (((((Chg.refl _ w1).setCell (fun _ => by simp) _).setCell (fun _ => by simp) _).setCell (fun _ => by simp) _).setCell (fun _ => by simp) _).setCell (fun _ => by simp) _

/-- Definition j stands in the cells, its body's value is B. -/
def DefIn (cs : Array Value) (j : Nat) (d : DefL) (B : Value) : Prop := cs[j * 4]? = some (.string d.name) ∧ cs[j * 4 + 1]? = some (.int .i64 d.inp) ∧ cs[j * 4 + 2]? = some (.int .i64 d.out) ∧ cs[j * 4 + 3]? = some B
def put4 (cs : Array Value) (k : Nat) (a b c d : Value) : Array Value := (((cs.setIfInBounds (k * 4) a).setIfInBounds (k * 4 + 1) b).setIfInBounds (k * 4 + 2) c).setIfInBounds (k * 4 + 3) d
theorem put4_size (cs : Array Value) (k : Nat) (a b c d : Value) : (put4 cs k a b c d).size = cs.size := by simp [put4]
theorem put4_other (cs : Array Value) (k i : Nat) (a b c d : Value) (h : i < k * 4 ∨ k * 4 + 4 ≤ i) : (put4 cs k a b c d)[i]? = cs[i]? := by
  unfold put4
  rw [Array.getElem?_setIfInBounds_ne (by omega), Array.getElem?_setIfInBounds_ne (by omega), Array.getElem?_setIfInBounds_ne (by omega), Array.getElem?_setIfInBounds_ne (by omega)]
theorem put4_at (cs : Array Value) (k : Nat) (d : DefL) (B : Value) (h : k * 4 + 4 ≤ cs.size) : DefIn (put4 cs k (.string d.name) (.int .i64 d.inp) (.int .i64 d.out) B) k d B := by
  unfold DefIn put4
  refine ⟨?_, ?_, ?_, ?_⟩
  · rw [Array.getElem?_setIfInBounds_ne (by omega), Array.getElem?_setIfInBounds_ne (by omega), Array.getElem?_setIfInBounds_ne (by omega), Array.getElem?_setIfInBounds_self_of_lt (by omega)]
  · rw [Array.getElem?_setIfInBounds_ne (by omega), Array.getElem?_setIfInBounds_ne (by omega), Array.getElem?_setIfInBounds_self_of_lt (by simp; omega)]
  · rw [Array.getElem?_setIfInBounds_ne (by omega), Array.getElem?_setIfInBounds_self_of_lt (by simp; omega)]
  · rw [Array.getElem?_setIfInBounds_self_of_lt (by simp; omega)]
theorem DefIn.put {cs : Array Value} {j k : Nat} {d : DefL} {B : Value} (a b c e : Value) (h : DefIn cs j d B) (hjk : j < k ∨ k < j) : DefIn (put4 cs k a b c e) j d B :=
  ⟨by rw [put4_other _ _ _ _ _ _ _ (by omega)]; exact h.1, by rw [put4_other _ _ _ _ _ _ _ (by omega)]; exact h.2.1, by rw [put4_other _ _ _ _ _ _ _ (by omega)]; exact h.2.2.1, by rw [put4_other _ _ _ _ _ _ _ (by omega)]; exact h.2.2.2⟩
/-- A block that holds the definitions, as a slice. -/
theorem ownsD_block {S : Nat → Prop} {w : World} {g : Nat} {cs : Array Value} {ds : List DefL} {n cap : Nat} {Bs : List Value} (hg : w.heap[g]? = some (.cells cs 55 (0, 0))) (hS : S g) (hn : ds.length = n) (h1 : n ≤ cap) (h2 : cap ≤ maxLen)
    (h : ∀ j, j < n → DefIn cs j (dAt ds j) (vAt Bs j) ∧ OwnsN S w (vAt Bs j) (dAt ds j).body)
    (h3 : ∀ i j, i < j → j < n → (dAt ds i).body ≠ [] → (dAt ds j).body ≠ [] → (vAt Bs i).ownBlock ≠ (vAt Bs j).ownBlock) : OwnsD S w (.slice (some ⟨g, 0, none⟩) n cap) ds := by
  subst hn
  refine ⟨_, cap, Bs, rfl, h1, h2, fun k hk => ?_, h3⟩
  obtain ⟨⟨k0, k1, k2, k3⟩, h4⟩ := h k hk
  exact ⟨g, 0, cs, rfl, hS, hg, by rw [Nat.zero_add]; exact k0, by rw [Nat.zero_add]; exact k1, by rw [Nat.zero_add]; exact k2, by rw [Nat.zero_add]; exact k3, h4⟩

def NewDefs (w : World) (ds : List DefL) (e : Ending) (w' : World) : Prop := ∃ v, e = .returned v ∧ OwnsD (w.heap.size ≤ ·) w' v ds ∧ Below w.heap.size w w'
theorem infoDef : (Try.prog.info? 55).map (fun i => (i.zero, i.size, i.bytes)) = some (some (.agg #[.string ByteArray.empty, .int .i64 0, .int .i64 0, .slice none 0 0]), 4, 56) := by kernel_rfl

/-- One body more, in newer blocks than all before. -/
theorem bodies_apart {w2 : World} {Bs : List Value} {ds : List DefL} {k : Nat} {u : Value} {B : Nat} (hl : Bs.length = k) (h : ∀ i j, i < j → j < k → (dAt ds i).body ≠ [] → (dAt ds j).body ≠ [] → (vAt Bs i).ownBlock ≠ (vAt Bs j).ownBlock)
    (ho : ∀ j, j < k → OwnsN (fun g => g < B) w2 (vAt Bs j) (dAt ds j).body) (hu : OwnsN (B ≤ ·) w2 u (dAt ds k).body) :
    ∀ i j, i < j → j < k + 1 → (dAt ds i).body ≠ [] → (dAt ds j).body ≠ [] → (vAt (Bs ++ [u]) i).ownBlock ≠ (vAt (Bs ++ [u]) j).ownBlock := by
  intro i j hij hj hi' hj'
  have e1 : vAt (Bs ++ [u]) i = vAt Bs i := vAt_snoc_lt (by omega)
  rw [e1]
  by_cases hjk : j < k
  · rw [vAt_snoc_lt (by omega)]
    exact h i j hij hjk hi' hj'
  · obtain rfl : j = k := by omega
    have e2 : vAt (Bs ++ [u]) j = u := by rw [← hl]; exact vAt_snoc_at
    rw [e2]
    obtain ⟨⟨_, a, c, e3, _, _, h4⟩, h5⟩ := ho i hij
    obtain ⟨⟨_, a', c', e3', _, _, h4'⟩, h5'⟩ := hu
    obtain ⟨g, off, cs, rfl, _⟩ := h4 (List.length_pos_iff.2 (ofN_ne.2 hi'))
    obtain ⟨g', off', cs', rfl, _⟩ := h4' (List.length_pos_iff.2 (ofN_ne.2 hj'))
    have p1 := h5 g (ofN_ne.2 hi') (by rw [e3]; rfl)
    have p2 := h5' g' (ofN_ne.2 hj') (by rw [e3']; rfl)
    rw [e3, e3']
    intro e
    simp [Value.ownBlock] at e
    omega

set_option maxRecDepth 100000 in
set_option maxHeartbeats 1000000 in
theorem toDefS_any (v : Value) (ds : List DefL) (w : World) (h : ReadsD w v ds) (hs : totD ds ≤ 1048576) : Calls Try.prog 8 #[v] w (NewDefs w ds) := by
  obtain ⟨a, cap, rfl, hm, hc⟩ := open_readsD h
  obtain ⟨n, hn⟩ : ∃ n, ds.length = n := ⟨_, rfl⟩
  have hnt : n ≤ 1048576 := by unfold totD at hs; omega
  have hrow : Hid (∀ k, k < n → totN (dAt ds k).body ≤ 1048576) := by
    intro k hk
    have h1 := cellsD_le ds k (by omega)
    unfold cellsD at h1
    omega
  have hn' := Lib.hid hn
  have hc' := Lib.hid hc
  rw [hn] at hm ⊢
  clear h hc hn hs
  have hm1 := Lib.hid (show 56 * n ≤ 281474976710656 by omega)
  have hm2 := Lib.hid (show n ≤ maxLen by unfold maxLen; omega)
  go_enter Try.func8, Try.ntmps8
  go_wp2_with (at_make; refine wpList_make_cells _ rfl _ _ 31 rfl 55 _ 4 56 Try.underlying31 infoDef n rfl rfl hm1.out hm2.out ?_; intro w1 cs hh1 hcs1 hb1)
  have HH1 := Lib.hid hh1
  have HC1 := Lib.hid hcs1
  have HB1 := Lib.hid hb1
  clear hh1 hcs1 hb1
  go_wp2
  go_loopw [4] (fun i wr => ∃ (k : Nat) (cs : Array Value) (Bs : List Value), k ≤ n ∧ i = .int .i64 k ∧ Hid (wr.heap[w.heap.size]? = some (.cells cs 55 (0, 0)) ∧ cs.size = n * 4 ∧ Bs.length = k ∧ (∀ j, j < k → DefIn cs j (dAt ds j) (vAt Bs j) ∧ OwnsN (fun g => w.heap.size < g ∧ g < wr.heap.size) wr (vAt Bs j) (dAt ds j).body) ∧ (∀ i j, i < j → j < k → (dAt ds i).body ≠ [] → (dAt ds j).body ≠ [] → (vAt Bs i).ownBlock ≠ (vAt Bs j).ownBlock) ∧ Below w.heap.size w wr)) (fun i _ => n + 1 - (intOf i).toNat)
  case atStart => exact ⟨0, cs, [], by omega, rfl, Lib.hid ⟨HH1.out, HC1.out, rfl, fun j hj => by omega, fun i j _ hj => by omega, HB1.out⟩⟩
  case round =>
    obtain ⟨k, cs, Bs, hk, rfl, H⟩ := hrel
    by_cases hlt : k < n
    · obtain ⟨g, off, a1, c1, rfl, hg, hE⟩ := hc'.out k (by rw [hn'.out]; exact hlt)
      obtain ⟨x0, x1, x2, x3, hi⟩ := hE.below H.out.2.2.2.2.2
      have hsz := Lib.hid (toDef_any (dAt ds k) _ wr hi (hrow.out k hlt))
      have hk0 : 0 ≤ (k : Int) := by omega
      have hkn : (k : Int) < (n : Int) := by omega
      clear hE hi hc'
      go_wp2_with fail
      refine hsz.out.mono ?_
      rintro e w2 ⟨u1, rfl, ho1, hb2⟩
      obtain ⟨b1, j1, rfl⟩ := ho1.reads.form
      clear x0 x1 x2 x3
      have d := block_old H.out.1 hb2
      have hcs := H.out.2.1
      obtain ⟨z0, e0⟩ : ∃ z, cs[k * 4]? = some z := ⟨_, Array.getElem?_eq_getElem (by omega)⟩
      obtain ⟨z1, e1⟩ : ∃ z, cs[k * 4 + 1]? = some z := ⟨_, Array.getElem?_eq_getElem (by omega)⟩
      obtain ⟨z2, e2⟩ : ∃ z, cs[k * 4 + 2]? = some z := ⟨_, Array.getElem?_eq_getElem (by omega)⟩
      obtain ⟨z3, e3⟩ : ∃ z, cs[k * 4 + 3]? = some z := ⟨_, Array.getElem?_eq_getElem (by omega)⟩
      have y0 : w2.cell? ⟨w.heap.size, k * 4, none⟩ = some z0 := (Go.Joins.cell_of_block d _).trans e0
      have y1 : w2.cell? ⟨w.heap.size, k * 4 + 1, none⟩ = some z1 := (Go.Joins.cell_of_block d _).trans e1
      have y2 : w2.cell? ⟨w.heap.size, k * 4 + 2, none⟩ = some z2 := (Go.Joins.cell_of_block d _).trans e2
      have y3 : w2.cell? ⟨w.heap.size, k * 4 + 3, none⟩ = some z3 := (Go.Joins.cell_of_block d _).trans e3
      have f0 : w2.frozen? ⟨w.heap.size, k * 4, none⟩ = false := Go.Joins.unfrozen_of_block d _
      have f1 : w2.frozen? ⟨w.heap.size, k * 4 + 1, none⟩ = false := Go.Joins.unfrozen_of_block d _
      have f2 : w2.frozen? ⟨w.heap.size, k * 4 + 2, none⟩ = false := Go.Joins.unfrozen_of_block d _
      have f3 : w2.frozen? ⟨w.heap.size, k * 4 + 3, none⟩ = false := Go.Joins.unfrozen_of_block d _
      have D := Lib.hid d
      have HO := Lib.hid ho1
      have HB2 := Lib.hid hb2
      clear d ho1 hb2 e0 e1 e2 e3 hcs
      go_wp2
      go_roundw
      case rel =>
        obtain ⟨h1, h2, h3, h4, h5, h6⟩ := H.out
        refine ⟨k + 1, put4 cs k (.string (dAt ds k).name) (.int .i64 (dAt ds k).inp) (.int .i64 (dAt ds k).out) (.slice b1 (dAt ds k).body.length j1), Bs ++ [.slice b1 (dAt ds k).body.length j1], by omega, by go_num, Lib.hid ?_⟩
        have hlt2 : w.heap.size < wr.heap.size := (Array.getElem?_eq_some_iff.1 h1).1
        have hsz2 := HB2.out.size
        obtain ⟨W, hW⟩ : ∃ W, W = (((w2.setCell ⟨w.heap.size, k * 4, none⟩ (.string (dAt ds k).name)).setCell ⟨w.heap.size, k * 4 + 1, none⟩ (.int .i64 (dAt ds k).inp)).setCell ⟨w.heap.size, k * 4 + 2, none⟩ (.int .i64 (dAt ds k).out)).setCell ⟨w.heap.size, k * 4 + 3, none⟩ (.slice b1 (dAt ds k).body.length j1) := ⟨_, rfl⟩
        have hch : Chg (fun g => g = w.heap.size) w2 W := by
          rw [hW]
          exact ((((Chg.refl (fun g => g = w.heap.size) w2).setCell (p := ⟨w.heap.size, k * 4, none⟩) (fun _ => rfl) _).setCell (p := ⟨w.heap.size, k * 4 + 1, none⟩) (fun _ => rfl) _).setCell (p := ⟨w.heap.size, k * 4 + 2, none⟩) (fun _ => rfl) _).setCell (p := ⟨w.heap.size, k * 4 + 3, none⟩) (fun _ => rfl) _
        have hWs := hch.size
        rw [← hW]
        have hold : ∀ j, j < k → OwnsN (fun g => w.heap.size < g ∧ g < wr.heap.size) W (vAt Bs j) (dAt ds j).body := fun j hj => ((h4 j hj).2.below HB2.out).chg hch fun g hg e => by omega
        have hnew : OwnsN (wr.heap.size ≤ ·) W (.slice b1 (dAt ds k).body.length j1) (dAt ds k).body := HO.out.chg hch fun g hg e => by omega
        refine ⟨?_, by rw [put4_size]; exact h2, by simp [h3], fun j hj => ?_, ?_, ?_⟩
        · rw [hW]
          exact Go.Joins.block_setCell (g := w.heap.size) (i := k * 4 + 3) (Go.Joins.block_setCell (g := w.heap.size) (i := k * 4 + 2) (Go.Joins.block_setCell (g := w.heap.size) (i := k * 4 + 1) (Go.Joins.block_setCell (g := w.heap.size) (i := k * 4) D.out _) _) _) _
        · by_cases hjk : j < k
          · rw [vAt_snoc_lt (by omega)]
            exact ⟨(h4 j hjk).1.put _ _ _ _ (.inl hjk), (hold j hjk).mono fun g hg => by omega⟩
          · obtain rfl : j = k := by omega
            have e2 : vAt (Bs ++ [.slice b1 (dAt ds j).body.length j1]) j = .slice b1 (dAt ds j).body.length j1 := by rw [← h3]; exact vAt_snoc_at
            rw [e2]
            exact ⟨put4_at cs j (dAt ds j) _ (by omega), hnew.bound.mono fun g hg => by omega⟩
        · exact bodies_apart (B := wr.heap.size) h3 h5 (fun j hj => (hold j hj).mono fun g hg => hg.2) hnew
        · exact (h6.trans (HB2.out.mono h6.size)).trans (hch.below (Nat.le_trans h6.size HB2.out.size) fun g hg => by omega)
      case measure => simp [intOf]; omega
    · obtain rfl : k = n := by omega
      obtain ⟨h1, h2, h3, h4, h5, h6⟩ := H.out
      have hfin : Hid (NewDefs w ds (.returned (.slice (some ⟨w.heap.size, 0, none⟩) k k)) wr) :=
        ⟨_, rfl, ownsD_block h1 (Nat.le_refl _) hn'.out (Nat.le_refl _) hm2.out (fun j hj => ⟨(h4 j hj).1, (h4 j hj).2.mono fun g hg => by omega⟩) h5, h6⟩
      clear h1 h2 h3 h4 h5 h6
      go_wp2
      go_ret
      exact hfin.out

set_option maxRecDepth 100000 in
set_option maxHeartbeats 1000000 in
theorem eqNode_same (k v : Int) (s : ByteArray) (w : World) :
    Calls Try.prog 46 #[.agg #[.int .i64 k, .int .i64 v, .string s], .agg #[.int .i64 k, .int .i64 v, .string s]] w fun e w' => e = .returned (.bool true) ∧ Below w.heap.size w w' := by
  have n1 : (k != k) = false := by simp
  have n2 : (v != v) = false := by simp
  go_enter Try.func46, Try.ntmps46
  go_wp2
  go_ret
  refine ⟨rfl, ?_⟩
  repeat (first | exact Below.refl _ _ | apply below_alloc)

set_option maxRecDepth 100000 in
set_option maxHeartbeats 1000000 in
theorem eqNodeS_same (va vb : Value) (ns : List NodeL) (w : World) (ha : ReadsN w va ns) (hb : ReadsN w vb ns) :
    Calls Try.prog 30 #[va, vb] w fun e w' => e = .returned (.bool true) ∧ Below w.heap.size w w' := by
  obtain ⟨a, ca, rfl, ham, ha3⟩ := open_readsN ha
  obtain ⟨b, cb, rfl, hbm, hb3⟩ := open_readsN hb
  clear ha hb
  obtain ⟨n, hn⟩ : ∃ n, ns.length = n := ⟨_, rfl⟩
  have hn' := Lib.hid hn
  have ha3' := Lib.hid ha3
  have hb3' := Lib.hid hb3
  rw [hn] at ham ⊢
  clear ha3 hb3 hn
  have hne : ((n : Int) != (n : Int)) = false := by simp
  go_enter Try.func30, Try.ntmps30
  go_wp2
  go_loopw [5] (fun i wr => ∃ k : Nat, k ≤ n ∧ i = .int .i64 k ∧ Hid (Below w.heap.size w wr)) (fun i _ => n + 1 - (intOf i).toNat)
  case atStart => exact ⟨0, by omega, rfl, Lib.hid (Below.refl _ _)⟩
  case round =>
    obtain ⟨k, hk, rfl, hB⟩ := hrel
    by_cases hlt : k < n
    · obtain ⟨g, off, rfl, _, hE⟩ := ha3'.out k (by rw [hn'.out]; exact hlt)
      obtain ⟨g', off', rfl, _, hF⟩ := hb3'.out k (by rw [hn'.out]; exact hlt)
      obtain ⟨x0, x1, x2⟩ := hE.below hB.out
      obtain ⟨y0, y1, y2⟩ := hF.below hB.out
      have hbd : Below wr.heap.size wr wr.drew := ⟨rfl, rfl, rfl, Nat.le_refl _, fun _ _ => rfl⟩
      have hcall : Hid (Calls Try.prog 46 #[.agg #[.int .i64 (nAt ns k).kind, .int .i64 (nAt ns k).value, .string (nAt ns k).name], .agg #[.int .i64 (nAt ns k).kind, .int .i64 (nAt ns k).value, .string (nAt ns k).name]] wr.drew fun e w' => e = .returned (.bool true) ∧ Below wr.drew.heap.size wr.drew w') :=
        Lib.hid (eqNode_same _ _ _ wr.drew)
      have hB2 : Hid (Below w.heap.size w wr.drew) := Lib.hid (hB.out.trans (hbd.mono hB.out.size))
      have hk0 : 0 ≤ (k : Int) := by omega
      have hkn : (k : Int) < (n : Int) := by omega
      clear hE hF ha3' hb3' hbd
      go_wp2
      go_region_law (go_simp; with_reducible refine hcall.out.mono ?_; rintro e w1 ⟨rfl, hb1⟩)
      all_goals
        have hB3 := Lib.hid (hB2.out.trans (hb1.mono hB2.out.size))
        clear hb1
        go_wp2
        go_roundw
        case rel => exact ⟨k + 1, by omega, by go_num, hB3⟩
        case measure => simp [intOf]; omega
    · obtain rfl : k = n := by omega
      go_wp2
      go_ret
      exact ⟨rfl, hB.out⟩

set_option maxRecDepth 100000 in
set_option maxHeartbeats 1000000 in
theorem eqTerm_same (va vb : Value) (ns : List NodeL) (w : World) (ha : ReadsN w va ns) (hb : ReadsN w vb ns) :
    Calls Try.prog 13 #[.agg #[va], .agg #[vb]] w fun e w' => e = .returned (.bool true) ∧ Below w.heap.size w w' := by
  have hB := Lib.hid (((Below.refl w.heap.size w).alloc (Nat.le_refl _) (.cells #[va] 35)).alloc (by simp) (.cells #[vb] 35))
  have hc := Lib.hid (eqNodeS_same va vb ns _ (ha.below hB.out) (hb.below hB.out))
  clear ha hb
  go_enter Try.func13, Try.ntmps13
  go_wp2_with fail
  refine hc.out.mono ?_
  rintro e w1 ⟨rfl, hq⟩
  have HB1 := Lib.hid (hB.out.trans (hq.mono hB.out.size))
  clear hq
  go_wp2
  go_ret
  exact ⟨rfl, HB1.out⟩

set_option maxRecDepth 100000 in
set_option maxHeartbeats 1000000 in
theorem eqDef_same (d : DefL) (va vb : Value) (w : World) (ha : ReadsN w va d.body) (hb : ReadsN w vb d.body) :
    Calls Try.prog 29 #[.agg #[.string d.name, .int .i64 d.inp, .int .i64 d.out, va], .agg #[.string d.name, .int .i64 d.inp, .int .i64 d.out, vb]] w fun e w' => e = .returned (.bool true) ∧ Below w.heap.size w w' := by
  have hB := Lib.hid (((Below.refl w.heap.size w).alloc (Nat.le_refl _) (.cells #[.string d.name, .int .i64 d.inp, .int .i64 d.out, va] 55)).alloc (by simp) (.cells #[.string d.name, .int .i64 d.inp, .int .i64 d.out, vb] 55))
  have hc := Lib.hid (fun W (hW : Below w.heap.size w W) => eqTerm_same va vb d.body W (ha.below hW) (hb.below hW))
  have n1 : (d.inp != d.inp) = false := by simp
  have n2 : (d.out != d.out) = false := by simp
  obtain ⟨s, hs⟩ : ∃ s, d.name = s := ⟨_, rfl⟩
  obtain ⟨i, hi⟩ : ∃ s, d.inp = s := ⟨_, rfl⟩
  obtain ⟨o, ho⟩ : ∃ s, d.out = s := ⟨_, rfl⟩
  rw [hs, hi, ho] at hB ⊢
  rw [hi] at n1
  rw [ho] at n2
  clear ha hb hs hi ho
  go_enter Try.func29, Try.ntmps29
  go_wp2_with fail
  refine (hc.out _ hB.out).mono ?_
  rintro e w1 ⟨rfl, hq⟩
  have HB1 := Lib.hid (hB.out.trans (hq.mono hB.out.size))
  clear hq
  go_wp2
  go_ret
  exact ⟨rfl, HB1.out⟩

set_option maxRecDepth 100000 in
set_option maxHeartbeats 1000000 in
theorem eqDefS_same (va vb : Value) (ds : List DefL) (w : World) (ha : ReadsD w va ds) (hb : ReadsD w vb ds) :
    Calls Try.prog 12 #[va, vb] w fun e w' => e = .returned (.bool true) ∧ Below w.heap.size w w' := by
  obtain ⟨a, ca, rfl, ham, ha3⟩ := open_readsD ha
  obtain ⟨b, cb, rfl, hbm, hb3⟩ := open_readsD hb
  clear ha hb
  obtain ⟨n, hn⟩ : ∃ n, ds.length = n := ⟨_, rfl⟩
  have hn' := Lib.hid hn
  have ha3' := Lib.hid ha3
  have hb3' := Lib.hid hb3
  rw [hn] at ham ⊢
  clear ha3 hb3 hn
  have hne : ((n : Int) != (n : Int)) = false := by simp
  go_enter Try.func12, Try.ntmps12
  go_wp2
  go_loopw [5] (fun i wr => ∃ k : Nat, k ≤ n ∧ i = .int .i64 k ∧ Hid (Below w.heap.size w wr)) (fun i _ => n + 1 - (intOf i).toNat)
  case atStart => exact ⟨0, by omega, rfl, Lib.hid (Below.refl _ _)⟩
  case round =>
    obtain ⟨k, hk, rfl, hB⟩ := hrel
    by_cases hlt : k < n
    · obtain ⟨g, off, a1, c1, rfl, _, hE⟩ := ha3'.out k (by rw [hn'.out]; exact hlt)
      obtain ⟨g', off', a2, c2, rfl, _, hF⟩ := hb3'.out k (by rw [hn'.out]; exact hlt)
      obtain ⟨x0, x1, x2, x3, hi⟩ := hE.below hB.out
      obtain ⟨y0, y1, y2, y3, hj⟩ := hF.below hB.out
      have hbd : Below wr.heap.size wr wr.drew := ⟨rfl, rfl, rfl, Nat.le_refl _, fun _ _ => rfl⟩
      have hcall : Hid (Calls Try.prog 29 #[.agg #[.string (dAt ds k).name, .int .i64 (dAt ds k).inp, .int .i64 (dAt ds k).out, .slice a1 (dAt ds k).body.length c1], .agg #[.string (dAt ds k).name, .int .i64 (dAt ds k).inp, .int .i64 (dAt ds k).out, .slice a2 (dAt ds k).body.length c2]] wr.drew fun e w' => e = .returned (.bool true) ∧ Below wr.drew.heap.size wr.drew w') :=
        Lib.hid (eqDef_same (dAt ds k) _ _ wr.drew (hi.below hbd) (hj.below hbd))
      have hB2 : Hid (Below w.heap.size w wr.drew) := Lib.hid (hB.out.trans (hbd.mono hB.out.size))
      have hk0 : 0 ≤ (k : Int) := by omega
      have hkn : (k : Int) < (n : Int) := by omega
      clear hE hF hi hj ha3' hb3' hbd
      go_wp2
      go_region_law (go_simp; with_reducible refine hcall.out.mono ?_; rintro e w1 ⟨rfl, hb1⟩)
      all_goals
        have hB3 := Lib.hid (hB2.out.trans (hb1.mono hB2.out.size))
        clear hb1
        go_wp2
        go_roundw
        case rel => exact ⟨k + 1, by omega, by go_num, hB3⟩
        case measure => simp [intOf]; omega
    · obtain rfl : k = n := by omega
      go_wp2
      go_ret
      exact ⟨rfl, hB.out⟩

end Ints
end Go.Proofs.Ytoegbphkheohoaa
