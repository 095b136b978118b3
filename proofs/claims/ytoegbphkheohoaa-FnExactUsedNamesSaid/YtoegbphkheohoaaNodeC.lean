/- The laws' helpers over nodes and definitions: copies. -/
import Derived.Test.YtoegbphkheohoaaNodeT
import Derived.Lib.SmallJoins
namespace Go.Proofs.Ytoegbphkheohoaa
open Go.RowKit
namespace Ints

set_option maxRecDepth 100000 in
set_option maxHeartbeats 1000000 in
theorem toNode_any (k v : Int) (s : ByteArray) (w : World) :
    Calls Try.prog 42 #[.agg #[.int .i64 k, .int .i64 v, .string s]] w fun e w' => e = .returned (.agg #[.int .i64 k, .int .i64 v, .string s]) ∧ Below w.heap.size w w' := by
  go_enter Try.func42, Try.ntmps42
  go_wp2
  refine bodyPost_ret (v := .agg #[.int .i64 k, .int .i64 v, .string s]) (by simp [results, Try.results42, go_sem]) rfl ?_
  refine ⟨rfl, ?_⟩
  repeat (first | exact Below.refl _ _ | apply below_alloc)

/-- Node j stands in the cells. -/
def NodeIn (cs : Array Value) (j : Nat) (n : NodeL) : Prop := cs[j * 3]? = some (.int .i64 n.kind) ∧ cs[j * 3 + 1]? = some (.int .i64 n.value) ∧ cs[j * 3 + 2]? = some (.string n.name)
def put3 (cs : Array Value) (k : Nat) (a b c : Value) : Array Value := ((cs.setIfInBounds (k * 3) a).setIfInBounds (k * 3 + 1) b).setIfInBounds (k * 3 + 2) c
theorem put3_size (cs : Array Value) (k : Nat) (a b c : Value) : (put3 cs k a b c).size = cs.size := by simp [put3]
theorem put3_other (cs : Array Value) (k i : Nat) (a b c : Value) (h : i < k * 3 ∨ k * 3 + 3 ≤ i) : (put3 cs k a b c)[i]? = cs[i]? := by
  unfold put3
  rw [Array.getElem?_setIfInBounds_ne (by omega), Array.getElem?_setIfInBounds_ne (by omega), Array.getElem?_setIfInBounds_ne (by omega)]
theorem put3_at (cs : Array Value) (k : Nat) (n : NodeL) (h : k * 3 + 3 ≤ cs.size) : NodeIn (put3 cs k (.int .i64 n.kind) (.int .i64 n.value) (.string n.name)) k n := by
  unfold NodeIn put3
  refine ⟨?_, ?_, ?_⟩
  · rw [Array.getElem?_setIfInBounds_ne (by omega), Array.getElem?_setIfInBounds_ne (by omega), Array.getElem?_setIfInBounds_self_of_lt (by omega)]
  · rw [Array.getElem?_setIfInBounds_ne (by omega), Array.getElem?_setIfInBounds_self_of_lt (by simp; omega)]
  · rw [Array.getElem?_setIfInBounds_self_of_lt (by simp; omega)]
theorem NodeIn.put {cs : Array Value} {j k : Nat} {n : NodeL} (a b c : Value) (h : NodeIn cs j n) (hjk : j < k ∨ k < j) : NodeIn (put3 cs k a b c) j n :=
  ⟨by rw [put3_other _ _ _ _ _ _ (by omega)]; exact h.1, by rw [put3_other _ _ _ _ _ _ (by omega)]; exact h.2.1, by rw [put3_other _ _ _ _ _ _ (by omega)]; exact h.2.2⟩
/-- A block that holds the nodes, as a slice. -/
theorem ownsN_block {S : Nat → Prop} {w : World} {g : Nat} {cs : Array Value} {ns : List NodeL} {n cap : Nat} (hg : w.heap[g]? = some (.cells cs 71 (0, 0))) (hS : S g) (hn : ns.length = n) (h1 : n ≤ cap) (h2 : cap ≤ maxLen)
    (h : ∀ j, j < n → NodeIn cs j (nAt ns j)) : OwnsN S w (.slice (some ⟨g, 0, none⟩) n cap) ns := by
  subst hn
  refine ⟨⟨ofN_length ns, _, cap, rfl, h1, h2, fun hp => ⟨g, 0, cs, rfl, hg, fun j hj => ?_⟩⟩, fun g' _ hg' => by simp [Value.ownBlock] at hg'; rw [← hg']; exact hS⟩
  rw [ofN_length] at hj
  have hk : j / 3 < ns.length := by omega
  obtain ⟨k0, k1, k2⟩ := h (j / 3) hk
  have hj3 : j = j / 3 * 3 + j % 3 := by omega
  have hm : j % 3 < 3 := Nat.mod_lt _ (by omega)
  rw [Nat.zero_add, hj3, ofN_at ns (j / 3) (j % 3) hk hm]
  rcases (by omega : j % 3 = 0 ∨ j % 3 = 1 ∨ j % 3 = 2) with e | e | e <;> rw [e]
  · exact k0
  · exact k1
  · exact k2

def NewNodes (w : World) (ns : List NodeL) (e : Ending) (w' : World) : Prop := ∃ v, e = .returned v ∧ OwnsN (w.heap.size ≤ ·) w' v ns ∧ Below w.heap.size w w'
theorem infoNode : (Try.prog.info? 71).map (fun i => (i.zero, i.size, i.bytes)) = some (some (.agg #[.int .i64 0, .int .i64 0, .string ByteArray.empty]), 3, 32) := by kernel_rfl

set_option maxRecDepth 100000 in
set_option maxHeartbeats 1000000 in
theorem toNodeS_any (v : Value) (ns : List NodeL) (w : World) (h : ReadsN w v ns) (hs : totN ns ≤ 1048576) : Calls Try.prog 26 #[v] w (NewNodes w ns) := by
  obtain ⟨a, cap, rfl, hm, hc⟩ := open_readsN h
  obtain ⟨n, hn⟩ : ∃ n, ns.length = n := ⟨_, rfl⟩
  have hnt : n ≤ 1048576 := by unfold totN at hs; omega
  have hn' := Lib.hid hn
  have hc' := Lib.hid hc
  rw [hn] at hm ⊢
  clear h hc hn hs
  have hm1 := Lib.hid (show 32 * n ≤ 281474976710656 by omega)
  have hm2 := Lib.hid (show n ≤ maxLen by unfold maxLen; omega)
  go_enter Try.func26, Try.ntmps26
  go_wp2_with (at_make; refine wpList_make_cells _ rfl _ _ 33 rfl 71 _ 3 32 Try.underlying33 infoNode n rfl rfl hm1.out hm2.out ?_; intro w1 cs hh1 hcs1 hb1)
  have HH1 := Lib.hid hh1
  have HC1 := Lib.hid hcs1
  have HB1 := Lib.hid hb1
  clear hh1 hcs1 hb1
  go_wp2
  go_loopw [4] (fun i wr => ∃ (k : Nat) (cs : Array Value), k ≤ n ∧ i = .int .i64 k ∧ Hid (wr.heap[w.heap.size]? = some (.cells cs 71 (0, 0)) ∧ cs.size = n * 3 ∧ (∀ j, j < k → NodeIn cs j (nAt ns j)) ∧ Below w.heap.size w wr)) (fun i _ => n + 1 - (intOf i).toNat)
  case atStart => exact ⟨0, cs, by omega, rfl, Lib.hid ⟨HH1.out, HC1.out, fun j hj => by omega, HB1.out⟩⟩
  case round =>
    obtain ⟨k, cs, hk, rfl, H⟩ := hrel
    by_cases hlt : k < n
    · obtain ⟨g, off, rfl, hg, hE⟩ := hc'.out k (by rw [hn'.out]; exact hlt)
      obtain ⟨x0, x1, x2⟩ := hE.below H.out.2.2.2
      have hsz := Lib.hid (fun W => toNode_any (nAt ns k).kind (nAt ns k).value (nAt ns k).name W)
      have hk0 : 0 ≤ (k : Int) := by omega
      have hkn : (k : Int) < (n : Int) := by omega
      clear hE hc'
      go_wp2_with fail
      refine (hsz.out _).mono ?_
      rintro e w2 ⟨rfl, hb2⟩
      clear x0 x1 x2
      have d := block_old H.out.1 hb2
      have hcs := H.out.2.1
      obtain ⟨z0, e0⟩ : ∃ z, cs[k * 3]? = some z := ⟨_, Array.getElem?_eq_getElem (by omega)⟩
      obtain ⟨z1, e1⟩ : ∃ z, cs[k * 3 + 1]? = some z := ⟨_, Array.getElem?_eq_getElem (by omega)⟩
      obtain ⟨z2, e2⟩ : ∃ z, cs[k * 3 + 2]? = some z := ⟨_, Array.getElem?_eq_getElem (by omega)⟩
      have y0 : w2.cell? ⟨w.heap.size, k * 3, none⟩ = some z0 := (Go.Joins.cell_of_block d _).trans e0
      have y1 : w2.cell? ⟨w.heap.size, k * 3 + 1, none⟩ = some z1 := (Go.Joins.cell_of_block d _).trans e1
      have y2 : w2.cell? ⟨w.heap.size, k * 3 + 2, none⟩ = some z2 := (Go.Joins.cell_of_block d _).trans e2
      have f0 : w2.frozen? ⟨w.heap.size, k * 3, none⟩ = false := Go.Joins.unfrozen_of_block d _
      have f1 : w2.frozen? ⟨w.heap.size, k * 3 + 1, none⟩ = false := Go.Joins.unfrozen_of_block d _
      have f2 : w2.frozen? ⟨w.heap.size, k * 3 + 2, none⟩ = false := Go.Joins.unfrozen_of_block d _
      have D := Lib.hid d
      have HB2 := Lib.hid hb2
      clear d hb2 e0 e1 e2 hcs
      go_wp2
      go_roundw
      case rel =>
        refine ⟨k + 1, put3 cs k (.int .i64 (nAt ns k).kind) (.int .i64 (nAt ns k).value) (.string (nAt ns k).name), by omega, by go_num, Lib.hid ?_⟩
        have hch : Chg (fun g => g = w.heap.size) w2 (((w2.setCell ⟨w.heap.size, k * 3, none⟩ (.int .i64 (nAt ns k).kind)).setCell ⟨w.heap.size, k * 3 + 1, none⟩ (.int .i64 (nAt ns k).value)).setCell ⟨w.heap.size, k * 3 + 2, none⟩ (.string (nAt ns k).name)) :=
          (((Chg.refl (fun g => g = w.heap.size) w2).setCell (p := ⟨w.heap.size, k * 3, none⟩) (fun _ => rfl) _).setCell (p := ⟨w.heap.size, k * 3 + 1, none⟩) (fun _ => rfl) _).setCell (p := ⟨w.heap.size, k * 3 + 2, none⟩) (fun _ => rfl) _
        have hcs := H.out.2.1
        refine ⟨?_, by rw [put3_size]; exact H.out.2.1, fun j hj => ?_, ?_⟩
        · exact Go.Joins.block_setCell (g := w.heap.size) (i := k * 3 + 2) (Go.Joins.block_setCell (g := w.heap.size) (i := k * 3 + 1) (Go.Joins.block_setCell (g := w.heap.size) (i := k * 3) D.out _) _) _
        · by_cases hjk : j < k
          · exact (H.out.2.2.1 j hjk).put _ _ _ (.inl hjk)
          · obtain rfl : j = k := by omega
            exact put3_at cs j (nAt ns j) (by omega)
        · exact (H.out.2.2.2.trans (HB2.out.mono H.out.2.2.2.size)).trans (hch.below (Nat.le_trans H.out.2.2.2.size HB2.out.size) fun g hg => by omega)
      case measure => simp [intOf]; omega
    · obtain rfl : k = n := by omega
      have hfin : Hid (NewNodes w ns (.returned (.slice (some ⟨w.heap.size, 0, none⟩) k k)) wr) :=
        ⟨_, rfl, ownsN_block H.out.1 (Nat.le_refl _) hn'.out (Nat.le_refl _) hm2.out H.out.2.2.1, H.out.2.2.2⟩
      go_wp2
      go_ret
      exact hfin.out

def NewTerm (w : World) (ns : List NodeL) (e : Ending) (w' : World) : Prop := ∃ v, e = .returned (.agg #[v]) ∧ OwnsN (w.heap.size ≤ ·) w' v ns ∧ Below w.heap.size w w'

set_option maxRecDepth 100000 in
set_option maxHeartbeats 1000000 in
theorem toTerm_any (v : Value) (ns : List NodeL) (w : World) (h : ReadsN w v ns) (hs : totN ns ≤ 1048576) : Calls Try.prog 9 #[.agg #[v]] w (NewTerm w ns) := by
  obtain ⟨w0, hw0⟩ : ∃ W, W = ((w.alloc (.cells #[v] 25)).alloc (.cells #[.slice none 0 0] 35)).alloc (.cells #[.slice none 0 0] 35) := ⟨_, rfl⟩
  have hB : Below w.heap.size w w0 := by rw [hw0]; exact (((Below.refl w.heap.size w).alloc (Nat.le_refl _) _).alloc (by simp) _).alloc (by simp; omega) _
  have hs0 : w0.heap.size = w.heap.size + 3 := by rw [hw0]; simp
  obtain ⟨b0, b1, b2⟩ := three_blocks w (.cells #[v] 25) (.cells #[.slice none 0 0] 35) (.cells #[.slice none 0 0] 35)
  rw [← hw0] at b0 b1 b2
  have hc1 := Lib.hid (toNodeS_any v ns w0 (h.below hB) hs)
  obtain ⟨a, cap, rfl⟩ := h.form
  have HX := Lib.hid (And.intro b1 b2)
  have HW := Lib.hid hw0
  have HB := Lib.hid hB
  have HS := Lib.hid hs0
  clear h hs hw0 hB hs0 b0 b1 b2
  go_enter Try.func9, Try.ntmps9
  go_wp2_with fail
  rw [← HW.out]
  refine hc1.out.mono ?_
  rintro e w1 ⟨u1, rfl, ho1, hb1⟩
  obtain ⟨k1, j1, rfl⟩ := ho1.reads.form
  have hs0 := HS.out
  have hsb := hb1.size
  have d1 := block_old HX.out.1 hb1
  have d2 := block_old HX.out.2 hb1
  have p0 := (Go.Joins.cell_of_block d2 0).trans rfl
  have n0 := Go.Joins.unfrozen_of_block d2 0
  have q0 := (Go.Joins.cell_of_block d1 0).trans rfl
  have r0 := Go.Joins.unfrozen_of_block d1 0
  have HFin : Hid (∀ W, Chg (fun g => g = w.heap.size + 1 ∨ g = w.heap.size + 2) w1 W → NewTerm w ns (.returned (.agg #[.slice k1 ns.length j1])) W) := by
    intro W hch
    have hb5 := HB.out.size
    refine ⟨_, rfl, (ho1.chg hch fun g hg e => by omega).mono fun g hg => by omega, ?_⟩
    exact (HB.out.trans (hb1.mono HB.out.size)).trans (hch.below (by omega) fun g hg => by omega)
  clear ho1 hb1 hs0 hsb d1 d2
  go_wp2
  refine bodyPost_ret (v := .agg #[.slice k1 ns.length j1]) (by simp [results, Try.results9, go_sem, q0]) rfl ?_
  refine HFin.out _ ?_
  exact ((Chg.refl _ w1).setCell (fun _ => by simp) _).setCell (fun _ => by simp) _

end Ints
end Go.Proofs.Ytoegbphkheohoaa
