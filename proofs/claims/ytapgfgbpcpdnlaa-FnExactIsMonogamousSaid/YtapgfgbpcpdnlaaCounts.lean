/- How often each wire occurs: the reference's counts. -/
import Derived.Test.YtapgfgbpcpdnlaaVisit
namespace Go.Proofs.Ytapgfgbpcpdnlaa
open Go.RowKit
namespace Ints
open Fld (inR)

def CntSt (m c : Nat) (A B : List Int) (W : World) : Prop :=
  ∃ cs ds, W.heap[m]? = some (.cells cs 3 (0, 0)) ∧ cs.size = c ∧ (∀ i : Nat, i < c → cs[i]? = some (.int .i64 (A.count (i : Int)))) ∧
    W.heap[m + 1]? = some (.cells ds 3 (0, 0)) ∧ ds.size = c ∧ (∀ i : Nat, i < c → ds[i]? = some (.int .i64 (B.count (i : Int))))
theorem CntSt.below {m c : Nat} {A B : List Int} {W W' : World} (h : CntSt m c A B W) (hb : Below W.heap.size W W') : CntSt m c A B W' := by
  obtain ⟨cs, ds, h1, h2, h3, h4, h5, h6⟩ := h
  exact ⟨cs, ds, block_old h1 hb, h2, h3, block_old h4 hb, h5, h6⟩
theorem count_snoc (A : List Int) (i j : Nat) : ((A ++ [(j : Int)]).count (i : Int) : Int) = if i = j then (A.count (i : Int) : Int) + 1 else (A.count (i : Int) : Int) := by
  by_cases h : i = j
  · subst h
    simp
  · have : ¬ (j : Int) = (i : Int) := by omega
    simp [h, this]
theorem CntSt.fro {m c j : Nat} {A B : List Int} {W : World} (h : CntSt m c A B W) (hj : j < c) : CntSt m c (A ++ [(j : Int)]) B (W.setCell ⟨m, j, none⟩ (.int .i64 ((A.count (j : Int) : Int) + 1))) := by
  obtain ⟨cs, ds, h1, h2, h3, h4, h5, h6⟩ := h
  refine ⟨cs.setIfInBounds j (.int .i64 ((A.count (j : Int) : Int) + 1)), ds, Go.Joins.block_setCell (g := m) (i := j) h1 _, by simpa using h2, fun i hi => ?_, block_keep h4 (Chg.set1 _ _ _) (by simp), h5, h6⟩
  rw [count_snoc]
  by_cases hij : i = j
  · subst hij
    rw [Array.getElem?_setIfInBounds_self_of_lt (by omega), if_pos rfl]
  · rw [Array.getElem?_setIfInBounds_ne (by omega), if_neg hij, h3 i hi]
theorem CntSt.too {m c j : Nat} {A B : List Int} {W : World} (h : CntSt m c A B W) (hj : j < c) : CntSt m c A (B ++ [(j : Int)]) (W.setCell ⟨m + 1, j, none⟩ (.int .i64 ((B.count (j : Int) : Int) + 1))) := by
  obtain ⟨cs, ds, h1, h2, h3, h4, h5, h6⟩ := h
  refine ⟨cs, ds.setIfInBounds j (.int .i64 ((B.count (j : Int) : Int) + 1)), block_keep h1 (Chg.set1 _ _ _) (by simp), h2, h3, Go.Joins.block_setCell (g := m + 1) (i := j) h4 _, by simpa using h5, fun i hi => ?_⟩
  rw [count_snoc]
  by_cases hij : i = j
  · subst hij
    rw [Array.getElem?_setIfInBounds_self_of_lt (by omega), if_pos rfl]
  · rw [Array.getElem?_setIfInBounds_ne (by omega), if_neg hij, h6 i hi]

def outsOf (es : List EdgeL) : List Int := (es.map fun e => e.outs).flatten
def insOf (es : List EdgeL) : List Int := (es.map fun e => e.ins).flatten
def fromL (L : GraphL) : List Int := L.ins ++ outsOf L.edges
def toL (L : GraphL) : List Int := L.outs ++ insOf L.edges
theorem outsOf_succ (es : List EdgeL) (k : Nat) (h : k < es.length) : outsOf (es.take (k + 1)) = outsOf (es.take k) ++ (eAt es k).outs := by
  unfold outsOf
  rw [take_oneE es k h]
  simp
theorem insOf_succ (es : List EdgeL) (k : Nat) (h : k < es.length) : insOf (es.take (k + 1)) = insOf (es.take k) ++ (eAt es k).ins := by
  unfold insOf
  rw [take_oneE es k h]
  simp
theorem outsOf_le (es : List EdgeL) (k : Nat) : (outsOf (es.take k)).length ≤ (outsOf es).length := by
  have h : outsOf es = outsOf (es.take k) ++ outsOf (es.drop k) := by
    unfold outsOf
    rw [← List.flatten_append, ← List.map_append, List.take_append_drop]
  rw [h, List.length_append]
  omega
theorem insOf_le (es : List EdgeL) (k : Nat) : (insOf (es.take k)).length ≤ (insOf es).length := by
  have h : insOf es = insOf (es.take k) ++ insOf (es.drop k) := by
    unfold insOf
    rw [← List.flatten_append, ← List.map_append, List.take_append_drop]
  rw [h, List.length_append]
  omega
theorem wrap_count (A : List Int) (i : Int) (N : Nat) (h : A.length ≤ N) (hN : N ≤ 4000000) : IntKind.i64.wrap ((A.count i : Int) + 1) = (A.count i : Int) + 1 := by
  have := List.count_le_length (a := i) (l := A)
  exact IntWalk.i64_in _ (by omega)

def cntL (c : Nat) (A : List Int) : List Int := (List.range c).map fun i : Nat => ((A.count (i : Int) : Nat) : Int)
theorem cnt_start {c m : Nat} {w1 w2 : World} (h1 : w1.ownsRow m 3 1 (.slice (some ⟨m, 0, none⟩) c c) c (List.replicate c (.int .i64 0)))
    (hb : Below w1.heap.size w1 w2) (h2 : w2.ownsRow (m + 1) 3 1 (.slice (some ⟨m + 1, 0, none⟩) c c) c (List.replicate c (.int .i64 0))) : CntSt m c [] [] w2 := by
  have get : ∀ (W : World) (B : Nat), W.ownsRow B 3 1 (.slice (some ⟨B, 0, none⟩) c c) c (List.replicate c (.int .i64 0)) → ∃ cs, W.heap[B]? = some (.cells cs 3 (0, 0)) ∧ cs.size = c ∧ ∀ i : Nat, i < c → cs[i]? = some (.int .i64 (([] : List Int).count (i : Int))) := by
    intro W B hown
    obtain ⟨_, h2⟩ := hown
    rcases h2 with ⟨hh, _⟩ | ⟨g, cap, cur, hv, _, hh, _, _, hz, ht⟩
    · simp at hh
    · simp only [Value.slice.injEq, Option.some.injEq, Addr.mk.injEq, and_true] at hv
      obtain ⟨rfl, -, rfl⟩ := hv
      refine ⟨cur, hh, by omega, fun i hi => ?_⟩
      have e : cur.toList[i]? = (List.replicate c (Value.int .i64 0))[i]? := by
        rw [← ht, List.getElem?_take, if_pos (by omega)]
      rw [List.getElem?_replicate, if_pos hi] at e
      rw [← Array.getElem?_toList, e]
      simp
  obtain ⟨cs, k1, k2, k3⟩ := get w1 _ h1
  obtain ⟨ds, k4, k5, k6⟩ := get w2 _ h2
  exact ⟨cs, ds, block_old k1 hb, k2, k3, k4, k5, k6⟩
theorem CntSt.end {m c : Nat} {A B : List Int} {W : World} (h : CntSt m c A B W) (hc : c ≤ 100) : ReadsI W (.slice (some ⟨m, 0, none⟩) c c) (cntL c A) ∧ ReadsI W (.slice (some ⟨m + 1, 0, none⟩) c c) (cntL c B) := by
  obtain ⟨cs, ds, h1, h2, h3, h4, h5, h6⟩ := h
  have hl : ∀ A, (cntL c A).length = c := fun A => by simp [cntL]
  have hgo : ∀ (g : Nat) (cs : Array Value) (A : List Int), W.heap[g]? = some (.cells cs 3 (0, 0)) → (∀ i : Nat, i < c → cs[i]? = some (.int .i64 (A.count (i : Int)))) → ReadsI W (.slice (some ⟨g, 0, none⟩) c c) (cntL c A) := by
    intro g cs A k1 k3
    unfold ReadsI
    rw [hl]
    refine ⟨by rw [ofL_length, hl]; omega, _, c, rfl, Nat.le_refl _, by unfold maxLen; omega, fun _ => ⟨g, 0, rfl, fun j hj => ?_⟩⟩
    rw [ofL_length, hl] at hj
    rw [ofL_at _ j (by rw [hl]; exact hj), Nat.zero_add, Go.Joins.cell_of_block k1, k3 j hj]
    simp [cntL, hj]
  exact ⟨hgo m cs A h1 h3, hgo (m + 1) ds B h4 h6⟩

theorem reads_cells {w : World} {a : Option Addr} {n cap : Nat} {l : List Int} (h : Reads w 1 (.slice a n cap) n (ofL l)) : n ≤ 9223372036854775807 ∧ (0 < n → ∃ g off, a = some ⟨g, off, none⟩ ∧ g < w.heap.size ∧ ∀ j, j < n → w.cell? ⟨g, off + j, none⟩ = some (.int .i64 (l[j]?.getD 0))) := by
  obtain ⟨_, a', c', e, hm, hr⟩ := open_reads h
  simp only [Value.slice.injEq] at e
  obtain ⟨rfl, -, rfl⟩ := e
  exact ⟨hm, hr⟩

set_option maxRecDepth 100000 in
set_option maxHeartbeats 4000000 in
theorem hgCounts_any (c : Nat) (hc : c ≤ 100) (v1 v2 v3 : Value) (L : GraphL) (w : World) (h : ReadsG w v1 v2 v3 L) (hok : (wiresOf L).all (okB c) = true) (hlen : (wiresOf L).length ≤ 4000000) :
    Calls Try.prog 22 #[.agg #[.int .i64 c, v1, v2, v3]] w fun e w' => ∃ u1 u2, e = .returned (.tuple #[u1, u2]) ∧ ReadsI w' u1 (cntL c (fromL L)) ∧ ReadsI w' u2 (cntL c (toL L)) ∧ Below w.heap.size w w' := by
  obtain ⟨w0, hw0⟩ : ∃ W, W = w.alloc (.cells #[.int .i64 c, v1, v2, v3] 30) := ⟨_, rfl⟩
  have hB : Below w.heap.size w w0 := by rw [hw0]; exact (Below.refl _ _).alloc (Nat.le_refl _) _
  obtain ⟨a, cap, rfl, hm, hE⟩ := open_readsE h.1
  obtain ⟨hl2, a', c', rfl, hm2, hr2⟩ := open_reads h.2.1
  obtain ⟨hl3, a'', c'', rfl, hm3, hr3⟩ := open_reads h.2.2
  have hall : ∀ x ∈ wiresOf L, okB c x = true := by simpa using hok
  have hk1 : Hid (∀ k, k < L.ins.length → okB c (L.ins[k]?.getD 0) = true) := Lib.hid fun k hk => hall _ (by
    rw [List.getElem?_eq_getElem hk]
    simp [wiresOf])
  have hk2 : Hid (∀ k, k < L.outs.length → okB c (L.outs[k]?.getD 0) = true) := Lib.hid fun k hk => hall _ (by
    rw [List.getElem?_eq_getElem hk]
    simp [wiresOf])
  have hmem : ∀ i, i < L.edges.length → ∀ x, x ∈ (eAt L.edges i).ins ∨ x ∈ (eAt L.edges i).outs → x ∈ wiresOf L := by
    intro i hi x hx
    unfold wiresOf edgeWires
    refine List.mem_append.2 (.inr (List.mem_flatten.2 ⟨(eAt L.edges i).ins ++ (eAt L.edges i).outs, List.mem_map.2 ⟨eAt L.edges i, ?_, rfl⟩, List.mem_append.2 hx⟩))
    rw [eAt_eq _ _ hi]
    exact List.getElem_mem hi
  have hk3 : Hid (∀ i, i < L.edges.length → ∀ k, k < (eAt L.edges i).ins.length → okB c ((eAt L.edges i).ins[k]?.getD 0) = true) := Lib.hid fun i hi k hk => hall _ (hmem i hi _ (.inl (by
    rw [List.getElem?_eq_getElem hk]
    simp)))
  have hk4 : Hid (∀ i, i < L.edges.length → ∀ k, k < (eAt L.edges i).outs.length → okB c ((eAt L.edges i).outs[k]?.getD 0) = true) := Lib.hid fun i hi k hk => hall _ (hmem i hi _ (.inr (by
    rw [List.getElem?_eq_getElem hk]
    simp)))
  have hcc : ∀ es : List EdgeL, (edgeWires es).length = (insOf es).length + (outsOf es).length := by
    intro es
    unfold edgeWires insOf outsOf
    induction es with
    | nil => rfl
    | cons e es ih => simp only [List.map_cons, List.flatten_cons, List.length_append, ih]; omega
  have hlen2 : L.ins.length + L.outs.length + (insOf L.edges).length + (outsOf L.edges).length ≤ 4000000 := by
    have := hcc L.edges
    unfold wiresOf at hlen
    rw [List.length_append, List.length_append] at hlen
    omega
  have HLEN := Lib.hid hlen2
  have hX : Hid (∀ W, Below w0.heap.size w0 W → W.cell? ⟨w.heap.size, 0, none⟩ = some (.int .i64 c) ∧ W.cell? ⟨w.heap.size, 1, none⟩ = some (.slice a L.edges.length cap) ∧ W.cell? ⟨w.heap.size, 2, none⟩ = some (.slice a' L.ins.length c') ∧ W.cell? ⟨w.heap.size, 3, none⟩ = some (.slice a'' L.outs.length c'')) :=
    fun W hW => ⟨cell_old hW (by rw [hw0]; simp [go_sem]), cell_old hW (by rw [hw0]; simp [go_sem]), cell_old hW (by rw [hw0]; simp [go_sem]), cell_old hW (by rw [hw0]; simp [go_sem])⟩
  have HEE := Lib.hid hE
  have HR2 := Lib.hid hr2
  have HR3 := Lib.hid hr3
  have HW := Lib.hid hw0
  have HB := Lib.hid hB
  have hm4 := Lib.hid (show 8 * c ≤ 281474976710656 by omega)
  have hm5 := Lib.hid (show c ≤ maxLen by unfold maxLen; omega)
  obtain ⟨n, hn⟩ : ∃ n, L.edges.length = n := ⟨_, rfl⟩
  obtain ⟨n1, hn1⟩ : ∃ n, L.ins.length = n := ⟨_, rfl⟩
  obtain ⟨n2, hn2⟩ : ∃ n, L.outs.length = n := ⟨_, rfl⟩
  have HN := Lib.hid (And.intro hn (And.intro hn1 hn2))
  have HS0 := Lib.hid (show w0.heap.size = w.heap.size + 1 by rw [hw0]; simp)
  rw [hn] at hm HEE hX HW hk3 hk4
  rw [hn1] at hm2 HR2 hX HW hk1
  rw [hn2] at hm3 HR3 hX HW hk2
  have HC := Lib.hid hc
  clear h hE hr2 hr3 hw0 hB hn hn1 hn2 hlen hlen2 hall hmem hcc hok hl2 hl3 hc
  rw [HN.out.1, HN.out.2.1, HN.out.2.2]
  go_enter Try.func22, Try.ntmps22
  go_wp2_with (first
    | (at_make; refine wpList_make_one _ rfl _ _ 23 rfl 3 (.int .i64 0) 8 Try.underlying23 infoI rfl c rfl rfl hm4.out hm5.out ?_; first | (intro w1 hown1 hb1 hs1; have z0 := hX.out w1 (by rw [HW.out]; exact hb1); obtain ⟨z0, z1, z2, z3⟩ := z0) | skip))
  intro w2 hown2 hb2 hs2
  have hs0 := HS0.out
  rw [← HW.out] at hown1 hb1 hs1
  rw [hs0] at hown1 hs1
  have hb2' : Below w1.heap.size w1 w2 := by rw [hs1]; exact hb2
  have HST := Lib.hid (cnt_start hown1 hb2' hown2)
  have hbw2 : Below w0.heap.size w0 w2 := hb1.trans (hb2'.mono hb1.size)
  have HBW := Lib.hid hbw2
  obtain ⟨x0, x1, x2, x3⟩ := hX.out w2 hbw2
  clear z0 z1 z2 z3 hown1 hb1 hs1 hown2 hb2 hb2' hs2 hbw2 hs0
  go_wp2
  go_loopw [25, 7] (fun i x wr => ∃ q : Nat, q ≤ n1 ∧ i = .int .i64 q ∧ Hid (CntSt (w.heap.size + 1) c ([] ++ L.ins.take q) [] wr ∧ Below w0.heap.size w0 wr)) (fun i _ _ => n1 + 1 - (intOf i).toNat)
  case atStart => exact ⟨0, by omega, rfl, Lib.hid ⟨by simpa using HST.out, HBW.out⟩⟩
  case round =>
    obtain ⟨k25, hk, rfl, H25⟩ := hrel
    by_cases hlt : k25 < n1
    · obtain ⟨g, off, rfl, hg, hcell⟩ := HR2.out (by omega)
      have hx : wr.cell? ⟨g, off + k25, none⟩ = some (.int .i64 (L.ins[k25]?.getD 0)) := cell_old (HB.out.trans (H25.out.2.mono HB.out.size)) (hcell k25 hlt)
      have htk := Lib.hid (take_one L.ins k25 (by rw [HN.out.2.1]; exact hlt))
      have hjok := hk1.out k25 hlt
      obtain ⟨x, hxx⟩ : ∃ x, L.ins[k25]?.getD 0 = x := ⟨_, rfl⟩
      rw [hxx] at hx htk hjok
      obtain ⟨j, rfl, hj⟩ := okB_true hjok
      obtain ⟨cs, ds, h1, h2, h3, h4, h5, h6⟩ := H25.out.1
      have y := (Go.Joins.cell_of_block h1 j).trans (h3 j hj)
      have f := Go.Joins.unfrozen_of_block h1 j
      have hwr := wrap_count ([] ++ L.ins.take k25) (j : Int) 4000000 (by rw [List.nil_append, List.length_take]; have := HLEN.out; have := HN.out.2.1; omega) (Nat.le_refl _)
      have hst := H25.out.1.fro hj
      have hbl := H25.out.2.setCell (p := ⟨w.heap.size + 1, j, none⟩) (by rw [HS0.out]; simp) (.int .i64 ((([] ++ L.ins.take k25).count (j : Int) : Int) + 1))
      have hk0 : 0 ≤ (k25 : Int) := by omega
      have hkn : (k25 : Int) < (n1 : Int) := by omega
      have hj0 : 0 ≤ (j : Int) := by omega
      have hjc : (j : Int) < (c : Int) := by omega
      rw [List.append_assoc, ← htk.out] at hst
      have hnew := Lib.hid (And.intro hst hbl)
      obtain ⟨z, hz⟩ : ∃ z : Int, (([] ++ L.ins.take k25).count (j : Int) : Int) = z := ⟨_, rfl⟩
      rw [hz] at y hwr hnew
      clear h1 h2 h3 h4 h5 h6 hz hst hbl hxx hcell hg
      go_wp2
      go_roundw
      case rel => exact ⟨k25 + 1, by omega, by go_num, Lib.hid ⟨hnew.out.1, hnew.out.2⟩⟩
      case measure => simp [intOf]; omega
    · obtain rfl : k25 = n1 := by omega
      have hst1 := H25.out.1
      rw [← HN.out.2.1, List.take_length, List.nil_append] at hst1
      have HST1 := Lib.hid hst1
      have HB1 := Lib.hid H25.out.2
      clear x0 x1 x2 x3
      obtain ⟨x0, x1, x2, x3⟩ := hX.out wr H25.out.2
      clear hst1
      go_wp2
      go_loopw [39, 9] (fun i x wr => ∃ q : Nat, q ≤ n2 ∧ i = .int .i64 q ∧ Hid (CntSt (w.heap.size + 1) c L.ins ([] ++ L.outs.take q) wr ∧ Below w0.heap.size w0 wr)) (fun i _ _ => n2 + 1 - (intOf i).toNat)
      case atStart => exact ⟨0, by omega, rfl, Lib.hid ⟨by simpa using HST1.out, HB1.out⟩⟩
      case round =>
        obtain ⟨k39, hk, rfl, H39⟩ := hrel
        by_cases hlt : k39 < n2
        · obtain ⟨g, off, rfl, hg, hcell⟩ := HR3.out (by omega)
          have hx : wr.cell? ⟨g, off + k39, none⟩ = some (.int .i64 (L.outs[k39]?.getD 0)) := cell_old (HB.out.trans (H39.out.2.mono HB.out.size)) (hcell k39 hlt)
          have htk := Lib.hid (take_one L.outs k39 (by rw [HN.out.2.2]; exact hlt))
          have hjok := hk2.out k39 hlt
          obtain ⟨x, hxx⟩ : ∃ x, L.outs[k39]?.getD 0 = x := ⟨_, rfl⟩
          rw [hxx] at hx htk hjok
          obtain ⟨j, rfl, hj⟩ := okB_true hjok
          obtain ⟨cs, ds, h1, h2, h3, h4, h5, h6⟩ := H39.out.1
          have y := (Go.Joins.cell_of_block h4 j).trans (h6 j hj)
          have f := Go.Joins.unfrozen_of_block h4 j
          have hwr := wrap_count ([] ++ L.outs.take k39) (j : Int) 4000000 (by rw [List.nil_append, List.length_take]; have := HLEN.out; have := HN.out.2.2; omega) (Nat.le_refl _)
          have hst := H39.out.1.too hj
          have hbl := H39.out.2.setCell (p := ⟨w.heap.size + 1 + 1, j, none⟩) (by rw [HS0.out]; simp) (.int .i64 ((([] ++ L.outs.take k39).count (j : Int) : Int) + 1))
          have hk0 : 0 ≤ (k39 : Int) := by omega
          have hkn : (k39 : Int) < (n2 : Int) := by omega
          have hj0 : 0 ≤ (j : Int) := by omega
          have hjc : (j : Int) < (c : Int) := by omega
          rw [List.append_assoc, ← htk.out] at hst
          have hnew := Lib.hid (And.intro hst hbl)
          obtain ⟨z, hz⟩ : ∃ z : Int, (([] ++ L.outs.take k39).count (j : Int) : Int) = z := ⟨_, rfl⟩
          rw [hz] at y hwr hnew
          clear h1 h2 h3 h4 h5 h6 hz hst hbl hxx hcell hg
          go_wp2
          go_roundw
          case rel => exact ⟨k39 + 1, by omega, by go_num, Lib.hid ⟨hnew.out.1, hnew.out.2⟩⟩
          case measure => simp [intOf]; omega
        · obtain rfl : k39 = n2 := by omega
          have hst2 := H39.out.1
          rw [← HN.out.2.2, List.take_length, List.nil_append] at hst2
          have HST2 := Lib.hid hst2
          have HB2 := Lib.hid H39.out.2
          clear x0 x1 x2 x3
          obtain ⟨x0, x1, x2, x3⟩ := hX.out wr H39.out.2
          clear hst2
          go_wp2
          go_loopw [53, 11] (fun i x wr => ∃ k : Nat, k ≤ n ∧ i = .int .i64 k ∧ Hid (CntSt (w.heap.size + 1) c (L.ins ++ outsOf (L.edges.take k)) (L.outs ++ insOf (L.edges.take k)) wr ∧ Below w0.heap.size w0 wr)) (fun i _ _ => n + 1 - (intOf i).toNat)
          case atStart => exact ⟨0, by omega, rfl, Lib.hid ⟨by simpa [outsOf, insOf] using HST2.out, HB2.out⟩⟩
          case round =>
            obtain ⟨k, hk, rfl, H⟩ := hrel
            obtain ⟨wo, hwo⟩ : ∃ W, W = wr := ⟨_, rfl⟩
            rw [← hwo] at H ⊢
            clear hwo wr
            by_cases hlt : k < n
            · obtain ⟨g, off, a1, c1, a2, c2, rfl, hg, hEk⟩ := HEE.out k hlt
              obtain ⟨y0, y1, y2, y3, -, -⟩ := hEk.below (HB.out.trans (H.out.2.mono HB.out.size))
              obtain ⟨hmi, hri⟩ := reads_cells hEk.2.2.2.2.1
              obtain ⟨hmo, hro⟩ := reads_cells hEk.2.2.2.2.2
              have HRI := Lib.hid hri
              have HRO := Lib.hid hro
              have hlt' : k < L.edges.length := by rw [HN.out.1]; exact hlt
              have hk0 : 0 ≤ (k : Int) := by omega
              have hkn : (k : Int) < (n : Int) := by omega
              have hko := Lib.hid (hk4.out k hlt)
              have hki := Lib.hid (hk3.out k hlt)
              have hso := Lib.hid (outsOf_succ L.edges k hlt')
              have hsi := Lib.hid (insOf_succ L.edges k hlt')
              have hlo := Lib.hid (outsOf_le L.edges (k + 1))
              have hli := Lib.hid (insOf_le L.edges (k + 1))
              have hmlt : w.heap.size + 1 + 1 < wo.heap.size := by
                obtain ⟨cs, ds, _, _, _, h4, _, _⟩ := H.out.1
                exact (Array.getElem?_eq_some_iff.1 h4).1
              obtain ⟨lI, hlI⟩ : ∃ l, (eAt L.edges k).ins = l := ⟨_, rfl⟩
              obtain ⟨lO, hlO⟩ : ∃ l, (eAt L.edges k).outs = l := ⟨_, rfl⟩
              obtain ⟨nI, hnI⟩ : ∃ x, lI.length = x := ⟨_, rfl⟩
              obtain ⟨nO, hnO⟩ : ∃ x, lO.length = x := ⟨_, rfl⟩
              rw [hlI] at hki hsi HRI hmi y2
              rw [hlO] at hko hso HRO hmo y3
              rw [hnI] at hki HRI hmi y2
              rw [hnO] at hko HRO hmo y3
              have HNI := Lib.hid (And.intro hnI hnO)
              have bx2 : (wo.alloc (.cells #[.int .i64 (eAt L.edges k).kind, .int .i64 (eAt L.edges k).value, .slice a1 nI c1, .slice a2 nO c2] 46)).cell? ⟨wo.heap.size, 2, none⟩ = some (.slice a1 nI c1) := by simp [go_sem]
              have hbo : Below wo.heap.size wo (wo.alloc (.cells #[.int .i64 (eAt L.edges k).kind, .int .i64 (eAt L.edges k).value, .slice a1 nI c1, .slice a2 nO c2] 46)) := (Below.refl _ _).alloc (Nat.le_refl _) _
              have HSTo := Lib.hid (H.out.1.below hbo)
              have HBo := Lib.hid (H.out.2.trans (hbo.mono H.out.2.size))
              have BX := Lib.hid bx2
              clear hEk hri hro hlt' hlI hlO hnI hnO bx2 hbo
              go_wp2
              go_loopw [60, 13] (fun i x wr => ∃ q : Nat, q ≤ nO ∧ i = .int .i64 q ∧ Hid (CntSt (w.heap.size + 1) c ((L.ins ++ outsOf (L.edges.take k)) ++ lO.take q) (L.outs ++ insOf (L.edges.take k)) wr ∧ Below w0.heap.size w0 wr ∧ wr.cell? ⟨wo.heap.size, 2, none⟩ = some (.slice a1 nI c1))) (fun i _ _ => nO + 1 - (intOf i).toNat)
              case atStart => exact ⟨0, by omega, rfl, Lib.hid ⟨by simpa using HSTo.out, HBo.out, BX.out⟩⟩
              case round =>
                obtain ⟨k60, hk, rfl, H60⟩ := hrel
                by_cases hlt : k60 < nO
                · obtain ⟨g, off, rfl, hg, hcell⟩ := HRO.out (by omega)
                  have hx : wr.cell? ⟨g, off + k60, none⟩ = some (.int .i64 (lO[k60]?.getD 0)) := cell_old (HB.out.trans (H60.out.2.1.mono HB.out.size)) (hcell k60 hlt)
                  have htk := Lib.hid (take_one lO k60 (by rw [HNI.out.2]; exact hlt))
                  have hjok := hko.out k60 hlt
                  obtain ⟨x, hxx⟩ : ∃ x, lO[k60]?.getD 0 = x := ⟨_, rfl⟩
                  rw [hxx] at hx htk hjok
                  obtain ⟨j, rfl, hj⟩ := okB_true hjok
                  obtain ⟨cs, ds, h1, h2, h3, h4, h5, h6⟩ := H60.out.1
                  have y := (Go.Joins.cell_of_block h1 j).trans (h3 j hj)
                  have f := Go.Joins.unfrozen_of_block h1 j
                  have hwr := wrap_count ((L.ins ++ outsOf (L.edges.take k)) ++ lO.take k60) (j : Int) 4000000 (by rw [List.length_append, List.length_append, List.length_take]; have := HLEN.out; have h1 := hlo.out; rw [hso.out, List.length_append] at h1; have := HNI.out.2; omega) (Nat.le_refl _)
                  have hst := H60.out.1.fro hj
                  have hbl := H60.out.2.1.setCell (p := ⟨w.heap.size + 1, j, none⟩) (by rw [HS0.out]; simp) (.int .i64 ((((L.ins ++ outsOf (L.edges.take k)) ++ lO.take k60).count (j : Int) : Int) + 1))
                  have hbx := Lib.hid ((Chg.set1 wr ⟨w.heap.size + 1, j, none⟩ (.int .i64 (((L.ins ++ outsOf (L.edges.take k) ++ lO.take k60).count (j : Int) : Int) + 1))).keep H60.out.2.2 (fun e => by simp only at e; omega))
                  have hk0 : 0 ≤ (k60 : Int) := by omega
                  have hkn : (k60 : Int) < (nO : Int) := by omega
                  have hj0 : 0 ≤ (j : Int) := by omega
                  have hjc : (j : Int) < (c : Int) := by omega
                  rw [List.append_assoc, ← htk.out] at hst
                  have hnew := Lib.hid (And.intro hst hbl)
                  obtain ⟨z, hz⟩ : ∃ z : Int, (((L.ins ++ outsOf (L.edges.take k)) ++ lO.take k60).count (j : Int) : Int) = z := ⟨_, rfl⟩
                  rw [hz] at y hwr hnew hbx
                  clear h1 h2 h3 h4 h5 h6 hz hst hbl hxx hcell hg
                  go_wp2
                  go_roundw
                  case rel => exact ⟨k60 + 1, by omega, by go_num, Lib.hid ⟨hnew.out.1, hnew.out.2, hbx.out⟩⟩
                  case measure => simp [intOf]; omega
                · obtain rfl : k60 = nO := by omega
                  have hst3 := H60.out.1
                  rw [← HNI.out.2, List.take_length, List.append_assoc, ← hso.out] at hst3
                  have HST3 := Lib.hid hst3
                  have HB3 := Lib.hid H60.out.2.1
                  have z2 := H60.out.2.2
                  clear hst3
                  go_wp2
                  go_loopw [74, 15] (fun i x wr => ∃ q : Nat, q ≤ nI ∧ i = .int .i64 q ∧ Hid (CntSt (w.heap.size + 1) c (L.ins ++ outsOf (L.edges.take (k + 1))) ((L.outs ++ insOf (L.edges.take k)) ++ lI.take q) wr ∧ Below w0.heap.size w0 wr)) (fun i _ _ => nI + 1 - (intOf i).toNat)
                  case atStart => exact ⟨0, by omega, rfl, Lib.hid ⟨by simpa using HST3.out, HB3.out⟩⟩
                  case round =>
                    obtain ⟨k74, hk, rfl, H74⟩ := hrel
                    by_cases hlt : k74 < nI
                    · obtain ⟨g, off, rfl, hg, hcell⟩ := HRI.out (by omega)
                      have hx : wr.cell? ⟨g, off + k74, none⟩ = some (.int .i64 (lI[k74]?.getD 0)) := cell_old (HB.out.trans (H74.out.2.mono HB.out.size)) (hcell k74 hlt)
                      have htk := Lib.hid (take_one lI k74 (by rw [HNI.out.1]; exact hlt))
                      have hjok := hki.out k74 hlt
                      obtain ⟨x, hxx⟩ : ∃ x, lI[k74]?.getD 0 = x := ⟨_, rfl⟩
                      rw [hxx] at hx htk hjok
                      obtain ⟨j, rfl, hj⟩ := okB_true hjok
                      obtain ⟨cs, ds, h1, h2, h3, h4, h5, h6⟩ := H74.out.1
                      have y := (Go.Joins.cell_of_block h4 j).trans (h6 j hj)
                      have f := Go.Joins.unfrozen_of_block h4 j
                      have hwr := wrap_count ((L.outs ++ insOf (L.edges.take k)) ++ lI.take k74) (j : Int) 4000000 (by rw [List.length_append, List.length_append, List.length_take]; have := HLEN.out; have h1 := hli.out; rw [hsi.out, List.length_append] at h1; have := HNI.out.1; omega) (Nat.le_refl _)
                      have hst := H74.out.1.too hj
                      have hbl := H74.out.2.setCell (p := ⟨w.heap.size + 1 + 1, j, none⟩) (by rw [HS0.out]; simp) (.int .i64 ((((L.outs ++ insOf (L.edges.take k)) ++ lI.take k74).count (j : Int) : Int) + 1))
                      have hk0 : 0 ≤ (k74 : Int) := by omega
                      have hkn : (k74 : Int) < (nI : Int) := by omega
                      have hj0 : 0 ≤ (j : Int) := by omega
                      have hjc : (j : Int) < (c : Int) := by omega
                      rw [List.append_assoc, ← htk.out] at hst
                      have hnew := Lib.hid (And.intro hst hbl)
                      obtain ⟨z, hz⟩ : ∃ z : Int, (((L.outs ++ insOf (L.edges.take k)) ++ lI.take k74).count (j : Int) : Int) = z := ⟨_, rfl⟩
                      rw [hz] at y hwr hnew
                      clear h1 h2 h3 h4 h5 h6 hz hst hbl hxx hcell hg
                      go_wp2
                      go_roundw
                      case rel => exact ⟨k74 + 1, by omega, by go_num, Lib.hid ⟨hnew.out.1, hnew.out.2⟩⟩
                      case measure => simp [intOf]; omega
                    · obtain rfl : k74 = nI := by omega
                      have hst4 := H74.out.1
                      rw [← HNI.out.1, List.take_length, List.append_assoc, ← hsi.out] at hst4
                      have HST4 := Lib.hid hst4
                      have HB4 := Lib.hid H74.out.2
                      clear hst4
                      go_wp2
                      go_roundw
                      case rel => exact ⟨k + 1, by omega, by go_num, Lib.hid ⟨HST4.out, HB4.out⟩⟩
                      case measure => simp [intOf]; omega
            · obtain rfl : k = n := by omega
              have hst5 := H.out.1
              rw [← HN.out.1, List.take_length] at hst5
              have HE := Lib.hid (hst5.end HC.out)
              have HBE := Lib.hid (HB.out.trans (H.out.2.mono HB.out.size))
              clear hst5
              go_wp2
              go_ret2
              exact ⟨_, _, rfl, HE.out.1, HE.out.2, HBE.out⟩

end Ints
end Go.Proofs.Ytapgfgbpcpdnlaa
