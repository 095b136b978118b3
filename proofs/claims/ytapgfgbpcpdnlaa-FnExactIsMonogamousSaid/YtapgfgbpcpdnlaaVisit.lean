/- The program's round over all lists of wires of a graph. -/
import Derived.Test.YtapgfgbpcpdnlaaGraphE
import Derived.Test.YtapgfgbpcpdnlaaPred
import Derived.IntWalk
namespace Go.Proofs.Ytapgfgbpcpdnlaa
open Go.RowKit
namespace Ints
open Fld (inR)

def okB (c : Nat) (x : Int) : Bool := inR x 0 ((c : Int) - 1)
def seenN (c : Nat) (A : List Int) : Nat := (List.range c).countP fun i : Nat => decide ((i : Int) ∈ A)
/-- What the round's closure holds: the graph's box, the table of wires seen and its variable's box, whether all is well, the count. -/
def SeenSt (G m c : Nat) (A : List Int) (W : World) : Prop :=
  W.cell? ⟨G, 0, none⟩ = some (.int .i64 c) ∧ W.cell? ⟨m + 1, 0, none⟩ = some (.slice (some ⟨m, 0, none⟩) c c) ∧
  W.heap[m + 2]? = some (.cells #[.bool (A.all (okB c))] 4 (0, 0)) ∧ W.heap[m + 3]? = some (.cells #[.int .i64 (seenN c A)] 3 (0, 0)) ∧
  ∃ cs, W.heap[m]? = some (.cells cs 4 (0, 0)) ∧ cs.size = c ∧ ∀ i : Nat, i < c → cs[i]? = some (.bool (decide ((i : Int) ∈ A)))

theorem SeenSt.below {G m c : Nat} {A : List Int} {W W' : World} (h : SeenSt G m c A W) (hb : Below W.heap.size W W') : SeenSt G m c A W' := by
  obtain ⟨h0, h1, h2, h3, cs, h4, h5, h6⟩ := h
  exact ⟨cell_old hb h0, cell_old hb h1, block_old h2 hb, block_old h3 hb, cs, block_old h4 hb, h5, h6⟩
theorem okB_false {c : Nat} {x : Int} (h : okB c x = false) (i : Nat) (hi : i < c) : (i : Int) ≠ x := by
  intro e
  subst e
  unfold okB inR at h
  simp at h
  omega
theorem okB_true {c : Nat} {x : Int} (h : okB c x = true) : ∃ j : Nat, x = j ∧ j < c := by
  unfold okB inR at h
  simp at h
  exact ⟨x.toNat, by omega, by omega⟩
theorem seenN_same {c : Nat} {A B : List Int} (h : ∀ i : Nat, i < c → ((i : Int) ∈ A ↔ (i : Int) ∈ B)) : seenN c A = seenN c B := by
  unfold seenN
  refine List.countP_congr fun i hi => ?_
  simp only [decide_eq_true_eq]
  exact h i (List.mem_range.1 hi)
theorem countP_range_new (c j : Nat) (hj : j < c) (p q : Nat → Bool) (hp : p j = false) (hq : q j = true) (h : ∀ i, i ≠ j → p i = q i) : (List.range c).countP q = (List.range c).countP p + 1 := by
  induction c with
  | zero => omega
  | succ c ih =>
    rw [List.range_succ, List.countP_append, List.countP_append]
    by_cases hjc : j = c
    · subst hjc
      have e : (List.range j).countP q = (List.range j).countP p := List.countP_congr fun i hi => by
        have := List.mem_range.1 hi
        rw [h i (by omega)]
      simp [e, hp, hq]
    · rw [ih (by omega)]
      have : p c = q c := h c (by omega)
      simp only [List.countP_singleton, this]
      omega
theorem seenN_new {c j : Nat} {A : List Int} (hj : j < c) (h : (j : Int) ∉ A) : seenN c (A ++ [(j : Int)]) = seenN c A + 1 := by
  unfold seenN
  refine countP_range_new c j hj (fun i : Nat => decide ((i : Int) ∈ A)) (fun i : Nat => decide ((i : Int) ∈ A ++ [(j : Int)])) (by simpa using h) (by simp) fun i hi => ?_
  have : (i : Int) ≠ (j : Int) := by omega
  simp [this]
theorem seenN_le (c : Nat) (A : List Int) : seenN c A ≤ c := by
  unfold seenN
  exact Nat.le_trans List.countP_le_length (by simp)

/-- One wire that is out of range. -/
theorem SeenSt.bad {G m c : Nat} {A : List Int} {x : Int} {W : World} (h : SeenSt G m c A W) (hG : G < m) (hx : okB c x = false) : SeenSt G m c (A ++ [x]) (W.setCell ⟨m + 2, 0, none⟩ (.bool false)) := by
  obtain ⟨h0, h1, h2, h3, cs, h4, h5, h6⟩ := h
  have hch := Chg.set1 W ⟨m + 2, 0, none⟩ (.bool false)
  have hmem : ∀ i : Nat, i < c → ((i : Int) ∈ A ++ [x] ↔ (i : Int) ∈ A) := fun i hi => by
    have := okB_false hx i hi
    simp [this]
  refine ⟨hch.keep h0 (by simp; omega), hch.keep h1 (by simp), ?_, ?_, cs, block_keep h4 hch (by simp), h5, fun i hi => ?_⟩
  · have := Go.Joins.block_setCell (g := m + 2) (i := 0) h2 (.bool false)
    rw [this]
    simp [hx]
  · rw [seenN_same hmem]
    exact block_keep h3 hch (by simp)
  · rw [h6 i hi]
    simp only [hmem i hi]
/-- One wire that was seen. -/
theorem SeenSt.old {G m c j : Nat} {A : List Int} {W : World} (h : SeenSt G m c A W) (hj : j < c) (hx : (j : Int) ∈ A) : SeenSt G m c (A ++ [(j : Int)]) W := by
  obtain ⟨h0, h1, h2, h3, cs, h4, h5, h6⟩ := h
  have hmem : ∀ i : Nat, i < c → ((i : Int) ∈ A ++ [(j : Int)] ↔ (i : Int) ∈ A) := fun i hi => by
    simp only [List.mem_append, List.mem_singleton]
    exact ⟨fun h => h.elim id fun e => e ▸ hx, .inl⟩
  refine ⟨h0, h1, ?_, ?_, cs, h4, h5, fun i hi => ?_⟩
  · have : okB c (j : Int) = true := by unfold okB inR; simp; omega
    rw [h2]
    simp [this]
  · rw [seenN_same hmem]
    exact h3
  · rw [h6 i hi]
    simp only [hmem i hi]
/-- One wire seen for the first time. -/
theorem SeenSt.new {G m c j : Nat} {A : List Int} {W : World} (h : SeenSt G m c A W) (hG : G < m) (hj : j < c) (hx : (j : Int) ∉ A) :
    SeenSt G m c (A ++ [(j : Int)]) ((W.setCell ⟨m, j, none⟩ (.bool true)).setCell ⟨m + 3, 0, none⟩ (.int .i64 ((seenN c A : Int) + 1))) := by
  obtain ⟨h0, h1, h2, h3, cs, h4, h5, h6⟩ := h
  have hch1 := Chg.set1 W ⟨m, j, none⟩ (.bool true)
  have hch2 := Chg.set1 (W.setCell ⟨m, j, none⟩ (.bool true)) ⟨m + 3, 0, none⟩ (.int .i64 ((seenN c A : Int) + 1))
  refine ⟨hch2.keep (hch1.keep h0 (by simp; omega)) (by simp; omega), hch2.keep (hch1.keep h1 (by simp)) (by simp), ?_, ?_, cs.setIfInBounds j (.bool true), ?_, by simpa using h5, fun i hi => ?_⟩
  · have e : okB c (j : Int) = true := by unfold okB inR; simp; omega
    have := block_keep (block_keep h2 hch1 (by simp)) hch2 (by simp)
    rw [this]
    simp [e]
  · have := Go.Joins.block_setCell (g := m + 3) (i := 0) (block_keep h3 hch1 (by simp)) (.int .i64 ((seenN c A : Int) + 1))
    rw [this, seenN_new hj hx]
    simp
  · exact block_keep (Go.Joins.block_setCell (g := m) (i := j) h4 (.bool true)) hch2 (by simp)
  · by_cases hij : i = j
    · subst hij
      rw [Array.getElem?_setIfInBounds_self_of_lt (by omega)]
      simp
    · have : (i : Int) ≠ (j : Int) := by omega
      rw [Array.getElem?_setIfInBounds_ne (by omega), h6 i hi]
      simp [this]

set_option maxHeartbeats 2000000 in
theorem visit_any (G c : Nat) (wb : World) (hG : G < wb.heap.size) (hc : c ≤ 100) (A l : List Int) (v : Value) (w : World) (hv : ReadsI wb v l) (hB : Below wb.heap.size wb w) (hst : SeenSt G wb.heap.size c A w) :
    Calls Try.prog 32 #[v, .pointer (some ⟨G, 0, none⟩), .pointer (some ⟨wb.heap.size + 2, 0, none⟩), .pointer (some ⟨wb.heap.size + 1, 0, none⟩), .pointer (some ⟨wb.heap.size + 3, 0, none⟩)] w fun e w' => e = .returned (.tuple #[]) ∧ SeenSt G wb.heap.size c (A ++ l) w' ∧ Below wb.heap.size wb w' ∧ Chg (fun g => wb.heap.size ≤ g ∧ g < wb.heap.size + 4) w w' := by
  obtain ⟨hl, a, cap, rfl, hm, hrd⟩ := open_reads hv
  obtain ⟨n, hn⟩ : ∃ n, l.length = n := ⟨_, rfl⟩
  rw [hn] at hm hrd ⊢
  have HN := Lib.hid hn
  have HR := Lib.hid hrd
  have HB := Lib.hid hB
  have HS := Lib.hid hst
  have HG := Lib.hid hG
  obtain ⟨m, hm0⟩ : ∃ m, wb.heap.size = m := ⟨_, rfl⟩
  rw [hm0] at HB HS HG ⊢
  have HM := Lib.hid hm0
  have hwr : IntKind.i64.wrap ((c : Int) - 1) = (c : Int) - 1 := IntWalk.i64_in _ (by omega)
  clear hl hrd hn hv hB hst hG hm0
  go_enter Try.func32, Try.ntmps32
  go_wp2
  go_loopw [10, 7] (fun i x wr => ∃ k : Nat, k ≤ n ∧ i = .int .i64 k ∧ Hid (SeenSt G m c (A ++ l.take k) wr ∧ Below m wb wr ∧ Chg (fun g => m ≤ g ∧ g < m + 4) w wr)) (fun i _ _ => n + 1 - (intOf i).toNat)
  case atStart => exact ⟨0, by omega, rfl, Lib.hid ⟨by simpa using HS.out, HB.out, Chg.refl _ _⟩⟩
  case round =>
    obtain ⟨k, hk, rfl, H⟩ := hrel
    by_cases hlt : k < n
    · obtain ⟨g, off, rfl, hg, hcell⟩ := HR.out (by omega)
      have hx : wr.cell? ⟨g, off + k, none⟩ = some (.int .i64 (l[k]?.getD 0)) := cell_old (H.out.2.1.mono (by rw [HM.out]; exact Nat.le_refl _)) (hcell k hlt)
      have htk := Lib.hid (take_one l k (by rw [HN.out]; exact hlt))
      obtain ⟨x, hxx⟩ : ∃ x, l[k]?.getD 0 = x := ⟨_, rfl⟩
      rw [hxx] at hx htk
      have hst := H.out.1
      obtain ⟨h0, h1, h2, h3, cs, h4, h5, h6⟩ := hst
      have y0 := (Go.Joins.cell_of_block h2 0).trans rfl
      have f0 := Go.Joins.unfrozen_of_block h2 0
      have y3 := (Go.Joins.cell_of_block h3 0).trans rfl
      have f3 := Go.Joins.unfrozen_of_block h3 0
      have hwin := Lib.hid (fun W => within_any x 0 ((c : Int) - 1) W)
      have hk0 : 0 ≤ (k : Int) := by omega
      have hkn : (k : Int) < (n : Int) := by omega
      have hs3 := seenN_le c (A ++ l.take k)
      by_cases hok : okB c x = true
      · obtain ⟨j, rfl, hj⟩ := okB_true hok
        have e1 : inR (j : Int) 0 ((c : Int) - 1) = true := hok
        rw [e1] at hwin
        have y4 := (Go.Joins.cell_of_block h4 j).trans (h6 j hj)
        have f4 := Go.Joins.unfrozen_of_block h4 j
        have hj0 : 0 ≤ (j : Int) := by omega
        have hjc : (j : Int) < (c : Int) := by omega
        by_cases hin : (j : Int) ∈ A ++ l.take k
        · have e2 : decide ((j : Int) ∈ A ++ l.take k) = true := by simpa using hin
          rw [e2] at y4
          have hnew := Lib.hid (And.intro (H.out.1.old hj hin) H.out.2)
          rw [List.append_assoc, ← htk.out] at hnew
          clear h2 h3 h4 h5 h6 H hok e1 e2 hin hcell hxx f0 f3 f4 y0 y3
          go_wp2_with (go_at_call 29; ((with_reducible refine (hwin.out _).mono ?_); rintro e w' ⟨rfl, rfl⟩))
          go_roundw
          case rel => exact ⟨k + 1, by omega, by go_num, hnew⟩
          case measure => simp [intOf]; omega
        · have e2 : decide ((j : Int) ∈ A ++ l.take k) = false := by simpa using hin
          rw [e2] at y4
          have hwr2 : IntKind.i64.wrap ((seenN c (A ++ l.take k) : Int) + 1) = (seenN c (A ++ l.take k) : Int) + 1 := IntWalk.i64_in _ (by omega)
          have hnew := Lib.hid (And.intro (H.out.1.new HG.out hj hin) (And.intro ((H.out.2.1.setCell (p := ⟨m, j, none⟩) (Nat.le_refl _) (.bool true)).setCell (p := ⟨m + 3, 0, none⟩) (by simp) (.int .i64 ((seenN c (A ++ l.take k) : Int) + 1))) ((H.out.2.2.setCell (p := ⟨m, j, none⟩) (fun _ => ⟨Nat.le_refl _, by simp⟩) (.bool true)).setCell (p := ⟨m + 3, 0, none⟩) (fun _ => ⟨by simp, by simp⟩) (.int .i64 ((seenN c (A ++ l.take k) : Int) + 1)))))
          rw [List.append_assoc, ← htk.out] at hnew
          obtain ⟨q, hq⟩ : ∃ q : Int, (seenN c (A ++ l.take k) : Int) = q := ⟨_, rfl⟩
          rw [hq] at hnew hwr2 y3
          clear h2 h3 h4 h5 h6 H hok e1 e2 hin hcell hxx f0 y0 hs3 hq
          go_wp2_with (go_at_call 29; ((with_reducible refine (hwin.out _).mono ?_); rintro e w' ⟨rfl, rfl⟩))
          go_roundw
          case rel => exact ⟨k + 1, by omega, by go_num, hnew⟩
          case measure => simp [intOf]; omega
      · have hokf : okB c x = false := by simpa using hok
        have e1 : inR x 0 ((c : Int) - 1) = false := hokf
        rw [e1] at hwin
        have hnew := Lib.hid (And.intro (H.out.1.bad HG.out hokf) (And.intro (H.out.2.1.setCell (p := ⟨m + 2, 0, none⟩) (by simp) (.bool false)) (H.out.2.2.setCell (p := ⟨m + 2, 0, none⟩) (fun _ => ⟨by simp, by simp⟩) (.bool false))))
        rw [List.append_assoc, ← htk.out] at hnew
        clear h2 h3 h4 h5 h6 H hok e1 hcell hxx f3 y3 hs3 hokf
        go_wp2_with (go_at_call 29; ((with_reducible refine (hwin.out _).mono ?_); rintro e w' ⟨rfl, rfl⟩))
        go_roundw
        case rel => exact ⟨k + 1, by omega, by go_num, hnew⟩
        case measure => simp [intOf]; omega
    · obtain rfl : k = n := by omega
      have hfin := Lib.hid (And.intro H.out.1 H.out.2)
      rw [← HN.out, List.take_length] at hfin
      go_wp2
      go_end0
      exact ⟨rfl, hfin.out⟩

def edgeWires (es : List EdgeL) : List Int := (es.map fun e => e.ins ++ e.outs).flatten
def wiresOf (L : GraphL) : List Int := L.ins ++ L.outs ++ edgeWires L.edges
theorem edgeWires_succ (es : List EdgeL) (k : Nat) (h : k < es.length) : edgeWires (es.take (k + 1)) = edgeWires (es.take k) ++ ((eAt es k).ins ++ (eAt es k).outs) := by
  unfold edgeWires
  rw [take_oneE es k h]
  simp

set_option maxHeartbeats 2000000 in
theorem lists_any (G c : Nat) (wb : World) (hG : G < wb.heap.size) (hc : c ≤ 100) (v1 v2 v3 : Value) (L : GraphL) (w : World) (h : ReadsG wb v1 v2 v3 L) (hB : Below wb.heap.size wb w) (hs4 : wb.heap.size + 4 ≤ w.heap.size) (hst : SeenSt G wb.heap.size c [] w) :
    Calls Try.prog 31 #[.agg #[.int .i64 c, v1, v2, v3], .func (.func 32) #[] #[.pointer (some ⟨G, 0, none⟩), .pointer (some ⟨wb.heap.size + 2, 0, none⟩), .pointer (some ⟨wb.heap.size + 1, 0, none⟩), .pointer (some ⟨wb.heap.size + 3, 0, none⟩)]] w fun e w' => e = .returned (.tuple #[]) ∧ SeenSt G wb.heap.size c (wiresOf L) w' ∧ Below wb.heap.size wb w' := by
  obtain ⟨w0, hw0⟩ : ∃ W, W = w.alloc (.cells #[.int .i64 c, v1, v2, v3] 30) := ⟨_, rfl⟩
  have hbw : Below w.heap.size w w0 := by rw [hw0]; exact (Below.refl _ _).alloc (Nat.le_refl _) _
  have hvis := Lib.hid (fun A l v W hv hB hst => visit_any G c wb hG hc A l v W hv hB hst)
  obtain ⟨a, cap, rfl, hm, hE⟩ := open_readsE h.1
  obtain ⟨a', c', e'⟩ := h.2.1.form
  obtain ⟨a'', c'', e''⟩ := h.2.2.form
  subst e' e''
  have x0 : w0.cell? ⟨w.heap.size, 1, none⟩ = some (.slice a L.edges.length cap) := by rw [hw0]; simp [go_sem]
  have x2 : w0.cell? ⟨w.heap.size, 2, none⟩ = some (.slice a' L.ins.length c') := by rw [hw0]; simp [go_sem]
  have x3 : w0.cell? ⟨w.heap.size, 3, none⟩ = some (.slice a'' L.outs.length c'') := by rw [hw0]; simp [go_sem]
  have HX := Lib.hid (And.intro x0 x3)
  have HR := Lib.hid h
  have HEE := Lib.hid hE
  have HB := Lib.hid (hB.trans (hbw.mono hB.size))
  have HS := Lib.hid (hst.below hbw)
  have HW := Lib.hid hw0
  have HG4 := Lib.hid hs4
  obtain ⟨m, hm0⟩ : ∃ m, wb.heap.size = m := ⟨_, rfl⟩
  obtain ⟨n, hn⟩ : ∃ n, L.edges.length = n := ⟨_, rfl⟩
  have HN := Lib.hid hn
  have HMM := Lib.hid hm0
  rw [hm0] at HB HS HG4 hvis ⊢
  rw [hn] at hm HX HEE HW
  clear h hE hB hst hs4 hbw hw0 x0 x2 x3 hG
  go_enter Try.func31, Try.ntmps31
  go_wp2_with fail
  rw [← HW.out]
  refine (hvis.out [] L.ins _ w0 HR.out.2.1 HB.out HS.out).mono ?_
  rintro e w1 ⟨rfl, hS1, hB1, hC1⟩
  have hs4 := HG4.out
  have x3 := hC1.keep HX.out.2 (fun e => by simp only at e; omega)
  have X1 := Lib.hid (hC1.keep HX.out.1 (fun e => by simp only at e; omega))
  have HS1 := Lib.hid hS1
  have HB1 := Lib.hid hB1
  have HZ1 := Lib.hid (Nat.le_trans hs4 (Nat.le_trans (by rw [HW.out]; simp) hC1.size))
  clear hS1 hB1 hC1
  go_wp2_with fail
  refine (hvis.out _ L.outs _ w1 HR.out.2.2 HB1.out HS1.out).mono ?_
  rintro e w2 ⟨rfl, hS2, hB2, hC2⟩
  have x1 := hC2.keep X1.out (fun e => by simp only at e; omega)
  have HS2 := Lib.hid hS2
  have HB2 := Lib.hid hB2
  have HZ2 := Lib.hid (Nat.le_trans HZ1.out hC2.size)
  clear hS2 hB2 hC2 x3 hs4
  go_wp2
  go_loopw [17, 5] (fun i q wr => ∃ k : Nat, k ≤ n ∧ i = .int .i64 k ∧ Hid (SeenSt G m c (L.ins ++ L.outs ++ edgeWires (L.edges.take k)) wr ∧ Below m wb wr ∧ m + 4 ≤ wr.heap.size)) (fun i _ _ => n + 1 - (intOf i).toNat)
  case atStart => exact ⟨0, by omega, rfl, Lib.hid ⟨by simpa [edgeWires] using HS2.out, HB2.out, HZ2.out⟩⟩
  case round =>
    obtain ⟨k, hk, rfl, H⟩ := hrel
    by_cases hlt : k < n
    · obtain ⟨g, off, a1, c1, a2, c2, rfl, hg, hEk⟩ := HEE.out k hlt
      have hbk : Below wb.heap.size wb wr := by rw [HMM.out]; exact H.out.2.1
      obtain ⟨y0, y1, y2, y3, -, -⟩ := hEk.below hbk
      have hI := Lib.hid (And.intro hEk.2.2.2.2.1 hEk.2.2.2.2.2)
      have hk0 : 0 ≤ (k : Int) := by omega
      have hkn : (k : Int) < (n : Int) := by omega
      obtain ⟨W1, hW1⟩ : ∃ W, W = wr.alloc (.cells #[.int .i64 (eAt L.edges k).kind, .int .i64 (eAt L.edges k).value, .slice a1 (eAt L.edges k).ins.length c1, .slice a2 (eAt L.edges k).outs.length c2] 46) := ⟨_, rfl⟩
      have hb1 : Below wr.heap.size wr W1 := by rw [hW1]; exact (Below.refl _ _).alloc (Nat.le_refl _) _
      have z3 : W1.cell? ⟨wr.heap.size, 3, none⟩ = some (.slice a2 (eAt L.edges k).outs.length c2) := by rw [hW1]; simp [go_sem]
      have hsz : wr.heap.size < W1.heap.size := by rw [hW1]; simp
      have HW1 := Lib.hid hW1
      have Z3 := Lib.hid z3
      have HZ := Lib.hid hsz
      have HS1 := Lib.hid (H.out.1.below hb1)
      have HB1 := Lib.hid (H.out.2.1.trans (hb1.mono (Nat.le_trans (Nat.le_add_right _ _) H.out.2.2)))
      have h4 := Lib.hid H.out.2.2
      have htk := Lib.hid (edgeWires_succ L.edges k (by rw [HN.out]; exact hlt))
      clear hEk hbk hb1 hW1 z3 hsz
      go_wp2_with fail
      rw [← HW1.out]
      refine (hvis.out _ (eAt L.edges k).ins _ W1 hI.out.1 HB1.out HS1.out).mono ?_
      rintro e w3 ⟨rfl, hS3, hB3, hC3⟩
      have h4' := h4.out
      have z3 := hC3.keep Z3.out (fun e => by simp only at e; omega)
      have HS3 := Lib.hid hS3
      have HB3 := Lib.hid hB3
      have HZ3 := Lib.hid (Nat.le_trans (Nat.le_trans h4' (Nat.le_of_lt HZ.out)) hC3.size)
      clear hS3 hB3 hC3 y0 y1 y2 y3 h4'
      go_wp2_with fail
      refine (hvis.out _ (eAt L.edges k).outs _ w3 hI.out.2 HB3.out HS3.out).mono ?_
      rintro e w4 ⟨rfl, hS4, hB4, hC4⟩
      have hfin : Hid (SeenSt G m c (L.ins ++ L.outs ++ edgeWires (L.edges.take (k + 1))) w4 ∧ Below m wb w4 ∧ m + 4 ≤ w4.heap.size) := by
        rw [htk.out]
        refine Lib.hid ⟨?_, hB4, Nat.le_trans HZ3.out hC4.size⟩
        rw [← List.append_assoc, ← List.append_assoc]
        exact hS4
      clear hS4 hB4 hC4 z3
      go_wp2
      go_roundw
      case rel => exact ⟨k + 1, by omega, by go_num, hfin⟩
      case measure => simp [intOf]; omega
    · obtain rfl : k = n := by omega
      have hfin := Lib.hid (And.intro H.out.1 H.out.2.1)
      rw [← HN.out, List.take_length] at hfin
      go_wp2
      go_end0
      exact ⟨rfl, hfin.out⟩

end Ints
end Go.Proofs.Ytapgfgbpcpdnlaa
