/- Is a graph monogamous? Both. -/
import Derived.Test.YtapgfgbpcpdnlaaOncePlain
import Derived.Test.YtapgfgbpcpdnlaaValidS
import Derived.Test.YtapgfgbpcpdnlaaJoined
import Derived.Test.YtapgfgbpcpdnlaaMem4
import Derived.Deep.RegionHeld3
import Derived.Deep.DeepCutAuto
namespace Go.Proofs.Ytapgfgbpcpdnlaa
open Go.RowKit
namespace Ints
open Fld (inR)

theorem perm_out {c : Nat} {l : List Int} {k : Nat} (hk : k < l.length) (h : okB c (l[k]?.getD 0) = false) : permB c l = false := by
  have : l.all (okB c) = false := by
    rw [List.all_eq_false]
    refine ⟨l[k], List.getElem_mem _, ?_⟩
    rw [List.getElem?_eq_getElem hk] at h
    simpa using h
  simp [permB, this]
theorem perm_twice {c : Nat} {l : List Int} {k : Nat} (hk : k < l.length) (h : l[k]?.getD 0 ∈ l.take k) : permB c l = false := by
  have : ndB l = false := by
    unfold ndB
    rw [List.all_eq_false]
    exact ⟨k, List.mem_range.2 hk, by simpa using h⟩
  simp [permB, this]
theorem perm_all {c : Nat} {l : List Int} (hl : l.length = c) (h : ∀ j, j < l.length → okB c (l[j]?.getD 0) = true ∧ l[j]?.getD 0 ∉ l.take j) : permB c l = true := by
  have h1 : l.all (okB c) = true := by
    rw [List.all_eq_true]
    intro x hx
    obtain ⟨i, hi, rfl⟩ := List.mem_iff_getElem.1 hx
    have := (h i hi).1
    rwa [List.getElem?_eq_getElem hi] at this
  have h2 : ndB l = true := by
    unfold ndB
    rw [List.all_eq_true]
    intro k hk
    simpa using (h k (List.mem_range.1 hk)).2
  simp [permB, h1, h2, hl]

/-- The table of the numbers seen. -/
def SeenAt (m c : Nat) (A : List Int) (W : World) : Prop := ∃ cs, W.heap[m]? = some (.cells cs 4 (0, 0)) ∧ cs.size = c ∧ ∀ i : Nat, i < c → cs[i]? = some (.bool (decide ((i : Int) ∈ A)))
theorem SeenAt.start {m c : Nat} {W : World} (hown : W.ownsRow m 4 1 (.slice (some ⟨m, 0, none⟩) c c) c (List.replicate c (.bool false))) : SeenAt m c [] W := by
  obtain ⟨_, h2⟩ := hown
  rcases h2 with ⟨hh, _⟩ | ⟨g, cap, cur, hv, _, hh, _, _, hz, ht⟩
  · simp at hh
  · simp only [Value.slice.injEq, Option.some.injEq, Addr.mk.injEq, and_true] at hv
    obtain ⟨rfl, -, rfl⟩ := hv
    refine ⟨cur, hh, by omega, fun i hi => ?_⟩
    have e : cur.toList[i]? = (List.replicate c (Value.bool false))[i]? := by
      rw [← ht, List.getElem?_take, if_pos (by omega)]
    rw [List.getElem?_replicate, if_pos hi] at e
    rw [← Array.getElem?_toList, e]
    simp
theorem SeenAt.put {m c j : Nat} {A : List Int} {W : World} (h : SeenAt m c A W) (hj : j < c) : SeenAt m c (A ++ [(j : Int)]) (W.setCell ⟨m, j, none⟩ (.bool true)) := by
  obtain ⟨cs, h4, h5, h6⟩ := h
  refine ⟨cs.setIfInBounds j (.bool true), Go.Joins.block_setCell (g := m) (i := j) h4 (.bool true), by simpa using h5, fun i hi => ?_⟩
  by_cases hij : i = j
  · subst hij
    rw [Array.getElem?_setIfInBounds_self_of_lt (by omega)]
    simp
  · have : (i : Int) ≠ (j : Int) := by omega
    rw [Array.getElem?_setIfInBounds_ne (by omega), h6 i hi]
    simp [this]

set_option maxRecDepth 100000 in
set_option maxHeartbeats 2000000 in
theorem isPermutation_any (c : Nat) (hc : c ≤ 100) (v : Value) (l : List Int) (w : World) (h : ReadsI w v l) :
    Calls Try.prog 33 #[v, .int .i64 c] w fun e w' => e = .returned (.bool (permB c l)) ∧ Below w.heap.size w w' := by
  obtain ⟨_, a, cap, rfl, hm, hr⟩ := open_reads h
  obtain ⟨n, hn⟩ : ∃ n, l.length = n := ⟨_, rfl⟩
  obtain ⟨r, hrr⟩ : ∃ r, permB c l = r := ⟨_, rfl⟩
  have HN := Lib.hid hn
  have HR := Lib.hid hr
  have HRR := Lib.hid hrr
  rw [hrr]
  rw [hn] at hm HR ⊢
  clear h hr hn hrr
  by_cases hlen : n = c
  · subst hlen
    have hne : ((n : Int) != (n : Int)) = false := by simp
    have hm1 := Lib.hid (show 1 * n ≤ 281474976710656 by omega)
    have hm2 := Lib.hid (show n ≤ maxLen by unfold maxLen; omega)
    have hwr : IntKind.i64.wrap ((n : Int) - 1) = (n : Int) - 1 := IntWalk.i64_in _ (by omega)
    go_enter Try.func33, Try.ntmps33
    go_wp2_with (at_make; refine wpList_make_one _ rfl _ _ 59 rfl 4 (.bool false) 1 Try.underlying59 infoB rfl n rfl rfl hm1.out hm2.out ?_; intro w1 hown1 hb1 hs1)
    have HS1 := Lib.hid (SeenAt.start hown1)
    have HB1 := Lib.hid hb1
    clear hown1 hb1 hs1
    go_wp2
    go_loopw [16, 7] (fun i x wr => ∃ k : Nat, k ≤ n ∧ i = .int .i64 k ∧ Hid (SeenAt w.heap.size n (l.take k) wr ∧ (∀ j, j < k → okB n (l[j]?.getD 0) = true ∧ l[j]?.getD 0 ∉ l.take j) ∧ Below w.heap.size w wr)) (fun i _ _ => n + 1 - (intOf i).toNat)
    case atStart => exact ⟨0, by omega, rfl, Lib.hid ⟨by simpa using HS1.out, fun j hj => by omega, HB1.out⟩⟩
    case round =>
      obtain ⟨k, hk, rfl, H⟩ := hrel
      by_cases hlt : k < n
      · obtain ⟨g, off, rfl, hg, hcell⟩ := HR.out (by omega)
        have hx : wr.cell? ⟨g, off + k, none⟩ = some (.int .i64 (l[k]?.getD 0)) := cell_old H.out.2.2 (hcell k hlt)
        have htk := Lib.hid (take_one l k (by rw [HN.out]; exact hlt))
        have hpo := Lib.hid (perm_out (c := n) (l := l) (k := k) (by rw [HN.out]; exact hlt))
        have hpt := Lib.hid (perm_twice (c := n) (l := l) (k := k) (by rw [HN.out]; exact hlt))
        have hcur := Lib.hid (fun (h1 : okB n (l[k]?.getD 0) = true) (h2 : l[k]?.getD 0 ∉ l.take k) (j : Nat) (hj : j < k + 1) => show okB n (l[j]?.getD 0) = true ∧ l[j]?.getD 0 ∉ l.take j from by
          by_cases hjk : j < k
          · exact H.out.2.1 j hjk
          · obtain rfl : j = k := by omega
            exact ⟨h1, h2⟩)
        obtain ⟨x, hxx⟩ : ∃ x, l[k]?.getD 0 = x := ⟨_, rfl⟩
        rw [hxx] at hx htk hpo hpt hcur
        have hwin := Lib.hid (fun W => within_any x 0 ((n : Int) - 1) W)
        have hk0 : 0 ≤ (k : Int) := by omega
        have hkn : (k : Int) < (n : Int) := by omega
        clear hcell hxx hg
        cases hok : okB n x with
        | false =>
          have e1 : inR x 0 ((n : Int) - 1) = false := hok
          rw [e1] at hwin
          have hrf := Lib.hid (HRR.out.symm.trans (hpo.out hok))
          have hfin := Lib.hid H.out.2.2
          clear e1 hok
          go_wp2_with (go_at_call 29; ((with_reducible refine (hwin.out _).mono ?_); rintro e w' ⟨rfl, rfl⟩))
          go_ret
          exact ⟨ret_bool hrf.out.symm, hfin.out⟩
        | true =>
          obtain ⟨j, rfl, hj⟩ := okB_true hok
          have e1 : inR (j : Int) 0 ((n : Int) - 1) = true := hok
          rw [e1] at hwin
          obtain ⟨cs, h4, h5, h6⟩ := H.out.1
          have y4 := (Go.Joins.cell_of_block h4 j).trans (h6 j hj)
          have f4 := Go.Joins.unfrozen_of_block h4 j
          have hj0 : 0 ≤ (j : Int) := by omega
          have hjc : (j : Int) < (n : Int) := by omega
          by_cases hin : (j : Int) ∈ l.take k
          · have e2 : decide ((j : Int) ∈ l.take k) = true := by simpa using hin
            rw [e2] at y4
            have hrf := Lib.hid (HRR.out.symm.trans (hpt.out hin))
            have hfin := Lib.hid H.out.2.2
            clear h4 h5 h6 hok e1 e2 hin
            go_wp2_with (go_at_call 29; ((with_reducible refine (hwin.out _).mono ?_); rintro e w' ⟨rfl, rfl⟩))
            go_ret
            exact ⟨ret_bool hrf.out.symm, hfin.out⟩
          · have e2 : decide ((j : Int) ∈ l.take k) = false := by simpa using hin
            rw [e2] at y4
            have hnew := Lib.hid (And.intro (H.out.1.put hj) (And.intro (hcur.out hok hin) (H.out.2.2.setCell (p := ⟨w.heap.size, j, none⟩) (Nat.le_refl _) (.bool true))))
            rw [← htk.out] at hnew
            clear h4 h5 h6 hok e1 e2 hin
            go_wp2_with (go_at_call 29; ((with_reducible refine (hwin.out _).mono ?_); rintro e w' ⟨rfl, rfl⟩))
            go_roundw
            case rel => exact ⟨k + 1, by omega, by go_num, hnew⟩
            case measure => simp [intOf]; omega
      · obtain rfl : k = n := by omega
        have hrt := Lib.hid (HRR.out.symm.trans (perm_all HN.out fun j hj => H.out.2.1 j (by rw [HN.out] at hj; exact hj)))
        have hfin := Lib.hid H.out.2.2
        go_wp2
        go_ret
        exact ⟨ret_bool hrt.out.symm, hfin.out⟩
  · have hne : ((n : Int) != (c : Int)) = true := by simp; omega
    have hrf : Hid (r = false) := by
      show _ = _
      rw [← HRR.out]
      simp [permB, HN.out, hlen]
    clear hlen
    go_enter Try.func33, Try.ntmps33
    go_wp2
    go_ret
    exact ⟨ret_bool hrf.out.symm, Below.refl _ _⟩

set_option maxHeartbeats 1000000 in
theorem occursOnce_any (c : Nat) (hc : c ≤ 100) (v : Value) (L : List (List Int)) (w : World) (h : ReadsM w v L) (hs : tot L ≤ 1048576) :
    Calls Try.prog 25 #[.int .i64 c, v] w fun e w' => e = .returned (.bool (permB c L.flatten)) ∧ Below w.heap.size w w' := by
  have hj := Lib.hid (joined_any v L w h hs)
  have hp := Lib.hid (fun v W h => isPermutation_any c hc v L.flatten W h)
  obtain ⟨a, cap, rfl⟩ := h.form
  obtain ⟨R, hR⟩ : ∃ R, L.flatten = R := ⟨_, rfl⟩
  rw [hR] at hj hp ⊢
  clear h hs hR
  go_enter Try.func25, Try.ntmps25
  go_wp2_with fail
  refine hj.out.mono ?_
  rintro e w1 ⟨v1, rfl, ho, _, hb1⟩
  have hr := Lib.hid ho.reads
  have HB1 := Lib.hid hb1
  obtain ⟨a1, c1, rfl⟩ := ho.reads.form
  clear ho hb1
  go_wp2_with fail
  refine (hp.out _ w1 hr.out).mono ?_
  rintro e w2 ⟨rfl, hb2⟩
  have HB2 := Lib.hid (HB1.out.trans (hb2.mono HB1.out.size))
  clear hb2
  go_wp2
  go_ret
  exact ⟨rfl, HB2.out⟩

theorem cntL_length (c : Nat) (A : List Int) : (cntL c A).length = c := by simp [cntL]

set_option maxRecDepth 100000 in
set_option maxHeartbeats 1000000 in
theorem hgMono_any (c : Nat) (hc : c ≤ 100) (v1 v2 v3 : Value) (L : GraphL) (w : World) (h : ReadsG w v1 v2 v3 L) (hok : (wiresOf L).all (okB c) = true) (hlen : (wiresOf L).length ≤ 4000000) :
    Calls Try.prog 12 #[.agg #[.int .i64 c, v1, v2, v3]] w fun e w' => e = .returned (.bool (onceB c (fromL L) && onceB c (toL L))) ∧ Below w.heap.size w w' := by
  obtain ⟨w0, hw0⟩ : ∃ W, W = w.alloc (.cells #[.int .i64 c, v1, v2, v3] 30) := ⟨_, rfl⟩
  have hB : Below w.heap.size w w0 := by rw [hw0]; exact (Below.refl _ _).alloc (Nat.le_refl _) _
  have hcn := Lib.hid (hgCounts_any c hc v1 v2 v3 L w0 (h.below hB) hok hlen)
  obtain ⟨b1, hb1⟩ : ∃ b, onceB c (fromL L) = b := ⟨_, rfl⟩
  obtain ⟨b2, hb2⟩ : ∃ b, onceB c (toL L) = b := ⟨_, rfl⟩
  have hall1 := Lib.hid (fun v W (h : ReadsI W v (cntL c (fromL L))) => l1All_any v (cntL c (fromL L)).length (cntL c (fromL L)) 1 1 W h)
  have hall2 := Lib.hid (fun v W (h : ReadsI W v (cntL c (toL L))) => l1All_any v (cntL c (toL L)).length (cntL c (toL L)) 1 1 W h)
  have e1 : ((cntL c (fromL L)).all fun a => inR a 1 1) = b1 := hb1
  have e2 : ((cntL c (toL L)).all fun a => inR a 1 1) = b2 := hb2
  rw [e1] at hall1
  rw [e2] at hall2
  rw [hb1, hb2]
  obtain ⟨A1, hA1⟩ : ∃ A, cntL c (fromL L) = A := ⟨_, rfl⟩
  obtain ⟨A2, hA2⟩ : ∃ A, cntL c (toL L) = A := ⟨_, rfl⟩
  rw [hA1] at hall1 hcn
  rw [hA2] at hall2 hcn
  have HB := Lib.hid hB
  have HW := Lib.hid hw0
  clear h hok hlen hB hw0 hb1 hb2 e1 e2 hA1 hA2
  cases b1
  all_goals
    go_enter Try.func12, Try.ntmps12
    go_wp2_with fail
    rw [← HW.out]
    refine hcn.out.mono ?_
    rintro e w1 ⟨u1, u2, rfl, hu1, hu2, hb⟩
    have HB2 := Lib.hid (HB.out.trans (hb.mono HB.out.size))
    obtain ⟨p1, d1, rfl⟩ := hu1.form
    obtain ⟨p2, d2, rfl⟩ := hu2.form
    have H1 := Lib.hid hu1
    have H2 := Lib.hid hu2
    clear hb hu1 hu2
    go_wp2_with (first | (go_at_call 20; ((with_reducible refine (hall1.out _ _ H1.out).mono ?_); rintro e w' ⟨rfl, rfl⟩)) | (go_at_call 20; ((with_reducible refine (hall2.out _ _ H2.out).mono ?_); rintro e w' ⟨rfl, rfl⟩)))
    go_ret
    exact ⟨rfl, HB2.out⟩

def moB (c : Int) (L : GraphL) : Bool := graphB c L && (onceB c.toNat (fromL L) && onceB c.toNat (toL L))
theorem wires_len {L : GraphL} (hT : totG L ≤ 1048576) : (wiresOf L).length ≤ 4000000 := by
  have hcc : ∀ es : List EdgeL, (edgeWires es).length = (es.map cellsE).sum := by
    intro es
    unfold edgeWires
    induction es with
    | nil => rfl
    | cons e es ih => simp only [List.map_cons, List.flatten_cons, List.length_append, ih, List.sum_cons, cellsE]
  unfold totG totE at hT
  unfold wiresOf
  rw [List.length_append, List.length_append, hcc]
  omega
theorem graph_c {c : Int} {L : GraphL} (h : graphB c L = true) : ∃ n : Nat, c = n ∧ n ≤ 100 ∧ (wiresOf L).all (okB n) = true ∧ L.ins.length ≤ 12 ∧ L.outs.length ≤ 12 ∧ L.edges.length ≤ 60 ∧ edgesB L.edges = true := by
  unfold graphB inR at h
  simp only [Bool.and_eq_true, Bool.not_eq_true', decide_eq_false_iff_not] at h
  obtain ⟨⟨⟨⟨⟨⟨h1, h2⟩, h3⟩, h4⟩, h5⟩, h6⟩, h7⟩ := h
  have h8 : 0 ≤ c ∧ c ≤ 100 := by simpa using h1
  refine ⟨c.toNat, by omega, by omega, h6, by omega, by omega, by omega, h5⟩

set_option maxRecDepth 100000 in
set_option maxHeartbeats 1000000 in
theorem specMono_any (c : Int) (v1 v2 v3 : Value) (L : GraphL) (w : World) (h : ReadsG w v1 v2 v3 L) (hT : totG L ≤ 1048576) :
    Calls Try.prog 5 #[.agg #[.int .i64 c, v1, v2, v3]] w fun e w' => e = .returned (.bool (moB c L)) ∧ Below w.heap.size w w' := by
  obtain ⟨w0, hw0⟩ : ∃ W, W = w.alloc (.cells #[.int .i64 c, v1, v2, v3] 30) := ⟨_, rfl⟩
  have hB : Below w.heap.size w w0 := by rw [hw0]; exact (Below.refl _ _).alloc (Nat.le_refl _) _
  obtain ⟨a, k, a', k', a'', k'', rfl, rfl, rfl⟩ := h.form
  have hX : Hid (∀ W, Below w0.heap.size w0 W → W.cell? ⟨w.heap.size, 0, none⟩ = some (.int .i64 c) ∧ W.cell? ⟨w.heap.size, 1, none⟩ = some (.slice a L.edges.length k) ∧ W.cell? ⟨w.heap.size, 2, none⟩ = some (.slice a' L.ins.length k') ∧ W.cell? ⟨w.heap.size, 3, none⟩ = some (.slice a'' L.outs.length k'')) :=
    fun W hW => ⟨cell_old hW (by rw [hw0]; simp [go_sem]), cell_old hW (by rw [hw0]; simp [go_sem]), cell_old hW (by rw [hw0]; simp [go_sem]), cell_old hW (by rw [hw0]; simp [go_sem])⟩
  have hv := Lib.hid (hgValid_any c _ _ _ L w0 (h.below hB) hT)
  have HR := Lib.hid h
  have HB := Lib.hid hB
  have HW := Lib.hid hw0
  clear h hB hw0
  cases hg : graphB c L with
  | false =>
    have hr : moB c L = false := by simp [moB, hg]
    rw [hr]
    rw [hg] at hv
    clear hr hg
    go_enter Try.func5, Try.ntmps5
    go_wp2_with fail
    rw [← HW.out]
    refine hv.out.mono ?_
    rintro e w1 ⟨rfl, q1⟩
    have Q1 := Lib.hid (HB.out.trans (q1.mono HB.out.size))
    clear q1
    go_wp2
    go_ret
    exact ⟨rfl, Q1.out⟩
  | true =>
    obtain ⟨n, rfl, hn, hok, -⟩ := graph_c hg
    have hm := Lib.hid (fun W hW => hgMono_any n hn (.slice a L.edges.length k) (.slice a' L.ins.length k') (.slice a'' L.outs.length k'') L W hW hok (wires_len hT))
    have hr : moB n L = (onceB n (fromL L) && onceB n (toL L)) := by simp [moB, hg]
    rw [hr]
    rw [hg] at hv
    obtain ⟨b, hb⟩ : ∃ b, (onceB n (fromL L) && onceB n (toL L)) = b := ⟨_, rfl⟩
    rw [hb] at hm ⊢
    clear hr hg hb hok hn
    go_enter Try.func5, Try.ntmps5
    go_wp2_with fail
    rw [← HW.out]
    refine hv.out.mono ?_
    rintro e w1 ⟨rfl, q1⟩
    obtain ⟨x0, x1, x2, x3⟩ := hX.out w1 q1
    have Q1 := Lib.hid (HB.out.trans (q1.mono HB.out.size))
    clear q1
    go_wp2_with fail
    refine (hm.out w1 (HR.out.below Q1.out)).mono ?_
    rintro e w2 ⟨rfl, q2⟩
    have Q2 := Lib.hid (Q1.out.trans (q2.mono Q1.out.size))
    clear q2
    go_wp2
    go_ret
    exact ⟨rfl, Q2.out⟩

/-- The lists that isMonogamous gathers: those that a wire starts from, those that it ends in. -/
def rowsO (L : GraphL) (k : Nat) : List (List Int) := L.ins :: (L.edges.take k).map fun e => e.outs
def rowsD (L : GraphL) (k : Nat) : List (List Int) := L.outs :: (L.edges.take k).map fun e => e.ins
theorem rowsO_succ (L : GraphL) (k : Nat) (h : k < L.edges.length) : rowsO L (k + 1) = rowsO L k ++ [(eAt L.edges k).outs] := by
  unfold rowsO
  rw [take_oneE _ k h]
  simp
theorem rowsD_succ (L : GraphL) (k : Nat) (h : k < L.edges.length) : rowsD L (k + 1) = rowsD L k ++ [(eAt L.edges k).ins] := by
  unfold rowsD
  rw [take_oneE _ k h]
  simp
theorem rowsO_all (L : GraphL) : (rowsO L L.edges.length).flatten = fromL L := by simp [rowsO, fromL, outsOf]
theorem rowsD_all (L : GraphL) : (rowsD L L.edges.length).flatten = toL L := by simp [rowsD, toL, insOf]
theorem rowsO_len (L : GraphL) (k : Nat) (h : k ≤ L.edges.length) : (rowsO L k).length = k + 1 := by simp [rowsO]; omega
theorem rowsD_len (L : GraphL) (k : Nat) (h : k ≤ L.edges.length) : (rowsD L k).length = k + 1 := by simp [rowsD]; omega
theorem edge_small {es : List EdgeL} (h : edgesB es = true) : (es.map fun e => e.outs.length).sum ≤ 2 * es.length ∧ (es.map fun e => e.ins.length).sum ≤ 2 * es.length := by
  induction es with
  | nil => simp
  | cons e es ih =>
    unfold edgesB at h ih
    rw [List.all_cons, Bool.and_eq_true] at h
    have h1 := ih h.2
    have h2 := h.1
    unfold edgeB at h2
    simp only [Bool.and_eq_true, beq_iff_eq] at h2
    have h3 : tmIn e.kind ≤ 2 ∧ tmOut e.kind ≤ 2 := by
      unfold tmIn tmOut
      refine ⟨?_, ?_⟩ <;> split <;> (try split) <;> omega
    simp only [List.map_cons, List.sum_cons, List.length_cons]
    omega
theorem rowsO_tot {L : GraphL} (h1 : L.ins.length ≤ 12) (h2 : L.edges.length ≤ 60) (h : edgesB L.edges = true) : tot (rowsO L L.edges.length) ≤ 1048576 := by
  have := edge_small h
  unfold tot rowsO
  simp only [List.length_cons, List.length_map, List.map_cons, List.sum_cons, List.take_length, List.map_map]
  have e : (L.edges.map (List.length ∘ fun e => e.outs)).sum = (L.edges.map fun e => e.outs.length).sum := rfl
  rw [e]
  omega
theorem rowsD_tot {L : GraphL} (h1 : L.outs.length ≤ 12) (h2 : L.edges.length ≤ 60) (h : edgesB L.edges = true) : tot (rowsD L L.edges.length) ≤ 1048576 := by
  have := edge_small h
  unfold tot rowsD
  simp only [List.length_cons, List.length_map, List.map_cons, List.sum_cons, List.take_length, List.map_map]
  have e : (L.edges.map (List.length ∘ fun e => e.ins)).sum = (L.edges.map fun e => e.ins.length).sum := rfl
  rw [e]
  omega
theorem once_two {n : Nat} {L : GraphL} (hok : (wiresOf L).all (okB n) = true) : onceB n (fromL L) = permB n (fromL L) ∧ onceB n (toL L) = permB n (toL L) := by
  rw [List.all_eq_true] at hok
  refine ⟨once_eq n _ ?_, once_eq n _ ?_⟩
  · rw [List.all_eq_true]
    exact fun x hx => hok x ((mem_wiresOf L x).2 (.inl hx))
  · rw [List.all_eq_true]
    exact fun x hx => hok x ((mem_wiresOf L x).2 (.inr hx))

/-- Two slices of lists that grow side by side: the one that is appended to, the other. -/
theorem two_left {B k1 k2 : Nat} {o1 o2 v' : Value} {rs1 rs2 : List Value} {wr W w3 : World} (_p1 : wr.ownsRow B 23 1 o1 k1 rs1) (p2 : wr.ownsRow B 23 1 o2 k2 rs2) (p3 : o1.ownBlock ≠ o2.ownBlock)
    (hb : Below wr.heap.size wr W) (hg : W.grownBy w3 o1.ownBlock) (hat : v'.ownBlock = o1.ownBlock ∨ v'.ownBlock = some (W.heap.size + 1)) : w3.ownsRow B 23 1 o2 k2 rs2 ∧ v'.ownBlock ≠ o2.ownBlock := by
  refine ⟨ownsRow_keep (ownsRow_below p2 hb) (chg_of_grown hg) fun g hg e => p3 (e.trans hg.symm), ?_⟩
  rcases hat with e | e
  · rw [e]; exact p3
  · rw [e]
    intro e2
    have h1 := p2.lt _ e2.symm
    have h2 := hb.size
    omega
theorem rowsRead_snoc {w : World} {rs : List Value} {L : List (List Int)} {u : Value} {l : List Int} (h : RowsRead w rs L) (hu : Reads w 1 u l.length (ofL l)) : RowsRead w (rs ++ [u]) (L ++ [l]) := by
  refine ⟨by simp [h.1], fun i hi => ?_⟩
  have hl := h.1
  by_cases hlt : i < L.length
  · rw [vAt_snoc_lt (by omega), lAt_snoc_lt hlt]
    exact h.2 i hlt
  · have e : i = L.length := by simp at hi; omega
    subst e
    rw [lAt_snoc_at, ← hl, vAt_snoc_at]
    exact hu
theorem rowsRead_one {w : World} {u : Value} {l : List Int} (hu : Reads w 1 u l.length (ofL l)) : RowsRead w [u] [l] := by
  have h0 : RowsRead w [] [] := ⟨rfl, fun i hi => by simp at hi⟩
  exact rowsRead_snoc h0 hu
theorem two_start {w1 : World} (r s : Value) : ((((w1.alloc (.cells #[r] 23)).alloc (.cells #[s] 23)).drew).ownsRow w1.heap.size 23 1 (.slice (some ⟨w1.heap.size, 0, none⟩) 1 1) 1 [r]) ∧
    ((((w1.alloc (.cells #[r] 23)).alloc (.cells #[s] 23)).drew).ownsRow w1.heap.size 23 1 (.slice (some ⟨w1.heap.size + 1, 0, none⟩) 1 1) 1 [s]) := by
  have h1 := World.ownsRow_lit (base := w1.heap.size) (size := 1) (e := 23) w1 #[r] 1 (Nat.le_refl _) (by unfold maxLen; omega) (by simp)
  have h2 := World.ownsRow_lit (base := w1.heap.size) (size := 1) (e := 23) (w1.alloc (.cells #[r] 23)) #[s] 1 (by simp) (by unfold maxLen; omega) (by simp)
  have e : (w1.alloc (.cells #[r] 23)).heap.size = w1.heap.size + 1 := by simp
  rw [e] at h2
  exact ⟨ownsRow_below h1 ((Below.refl _ _).alloc (Nat.le_refl _) _).drew, ownsRow_below h2 (Below.refl _ _).drew⟩
theorem readsM_rows {w W : World} {B n : Nat} {o : Value} {rs : List Value} {L : List (List Int)} (p : W.ownsRow B 23 1 o n rs) (hn : n ≤ maxLen) (hl : L.length = n) (hr : RowsRead w rs L) (hb : Below w.heap.size w W) : ReadsM W o L := by
  subst hl
  exact ⟨rs, (owns_of_row p hn).1.reads, hr.below hb⟩

set_option maxRecDepth 100000 in
set_option maxHeartbeats 2000000 in
theorem isMonogamous_any (c : Int) (v1 v2 v3 : Value) (L : GraphL) (w : World) (h : ReadsG w v1 v2 v3 L) :
    Calls Try.prog 15 #[.agg #[.int .i64 c, v1, v2, v3]] w fun e w' => e = .returned (.bool (moB c L)) ∧ Below w.heap.size w w' := by
  obtain ⟨w0, hw0⟩ : ∃ W, W = w.alloc (.cells #[.int .i64 c, v1, v2, v3] 30) := ⟨_, rfl⟩
  have hB : Below w.heap.size w w0 := by rw [hw0]; exact (Below.refl _ _).alloc (Nat.le_refl _) _
  obtain ⟨a, cap, rfl, hm, hE⟩ := open_readsE h.1
  obtain ⟨a', c', e'⟩ := h.2.1.form
  obtain ⟨a'', c'', e''⟩ := h.2.2.form
  subst e' e''
  have hX : Hid (∀ W, Below w0.heap.size w0 W → W.cell? ⟨w.heap.size, 0, none⟩ = some (.int .i64 c) ∧ W.cell? ⟨w.heap.size, 1, none⟩ = some (.slice a L.edges.length cap) ∧ W.cell? ⟨w.heap.size, 2, none⟩ = some (.slice a' L.ins.length c') ∧ W.cell? ⟨w.heap.size, 3, none⟩ = some (.slice a'' L.outs.length c'')) :=
    fun W hW => ⟨cell_old hW (by rw [hw0]; simp [go_sem]), cell_old hW (by rw [hw0]; simp [go_sem]), cell_old hW (by rw [hw0]; simp [go_sem]), cell_old hW (by rw [hw0]; simp [go_sem])⟩
  have hv := Lib.hid (isGraph_any c _ _ _ L w0 (h.below hB))
  have HR := Lib.hid h
  have HEE := Lib.hid hE
  have HB := Lib.hid hB
  have HW := Lib.hid hw0
  clear h hE hB hw0
  cases hg : graphB c L with
  | false =>
    have hr : moB c L = false := by simp [moB, hg]
    rw [hr]
    rw [hg] at hv
    clear hr hg
    go_enter Try.func15, Try.ntmps15
    go_wp2_with fail
    rw [← HW.out]
    refine hv.out.mono ?_
    rintro e w1 ⟨rfl, q1⟩
    have Q1 := Lib.hid (HB.out.trans (q1.mono HB.out.size))
    clear q1
    go_wp2
    go_ret
    exact ⟨rfl, Q1.out⟩
  | true =>
    obtain ⟨cn, rfl, hn, hok, h12, h12', h60, hes⟩ := graph_c hg
    have ho := once_two hok
    have hr : moB cn L = (permB cn (fromL L) && permB cn (toL L)) := by simp [moB, hg, ho.1, ho.2]
    rw [hr]
    rw [hg] at hv
    have hp1 := Lib.hid (fun v W h => occursOnce_any cn hn v (rowsO L L.edges.length) W h (rowsO_tot h12 h60 hes))
    have hp2 := Lib.hid (fun v W h => occursOnce_any cn hn v (rowsD L L.edges.length) W h (rowsD_tot h12' h60 hes))
    rw [rowsO_all] at hp1
    rw [rowsD_all] at hp2
    obtain ⟨r1, hr1⟩ : ∃ b, permB cn (fromL L) = b := ⟨_, rfl⟩
    obtain ⟨r2, hr2⟩ : ∃ b, permB cn (toL L) = b := ⟨_, rfl⟩
    rw [hr1] at hp1 ⊢
    rw [hr2] at hp2 ⊢
    obtain ⟨n, hnn⟩ : ∃ n, L.edges.length = n := ⟨_, rfl⟩
    have HN := Lib.hid hnn
    have H60 := Lib.hid (hnn ▸ h60)
    rw [hnn] at hm HW hv hX HR HEE hp1 hp2 ⊢
    clear hr hg ho hok hn h12 h12' h60 hes hr1 hr2 hnn
    go_enter Try.func15, Try.ntmps15
    go_wp2_with fail
    rw [← HW.out]
    refine hv.out.mono ?_
    rintro e w1 ⟨rfl, q1⟩
    obtain ⟨x0, x1, x2, x3⟩ := hX.out w1 q1
    have Q1 := Lib.hid q1
    clear q1
    have y3 := cell_old (below_alloc (o := .cells #[.slice a' L.ins.length c'] 23) (Below.refl _ w1)) x3
    have y2 := cell_old (below_alloc (o := .cells #[.slice a'' L.outs.length c''] 23) (Below.refl _ w1)) x2
    have hs1 := Lib.hid (HR.out.2.1)
    have hs2 := Lib.hid (HR.out.2.2)
    have hst1 := Lib.hid (two_start (w1 := w1) (.slice a' L.ins.length c') (.slice a'' L.outs.length c''))
    have hst2 := Lib.hid (two_start (w1 := w1) (.slice a'' L.outs.length c'') (.slice a' L.ins.length c'))
    have hbb : Hid (∀ o1 o2, Below w0.heap.size w0 (((w1.alloc o1).alloc o2).drew) ∧ w1.heap.size ≤ (((w1.alloc o1).alloc o2).drew).heap.size) := Lib.hid fun o1 o2 => ⟨((Q1.out.alloc Q1.out.size _).alloc (Nat.le_trans Q1.out.size (by simp)) _).drew, by simp [World.drew]; omega⟩
    have HB1 := Lib.hid Q1.out.size
    have x1b : Hid (∀ o1 o2, (((w1.alloc o1).alloc o2).drew).cell? ⟨w.heap.size, 1, none⟩ = some (.slice a n cap)) := Lib.hid fun o1 o2 => cell_old (((Below.refl _ w1).alloc (Nat.le_refl _) o1).alloc (by simp) o2).drew x1
    go_wp2
    go_region
    all_goals
      have x1' := x1b.out
      go_wp2
      go_loopw [19, 3, 4, 6] (fun i s1 s2 q wr => ∃ (k : Nat) (rs1 rs2 : List Value) (o1 o2 : Value), k ≤ n ∧ i = .int .i64 k ∧ o1 = s1 ∧ o2 = s2 ∧ Hid (wr.ownsRow w1.heap.size 23 1 o1 (k + 1) rs1 ∧ wr.ownsRow w1.heap.size 23 1 o2 (k + 1) rs2 ∧ o1.ownBlock ≠ o2.ownBlock ∧ RowsRead w rs1 (rowsO L k) ∧ RowsRead w rs2 (rowsD L k) ∧ Below w0.heap.size w0 wr ∧ w1.heap.size ≤ wr.heap.size)) (fun i _ _ _ _ => n + 1 - (intOf i).toNat)
      case atStart =>
        refine ⟨0, [.slice a' L.ins.length c'], [.slice a'' L.outs.length c''], _, _, by omega, rfl, rfl, rfl, Lib.hid ⟨?_, ?_, ?_, rowsRead_one hs1.out, rowsRead_one hs2.out, (hbb.out _ _).1, (hbb.out _ _).2⟩⟩
        · first | exact hst1.out.1 | exact hst2.out.2
        · first | exact hst1.out.2 | exact hst2.out.1
        · simp [Value.ownBlock]
      case round =>
        obtain ⟨k, rs1, rs2, o1, o2, hk, rfl, rfl, rfl, H⟩ := hrel
        obtain ⟨p1, p2, p3, p4, p5, p6, p7⟩ := H.out
        by_cases hlt : k < n
        · obtain ⟨g, off, a1, c1, a2, c2, rfl, hg, hEk⟩ := HEE.out k hlt
          have hbk : Below w.heap.size w wr := HB.out.trans (p6.mono HB.out.size)
          obtain ⟨y0, y1, y2, y3, -, -⟩ := hEk.below hbk
          have hIO := Lib.hid (And.intro hEk.2.2.2.2.1 hEk.2.2.2.2.2)
          have hk0 : 0 ≤ (k : Int) := by omega
          have hkn : (k : Int) < (n : Int) := by omega
          have hm3 := Lib.hid (show k + 1 + 1 ≤ maxLen by have := H60.out; unfold maxLen; omega)
          have hm4 := Lib.hid (show (k + 1 + 1) * 24 ≤ 140737488355328 by have := H60.out; omega)
          have hro := Lib.hid (rowsO_succ L k (by rw [HN.out]; exact hlt))
          have hrd := Lib.hid (rowsD_succ L k (by rw [HN.out]; exact hlt))
          obtain ⟨W1, hW1⟩ : ∃ W, W = wr.alloc (.cells #[.int .i64 (eAt L.edges k).kind, .int .i64 (eAt L.edges k).value, .slice a1 (eAt L.edges k).ins.length c1, .slice a2 (eAt L.edges k).outs.length c2] 46) := ⟨_, rfl⟩
          have hbW : Below wr.heap.size wr W1 := by rw [hW1]; exact (Below.refl _ _).alloc (Nat.le_refl _) _
          have hO1 := Lib.hid (ownsRow_below p1 hbW)
          have hZ := Lib.hid (Nat.le_trans p7 hbW.size)
          have z2 : W1.cell? ⟨wr.heap.size, 2, none⟩ = some (.slice a1 (eAt L.edges k).ins.length c1) := by rw [hW1]; simp [go_sem]
          have hz2 : ∀ w3, W1.grownBy w3 o1.ownBlock → w3.cell? ⟨wr.heap.size, 2, none⟩ = some (.slice a1 (eAt L.edges k).ins.length c1) := fun w3 hg3 => (chg_of_grown hg3).keep z2 fun e => by have := (p1.lt _ e).2; simp only at this; omega
          have HZ2 := Lib.hid hz2
          have HBW := Lib.hid hbW
          have hsW := Lib.hid (show W1.heap.size = wr.heap.size + 1 by rw [hW1]; simp)
          have HW1 := Lib.hid hW1
          rw [hW1] at hO1 hZ HZ2 hsW HBW
          clear hEk hbk z2 hz2 x1' hW1
          go_upto_region 8 with (at_builtin; go_must (refine wpList_append_one_at rfl _ _ 51 rfl w1.heap.size 23 (.slice none 0 0) 24 Try.underlying51 infoS rfl _ _ _ _ hO1.out rfl (by rw [hsW.out]; rfl) rfl hm3.out hm4.out hZ.out ?_); intro v' w3 hown3 hg3 hat3; obtain ⟨a5, c5, rfl⟩ := ownsRow_form hown3; have y2' := HZ2.out w3 hg3)
          have h2 := two_left p1 p2 p3 HBW.out hg3 hat3
          have hch : Chg (fun g => w1.heap.size ≤ g) wr w3 := (Below.chg HBW.out _).trans ((chg_of_grown hg3).mono fun g _ e => (p1.lt g e).1)
          have hB3 := Lib.hid (p6.trans (hch.below (B := w0.heap.size) (Nat.le_trans HB1.out p7) fun g hg => Nat.le_trans HB1.out hg))
          have hsz3 := Lib.hid (Nat.le_trans p7 hch.size)
          have hO2 := Lib.hid h2.1
          have hO3 := Lib.hid hown3
          have hne := Lib.hid h2.2
          have hsz4 := Lib.hid (show w1.heap.size ≤ w3.heap.size from hsz3.out)
          clear hch h2 hown3 hg3 hat3 y0 y1 y2 y3 H p1 p2 p3 p6
          go_wp2_with (at_builtin; go_must (refine wpList_append_one_at rfl _ _ 51 rfl w1.heap.size 23 (.slice none 0 0) 24 Try.underlying51 infoS rfl _ _ _ _ hO2.out rfl rfl rfl hm3.out hm4.out hsz4.out ?_); intro v'' w4 hown4 hg4 hat4; obtain ⟨a6, c6, rfl⟩ := ownsRow_form hown4)
          have h3 := two_left (W := w3) hO2.out hO3.out (Ne.symm hne.out) (Below.refl _ _) hg4 hat4
          have hch : Chg (fun g => w1.heap.size ≤ g) w3 w4 := (chg_of_grown hg4).mono fun g _ e => (hO2.out.lt g e).1
          have hB4 := Lib.hid (hB3.out.trans (hch.below (B := w0.heap.size) (Nat.le_trans HB1.out hsz3.out) fun g hg => Nat.le_trans HB1.out hg))
          have hsz5 := Lib.hid (Nat.le_trans hsz3.out hch.size)
          have hfin : Hid (w4.ownsRow w1.heap.size 23 1 (.slice a5 (k + 1 + 1) c5) (k + 1 + 1) (rs1 ++ [.slice a2 (eAt L.edges k).outs.length c2]) ∧ w4.ownsRow w1.heap.size 23 1 (.slice a6 (k + 1 + 1) c6) (k + 1 + 1) (rs2 ++ [.slice a1 (eAt L.edges k).ins.length c1]) ∧ (Value.slice a5 (k + 1 + 1) c5).ownBlock ≠ (Value.slice a6 (k + 1 + 1) c6).ownBlock ∧ RowsRead w (rs1 ++ [.slice a2 (eAt L.edges k).outs.length c2]) (rowsO L (k + 1)) ∧ RowsRead w (rs2 ++ [.slice a1 (eAt L.edges k).ins.length c1]) (rowsD L (k + 1)) ∧ Below w0.heap.size w0 w4 ∧ w1.heap.size ≤ w4.heap.size) := by
            rw [hro.out, hrd.out]
            exact Lib.hid ⟨h3.1, hown4, Ne.symm h3.2, rowsRead_snoc p4 hIO.out.2, rowsRead_snoc p5 hIO.out.1, hB4.out, hsz5.out⟩
          clear h3 hch hown4 hg4 hat4 y2' p4 p5
          go_wp2
          go_roundw
          case rel => exact ⟨k + 1, _, _, _, _, by omega, by go_num, rfl, rfl, hfin⟩
          case measure => simp [intOf]; omega
        · obtain rfl : k = n := by omega
          have hbk : Below w.heap.size w wr := HB.out.trans (p6.mono HB.out.size)
          have hlen1 : (rowsO L k).length = k + 1 := by rw [← HN.out]; exact rowsO_len L _ (Nat.le_refl _)
          have hlen2 : (rowsD L k).length = k + 1 := by rw [← HN.out]; exact rowsD_len L _ (Nat.le_refl _)
          have hkm : k + 1 ≤ maxLen := by have := H60.out; unfold maxLen; omega
          have hR1 := Lib.hid (readsM_rows p1 hkm hlen1 p4 hbk)
          have hR2 := Lib.hid (readsM_rows p2 hkm hlen2 p5 hbk)
          have hBk := Lib.hid hbk
          obtain ⟨x0, x1, x2, x3⟩ := hX.out wr p6
          have P6 := Lib.hid p6
          obtain ⟨a5, c5, rfl⟩ := ownsRow_form p1
          obtain ⟨a6, c6, rfl⟩ := ownsRow_form p2
          clear H p1 p2 p3 p4 p5 p6 p7 hlen1 hlen2 hbk x1'
          go_wp2_with fail
          refine (hp1.out _ wr hR1.out).mono ?_
          rintro e w5 ⟨rfl, hb5⟩
          obtain ⟨z0, -, -, -⟩ := hX.out w5 (P6.out.trans (hb5.mono P6.out.size))
          have hR3 := Lib.hid (hR2.out.below hb5)
          have hB5 := Lib.hid (hBk.out.trans (hb5.mono hBk.out.size))
          clear hb5 x0 x1 x2 x3
          cases r1 with
          | false =>
            go_wp2
            go_ret
            exact ⟨rfl, hB5.out⟩
          | true =>
            go_wp2_with fail
            refine (hp2.out _ w5 hR3.out).mono ?_
            rintro e w6 ⟨rfl, hb6⟩
            have hB6 := Lib.hid (hB5.out.trans (hb6.mono hB5.out.size))
            clear hb6
            go_wp2
            go_ret
            exact ⟨rfl, hB6.out⟩

set_option maxRecDepth 100000 in
set_option maxHeartbeats 1000000 in
theorem implMono_any (c : Int) (v1 v2 v3 : Value) (L : GraphL) (w : World) (h : ReadsG w v1 v2 v3 L) :
    Calls Try.prog 7 #[.agg #[.int .i64 c, v1, v2, v3]] w fun e w' => e = .returned (.bool (moB c L)) ∧ Below w.heap.size w w' := by
  obtain ⟨w0, hw0⟩ : ∃ W, W = w.alloc (.cells #[.int .i64 c, v1, v2, v3] 30) := ⟨_, rfl⟩
  have hB : Below w.heap.size w w0 := by rw [hw0]; exact (Below.refl _ _).alloc (Nat.le_refl _) _
  have hc := Lib.hid (isMonogamous_any c v1 v2 v3 L w0 (h.below hB))
  have HB := Lib.hid hB
  have HW := Lib.hid hw0
  clear h hB hw0
  go_enter Try.func7, Try.ntmps7
  go_wp2_with fail
  rw [← HW.out]
  refine hc.out.mono ?_
  rintro e w1 ⟨rfl, q1⟩
  have Q1 := Lib.hid (HB.out.trans (q1.mono HB.out.size))
  clear q1
  go_wp2
  go_ret
  exact ⟨rfl, Q1.out⟩

end Ints
end Go.Proofs.Ytapgfgbpcpdnlaa
