/- The laws' own helpers over lists of integers: comparing, marking, looking whether the marks still stand. -/
import Derived.Test.YtnpjkcmhfpmgmaaDoorMem
import Derived.Test.YtnpjkcmhfpmgmaaDoorRows
import Derived.WalkKit
import Derived.WalkSpells
import Derived.WalkLawsBesides
import Derived.Deep.QuietTactic
import Derived.BigQuiet
namespace Go.Proofs.YtnpjkcmhfpmgmaaDoor
open Go.RowKit
namespace Ints

def ofL (l : List Int) : List Value := l.map (Value.int .i64)
theorem ofL_length (l : List Int) : (ofL l).length = l.length := by simp [ofL]
theorem ofL_at (l : List Int) (k : Nat) (h : k < l.length) : (ofL l)[k]?.getD undef = .int .i64 (l[k]?.getD 0) := by simp [ofL, h]
theorem take_one (l : List Int) (k : Nat) (h : k < l.length) : l.take (k + 1) = l.take k ++ [l[k]?.getD 0] := by
  rw [List.take_succ_eq_append_getElem h, List.getElem?_eq_getElem h]; rfl

theorem ret_bool {a b : Bool} (h : a = b) : Ending.returned (.bool a) = .returned (.bool b) := by rw [h]
theorem ret_int {k : IntKind} {a b : Int} (h : a = b) : Ending.returned (.int k a) = .returned (.int k b) := by rw [h]

/-- What a slice of integers reads as: its value and its cells, to be opened in a walk. -/
theorem open_reads {w : World} {v : Value} {n : Nat} {l : List Int} (h : Reads w 1 v n (ofL l)) :
    l.length = n ∧ ∃ a cap, v = .slice a n cap ∧ n ≤ 9223372036854775807 ∧ (0 < n → ∃ g off, a = some ⟨g, off, none⟩ ∧ g < w.heap.size ∧ ∀ j, j < n → w.cell? ⟨g, off + j, none⟩ = some (.int .i64 (l[j]?.getD 0))) := by
  obtain ⟨h1, a, cap, rfl, h2, h3, h4⟩ := h
  rw [ofL_length, Nat.mul_one] at h1
  unfold maxLen at h3
  refine ⟨h1, a, cap, rfl, by omega, fun hp => ?_⟩
  obtain ⟨g, off, rfl, hc⟩ := h4 (by rw [ofL_length]; omega)
  refine ⟨g, off, rfl, lt_of_cell (hc 0 (by rw [ofL_length]; omega)), fun j hj => ?_⟩
  rw [hc j (by rw [ofL_length]; omega), ofL_at l j (by omega)]

set_option maxHeartbeats 1000000 in
theorem eqIntS_any (va vb : Value) (n m : Nat) (la lb : List Int) (w : World) (ha : Reads w 1 va n (ofL la)) (hb : Reads w 1 vb m (ofL lb)) :
    Calls Tryd.prog 77 #[va, vb] w fun e w' => e = .returned (.bool (la == lb)) ∧ Quiet w w' := by
  obtain ⟨ha0, a, ca, rfl, ham, ha3⟩ := open_reads ha
  obtain ⟨hb0, b, cb, rfl, hbm, hb3⟩ := open_reads hb
  clear ha hb
  obtain ⟨r, hr⟩ : ∃ r, (la == lb) = r := ⟨_, rfl⟩
  rw [hr]
  have hr' := Lib.hid hr
  clear hr
  by_cases hnm : n = m
  · subst hnm
    have ha0' := Lib.hid ha0
    have hb0' := Lib.hid hb0
    have ha3' := Lib.hid ha3
    have hb3' := Lib.hid hb3
    clear ha0 hb0 ha3 hb3
    have hne : ((n : Int) != (n : Int)) = false := by simp
    go_enter Tryd.func77, Tryd.ntmps77
    go_wp2
    go_loopw [5] (fun i wr => ∃ k : Nat, k ≤ n ∧ i = .int .i64 k ∧ Hid (la.take k = lb.take k) ∧ Quiet w wr) (fun i _ => n + 1 - (intOf i).toNat)
    case atStart => exact ⟨0, by omega, rfl, show _ = _ by simp, Quiet.refl _⟩
    case round =>
      obtain ⟨k, hk, rfl, heq, hch⟩ := hrel
      by_cases hlt : k < n
      · obtain ⟨g, off, rfl, _, hca⟩ := ha3'.out (by omega)
        obtain ⟨g2, off2, rfl, _, hcb⟩ := hb3'.out (by omega)
        have hxa : wr.cell? ⟨g, off + k, none⟩ = some (.int .i64 (la[k]?.getD 0)) := (hch.cell _).trans (hca k hlt)
        have hxb : wr.cell? ⟨g2, off2 + k, none⟩ = some (.int .i64 (lb[k]?.getD 0)) := (hch.cell _).trans (hcb k hlt)
        have hta := Lib.hid (take_one la k (by rw [ha0'.out]; exact hlt))
        have htb := Lib.hid (take_one lb k (by rw [hb0'.out]; exact hlt))
        have hla : Hid (∃ y, la = la.take k ++ la[k]?.getD 0 :: y) := ⟨la.drop (k + 1), by rw [show la[k]?.getD 0 :: la.drop (k + 1) = [la[k]?.getD 0] ++ la.drop (k + 1) from rfl, ← List.append_assoc, ← hta.out, List.take_append_drop]⟩
        have hlb : Hid (∃ y, lb = lb.take k ++ lb[k]?.getD 0 :: y) := ⟨lb.drop (k + 1), by rw [show lb[k]?.getD 0 :: lb.drop (k + 1) = [lb[k]?.getD 0] ++ lb.drop (k + 1) from rfl, ← List.append_assoc, ← htb.out, List.take_append_drop]⟩
        have hch' := Lib.hid hch
        clear ha3' hb3' hca hcb hch
        generalize la[k]?.getD 0 = x at *
        generalize lb[k]?.getD 0 = y at *
        have hk0 : 0 ≤ (k : Int) := by omega
        have hkn : (k : Int) < (n : Int) := by omega
        by_cases hxy : x = y
        · subst hxy
          have hbne : (x != x) = false := by simp
          have heq2 : Hid (la.take (k + 1) = lb.take (k + 1)) := by show _ = _; rw [hta.out, htb.out, heq.out]
          clear hta htb hla hlb heq
          go_wp2
          go_quiet (fail)
          go_wp2
          go_roundw
          case rel => exact ⟨k + 1, by omega, by go_num, heq2, hch'.out.drewN _⟩
          case measure => simp [intOf]; omega
        · have hbne : (x != y) = true := by simpa using hxy
          have hrf : Hid (r = false) := by
            show _ = _
            rw [← hr'.out, beq_eq_false_iff_ne]
            intro he
            obtain ⟨y1, h1⟩ := hla.out
            obtain ⟨y2, h2⟩ := hlb.out
            rw [h1, h2, heq.out] at he
            have := List.append_cancel_left he
            simp at this
            exact hxy this.1
          clear hta htb hla hlb heq hxy
          go_wp2
          go_quiet (fail)
          go_wp2
          go_ret
          exact ⟨ret_bool hrf.out.symm, hch'.out.drewN _⟩
      · obtain rfl : k = n := by omega
        have hrt : Hid (r = true) := by
          show _ = _
          rw [← hr'.out, beq_iff_eq]
          have := heq.out
          rw [← ha0'.out] at this
          rw [List.take_length] at this
          rw [this, ha0'.out, ← hb0'.out, List.take_length]
        go_wp2
        go_ret
        exact ⟨ret_bool hrt.out.symm, hch⟩
  · have hne : ((n : Int) != (m : Int)) = true := by simp; omega
    have hrf : Hid (r = false) := by
      show _ = _
      rw [← hr'.out, beq_eq_false_iff_ne]
      intro he
      subst he
      omega
    clear ha0 hb0 ha3 hb3 hnm
    go_enter Tryd.func77, Tryd.ntmps77
    go_wp2
    go_ret
    exact ⟨ret_bool hrf.out.symm, Quiet.refl _⟩

/-- The marks from k on. -/
def marks (k : Int) (n : Nat) : List Int := (List.range n).map fun (i : Nat) => k + (i : Int)
theorem marks_length (k : Int) (n : Nat) : (marks k n).length = n := by simp [marks]
theorem marks_at (k : Int) (n j : Nat) (h : j < n) : (marks k n)[j]?.getD 0 = k + j := by simp [marks, h]

/-- What marking has done after j rounds. -/
def MarkRel (a : Option Addr) (n : Nat) (k : Int) (j : Nat) (w : World) : Prop :=
  0 < n → ∃ g off cs, a = some ⟨g, off, none⟩ ∧ w.heap[g]? = some (.cells cs 3 (0, 0)) ∧ off + n ≤ cs.size ∧ ∀ q, q < j → cs[off + q]? = some (.int .i64 (k + (q : Int)))

theorem markRel_start {w : World} {a : Option Addr} {cap n : Nat} {l : List Int} (k : Int) (h : Owns w 3 1 (.slice a n cap) n (ofL l)) : MarkRel a n k 0 w := by
  intro hn
  obtain ⟨h1, a', cap', e, h2, h3, h4⟩ := h
  simp only [Value.slice.injEq] at e
  obtain ⟨rfl, _, rfl⟩ := e
  rw [ofL_length, Nat.mul_one] at h1
  obtain ⟨g, off, cs, rfl, hg, hc⟩ := h4 (by rw [ofL_length]; omega)
  refine ⟨g, off, cs, rfl, hg, ?_, fun q hq => by omega⟩
  have := (Array.getElem?_eq_some_iff.1 (hc (n - 1) (by rw [ofL_length]; omega))).1
  omega
theorem markRel_end {w : World} {a : Option Addr} {cap n : Nat} {k : Int} (h : MarkRel a n k n w) (hc : n ≤ cap) (hm : cap ≤ maxLen) : Owns w 3 1 (.slice a n cap) n (ofL (marks k n)) := by
  refine ⟨by simp [ofL, marks], a, cap, rfl, hc, hm, fun hp => ?_⟩
  rw [ofL_length, marks_length] at hp
  obtain ⟨g, off, cs, rfl, hg, _, hall⟩ := h hp
  refine ⟨g, off, cs, rfl, hg, fun j hj => ?_⟩
  rw [ofL_length, marks_length] at hj
  rw [hall j hj, ofL_at _ _ (by rw [marks_length]; exact hj), marks_at k n j hj]

set_option maxHeartbeats 1000000 in
theorem markIntS_any (v : Value) (n : Nat) (l : List Int) (k : Int) (hk : 0 ≤ k) (hb : k + n ≤ 1000000000) (w : World) (h : Owns w 3 1 v n (ofL l)) :
    Calls Tryd.prog 78 #[v, .int .i64 k] w fun e w' => e = .returned (.int .i64 (k + n)) ∧ Owns w' 3 1 v n (ofL (marks k n)) ∧ Chg (fun g => v.ownBlock = some g ∧ 0 < n) w w' := by
  have h0 := h
  obtain ⟨_, a, cap, rfl, hcap, hmax, _⟩ := h
  have hst := Lib.hid (markRel_start k h0)
  have hmax' := Lib.hid hmax
  have hcap' := Lib.hid hcap
  clear h0 hmax hcap
  go_enter Tryd.func78, Tryd.ntmps78
  go_wp2
  go_loopw [1, 5] (fun c i wr => ∃ j : Nat, j ≤ n ∧ i = .int .i64 j ∧ c = .int .i64 (k + j) ∧ MarkRel a n k j wr ∧ Chg (fun g => (Value.slice a n cap).ownBlock = some g ∧ 0 < n) w wr) (fun _ i _ => n + 1 - (intOf i).toNat)
  case atStart => exact ⟨0, by omega, rfl, by simp, hst.out, Chg.refl _ _⟩
  case round =>
    obtain ⟨j, hj, rfl, rfl, hrel, hch⟩ := hrel
    have hch' := Lib.hid hch
    clear hch hst
    by_cases hlt : j < n
    · obtain ⟨g, off, cs, rfl, hg, hsz, hall⟩ := hrel (by omega)
      have hcell : wr.cell? ⟨g, off + j, none⟩ = some (cs[off + j]'(by omega)) := by
        rw [cell_of_row wr g (off + j) cs 3 (0, 0) hg]; simp
      have hfr : wr.frozen? ⟨g, off + j, none⟩ = false := frozen_of_row wr g (off + j) cs 3 hg
      generalize cs[off + j]'(by omega) = old at hcell
      have hnew : Hid (MarkRel (some ⟨g, off, none⟩) n k (j + 1) (wr.setCell ⟨g, off + j, none⟩ (.int .i64 (k + (j : Int))))) := by
        intro _
        refine ⟨g, off, cs.setIfInBounds (off + j) (.int .i64 (k + (j : Int))), rfl, heap_setCell_at _ hg, by simpa using hsz, fun q hq => ?_⟩
        rw [Array.getElem?_setIfInBounds]
        by_cases e : q = j
        · subst e
          rw [if_pos rfl, if_pos (by omega)]
        · rw [if_neg (by omega)]
          exact hall q (by omega)
      have hch2 := Lib.hid (Chg.setCell (p := ⟨g, off + j, none⟩) hch'.out (fun _ => ⟨rfl, by omega⟩) (.int .i64 (k + (j : Int))))
      clear hrel hg hsz hall hch'
      have hk0 : 0 ≤ (j : Int) := by omega
      have hkn : (j : Int) < (n : Int) := by omega
      go_wp2
      go_roundw
      case rel => exact ⟨j + 1, by omega, by go_num, by go_num, hnew.out, hch2.out⟩
      case measure => simp [intOf]; omega
    · obtain rfl : j = n := by omega
      have hfin := Lib.hid (markRel_end hrel hcap'.out hmax'.out)
      clear hrel
      go_wp2
      go_ret
      exact ⟨rfl, hfin.out, hch'.out⟩

set_option maxHeartbeats 1000000 in
theorem heldIntS_any (v : Value) (n : Nat) (k : Int) (hk : 0 ≤ k) (hb : k + n ≤ 1000000000) (w : World) (h : Reads w 1 v n (ofL (marks k n))) :
    Calls Tryd.prog 82 #[v, .int .i64 k] w fun e w' => e = .returned (.int .i64 (k + n)) ∧ w = w' := by
  obtain ⟨_, a, cap, rfl, hm, hc⟩ := open_reads h
  have hc' := Lib.hid hc
  clear h hc
  go_enter Tryd.func82, Tryd.ntmps82
  go_wp2
  go_loop [1, 5] (fun c i => ∃ j : Nat, j ≤ n ∧ i = .int .i64 j ∧ c = .int .i64 (k + j)) (fun _ i => n + 1 - (intOf i).toNat)
  case atStart => exact ⟨0, by omega, rfl, by simp⟩
  case round =>
    obtain ⟨j, hj, rfl, rfl⟩ := hrel
    by_cases hlt : j < n
    · obtain ⟨g, off, rfl, hg, hcell⟩ := hc'.out (by omega)
      have hx := hcell j hlt
      rw [marks_at k n j hlt] at hx
      have hne : (k + (j : Int) != k + (j : Int)) = false := by simp
      clear hcell hc'
      go_wp2
      go_round
      case rel => exact ⟨j + 1, by omega, by go_num, by go_num⟩
      case measure => simp [intOf]; omega
    · obtain rfl : j = n := by omega
      go_wp2
      go_ret
      exact ⟨rfl, rfl⟩

end Ints
end Go.Proofs.YtnpjkcmhfpmgmaaDoor
