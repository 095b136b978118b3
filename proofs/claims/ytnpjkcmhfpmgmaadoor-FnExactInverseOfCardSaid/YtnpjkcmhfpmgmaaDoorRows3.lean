/- Lists of lists compared, marked, and looked after. -/
import Derived.Test.YtnpjkcmhfpmgmaaDoorRows2
namespace Go.Proofs.YtnpjkcmhfpmgmaaDoor
open Go.RowKit
namespace Ints

theorem split_at (L : List (List Int)) (k : Nat) (h : k < L.length) : ∃ y, L = L.take k ++ lAt L k :: y :=
  ⟨L.drop (k + 1), by
    have := take_oneL L k h
    rw [show lAt L k :: L.drop (k + 1) = [lAt L k] ++ L.drop (k + 1) from rfl, ← List.append_assoc, ← this, List.take_append_drop]⟩

set_option maxHeartbeats 2000000 in
theorem eqIntSS_any (va vb : Value) (La Lb : List (List Int)) (w : World) (ha : ReadsM w va La) (hb : ReadsM w vb Lb) :
    Calls Tryd.prog 41 #[va, vb] w fun e w' => e = .returned (.bool (La == Lb)) ∧ Quiet w w' := by
  obtain ⟨a, ca, rfl, ham, ha3⟩ := open_readsM ha
  obtain ⟨b, cb, rfl, hbm, hb3⟩ := open_readsM hb
  clear ha hb
  obtain ⟨r, hr⟩ : ∃ r, (La == Lb) = r := ⟨_, rfl⟩
  obtain ⟨n, hn⟩ : ∃ n, La.length = n := ⟨_, rfl⟩
  obtain ⟨m, hm⟩ : ∃ m, Lb.length = m := ⟨_, rfl⟩
  rw [hr]
  have hr' := Lib.hid hr
  have hn' := Lib.hid hn
  have hm' := Lib.hid hm
  have ha3' := Lib.hid ha3
  have hb3' := Lib.hid hb3
  rw [hn] at ham ⊢
  rw [hm] at hbm ⊢
  clear hr ha3 hb3 hn hm
  by_cases hnm : n = m
  · subst hnm
    have hne : ((n : Int) != (n : Int)) = false := by simp
    go_enter Tryd.func41, Tryd.ntmps41
    go_wp2
    go_loopw [5] (fun i wr => ∃ k : Nat, k ≤ n ∧ i = .int .i64 k ∧ Hid (La.take k = Lb.take k) ∧ Quiet w wr) (fun i _ => n + 1 - (intOf i).toNat)
    case atStart => exact ⟨0, by omega, rfl, show _ = _ by simp, Quiet.refl _⟩
    case round =>
      obtain ⟨k, hk, rfl, heq, hch⟩ := hrel
      have hch' := Lib.hid hch
      by_cases hlt : k < n
      · obtain ⟨g, off, ra, rfl, _, hca, hra⟩ := ha3'.out k (by rw [hn'.out]; exact hlt)
        obtain ⟨g2, off2, rb, rfl, _, hcb, hrb⟩ := hb3'.out k (by rw [hm'.out]; exact hlt)
        have hxa : wr.cell? ⟨g, off + k, none⟩ = some ra := (hch.cell _).trans hca
        have hxb : wr.cell? ⟨g2, off2 + k, none⟩ = some rb := (hch.cell _).trans hcb
        have hta := Lib.hid (take_oneL La k (by rw [hn'.out]; exact hlt))
        have htb := Lib.hid (take_oneL Lb k (by rw [hm'.out]; exact hlt))
        have hla := Lib.hid (split_at La k (by rw [hn'.out]; exact hlt))
        have hlb := Lib.hid (split_at Lb k (by rw [hm'.out]; exact hlt))
        have hcall : Hid (∀ q, Calls Tryd.prog 77 #[ra, rb] (wr.drewN q) fun e w' => e = .returned (.bool (lAt La k == lAt Lb k)) ∧ Quiet (wr.drewN q) w') := fun q =>
          eqIntS_any ra rb _ _ _ _ _ (hra.below ((hch.drewN q).below _)) (hrb.below ((hch.drewN q).below _))
        clear ha3' hb3' hca hcb hch hra hrb
        generalize lAt La k = x at *
        generalize lAt Lb k = y at *
        have hk0 : 0 ≤ (k : Int) := by omega
        have hkn : (k : Int) < (n : Int) := by omega
        by_cases hxy : x = y
        · subst hxy
          have hbe : (x == x) = true := by simp
          rw [hbe] at hcall
          have heq2 : Hid (La.take (k + 1) = Lb.take (k + 1)) := by show _ = _; rw [hta.out, htb.out, heq.out]
          clear hta htb hla hlb heq hbe
          go_wp2
          go_quiet ((go_at_call 77; exact Calls.quiet_of (hcall.out _)))
          go_wp2
          go_roundw
          case rel => exact ⟨k + 1, by omega, by go_num, heq2, hch'.out.drewN _⟩
          case measure => simp [intOf]; omega
        · have hbe : (x == y) = false := by simpa using hxy
          rw [hbe] at hcall
          have hrf : Hid (r = false) := by
            show _ = _
            rw [← hr'.out, beq_eq_false_iff_ne]
            intro he
            obtain ⟨y1, h1⟩ := hla.out
            obtain ⟨y2, h2⟩ := hlb.out
            rw [h1, h2, heq.out] at he
            have := List.append_cancel_left he
            simp at this
            exact hxy this.1
          clear hta htb hla hlb heq hxy hbe
          go_wp2
          go_quiet ((go_at_call 77; exact Calls.quiet_of (hcall.out _)))
          go_wp2
          go_ret
          exact ⟨ret_bool hrf.out.symm, hch'.out.drewN _⟩
      · obtain rfl : k = n := by omega
        have hrt : Hid (r = true) := by
          show _ = _
          rw [← hr'.out, beq_iff_eq]
          have h1 := heq.out
          rw [← hn'.out, List.take_length, hn'.out, ← hm'.out, List.take_length] at h1
          exact h1
        clear hch
        go_wp2
        go_ret
        exact ⟨ret_bool hrt.out.symm, hch'.out⟩
  · have hne : ((n : Int) != (m : Int)) = true := by simp; omega
    have hrf : Hid (r = false) := by
      show _ = _
      rw [← hr'.out, beq_eq_false_iff_ne]
      intro he
      have h1 := hn'.out
      have h2 := hm'.out
      rw [he] at h1
      omega
    clear ha3' hb3' hnm
    go_enter Tryd.func41, Tryd.ntmps41
    go_wp2
    go_ret
    exact ⟨ret_bool hrf.out.symm, Quiet.refl _⟩

/-- The lists as marking leaves them, from k on. -/
def marksL (k : Int) : List (List Int) → List (List Int)
  | [] => []
  | l :: L => marks k l.length :: marksL (k + l.length) L
def sumL (L : List (List Int)) : Nat := (L.map List.length).sum
theorem marksL_length (L : List (List Int)) : ∀ k, (marksL k L).length = L.length := by
  induction L with
  | nil => intro k; rfl
  | cons l L ih => intro k; simp [marksL, ih]
theorem marksL_at (L : List (List Int)) : ∀ k j, j < L.length → lAt (marksL k L) j = marks (k + sumL (L.take j)) (lAt L j).length := by
  induction L with
  | nil => intro k j h; simp at h
  | cons l L ih =>
    intro k j h
    cases j with
    | zero => simp [marksL, lAt, sumL]
    | succ j =>
      have h1 := ih (k + l.length) j (by simpa using h)
      have h2 : lAt (marksL k (l :: L)) (j + 1) = lAt (marksL (k + l.length) L) j := by simp [marksL, lAt]
      have h3 : lAt (l :: L) (j + 1) = lAt L j := by simp [lAt]
      have h4 : sumL ((l :: L).take (j + 1)) = l.length + sumL (L.take j) := by simp only [sumL, List.take_succ_cons, List.map_cons, List.sum_cons]
      rw [h2, h1, h3, h4]
      congr 1
      omega

theorem RowsOwn.ext {S : Nat → Prop} {w : World} {rs : List Value} {L L' : List (List Int)} (h : RowsOwn S w rs L) (hl : L'.length = L.length) (he : ∀ i, i < L.length → lAt L' i = lAt L i) : RowsOwn S w rs L' := by
  refine ⟨h.1.trans hl.symm, fun i hi => ?_, fun i j hij hj hi1 hj1 => ?_⟩
  · rw [he i (by omega)]; exact h.2.1 i (by omega)
  · rw [he i (by omega)] at hi1
    rw [he j (by omega)] at hj1
    exact h.2.2 i j hij (by omega) hi1 hj1

/-- One row turned in its place. -/
theorem RowsOwn.turn {S : Nat → Prop} {w w' : World} {rs : List Value} {L L' : List (List Int)} {j : Nat} (h : RowsOwn S w rs L) (hj : j < L.length)
    (hc : Chg (fun g => (vAt rs j).ownBlock = some g ∧ 0 < (lAt L j).length) w w') (hl : L'.length = L.length) (hlen : (lAt L' j).length = (lAt L j).length)
    (he : ∀ i, i < L.length → i ≠ j → lAt L' i = lAt L i) (ho : Owns w' 3 1 (vAt rs j) (lAt L' j).length (ofL (lAt L' j))) : RowsOwn S w' rs L' := by
  have hne : ∀ i, i < L.length → (lAt L' i ≠ [] ↔ lAt L i ≠ []) := by
    intro i hi
    by_cases e : i = j
    · subst e
      rw [← List.length_pos_iff, ← List.length_pos_iff, hlen]
    · rw [he i hi e]
  refine ⟨h.1.trans hl.symm, fun i hi => ?_, fun i k hik hk hi1 hk1 => ?_⟩
  · by_cases e : i = j
    · subst e
      refine ⟨ho, fun g hx hg => (h.2.1 i hj).2 g ?_ hg⟩
      rw [ofL_ne] at hx ⊢
      exact (hne i hj).1 hx
    · rw [he i (by omega) e]
      refine ⟨(h.2.1 i (by omega)).1.chg hc fun g hx hg => ?_, (h.2.1 i (by omega)).2⟩
      rintro ⟨h1, h2⟩
      have hi0 := ofL_ne.1 hx
      have hj0 := List.length_pos_iff.1 h2
      rcases Nat.lt_or_gt_of_ne e with h3 | h3
      · exact h.2.2 i j h3 hj hi0 hj0 (hg.trans h1.symm)
      · exact h.2.2 j i h3 (by omega) hj0 hi0 (h1.trans hg.symm)
  · exact h.2.2 i k hik (by omega) ((hne i (by omega)).1 hi1) ((hne k (by omega)).1 hk1)

/-- Half marked: the first j lists are marked. -/
def halfL (k : Int) (L : List (List Int)) (j : Nat) : List (List Int) := (List.range L.length).map fun i => if i < j then lAt (marksL k L) i else lAt L i
theorem halfL_length (k : Int) (L : List (List Int)) (j : Nat) : (halfL k L j).length = L.length := by simp [halfL]
theorem halfL_at (k : Int) (L : List (List Int)) (j i : Nat) (h : i < L.length) : lAt (halfL k L j) i = if i < j then lAt (marksL k L) i else lAt L i := by
  unfold halfL
  conv => lhs; unfold lAt
  rw [List.getElem?_map, List.getElem?_range h]
  rfl

set_option maxHeartbeats 2000000 in
theorem markIntSS_any (S : Nat → Prop) (v : Value) (L : List (List Int)) (k : Int) (hk : 0 ≤ k) (hb : k + sumL L ≤ 1000000000) (w : World) (h : OwnsM S w v L) :
    Calls Tryd.prog 42 #[v, .int .i64 k] w fun e w' => e = .returned (.int .i64 (k + sumL L)) ∧ OwnsM S w' v (marksL k L) ∧ Chg S w w' := by
  obtain ⟨rs, ho, hbk, hrows⟩ := h
  obtain ⟨a, cap, rfl, hm, hc⟩ := open_readsM ⟨rs, ho.reads, hrows.reads⟩
  obtain ⟨n, hn⟩ : ∃ n, L.length = n := ⟨_, rfl⟩
  have hn' := Lib.hid hn
  have ho' := Lib.hid ho
  have hbk' := Lib.hid hbk
  have hs' := Lib.hid hb
  have hr0 : Hid (RowsOwn S w rs (halfL k L 0)) := hrows.ext (halfL_length k L 0) fun i hi => by rw [halfL_at k L 0 i hi]; simp
  obtain ⟨t, ht⟩ : ∃ t, k + (sumL L : Int) = t := ⟨_, rfl⟩
  have ht' := Lib.hid ht
  rw [hn] at hm ⊢
  rw [ht]
  clear hc hn ho hrows hbk hb ht
  go_enter Tryd.func42, Tryd.ntmps42
  go_wp2
  go_loopw [1, 5] (fun c i wr => ∃ (j : Nat) (q : Int), j ≤ n ∧ i = .int .i64 j ∧ c = .int .i64 q ∧ 0 ≤ q ∧ q ≤ 1000000000 ∧ Hid (q = k + sumL (L.take j)) ∧ Owns wr 59 1 (.slice a n cap) n rs ∧ RowsOwn S wr rs (halfL k L j) ∧ Chg S w wr) (fun _ i _ => n + 1 - (intOf i).toNat)
  case atStart => exact ⟨0, k, by omega, rfl, rfl, hk, by have := hs'.out; omega, show _ = _ by simp [sumL], by have := ho'.out; rw [hn'.out] at this; exact this, hr0.out, Chg.refl _ _⟩
  case round =>
    obtain ⟨j, q, hj, rfl, rfl, hq0, hq1, hqs, how, hrw, hch⟩ := hrel
    have hch' := Lib.hid hch
    have how' := Lib.hid how
    have hrw' := Lib.hid hrw
    by_cases hlt : j < n
    · have hjL : j < L.length := by rw [hn'.out]; exact hlt
      have hjH : j < (halfL k L j).length := by rw [halfL_length]; exact hjL
      obtain ⟨a2, cap2, e2, _, hc2⟩ := open_readsM (L := halfL k L j) ⟨rs, by rw [halfL_length, hn'.out]; exact how.reads, hrw.reads⟩
      obtain ⟨g, off, r, e3, _, hcell, _⟩ := hc2 j hjH
      have hcell2 : r = vAt rs j := by
        obtain ⟨_, a4, cap4, e4, _, _, h4⟩ := how.reads
        obtain ⟨g4, off4, e5, h5⟩ := h4 (by rw [how.1]; omega)
        simp only [Value.slice.injEq] at e2 e4
        obtain ⟨rfl, -, -⟩ := e2
        obtain ⟨rfl, -, -⟩ := e4
        rw [e3] at e5
        simp at e5
        obtain ⟨rfl, rfl⟩ := e5
        have h6 := h5 j (by rw [how.1]; omega)
        rw [hcell] at h6
        exact Option.some.inj h6
      simp only [Value.slice.injEq] at e2
      obtain ⟨rfl, -, -⟩ := e2
      subst e3
      have hhj : lAt (halfL k L j) j = lAt L j := by rw [halfL_at k L j j hjL]; simp
      have hrow := (hrw.2.1 j hjH).1
      rw [hhj, ← hcell2] at hrow
      have hst := sum_take_succ L j hjL
      have hsl := sum_take_le L (j + 1)
      have hqv := hqs.out
      have hbd : q + ((lAt L j).length : Int) ≤ 1000000000 := by
        have h1 := hs'.out
        unfold sumL at hqv h1
        omega
      have hcall := Lib.hid (markIntS_any r _ (lAt L j) q hq0 hbd wr hrow)
      have hq2 : Hid (q + ((lAt L j).length : Int) = k + sumL (L.take (j + 1))) := by
        show _ = _
        unfold sumL at hqv ⊢
        rw [hst]
        omega
      have hcl := Lib.hid hcell2
      have hjl := Lib.hid hjL
      have hqv' := Lib.hid hqv
      clear how hrw hch hjL hjH hc2 hcell2 hhj hrow hst hsl hqv
      have hk0 : 0 ≤ (j : Int) := by omega
      have hkn : (j : Int) < (n : Int) := by omega
      go_wp2_with fail
      refine hcall.out.mono ?_
      rintro e w2 ⟨rfl, ho2, hc2⟩
      have hS2 : ∀ g', r.ownBlock = some g' ∧ 0 < (lAt L j).length → S g' := by
        rintro g' ⟨h1, h2⟩
        have h3 := (hrw'.out.2.1 j (by rw [halfL_length]; exact hjl.out)).2
        rw [← hcl.out, halfL_at k L j j hjl.out] at h3
        simp at h3
        exact h3 g' (ofL_ne.2 (List.length_pos_iff.1 h2)) h1
      have hch2 := Lib.hid (hch'.out.trans (hc2.mono fun g' _ hg' => hS2 g' hg'))
      have hrw2 : Hid (RowsOwn S w2 rs (halfL k L (j + 1))) := by
        refine hrw'.out.turn (j := j) (by rw [halfL_length]; exact hjl.out) ?_ (by rw [halfL_length, halfL_length]) ?_ ?_ ?_
        · rw [← hcl.out, halfL_at k L j j hjl.out]
          simpa using hc2
        · rw [halfL_at k L j j hjl.out, halfL_at k L (j + 1) j hjl.out]
          simp [marksL_at L k j hjl.out, marks_length]
        · intro i hi hne
          rw [halfL_length] at hi
          rw [halfL_at k L j i hi, halfL_at k L (j + 1) i hi]
          by_cases h1 : i < j
          · rw [if_pos h1, if_pos (by omega)]
          · rw [if_neg h1, if_neg (by omega)]
        · rw [halfL_at k L (j + 1) j hjl.out, if_pos (Nat.lt_succ_self j), marksL_at L k j hjl.out, marks_length, ← hcl.out, ← hqv'.out]
          exact ho2
      have how2 : Hid (Owns w2 59 1 (.slice (some ⟨g, off, none⟩) n cap) n rs) := by
        refine how'.out.chg hc2 fun g' hx hg' => ?_
        rintro ⟨h1, h2⟩
        have h3 := (hrw'.out.2.1 j (by rw [halfL_length]; exact hjl.out)).1
        rw [← hcl.out, halfL_at k L j j hjl.out, if_neg (Nat.lt_irrefl j)] at h3
        exact how'.out.apart h3 (by decide) hx (ofL_ne.2 (List.length_pos_iff.1 h2)) (hg'.trans h1.symm)
      generalize (lAt L j).length = len at *
      clear ho2 hc2 hS2 hcell
      go_wp2

      go_roundw
      case rel => exact ⟨j + 1, _, by omega, by go_num, rfl, by omega, by omega, hq2, how2.out, hrw2.out, hch2.out⟩
      case measure => simp [intOf]; omega
    · obtain rfl : j = n := by omega
      have hfin : Hid (OwnsM S wr (.slice a j cap) (marksL k L)) := by
        refine ⟨rs, ?_, ?_, ?_⟩
        · rw [marksL_length, hn'.out]; exact how
        · have := hbk'.out
          rw [hn'.out] at this
          exact this
        · refine hrw.ext (by rw [marksL_length, halfL_length]) fun i hi => ?_
          rw [halfL_length] at hi
          rw [halfL_at k L j i hi, if_pos (by have := hn'.out; omega)]
      have hqt : Hid (q = t) := by
        show _ = _
        have h1 := hqs.out
        have h2 := ht'.out
        rw [← hn'.out, List.take_length] at h1
        omega
      clear how hrw hch how' hrw'
      go_wp2
      go_ret
      exact ⟨ret_int hqt.out, hfin.out, hch'.out⟩

set_option maxHeartbeats 2000000 in
theorem heldIntSS_any (v : Value) (L : List (List Int)) (k : Int) (hk : 0 ≤ k) (hb : k + sumL L ≤ 1000000000) (w : World) (h : ReadsM w v (marksL k L)) :
    Calls Tryd.prog 51 #[v, .int .i64 k] w fun e w' => e = .returned (.int .i64 (k + sumL L)) ∧ w = w' := by
  obtain ⟨a, cap, rfl, hm, hc⟩ := open_readsM h
  rw [marksL_length] at hm hc ⊢
  obtain ⟨n, hn⟩ : ∃ n, L.length = n := ⟨_, rfl⟩
  have hn' := Lib.hid hn
  have hc' := Lib.hid hc
  have hs' := Lib.hid hb
  obtain ⟨t, ht⟩ : ∃ t, k + (sumL L : Int) = t := ⟨_, rfl⟩
  have ht' := Lib.hid ht
  rw [hn] at hm ⊢
  rw [ht]
  clear h hc hn hb ht
  go_enter Tryd.func51, Tryd.ntmps51
  go_wp2
  go_loop [1, 5] (fun c i => ∃ (j : Nat) (q : Int), j ≤ n ∧ i = .int .i64 j ∧ c = .int .i64 q ∧ 0 ≤ q ∧ q ≤ 1000000000 ∧ Hid (q = k + sumL (L.take j))) (fun _ i => n + 1 - (intOf i).toNat)
  case atStart => exact ⟨0, k, by omega, rfl, rfl, hk, by have := hs'.out; omega, show _ = _ by simp [sumL]⟩
  case round =>
    obtain ⟨j, q, hj, rfl, rfl, hq0, hq1, hqs⟩ := hrel
    by_cases hlt : j < n
    · have hjL : j < L.length := by rw [hn'.out]; exact hlt
      obtain ⟨g, off, r, rfl, _, hcell, hrd⟩ := hc'.out j hjL
      rw [marksL_at L k j hjL, ← hqs.out, marks_length] at hrd
      have hst := sum_take_succ L j hjL
      have hsl := sum_take_le L (j + 1)
      have hqv := hqs.out
      have hbd : q + ((lAt L j).length : Int) ≤ 1000000000 := by
        have h1 := hs'.out
        unfold sumL at hqv h1
        omega
      have hcall := Lib.hid (heldIntS_any r _ q hq0 hbd w hrd)
      have hq2 : Hid (q + ((lAt L j).length : Int) = k + sumL (L.take (j + 1))) := by
        show _ = _
        unfold sumL at hqv ⊢
        rw [hst]
        omega
      clear hjL hrd hst hsl hqv hc'
      generalize (lAt L j).length = len at *
      have hb2 : decide (q + (len : Int) < 0) = false := by simp; omega
      go_wp2_with (go_at_call 82; ((with_reducible refine (hcall.out).mono ?_); rintro e w' ⟨rfl, rfl⟩))
      go_round
      case rel => exact ⟨j + 1, _, by omega, by go_num, rfl, by omega, by omega, hq2⟩
      case measure => simp [intOf]; omega
    · obtain rfl : j = n := by omega
      have hqt : Hid (q = t) := by
        show _ = _
        have h1 := hqs.out
        have h2 := ht'.out
        rw [← hn'.out, List.take_length] at h1
        omega
      go_wp2
      go_ret
      exact ⟨ret_int hqt.out, rfl⟩

end Ints
end Go.Proofs.YtnpjkcmhfpmgmaaDoor
