/- Lists of lists in memory, and the laws' own helpers over them. -/
import Derived.Test.YtnpjkcmhfpmgmaaDoorInts
import Derived.Deep.RegionHeld3
namespace Go.Proofs.YtnpjkcmhfpmgmaaDoor
open Go.RowKit
namespace Ints

theorem infoI : (Tryd.prog.info? 3).map (fun i => (i.zero, i.size, i.bytes)) = some (some (.int .i64 0), 1, 8) := by kernel_rfl
theorem infoS : (Tryd.prog.info? 59).map (fun i => (i.zero, i.size, i.bytes)) = some (some (.slice none 0 0), 1, 24) := by kernel_rfl

/-- The k-th value, the k-th list. -/
def vAt (rs : List Value) (k : Nat) : Value := rs[k]?.getD undef
def lAt (L : List (List Int)) (k : Nat) : List Int := L[k]?.getD []

/-- Slice values that read as lists. -/
def RowsRead (w : World) (rs : List Value) (L : List (List Int)) : Prop :=
  rs.length = L.length ∧ ∀ i, i < L.length → Reads w 1 (vAt rs i) (lAt L i).length (ofL (lAt L i))
def ReadsM (w : World) (v : Value) (L : List (List Int)) : Prop := ∃ rs, Reads w 1 v L.length rs ∧ RowsRead w rs L

/-- Slice values, each in a block of its own among S. -/
def RowsOwn (S : Nat → Prop) (w : World) (rs : List Value) (L : List (List Int)) : Prop :=
  rs.length = L.length ∧ (∀ i, i < L.length → Owns w 3 1 (vAt rs i) (lAt L i).length (ofL (lAt L i)) ∧ blkIn S (vAt rs i) (ofL (lAt L i))) ∧
    ∀ i j, i < j → j < L.length → lAt L i ≠ [] → lAt L j ≠ [] → (vAt rs i).ownBlock ≠ (vAt rs j).ownBlock
def OwnsM (S : Nat → Prop) (w : World) (v : Value) (L : List (List Int)) : Prop := ∃ rs, Owns w 59 1 v L.length rs ∧ blkIn S v rs ∧ RowsOwn S w rs L

theorem ofL_ne {l : List Int} : ofL l ≠ [] ↔ l ≠ [] := by simp [ofL]

theorem RowsOwn.reads {S : Nat → Prop} {w : World} {rs : List Value} {L : List (List Int)} (h : RowsOwn S w rs L) : RowsRead w rs L := ⟨h.1, fun i hi => (h.2.1 i hi).1.reads⟩
theorem OwnsM.reads {S : Nat → Prop} {w : World} {v : Value} {L : List (List Int)} (h : OwnsM S w v L) : ReadsM w v L := by
  obtain ⟨rs, h1, _, h3⟩ := h
  exact ⟨rs, h1.reads, h3.reads⟩

theorem RowsRead.below {w w' : World} {rs : List Value} {L : List (List Int)} (h : RowsRead w rs L) (hb : Below w.heap.size w w') : RowsRead w' rs L := ⟨h.1, fun i hi => (h.2 i hi).below hb⟩
theorem ReadsM.below {w w' : World} {v : Value} {L : List (List Int)} (h : ReadsM w v L) (hb : Below w.heap.size w w') : ReadsM w' v L := by
  obtain ⟨rs, h1, h2⟩ := h
  exact ⟨rs, h1.below hb, h2.below hb⟩

theorem RowsOwn.chg {S T : Nat → Prop} {w w' : World} {rs : List Value} {L : List (List Int)} (h : RowsOwn S w rs L) (hc : Chg T w w') (hd : ∀ g, S g → ¬ T g) : RowsOwn S w' rs L :=
  ⟨h.1, fun i hi => ⟨(h.2.1 i hi).1.chg hc fun g hx hg => hd g ((h.2.1 i hi).2 g hx hg), (h.2.1 i hi).2⟩, h.2.2⟩
theorem RowsOwn.below {S : Nat → Prop} {w w' : World} {rs : List Value} {L : List (List Int)} (h : RowsOwn S w rs L) (hb : Below w.heap.size w w') : RowsOwn S w' rs L :=
  h.chg (T := fun _ => False) (Below.chg hb _) (fun _ _ => id)
theorem OwnsM.chg {S T : Nat → Prop} {w w' : World} {v : Value} {L : List (List Int)} (h : OwnsM S w v L) (hc : Chg T w w') (hd : ∀ g, S g → ¬ T g) : OwnsM S w' v L := by
  obtain ⟨rs, h1, h2, h3⟩ := h
  exact ⟨rs, h1.chg hc fun g hx hg => hd g (h2 g hx hg), h2, h3.chg hc hd⟩
theorem OwnsM.below {S : Nat → Prop} {w w' : World} {v : Value} {L : List (List Int)} (h : OwnsM S w v L) (hb : Below w.heap.size w w') : OwnsM S w' v L :=
  h.chg (T := fun _ => False) (Below.chg hb _) (fun _ _ => id)
theorem OwnsM.mono {S T : Nat → Prop} {w : World} {v : Value} {L : List (List Int)} (h : OwnsM S w v L) (hST : ∀ g, S g → T g) : OwnsM T w v L := by
  obtain ⟨rs, h1, h2, h3⟩ := h
  exact ⟨rs, h1, h2.mono hST, h3.1, fun i hi => ⟨(h3.2.1 i hi).1, (h3.2.1 i hi).2.mono hST⟩, h3.2.2⟩

theorem RowsOwn.mono {S T : Nat → Prop} {w : World} {rs : List Value} {L : List (List Int)} (h : RowsOwn S w rs L) (hST : ∀ g, S g → T g) : RowsOwn T w rs L :=
  ⟨h.1, fun i hi => ⟨(h.2.1 i hi).1, (h.2.1 i hi).2.mono hST⟩, h.2.2⟩
theorem vAt_snoc_lt {rs : List Value} {v : Value} {i : Nat} (h : i < rs.length) : vAt (rs ++ [v]) i = vAt rs i := by simp [vAt, List.getElem?_append_left h]
theorem vAt_snoc_at {rs : List Value} {v : Value} : vAt (rs ++ [v]) rs.length = v := by simp [vAt]
theorem lAt_snoc_lt {L : List (List Int)} {l : List Int} {i : Nat} (h : i < L.length) : lAt (L ++ [l]) i = lAt L i := by simp [lAt, List.getElem?_append_left h]
theorem lAt_snoc_at {L : List (List Int)} {l : List Int} : lAt (L ++ [l]) L.length = l := by simp [lAt]

theorem RowsOwn.nil (S : Nat → Prop) (w : World) : RowsOwn S w [] [] := ⟨rfl, fun i hi => by simp at hi, fun i j _ hj => by simp at hj⟩

/-- One row more, made behind all that was there. -/
theorem RowsOwn.snoc {S : Nat → Prop} {w0 w1 : World} {rs : List Value} {L : List (List Int)} {v : Value} {l : List Int} (h : RowsOwn S w0 rs L) (hb : Below w0.heap.size w0 w1)
    (ho : Owns w1 3 1 v l.length (ofL l)) (hf : blkIn (w0.heap.size ≤ ·) v (ofL l)) (hS : ∀ g, w0.heap.size ≤ g → S g) : RowsOwn S w1 (rs ++ [v]) (L ++ [l]) := by
  have h1 := h.below hb
  refine ⟨by simp [h.1], fun i hi => ?_, fun i j hij hj hi1 hj1 => ?_⟩
  · by_cases e : i < L.length
    · rw [vAt_snoc_lt (by rw [h.1]; exact e), lAt_snoc_lt e]
      exact h1.2.1 i e
    · have : i = L.length := by simp at hi; omega
      subst this
      rw [← h.1, vAt_snoc_at, h.1, lAt_snoc_at]
      exact ⟨ho, hf.mono hS⟩
  · have hi' : i < L.length := by simp at hj; omega
    rw [vAt_snoc_lt (by rw [h.1]; exact hi')]
    rw [lAt_snoc_lt hi'] at hi1
    by_cases e : j < L.length
    · rw [vAt_snoc_lt (by rw [h.1]; exact e)]
      rw [lAt_snoc_lt e] at hj1
      exact h.2.2 i j hij e hi1 hj1
    · have : j = L.length := by simp at hj; omega
      subst this
      rw [lAt_snoc_at] at hj1
      rw [← h.1, vAt_snoc_at]
      intro he
      have hlt := (h.2.1 i hi').1.reads.lt
      cases hv : v.ownBlock with
      | none =>
        obtain ⟨_, a, cap, rfl, _, _, h4⟩ := ho
        obtain ⟨g, off, cs, rfl, _⟩ := h4 (List.length_pos_iff.2 (ofL_ne.2 hj1))
        simp [Value.ownBlock] at hv
      | some g =>
        have h2 := hf g (ofL_ne.2 hj1) hv
        have h3 := hlt g (ofL_ne.2 hi1) (he.trans hv)
        omega

/-- What a walk wants of a list of lists: its value, and of each index the cell and what its row reads as. -/
theorem open_readsM {w : World} {v : Value} {L : List (List Int)} (h : ReadsM w v L) :
    ∃ a cap, v = .slice a L.length cap ∧ L.length ≤ 9223372036854775807 ∧
      ∀ k, k < L.length → ∃ g off r, a = some ⟨g, off, none⟩ ∧ g < w.heap.size ∧ w.cell? ⟨g, off + k, none⟩ = some r ∧ Reads w 1 r (lAt L k).length (ofL (lAt L k)) := by
  obtain ⟨rs, ⟨h1, a, cap, rfl, h2, h3, h4⟩, h5, h6⟩ := h
  unfold maxLen at h3
  refine ⟨a, cap, rfl, by omega, fun k hk => ?_⟩
  obtain ⟨g, off, rfl, hc⟩ := h4 (by omega)
  have hk' := hc k (by omega)
  exact ⟨g, off, vAt rs k, rfl, lt_of_cell hk', hk', h6 k hk⟩

theorem ReadsM.form {w : World} {v : Value} {L : List (List Int)} (h : ReadsM w v L) : ∃ a cap, v = .slice a L.length cap := by
  obtain ⟨_, h1, _⟩ := h
  exact h1.form

/-- All the places and letters of a list of lists. -/
def tot (L : List (List Int)) : Nat := L.length + (L.map List.length).sum
theorem sum_take_succ (L : List (List Int)) (k : Nat) (h : k < L.length) : ((L.take (k + 1)).map List.length).sum = ((L.take k).map List.length).sum + (lAt L k).length := by
  rw [List.take_succ_eq_append_getElem h, List.map_append, List.sum_append]
  simp [lAt, h]
theorem sum_take_le (L : List (List Int)) (k : Nat) : ((L.take k).map List.length).sum ≤ (L.map List.length).sum := by
  have h : L.map List.length = (L.take k).map List.length ++ (L.drop k).map List.length := by rw [← List.map_append, List.take_append_drop]
  rw [h, List.sum_append]
  omega

def szN (n : Nat) (left : Int) : Int := if (n : Int) ≤ left then left - n else -1

theorem szIntS_any (a : Option Addr) (n cap : Nat) (left : Int) (h0 : 0 ≤ left) (hl : left ≤ 1048576) (hn : n ≤ 9223372036854775807) (w : World) :
    Calls Tryd.prog 69 #[.slice a n cap, .int .i64 left] w fun e w' => e = .returned (.int .i64 (szN n left)) ∧ w = w' := by
  by_cases h : (n : Int) ≤ left
  · have hb : decide (left - (n : Int) < 0) = false := by simp; omega
    have e1 : Hid (szN n left = left - n) := by show _ = _; simp [szN, h]
    go_enter Tryd.func69, Tryd.ntmps69
    go_wp2
    go_ret
    exact ⟨ret_int e1.out.symm, rfl⟩
  · have hb : decide (left - (n : Int) < 0) = true := by simp; omega
    have e1 : Hid (szN n left = -1) := by show _ = _; simp [szN, h]
    go_enter Tryd.func69, Tryd.ntmps69
    go_wp2
    go_ret
    exact ⟨ret_int e1.out.symm, rfl⟩

set_option maxHeartbeats 1000000 in
theorem szIntSS_any (v : Value) (L : List (List Int)) (left : Int) (h0 : 0 ≤ left) (hl : left ≤ 1048576) (w : World) (h : ReadsM w v L) :
    Calls Tryd.prog 36 #[v, .int .i64 left] w fun e w' => e = .returned (.int .i64 (szN (tot L) left)) ∧ w = w' := by
  obtain ⟨a, cap, rfl, hm, hc⟩ := open_readsM h
  obtain ⟨n, hn⟩ : ∃ n, L.length = n := ⟨_, rfl⟩
  obtain ⟨r, hr⟩ : ∃ r, szN (tot L) left = r := ⟨_, rfl⟩
  rw [hr]
  have hr' := Lib.hid hr
  have hn' := Lib.hid hn
  have hc' := Lib.hid hc
  rw [hn] at hm ⊢
  clear h hc hn hr
  by_cases hfit : (n : Int) ≤ left
  · have hb : decide (left - (n : Int) < 0) = false := by simp; omega
    go_enter Tryd.func36, Tryd.ntmps36
    go_wp2
    go_loop [1, 5] (fun q i => ∃ (k : Nat) (m : Int), k ≤ n ∧ i = .int .i64 k ∧ q = .int .i64 m ∧ 0 ≤ m ∧ m ≤ 1048576 ∧ Hid (m = left - n - ((L.take k).map List.length).sum)) (fun _ i => n + 1 - (intOf i).toNat)
    case atStart => exact ⟨0, _, by omega, rfl, rfl, by omega, by omega, show _ = _ by simp⟩
    case round =>
      obtain ⟨k, m, hk, rfl, rfl, hm0, hm1, hs⟩ := hrel
      by_cases hlt : k < n
      · obtain ⟨g, off, r1, rfl, _, hcell, hrow⟩ := hc'.out k (by rw [hn'.out]; exact hlt)
        obtain ⟨_, a1, cap1, rfl, hq, _⟩ := open_reads hrow
        have hst := Lib.hid (sum_take_succ L k (by rw [hn'.out]; exact hlt))
        have hsl := Lib.hid (sum_take_le L (k + 1))
        generalize (lAt L k).length = q at *
        clear hrow
        by_cases hq1 : (q : Int) ≤ m
        · have hs2 : Hid (m - (q : Int) = left - n - ((L.take (k + 1)).map List.length).sum) := by
            show _ = _
            have h1 := hs.out
            have h2 := hst.out
            omega
          have hb2 : decide (m - (q : Int) < 0) = false := by simp; omega
          have e1 : szN q m = m - q := by simp [szN, hq1]
          have hsz := Lib.hid (szIntS_any a1 q cap1 m hm0 hm1 hq w)
          rw [e1] at hsz
          clear e1
          go_wp2_with (go_at_call 69; ((with_reducible refine (hsz.out).mono ?_); rintro e w' ⟨rfl, rfl⟩))
          go_round
          case rel => exact ⟨k + 1, _, by omega, by go_num, rfl, by omega, by omega, hs2⟩
          case measure => simp [intOf]; omega
        · have hrm : Hid (r = -1) := by
            show _ = _
            have h1 := hs.out
            have h2 := hst.out
            have h3 := hsl.out
            have h4 := hn'.out
            rw [← hr'.out]
            unfold szN tot
            rw [if_neg (by rw [h4]; omega)]
          have e1 : szN q m = -1 := by simp [szN, hq1]
          have hsz := Lib.hid (szIntS_any a1 q cap1 m hm0 hm1 hq w)
          rw [e1] at hsz
          clear e1
          go_wp2_with (go_at_call 69; ((with_reducible refine (hsz.out).mono ?_); rintro e w' ⟨rfl, rfl⟩))
          go_ret
          exact ⟨ret_int hrm.out.symm, rfl⟩
      · obtain rfl : k = n := by omega
        have hrm : Hid (r = m) := by
          show _ = _
          have h1 := hs.out
          rw [← hn'.out, List.take_length] at h1
          rw [← hr'.out]
          unfold szN tot
          have h4 := hn'.out
          rw [if_pos (by rw [h4]; omega)]
          omega
        go_wp2
        go_ret
        exact ⟨ret_int hrm.out.symm, rfl⟩
  · have hb : decide (left - (n : Int) < 0) = true := by simp; omega
    have hrm : Hid (r = -1) := by
      show _ = _
      rw [← hr'.out]
      unfold szN tot
      have := hn'.out
      rw [if_neg (by omega)]
    go_enter Tryd.func36, Tryd.ntmps36
    go_wp2
    go_ret
    exact ⟨ret_int hrm.out.symm, rfl⟩

end Ints
end Go.Proofs.YtnpjkcmhfpmgmaaDoor
