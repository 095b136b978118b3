/- Copies of lists and of lists of lists; comparing, marking, looking after the marks. -/
import Derived.Test.YtnpjkcmhfpmgmaaDoorRows1
namespace Go.Proofs.YtnpjkcmhfpmgmaaDoor
open Go.RowKit
namespace Ints

/-- A list in new memory. -/
def NewInts (w : World) (l : List Int) (e : Ending) (w' : World) : Prop :=
  ∃ v, e = .returned v ∧ Owns w' 3 1 v l.length (ofL l) ∧ blkIn (w.heap.size ≤ ·) v (ofL l) ∧ Below w.heap.size w w'
/-- A list of lists in new memory. -/
def NewRows (w : World) (L : List (List Int)) (e : Ending) (w' : World) : Prop :=
  ∃ v, e = .returned v ∧ OwnsM (w.heap.size ≤ ·) w' v L ∧ Below w.heap.size w w'

theorem ofL_take_succ (l : List Int) (k : Nat) (h : k < l.length) : ofL (l.take (k + 1)) = ofL (l.take k) ++ [.int .i64 (l[k]?.getD 0)] := by
  rw [take_one l k h]; simp [ofL]
theorem ofL_take_length (l : List Int) (k : Nat) (h : k ≤ l.length) : (ofL (l.take k)).length = k := by simp [ofL]; omega

set_option maxHeartbeats 1000000 in
theorem toIntS_any (v : Value) (n : Nat) (l : List Int) (w : World) (h : Reads w 1 v n (ofL l)) (hs : n ≤ 1048576) : Calls Tryd.prog 73 #[v] w (NewInts w l) := by
  obtain ⟨hl, a, cap, rfl, hm, hc⟩ := open_reads h
  have hl' := Lib.hid hl
  have hc' := Lib.hid hc
  clear h hl hc
  have hm1 := Lib.hid (show 8 * n ≤ 281474976710656 by omega)
  have hm2 := Lib.hid (show n ≤ maxLen by unfold maxLen; omega)
  go_enter Tryd.func73, Tryd.ntmps73
  go_wp2_with (at_make; refine wpList_make_one _ rfl _ _ 59 rfl 3 (.int .i64 0) 8 Tryd.underlying59 infoI rfl n rfl rfl hm1.out hm2.out ?_; intro w1 hown1 hb1 hs1)
  have hown1' := Lib.hid hown1
  have hb1' := Lib.hid hb1
  have hs1' := Lib.hid hs1
  clear hown1 hb1 hs1
  go_wp2
  go_loopw [4] (fun i wr => ∃ k : Nat, k ≤ n ∧ i = .int .i64 k ∧ wr.ownsRow w.heap.size 3 1 (.slice (some ⟨w.heap.size, 0, none⟩) n n) n (ofL (l.take k) ++ List.replicate (n - k) (.int .i64 0)) ∧ Below w.heap.size w wr) (fun i _ => n + 1 - (intOf i).toNat)
  case atStart => exact ⟨0, by omega, rfl, by simpa [ofL] using hown1'.out, hb1'.out⟩
  case round =>
    obtain ⟨k, hk, rfl, hown, hb⟩ := hrel
    by_cases hlt : k < n
    · obtain ⟨g, off, rfl, hg, hcell⟩ := hc'.out (by omega)
      have hx : wr.cell? ⟨g, off + k, none⟩ = some (.int .i64 (l[k]?.getD 0)) := (hb.cell hg).trans (hcell k hlt)
      have hkl : (ofL (l.take k)).length = k := ofL_take_length l k (by rw [hl'.out]; omega)
      obtain ⟨m, hm3⟩ : ∃ m, n - k = m + 1 := ⟨n - k - 1, by omega⟩
      have hy : wr.cell? ⟨w.heap.size, k, none⟩ = some (.int .i64 0) := by
        rw [hown.cellAt k (by omega), List.getElem?_append_right (by omega), hkl, hm3]
        simp
      have hfr : wr.frozen? ⟨w.heap.size, k, none⟩ = false := hown.frozenAt k
      have hst := hown.stored k (Value.int .i64 (l[k]?.getD 0))
      have hown2 : (wr.setCell ⟨w.heap.size, k, none⟩ (.int .i64 (l[k]?.getD 0))).ownsRow w.heap.size 3 1 (.slice (some ⟨w.heap.size, 0, none⟩) n n) n (ofL (l.take (k + 1)) ++ List.replicate (n - (k + 1)) (.int .i64 0)) := by
        have h1 := hst.1
        rw [hm3] at h1
        have h2 : (ofL (l.take k) ++ List.replicate (m + 1) (Value.int .i64 0)).set k (Value.int .i64 (l[k]?.getD 0)) = (ofL (l.take k) ++ [Value.int .i64 (l[k]?.getD 0)]) ++ List.replicate m (Value.int .i64 0) := by
          have := set_fill (A := ofL (l.take k)) (z := Value.int .i64 0) (x := Value.int .i64 (l[k]?.getD 0)) (m := m)
          rw [hkl] at this
          exact this
        rw [h2, ← ofL_take_succ l k (by rw [hl'.out]; exact hlt)] at h1
        rw [show n - (k + 1) = m by omega]
        exact h1
      have hb2 := Lib.hid (hb.setCell (p := ⟨w.heap.size, k, none⟩) (Nat.le_refl _) (.int .i64 (l[k]?.getD 0)))
      have hown2' := Lib.hid hown2
      clear hown hb hcell hkl hm3 hst hown2 hc'
      generalize l[k]?.getD 0 = x at *
      have hk0 : 0 ≤ (k : Int) := by omega
      have hkn : (k : Int) < (n : Int) := by omega
      go_wp2
      go_roundw
      case rel => exact ⟨k + 1, by omega, by go_num, hown2'.out, hb2.out⟩
      case measure => simp [intOf]; omega
    · obtain rfl : k = n := by omega
      have hfin : Hid (NewInts w l (.returned (.slice (some ⟨w.heap.size, 0, none⟩) k k)) wr) := by
        have h1 := owns_of_row hown hm2.out
        rw [Nat.sub_self, List.replicate_zero, List.append_nil, ← hl'.out, List.take_length] at h1
        refine ⟨_, rfl, ?_, ?_, hb⟩
        · rw [← hl'.out]; exact h1.1
        · rw [← hl'.out]; exact h1.2
      clear hown hb
      go_wp2
      go_ret
      exact hfin.out

theorem RowsOwn.grown {S : Nat → Prop} {w w' : World} {rs : List Value} {L : List (List Int)} {base n : Nat} {v : Value} {xs : List Value} (h : RowsOwn S w rs L) (hown : w.ownsRow base 59 1 v n xs) (hg : w.grownBy w' v.ownBlock) : RowsOwn S w' rs L :=
  ⟨h.1, fun i hi => ⟨(h.2.1 i hi).1.chg (chg_of_grown hg) ((h.2.1 i hi).1.apartRow hown (by decide)), (h.2.1 i hi).2⟩, h.2.2⟩

theorem lAt_take (L : List (List Int)) (k i : Nat) (h : i < k) : lAt (L.take k) i = lAt L i := by simp [lAt, h]
theorem take_oneL (L : List (List Int)) (k : Nat) (h : k < L.length) : L.take (k + 1) = L.take k ++ [lAt L k] := by
  rw [List.take_succ_eq_append_getElem h]
  simp [lAt, h]

set_option maxHeartbeats 1000000 in
theorem toIntSS_any (v : Value) (L : List (List Int)) (w : World) (h : ReadsM w v L) (hs : tot L ≤ 1048576) : Calls Tryd.prog 38 #[v] w (NewRows w L) := by
  obtain ⟨a, cap, rfl, hm, hc⟩ := open_readsM h
  obtain ⟨n, hn⟩ : ∃ n, L.length = n := ⟨_, rfl⟩
  have hnt : n ≤ 1048576 := by unfold tot at hs; omega
  have hrow : Hid (∀ k, k < n → (lAt L k).length ≤ 1048576) := by
    intro k hk
    have h1 := sum_take_succ L k (by omega)
    have h2 := sum_take_le L (k + 1)
    unfold tot at hs
    omega
  have hn' := Lib.hid hn
  have hc' := Lib.hid hc
  rw [hn] at hm ⊢
  clear h hc hn hs
  have hm1 := Lib.hid (show 24 * n ≤ 281474976710656 by omega)
  have hm2 := Lib.hid (show n ≤ maxLen by unfold maxLen; omega)
  go_enter Tryd.func38, Tryd.ntmps38
  go_wp2_with (at_make; refine wpList_make_one _ rfl _ _ 22 rfl 59 (.slice none 0 0) 24 Tryd.underlying22 infoS rfl n rfl rfl hm1.out hm2.out ?_; intro w1 hown1 hb1 hs1)
  have hown1' := Lib.hid hown1
  have hb1' := Lib.hid hb1
  have hs1' := Lib.hid hs1
  clear hown1 hb1 hs1
  go_wp2
  go_loopw [4] (fun i wr => ∃ (k : Nat) (rs : List Value), k ≤ n ∧ i = .int .i64 k ∧ wr.ownsRow w.heap.size 59 1 (.slice (some ⟨w.heap.size, 0, none⟩) n n) n (rs ++ List.replicate (n - k) (.slice none 0 0)) ∧ RowsOwn (w.heap.size < ·) wr rs (L.take k) ∧ Below w.heap.size w wr) (fun i _ => n + 1 - (intOf i).toNat)
  case atStart => exact ⟨0, [], by omega, rfl, by simpa using hown1'.out, RowsOwn.nil _ _, hb1'.out⟩
  case round =>
    obtain ⟨k, rs, hk, rfl, hown, hrows, hb⟩ := hrel
    by_cases hlt : k < n
    · obtain ⟨g, off, r, rfl, hg, hcell, hrd⟩ := hc'.out k (by rw [hn'.out]; exact hlt)
      have hx : wr.cell? ⟨g, off + k, none⟩ = some r := (hb.cell hg).trans hcell
      have hrsl : rs.length = k := by rw [hrows.1]; simp [hn'.out]; omega
      have hcall := Lib.hid (toIntS_any r _ (lAt L k) wr (hrd.below (hb.mono (Nat.le_refl _))) (hrow.out k hlt))
      have hown' := Lib.hid hown
      have hrows' := Lib.hid hrows
      have hb' := Lib.hid hb
      have hbs := hb.size
      have htk := Lib.hid (take_oneL L k (by rw [hn'.out]; exact hlt))
      clear hown hrows hb hcell hrd hc'
      have hk0 : 0 ≤ (k : Int) := by omega
      have hkn : (k : Int) < (n : Int) := by omega
      go_wp2_with fail
      refine hcall.out.mono ?_
      rintro e w2 ⟨v2, rfl, ho2, hf2, hb2⟩
      obtain ⟨a2, cap2, rfl⟩ := ho2.form
      generalize hlen : (lAt L k).length = len2 at *
      have hlen' := Lib.hid hlen
      clear hlen
      have hown2 := ownsRow_below hown'.out hb2
      obtain ⟨m, hm3⟩ : ∃ m, n - k = m + 1 := ⟨n - k - 1, by omega⟩
      have hy : w2.cell? ⟨w.heap.size, k, none⟩ = some (.slice none 0 0) := by
        rw [hown2.cellAt k (by omega), List.getElem?_append_right (by omega), hrsl, hm3]
        simp
      have hfr : w2.frozen? ⟨w.heap.size, k, none⟩ = false := hown2.frozenAt k
      have hst := hown2.stored k (Value.slice a2 len2 cap2)
      have hlt2 : w.heap.size < wr.heap.size := (hown'.out.lt w.heap.size rfl).2
      have hown3 : (w2.setCell ⟨w.heap.size, k, none⟩ (.slice a2 len2 cap2)).ownsRow w.heap.size 59 1 (.slice (some ⟨w.heap.size, 0, none⟩) n n) n ((rs ++ [.slice a2 len2 cap2]) ++ List.replicate (n - (k + 1)) (.slice none 0 0)) := by
        have h1 := hst.1
        rw [hm3] at h1
        have h2 := set_fill (A := rs) (z := .slice none 0 0) (x := Value.slice a2 len2 cap2) (m := m)
        rw [hrsl] at h2
        rw [h2] at h1
        rw [show n - (k + 1) = m by omega]
        exact h1
      have hrows3 : RowsOwn (w.heap.size < ·) (w2.setCell ⟨w.heap.size, k, none⟩ (.slice a2 len2 cap2)) (rs ++ [.slice a2 len2 cap2]) (L.take (k + 1)) := by
        rw [htk.out]
        exact (hrows'.out.snoc hb2 (hlen'.out ▸ ho2) hf2 (fun g hg => by omega)).grown hown2 hst.2
      have hb3 := Lib.hid ((hb'.out.trans (hb2.mono hbs)).setCell (p := ⟨w.heap.size, k, none⟩) (Nat.le_refl _) (.slice a2 len2 cap2))
      have hown3' := Lib.hid hown3
      have hrows3' := Lib.hid hrows3
      clear ho2 hf2 hb2 hown2 hm3 hst hown3 hrows3 hlt2 hbs hx
      go_wp2
      go_roundw
      case rel => exact ⟨k + 1, rs ++ [.slice a2 len2 cap2], by omega, by go_num, hown3'.out, hrows3'.out, hb3.out⟩
      case measure => simp [intOf]; omega
    · obtain rfl : k = n := by omega
      have hfin : Hid (NewRows w L (.returned (.slice (some ⟨w.heap.size, 0, none⟩) k k)) wr) := by
        have h1 := owns_of_row hown hm2.out
        rw [Nat.sub_self, List.replicate_zero, List.append_nil] at h1
        have h2 : RowsOwn (w.heap.size < ·) wr rs L := by
          have h3 := hrows
          rw [← hn'.out, List.take_length] at h3
          exact h3
        exact ⟨_, rfl, ⟨rs, by rw [hn'.out]; exact h1.1, h1.2, h2.mono fun g hg => Nat.le_of_lt hg⟩, hb⟩
      clear hown hrows hb
      go_wp2
      go_ret
      exact hfin.out

end Ints
end Go.Proofs.YtnpjkcmhfpmgmaaDoor
