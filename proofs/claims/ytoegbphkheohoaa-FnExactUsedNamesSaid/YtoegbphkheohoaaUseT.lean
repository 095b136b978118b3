/- Lists of words of a call's own: the law's own functions on them. -/
import Derived.Test.YtoegbphkheohoaaWords
import Derived.Test.YtoegbphkheohoaaMarkD
import Derived.BigQuiet
import Derived.Deep.RegionLaw
namespace Go.Proofs.Ytoegbphkheohoaa
open Go.RowKit
namespace Ints

def ofT (l : List ByteArray) : List Value := l.map Value.string
def ReadsT (w : World) (v : Value) (l : List ByteArray) : Prop := Reads w 1 v l.length (ofT l)
def OwnsT (S : Nat → Prop) (w : World) (v : Value) (l : List ByteArray) : Prop := Owns w 9 1 v l.length (ofT l) ∧ blkIn S v (ofT l)
def sumT (l : List ByteArray) : Nat := l.length
section
variable {S T : Nat → Prop} {w w' : World} {v : Value} {l : List ByteArray}
theorem ReadsT.below (h : ReadsT w v l) (hb : Below w.heap.size w w') : ReadsT w' v l := Reads.below h hb
theorem ReadsT.form (h : ReadsT w v l) : ∃ a cap, v = .slice a l.length cap := Reads.form h
theorem OwnsT.reads (h : OwnsT S w v l) : ReadsT w v l := h.1.reads
theorem OwnsT.mono (h : OwnsT S w v l) (hST : ∀ g, S g → T g) : OwnsT T w v l := ⟨h.1, h.2.mono hST⟩
theorem OwnsT.chg (h : OwnsT S w v l) (hc : Chg T w w') (hd : ∀ g, S g → ¬ T g) : OwnsT S w' v l := ⟨h.1.chg hc fun g hx hg => hd g (h.2 g hx hg), h.2⟩
theorem OwnsT.below (h : OwnsT S w v l) (hb : Below w.heap.size w w') : OwnsT S w' v l := h.chg (T := fun _ => False) (Below.chg hb _) (fun _ _ => id)
theorem OwnsT.bound (h : OwnsT S w v l) : OwnsT (fun g => S g ∧ g < w.heap.size) w v l := ⟨h.1, fun g hx hg => ⟨h.2 g hx hg, h.1.reads.lt g hx hg⟩⟩
theorem ofT_length (l : List ByteArray) : (ofT l).length = l.length := by simp [ofT]
theorem ofT_at (l : List ByteArray) (k : Nat) (h : k < l.length) : (ofT l)[k]?.getD undef = .string (sAt l k) := by simp [ofT, sAt, h]
theorem open_readsT (h : ReadsT w v l) : ∃ a cap, v = .slice a l.length cap ∧ l.length ≤ 9223372036854775807 ∧
    ∀ k, k < l.length → ∃ g off, a = some ⟨g, off, none⟩ ∧ g < w.heap.size ∧ w.cell? ⟨g, off + k, none⟩ = some (.string (sAt l k)) := open_readsS h
theorem ownsT_row {base n : Nat} (h : w.ownsRow base 9 1 v n (ofT l)) (hn : l.length = n) (hm : n ≤ maxLen) : OwnsT (base ≤ ·) w v l := by
  subst hn
  exact owns_of_row h hm
theorem ownsT_nil (S : Nat → Prop) (w : World) : OwnsT S w (.slice none 0 0) [] := ⟨⟨rfl, none, 0, rfl, Nat.le_refl _, Nat.zero_le _, fun h => by simp [ofT] at h⟩, fun g h => by simp [ofT] at h⟩
end

def marksT (k : Int) (l : List ByteArray) : List ByteArray := (List.range l.length).map fun (i : Nat) => mtx (k + (i : Int))
theorem marksT_length (k : Int) (l : List ByteArray) : (marksT k l).length = l.length := by simp [marksT]
theorem marksT_at (k : Int) (l : List ByteArray) (j : Nat) (h : j < l.length) : sAt (marksT k l) j = mtx (k + (j : Int)) := by simp [marksT, sAt, h]
def halfT (k : Int) (l : List ByteArray) (j : Nat) : List ByteArray := (marksT k l).take j ++ l.drop j
theorem halfT_zero (k : Int) (l : List ByteArray) : halfT k l 0 = l := by simp [halfT]
theorem halfT_all (k : Int) (l : List ByteArray) : halfT k l l.length = marksT k l := by
  unfold halfT
  rw [List.drop_length, List.append_nil, ← marksT_length k l, List.take_length]
theorem halfT_length (k : Int) (l : List ByteArray) (j : Nat) (h : j ≤ l.length) : (halfT k l j).length = l.length := by
  unfold halfT
  rw [List.length_append, List.length_take, List.length_drop, marksT_length]
  omega
theorem halfT_succ (k : Int) (l : List ByteArray) (j : Nat) (h : j < l.length) : (halfT k l j).set j (sAt (marksT k l) j) = halfT k l (j + 1) := by
  unfold halfT
  have hm := marksT_length k l
  have h1 : ((marksT k l).take j).length = j := by rw [List.length_take]; omega
  rw [List.set_append_right _ _ (by omega), h1, Nat.sub_self, List.drop_eq_getElem_cons h, List.set_cons_zero, List.take_succ_eq_append_getElem (by omega), List.append_assoc]
  congr 1
  rw [sAt_eq _ _ (by omega)]
  rfl

set_option maxRecDepth 100000 in
set_option maxHeartbeats 2000000 in
theorem eqStringS_same (va vb : Value) (l : List ByteArray) (w : World) (ha : ReadsT w va l) (hb : ReadsT w vb l) :
    Calls Try.prog 11 #[va, vb] w fun e w' => e = .returned (.bool true) ∧ Below w.heap.size w w' := by
  obtain ⟨aa, ca, rfl, hma, hca⟩ := open_readsT ha
  obtain ⟨ab, cb, rfl, hmb, hcb⟩ := open_readsT hb
  obtain ⟨n, hn⟩ : ∃ n, l.length = n := ⟨_, rfl⟩
  have HN := Lib.hid hn
  have HCA := Lib.hid hca
  have HCB := Lib.hid hcb
  rw [hn] at hma ⊢
  clear ha hb hn hca hcb hmb
  have hne : ((n : Int) != (n : Int)) = false := by simp
  go_enter Try.func11, Try.ntmps11
  go_wp2
  go_loopw [5] (fun i wr => ∃ k : Nat, k ≤ n ∧ i = .int .i64 k ∧ Hid (Below w.heap.size w wr)) (fun i _ => n + 1 - (intOf i).toNat)
  case atStart => exact ⟨0, by omega, rfl, Lib.hid (Below.refl _ _)⟩
  case round =>
    obtain ⟨k, hk, rfl, H⟩ := hrel
    by_cases hlt : k < n
    · obtain ⟨g1, o1, rfl, hg1, hE1⟩ := HCA.out k (by rw [HN.out]; exact hlt)
      obtain ⟨g2, o2, rfl, hg2, hE2⟩ := HCB.out k (by rw [HN.out]; exact hlt)
      have x0 := cell_old H.out hE1
      have y0 := cell_old H.out hE2
      have hk0 : 0 ≤ (k : Int) := by omega
      have hkn : (k : Int) < (n : Int) := by omega
      obtain ⟨s, hs⟩ : ∃ s, sAt l k = s := ⟨_, rfl⟩
      rw [hs] at x0 y0
      have b3 : (s.toList != s.toList) = false := by simp
      have HB := Lib.hid H.out
      clear hE1 hE2 hs
      go_wp2_with fail
      go_quiet (fail)
      go_wp2
      go_roundw
      case rel => exact ⟨k + 1, by omega, by go_num, Lib.hid (Below.drewN' HB.out _)⟩
      case measure => simp [intOf]; omega
    · obtain rfl : k = n := by omega
      go_wp2
      go_ret
      exact ⟨rfl, H.out⟩

set_option maxRecDepth 100000 in
set_option maxHeartbeats 2000000 in
theorem markStringS_any (S : Nat → Prop) (v : Value) (l : List ByteArray) (k : Int) (hk : 0 ≤ k) (hb : k + sumT l ≤ 1000000000) (w : World) (h : OwnsT S w v l) :
    Calls Try.prog 16 #[v, .int .i64 k] w fun e w' => e = .returned (.int .i64 (k + sumT l)) ∧ OwnsT S w' v (marksT k l) ∧ Chg S w w' := by
  have HO := Lib.hid h
  obtain ⟨a, cap, rfl⟩ := h.reads.form
  obtain ⟨n, hn⟩ : ∃ n, l.length = n := ⟨_, rfl⟩
  have HN := Lib.hid hn
  have hb2 : k + (n : Int) ≤ 1000000000 := by unfold sumT at hb; rw [hn] at hb; omega
  have hs : ((sumT l : Nat) : Int) = (n : Int) := by unfold sumT; rw [hn]
  rw [hs]
  rw [hn] at HO ⊢
  have hmt := Lib.hid (fun k h1 h2 W => markText_any k h1 h2 W)
  clear h hn hb hs
  go_enter Try.func16, Try.ntmps16
  go_wp2
  go_loopw [1, 5] (fun c i wr => ∃ j : Nat, j ≤ n ∧ i = .int .i64 j ∧ c = .int .i64 (k + (j : Int)) ∧ Hid (OwnsT S wr (.slice a n cap) (halfT k l j) ∧ Chg S w wr)) (fun _ i _ => n + 1 - (intOf i).toNat)
  case atStart => exact ⟨0, by omega, rfl, by simp, Lib.hid ⟨by rw [halfT_zero]; exact HO.out, Chg.refl _ _⟩⟩
  case round =>
    obtain ⟨j, hj, rfl, rfl, H⟩ := hrel
    by_cases hlt : j < n
    · have hlen : (halfT k l j).length = n := by rw [halfT_length k l j (by rw [HN.out]; omega)]; exact HN.out
      obtain ⟨a', cap', e, -, hset⟩ := Owns.set H.out.1.1
      rw [hlen] at e hset
      simp only [Value.slice.injEq, true_and] at e
      obtain ⟨rfl, rfl⟩ := e
      obtain ⟨g, off, rfl, hg, hall⟩ := hset (by omega)
      have hSg : S g := H.out.1.2 g (by rw [ne_eq, ← List.length_eq_zero_iff, ofT_length, hlen]; omega) rfl
      obtain ⟨c0, f0, hK⟩ := hall j hlt
      obtain ⟨z0, e0⟩ : ∃ z, (ofT (halfT k l j))[j]?.getD undef = z := ⟨_, rfl⟩
      rw [e0] at c0
      have hnx := halfT_succ k l j (by rw [HN.out]; exact hlt)
      rw [marksT_at k l j (by rw [HN.out]; exact hlt)] at hnx
      obtain ⟨q, hq⟩ : ∃ q, k + (j : Int) = q := ⟨_, rfl⟩
      rw [hq] at hnx ⊢
      have hq0 : 0 ≤ q := by omega
      have hq1 : q ≤ 1000000000 := by omega
      have hwq : IntKind.i64.wrap (q + 1) = q + 1 := IntWalk.i64_in _ (by omega)
      have hcall := Lib.hid (hmt.out q (by omega) (by omega) wr)
      have HNEXT : Hid (∀ W, Below wr.heap.size wr W → OwnsT S (W.setCell ⟨g, off + j, none⟩ (.string (mtx q))) (.slice (some ⟨g, off, none⟩) n cap) (halfT k l (j + 1)) ∧ Chg S w (W.setCell ⟨g, off + j, none⟩ (.string (mtx q)))) := by
        refine Lib.hid fun W hW => ?_
        obtain ⟨a2, cap2, e2, -, hset2⟩ := Owns.set (H.out.1.below hW).1
        rw [hlen] at e2 hset2
        simp only [Value.slice.injEq, true_and] at e2
        obtain ⟨rfl, rfl⟩ := e2
        obtain ⟨g2, off2, e3, -, hall2⟩ := hset2 (by omega)
        simp only [Option.some.injEq, Addr.mk.injEq, and_true] at e3
        obtain ⟨rfl, rfl⟩ := e3
        refine ⟨⟨?_, ?_⟩, (H.out.2.trans (Below.chg hW _)).setCell (p := ⟨g, off + j, none⟩) (fun _ => hSg) _⟩
        · have h3 := (hall2 j hlt).2.2 (.string (mtx q))
          have h4 : (ofT (halfT k l j)).set j (.string (mtx q)) = ofT (halfT k l (j + 1)) := by rw [← hnx]; simp [ofT]
          rw [h4] at h3
          have h5 : (halfT k l (j + 1)).length = n := by rw [← hnx, List.length_set]; exact hlen
          rw [h5]
          exact h3
        · intro g' _ hg'
          simp [Value.ownBlock] at hg'
          rw [← hg']
          exact hSg
      have HQ := Lib.hid hq
      have hk0 : 0 ≤ (j : Int) := by omega
      have hkn : (j : Int) < (n : Int) := by omega
      have HC0 := Lib.hid c0
      have HF0 := Lib.hid (fun W (hW : Below wr.heap.size wr W) => Chg.keepF (S := fun _ => False) (Below.chg hW _) f0 (by simpa using hg) (fun x => x))
      clear hset hall hK hnx e0 hlen hg hSg c0 f0 hq
      go_wp2_with fail
      refine hcall.out.mono ?_
      rintro e w3 ⟨rfl, hb3⟩
      have y0 := cell_old hb3 HC0.out
      have f0 := HF0.out _ hb3
      have HFin := Lib.hid (HNEXT.out _ hb3)
      clear hb3
      go_wp2
      go_roundw
      case rel => exact ⟨j + 1, by omega, by go_num, by have := HQ.out; go_num, HFin⟩
      case measure => simp [intOf]; omega
    · obtain rfl : j = n := by omega
      have hfin : Hid (OwnsT S wr (.slice a j cap) (marksT k l) ∧ Chg S w wr) := by
        have := H.out
        rw [← HN.out, halfT_all, HN.out] at this
        exact Lib.hid this
      go_wp2
      go_ret
      exact ⟨rfl, hfin.out⟩

set_option maxRecDepth 100000 in
set_option maxHeartbeats 2000000 in
theorem heldStringS_any (v : Value) (l : List ByteArray) (k : Int) (hk : 0 ≤ k) (hb : k + sumT l ≤ 1000000000) (w : World) (h : ReadsT w v (marksT k l)) :
    Calls Try.prog 17 #[v, .int .i64 k] w fun e w' => e = .returned (.int .i64 (k + sumT l)) ∧ Below w.heap.size w w' := by
  obtain ⟨a, cap, rfl, hm, hc⟩ := open_readsT h
  obtain ⟨n, hn⟩ : ∃ n, l.length = n := ⟨_, rfl⟩
  have hln : (marksT k l).length = n := (marksT_length k l).trans hn
  have hb2 : k + (n : Int) ≤ 1000000000 := by unfold sumT at hb; rw [hn] at hb; omega
  have hs : ((sumT l : Nat) : Int) = (n : Int) := by unfold sumT; rw [hn]
  rw [hs]
  rw [hln] at hm ⊢
  have HC := Lib.hid (fun j (hj : j < n) => hc j (by rw [hln]; exact hj))
  have HAT := Lib.hid (fun j (hj : j < n) => marksT_at k l j (by rw [hn]; exact hj))
  have hmt := Lib.hid (fun k h1 h2 W => markText_any k h1 h2 W)
  clear h hn hb hs hln hc
  go_enter Try.func17, Try.ntmps17
  go_wp2
  go_loopw [1, 5] (fun c i wr => ∃ j : Nat, j ≤ n ∧ i = .int .i64 j ∧ c = .int .i64 (k + (j : Int)) ∧ Hid (Below w.heap.size w wr)) (fun _ i _ => n + 1 - (intOf i).toNat)
  case atStart => exact ⟨0, by omega, rfl, by simp, Lib.hid (Below.refl _ _)⟩
  case round =>
    obtain ⟨j, hj, rfl, rfl, H⟩ := hrel
    by_cases hlt : j < n
    · obtain ⟨g, off, rfl, hg, hE⟩ := HC.out j hlt
      rw [HAT.out j hlt] at hE
      have x0 := cell_old H.out hE
      obtain ⟨q, hq⟩ : ∃ q, k + (j : Int) = q := ⟨_, rfl⟩
      rw [hq] at x0 ⊢
      have hq0 : 0 ≤ q := by omega
      have hq1 : q ≤ 1000000000 := by omega
      have hwq : IntKind.i64.wrap (q + 1) = q + 1 := IntWalk.i64_in _ (by omega)
      have hcall := Lib.hid (hmt.out q (by omega) (by omega) wr.drew)
      obtain ⟨s, hs⟩ : ∃ s, mtx q = s := ⟨_, rfl⟩
      rw [hs] at hcall x0
      have n3 : (s.toList != s.toList) = false := by simp
      have HB2 := Lib.hid (H.out.drew)
      have x0d : wr.drew.cell? ⟨g, off + j, none⟩ = some (.string s) := x0
      have HQ := Lib.hid hq
      have hk0 : 0 ≤ (j : Int) := by omega
      have hkn : (j : Int) < (n : Int) := by omega
      clear hE hs hg hq
      go_wp2
      go_region_law (go_simp; with_reducible refine hcall.out.mono ?_; rintro e w1 ⟨rfl, hb1⟩; have x0w := cell_old hb1 x0d)
      all_goals
        have hB3 := Lib.hid (below_step HB2.out hb1)
        clear hb1
        go_wp2
        go_roundw
        case rel => exact ⟨j + 1, by omega, by go_num, by have := HQ.out; go_num, hB3⟩
        case measure => simp [intOf]; omega
    · obtain rfl : j = n := by omega
      go_wp2
      go_ret
      exact ⟨rfl, H.out⟩

end Ints
end Go.Proofs.Ytoegbphkheohoaa
