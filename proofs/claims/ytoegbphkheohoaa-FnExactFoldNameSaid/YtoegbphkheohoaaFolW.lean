/- Folding: slices.Equal over nodes. -/
import Derived.Test.YtoegbphkheohoaaTreeW
import Derived.BigQuiet
namespace Go.Proofs.Ytoegbphkheohoaa
open Go.RowKit
namespace Ints

/-- Two nodes are the same. -/
def eqN (a b : NodeL) : Bool := a.kind == b.kind && (a.value == b.value && a.name.toList == b.name.toList)
/-- The first k nodes are the same. -/
def sameN (xs ys : List NodeL) (k : Nat) : Prop := ∀ j, j < k → eqN (nAt xs j) (nAt ys j) = true

set_option maxRecDepth 100000 in
set_option maxHeartbeats 2000000 in
theorem slicesEqual_any (va vb : Value) (xs ys : List NodeL) (w : World) (ha : ReadsN w va xs) (hb : ReadsN w vb ys) :
    Calls Try.prog 52 #[va, vb] w fun e w' => e = .returned (.bool (xs.length == ys.length && (List.range xs.length).all fun j => eqN (nAt xs j) (nAt ys j))) ∧ Below w.heap.size w w' := by
  obtain ⟨aa, ca, rfl, hma, hca⟩ := open_readsN ha
  obtain ⟨ab, cb, rfl, hmb, hcb⟩ := open_readsN hb
  obtain ⟨n, hn⟩ : ∃ n, xs.length = n := ⟨_, rfl⟩
  obtain ⟨m, hm⟩ : ∃ m, ys.length = m := ⟨_, rfl⟩
  have HN := Lib.hid hn
  have HM := Lib.hid hm
  have HCA := Lib.hid hca
  have HCB := Lib.hid hcb
  rw [hn] at hma ⊢
  rw [hm] at hmb ⊢
  clear ha hb hn hm hca hcb
  by_cases hnm : n = m
  · subst hnm
    have HR : Hid (∀ k, k < n → sameN xs ys k → eqN (nAt xs k) (nAt ys k) = false → ((n == n) && (List.range n).all fun j => eqN (nAt xs j) (nAt ys j)) = false) := by
      refine Lib.hid fun k hk _ h => ?_
      rw [beq_self_eq_true, Bool.true_and, List.all_eq_false]
      exact ⟨k, List.mem_range.2 hk, by rw [h]; simp⟩
    have HT : Hid (sameN xs ys n → ((n == n) && (List.range n).all fun j => eqN (nAt xs j) (nAt ys j)) = true) := by
      refine Lib.hid fun h => ?_
      rw [beq_self_eq_true, Bool.true_and, List.all_eq_true]
      exact fun j hj => h j (List.mem_range.1 hj)
    obtain ⟨r, hr⟩ : ∃ r, ((n == n) && (List.range n).all fun j => eqN (nAt xs j) (nAt ys j)) = r := ⟨_, rfl⟩
    rw [hr] at HR HT ⊢
    clear hr
    go_enter Try.func52, Try.ntmps52
    go_wp2
    go_loopw [13, 5] (fun i _ wr => ∃ k : Nat, k ≤ n ∧ i = .int .i64 k ∧ Hid (sameN xs ys k ∧ Below w.heap.size w wr)) (fun i _ _ => n + 1 - (intOf i).toNat)
    case atStart => exact ⟨0, by omega, rfl, Lib.hid ⟨fun j hj => by omega, Below.refl _ _⟩⟩
    case round =>
      obtain ⟨k, hk, rfl, H⟩ := hrel
      by_cases hlt : k < n
      · obtain ⟨g1, o1, rfl, hg1, hE1⟩ := HCA.out k (by rw [HN.out]; exact hlt)
        obtain ⟨g2, o2, rfl, hg2, hE2⟩ := HCB.out k (by rw [HM.out]; exact hlt)
        obtain ⟨x0, x1, x2⟩ := hE1.below H.out.2
        obtain ⟨y0, y1, y2⟩ := hE2.below H.out.2
        have hk0 : 0 ≤ (k : Int) := by omega
        have hkn : (k : Int) < (n : Int) := by omega
        have HNO := Lib.hid (HR.out k hlt H.out.1)
        have HYES : Hid (eqN (nAt xs k) (nAt ys k) = true → sameN xs ys (k + 1)) := by
          refine Lib.hid fun h j hj => ?_
          by_cases hjk : j = k
          · rw [hjk]; exact h
          · exact H.out.1 j (by omega)
        clear hE1 hE2
        obtain ⟨⟨ka, va, sa⟩, hna⟩ : ∃ x, nAt xs k = x := ⟨_, rfl⟩
        obtain ⟨⟨kb, vb, sb⟩, hnb⟩ : ∃ x, nAt ys k = x := ⟨_, rfl⟩
        rw [hna] at x0 x1 x2 HNO HYES
        rw [hnb] at y0 y1 y2 HNO HYES
        clear hna hnb
        dsimp only at x0 x1 x2 y0 y1 y2
        have HBW := H.out.2
        by_cases h1 : ka = kb
        · subst h1
          by_cases h2 : va = vb
          · subst h2
            by_cases h3 : sa.toList = sb.toList
            · have hyes := Lib.hid (HYES.out (by unfold eqN; simp [h3]))
              have b3 : (sa.toList == sb.toList) = true := by simpa using h3
              clear HNO HYES
              go_wp2_with fail
              go_quiet (fail)
              go_wp2
              go_roundw
              case rel => exact ⟨k + 1, by omega, by go_num, Lib.hid ⟨hyes.out, Below.drewN' HBW _⟩⟩
              case measure => simp [intOf]; omega
            · have b3 : (sa.toList == sb.toList) = false := by simpa using h3
              have hno := Lib.hid (HNO.out (by unfold eqN; simp [h3]))
              clear HNO HYES
              go_wp2_with fail
              go_quiet (fail)
              go_wp2
              go_ret
              exact ⟨by rw [hno.out]; rfl, Below.drewN' HBW _⟩
          · have b2 : (va == vb) = false := by simpa using h2
            have hno := Lib.hid (HNO.out (by unfold eqN; simp [h2]))
            clear HNO HYES
            go_wp2_with fail
            go_quiet (fail)
            go_wp2
            go_ret
            exact ⟨by rw [hno.out]; rfl, Below.drewN' HBW _⟩
        · have b1 : (ka == kb) = false := by simpa using h1
          have hno := Lib.hid (HNO.out (by unfold eqN; simp [h1]))
          clear HNO HYES
          go_wp2_with fail
          go_quiet (fail)
          go_wp2
          go_ret
          exact ⟨by rw [hno.out]; rfl, Below.drewN' HBW _⟩
      · obtain rfl : k = n := by omega
        have hfin := Lib.hid (HT.out H.out.1)
        have HB := Lib.hid H.out.2
        go_wp2
        go_ret
        exact ⟨by rw [hfin.out]; rfl, HB.out⟩
  · have e : (n == m) = false := by simpa using hnm
    rw [e, Bool.false_and]
    have e3 : ((n : Int) != (m : Int)) = true := by rw [bne_iff_ne]; omega
    clear e
    go_enter Try.func52, Try.ntmps52
    go_wp2
    go_ret
    exact ⟨rfl, Below.refl _ _⟩

end Ints
end Go.Proofs.Ytoegbphkheohoaa
