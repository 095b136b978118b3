/- The laws' helpers over nodes and definitions: sizes. -/
import Derived.Test.YtoegbphkheohoaaNodes
namespace Go.Proofs.Ytoegbphkheohoaa
open Go.RowKit
namespace Ints

/-- What the laws' arguments bear besides: no name is longer than a string may be. -/
def BigN (ns : List NodeL) : Prop := ∀ k, k < ns.length → (nAt ns k).name.size ≤ maxLen
def BigD (ds : List DefL) : Prop := ∀ k, k < ds.length → (dAt ds k).name.size ≤ maxLen ∧ BigN (dAt ds k).body

set_option maxRecDepth 100000 in
set_option maxHeartbeats 1000000 in
theorem szNode_any (k v : Int) (s : ByteArray) (left : Int) (h0 : 0 ≤ left) (hl : left ≤ 1048576) (hs : s.size ≤ maxLen) (w : World) :
    Calls Try.prog 40 #[.agg #[.int .i64 k, .int .i64 v, .string s], .int .i64 left] w fun e w' => e = .returned (.int .i64 (szN s.size left)) ∧ Below w.heap.size w w' := by
  have hb := Lib.hid ((Below.refl w.heap.size w).alloc (Nat.le_refl _) (.cells #[.int .i64 k, .int .i64 v, .string s] 79))
  unfold maxLen at hs
  obtain ⟨n, hn⟩ : ∃ n, s.size = n := ⟨_, rfl⟩
  have HN := Lib.hid hn
  rw [hn] at hs ⊢
  have hw : IntKind.i64.wrap (left - (n : Int)) = left - n := IntWalk.i64_in _ (by omega)
  by_cases hfit : (n : Int) ≤ left
  · have e : szN n left = left - n := by simp [szN, hfit]
    have hd : decide (left - (n : Int) < 0) = false := by simp; omega
    rw [e]
    clear e hfit
    go_enter Try.func40, Try.ntmps40
    go_wp2
    go_ret
    exact ⟨rfl, hb.out⟩
  · have e : szN n left = -1 := by simp [szN, hfit]
    have hd : decide (left - (n : Int) < 0) = true := by simp; omega
    rw [e]
    clear e hfit
    go_enter Try.func40, Try.ntmps40
    go_wp2
    go_ret
    exact ⟨rfl, hb.out⟩

set_option maxRecDepth 100000 in
set_option maxHeartbeats 1000000 in
theorem szNodeS_any (v : Value) (ns : List NodeL) (left : Int) (h0 : 0 ≤ left) (hl : left ≤ 1048576) (w : World) (h : ReadsN w v ns) (hbig : BigN ns) :
    Calls Try.prog 22 #[v, .int .i64 left] w fun e w' => e = .returned (.int .i64 (szN (totN ns) left)) ∧ Below w.heap.size w w' := by
  obtain ⟨a, cap, rfl, hm, hc⟩ := open_readsN h
  obtain ⟨n, hn⟩ : ∃ n, ns.length = n := ⟨_, rfl⟩
  obtain ⟨r, hr⟩ : ∃ r, szN (totN ns) left = r := ⟨_, rfl⟩
  rw [hr]
  have hr' := Lib.hid hr
  have hn' := Lib.hid hn
  have hc' := Lib.hid hc
  have HBG := Lib.hid hbig
  rw [hn] at hm ⊢
  clear h hc hn hr hbig
  by_cases hfit : (n : Int) ≤ left
  · have hb : decide (left - (n : Int) < 0) = false := by simp; omega
    go_enter Try.func22, Try.ntmps22
    go_wp2
    go_loopw [1, 5] (fun q i wr => ∃ (k : Nat) (m : Int), k ≤ n ∧ i = .int .i64 k ∧ q = .int .i64 m ∧ 0 ≤ m ∧ m ≤ 1048576 ∧ Hid (m = left - n - ((ns.take k).map fun n => n.name.size).sum) ∧ Hid (Below w.heap.size w wr)) (fun _ i _ => n + 1 - (intOf i).toNat)
    case atStart => exact ⟨0, _, by omega, rfl, rfl, by omega, by omega, show _ = _ by simp, Lib.hid (Below.refl _ _)⟩
    case round =>
      obtain ⟨k, m, hk, rfl, rfl, hm0, hm1, hs, hB⟩ := hrel
      by_cases hlt : k < n
      · obtain ⟨g, off, rfl, hg, hE⟩ := hc'.out k (by rw [hn'.out]; exact hlt)
        obtain ⟨x0, x1, x2⟩ := hE.below hB.out
        have hst := Lib.hid (sumN_succ ns k (by rw [hn'.out]; exact hlt))
        have hsl := Lib.hid (sumN_le ns (k + 1))
        have hsz := Lib.hid (szNode_any (nAt ns k).kind (nAt ns k).value (nAt ns k).name m hm0 hm1 (HBG.out k (by rw [hn'.out]; exact hlt)) wr)
        have hk0 : 0 ≤ (k : Int) := by omega
        have hkn : (k : Int) < (n : Int) := by omega
        clear hE
        rcases szN_part (nAt ns k).name.size m with ⟨q0, q1, q2⟩ | ⟨q1, q2⟩
        · have hs2 : Hid (szN (nAt ns k).name.size m = left - n - ((ns.take (k + 1)).map fun n => n.name.size).sum ∧ szN (nAt ns k).name.size m ≤ 1048576 ∧ 0 ≤ szN (nAt ns k).name.size m) := by
            have h1 := hs.out
            have h2 := hst.out
            exact Lib.hid ⟨by omega, by omega, q0⟩
          have Q2 := Lib.hid q2
          clear q0 q1 q2
          go_wp2_with fail
          refine hsz.out.mono ?_
          rintro e w1 ⟨rfl, hb1⟩
          have q2 := Q2.out
          have hB2 := Lib.hid (hB.out.trans (hb1.mono hB.out.size))
          clear hb1 x0 x1 x2
          generalize szN (nAt ns k).name.size m = z at *
          go_wp2
          go_roundw
          case rel => exact ⟨k + 1, _, by omega, by go_num, rfl, hs2.out.2.2, hs2.out.2.1, Lib.hid hs2.out.1, hB2⟩
          case measure => simp [intOf]; omega
        · have hrm : Hid (r = -1) := by
            show _ = _
            have h1 := hs.out
            have h2 := hst.out
            have h3 := hsl.out
            have h4 := hn'.out
            have h5 : m < (nAt ns k).name.size := by
              unfold szN at q1
              split at q1 <;> omega
            rw [← hr'.out]
            unfold szN totN
            rw [if_neg (by rw [h4]; omega)]
          have Q1 := Lib.hid q1
          clear q1 q2
          go_wp2_with fail
          refine hsz.out.mono ?_
          rintro e w1 ⟨rfl, hb1⟩
          rw [Q1.out]
          have hB2 := Lib.hid (hB.out.trans (hb1.mono hB.out.size))
          clear hb1 x0 x1 x2
          go_wp2
          go_ret
          exact ⟨ret_int hrm.out.symm, hB2.out⟩
      · obtain rfl : k = n := by omega
        have hrm : Hid (r = m) := by
          show _ = _
          have h1 := hs.out
          have h4 := hn'.out
          rw [← h4, List.take_length] at h1
          rw [← hr'.out]
          unfold szN totN
          rw [if_pos (by omega)]
          omega
        go_wp2
        go_ret
        exact ⟨ret_int hrm.out.symm, hB.out⟩
  · have hb : decide (left - (n : Int) < 0) = true := by simp; omega
    have hrm : Hid (r = -1) := by
      show _ = _
      have h4 := hn'.out
      rw [← hr'.out]
      unfold szN totN
      rw [if_neg (by rw [h4]; omega)]
    go_enter Try.func22, Try.ntmps22
    go_wp2
    go_ret
    exact ⟨ret_int hrm.out.symm, Below.refl _ _⟩

set_option maxRecDepth 100000 in
set_option maxHeartbeats 1000000 in
theorem szTerm_any (v : Value) (ns : List NodeL) (left : Int) (h0 : 0 ≤ left) (hl : left ≤ 1048576) (w : World) (h : ReadsN w v ns) (hbig : BigN ns) :
    Calls Try.prog 6 #[.agg #[v], .int .i64 left] w fun e w' => e = .returned (.int .i64 (szN (totN ns) left)) ∧ Below w.heap.size w w' := by
  have hb := Lib.hid ((Below.refl w.heap.size w).alloc (Nat.le_refl _) (.cells #[v] 25))
  obtain ⟨a, cap, rfl⟩ := h.form
  have hc := Lib.hid (fun W hW => szNodeS_any (.slice a ns.length cap) ns left h0 hl W hW hbig)
  have HR := Lib.hid h
  clear h hbig
  rcases szN_part (totN ns) left with ⟨q0, q1, q2⟩ | ⟨q1, q2⟩
  · obtain ⟨z, hz⟩ : ∃ z, szN (totN ns) left = z := ⟨_, rfl⟩
    rw [hz] at q2 hc ⊢
    clear q0 q1 hz
    go_enter Try.func6, Try.ntmps6
    go_wp2_with fail
    refine (hc.out _ (HR.out.below hb.out)).mono ?_
    rintro e w1 ⟨rfl, hb1⟩
    have hB2 := Lib.hid (hb.out.trans (hb1.mono hb.out.size))
    clear hb1
    go_wp2
    go_ret
    exact ⟨rfl, hB2.out⟩
  · rw [q1] at hc ⊢
    clear q1 q2
    go_enter Try.func6, Try.ntmps6
    go_wp2_with fail
    refine (hc.out _ (HR.out.below hb.out)).mono ?_
    rintro e w1 ⟨rfl, hb1⟩
    have hB2 := Lib.hid (hb.out.trans (hb1.mono hb.out.size))
    clear hb1
    go_wp2
    go_ret
    exact ⟨rfl, hB2.out⟩

set_option maxRecDepth 100000 in
set_option maxHeartbeats 1000000 in
theorem szDef_any (d : DefL) (v : Value) (left : Int) (h0 : 0 ≤ left) (hl : left ≤ 1048576) (hs : d.name.size ≤ maxLen) (w : World) (h : ReadsN w v d.body) (hbig : BigN d.body) :
    Calls Try.prog 21 #[.agg #[.string d.name, .int .i64 d.inp, .int .i64 d.out, v], .int .i64 left] w fun e w' => e = .returned (.int .i64 (szN (cellsD d) left)) ∧ Below w.heap.size w w' := by
  have hb := Lib.hid ((Below.refl w.heap.size w).alloc (Nat.le_refl _) (.cells #[.string d.name, .int .i64 d.inp, .int .i64 d.out, v] 49))
  unfold maxLen at hs
  obtain ⟨a, cap, rfl⟩ := h.form
  obtain ⟨n, hn⟩ : ∃ n, d.name.size = n := ⟨_, rfl⟩
  have hcd : cellsD d = n + totN d.body := by unfold cellsD; rw [hn]
  rw [hcd]
  have HR := Lib.hid h
  rw [hn] at hs
  have HNN := Lib.hid hn
  have hw : IntKind.i64.wrap (left - (n : Int)) = left - n := IntWalk.i64_in _ (by omega)
  rcases szN_add n (totN d.body) left with ⟨q0, q1, q2⟩ | ⟨q0, q1, q2⟩
  · have hc := Lib.hid (fun W hW => szTerm_any (.slice a d.body.length cap) d.body (left - n) (by omega) (by omega) W hW hbig)
    have hd : decide (left - (n : Int) < 0) = false := by simp; omega
    rw [q2]
    obtain ⟨l2, hl2⟩ : ∃ l2, left - (n : Int) = l2 := ⟨_, rfl⟩
    rw [hl2] at hc hd ⊢
    replace hw := hw.trans hl2
    clear q0 q1 q2 hcd h hbig hl2
    have hn2 : ((d.name.size : Nat) : Int) = (n : Int) := by rw [hn]
    rcases szN_part (totN d.body) l2 with ⟨q0, q1, q2⟩ | ⟨q1, q2⟩
    · obtain ⟨z, hz⟩ : ∃ z, szN (totN d.body) l2 = z := ⟨_, rfl⟩
      rw [hz] at q2 hc ⊢
      clear q0 q1 hz
      go_enter Try.func21, Try.ntmps21
      go_wp2_with fail
      refine (hc.out _ (HR.out.below hb.out)).mono ?_
      rintro e w1 ⟨rfl, hb1⟩
      have hB2 := Lib.hid (hb.out.trans (hb1.mono hb.out.size))
      clear hb1
      go_wp2
      go_ret
      exact ⟨rfl, hB2.out⟩
    · rw [q1] at hc ⊢
      clear q1 q2
      go_enter Try.func21, Try.ntmps21
      go_wp2_with fail
      refine (hc.out _ (HR.out.below hb.out)).mono ?_
      rintro e w1 ⟨rfl, hb1⟩
      have hB2 := Lib.hid (hb.out.trans (hb1.mono hb.out.size))
      clear hb1
      go_wp2
      go_ret
      exact ⟨rfl, hB2.out⟩
  · have hd : decide (left - (n : Int) < 0) = true := by simp; omega
    rw [q2]
    clear q0 q1 q2 hcd h hbig
    have hn2 : ((d.name.size : Nat) : Int) = (n : Int) := by rw [hn]
    go_enter Try.func21, Try.ntmps21
    go_wp2
    go_ret
    exact ⟨rfl, hb.out⟩

set_option maxRecDepth 100000 in
set_option maxHeartbeats 1000000 in
theorem szDefS_any (v : Value) (ds : List DefL) (left : Int) (h0 : 0 ≤ left) (hl : left ≤ 1048576) (w : World) (h : ReadsD w v ds) (hbig : BigD ds) :
    Calls Try.prog 5 #[v, .int .i64 left] w fun e w' => e = .returned (.int .i64 (szN (totD ds) left)) ∧ Below w.heap.size w w' := by
  obtain ⟨a, cap, rfl, hm, hc⟩ := open_readsD h
  obtain ⟨n, hn⟩ : ∃ n, ds.length = n := ⟨_, rfl⟩
  obtain ⟨r, hr⟩ : ∃ r, szN (totD ds) left = r := ⟨_, rfl⟩
  rw [hr]
  have hr' := Lib.hid hr
  have hn' := Lib.hid hn
  have hc' := Lib.hid hc
  have HBG := Lib.hid hbig
  rw [hn] at hm ⊢
  clear h hc hn hr hbig
  by_cases hfit : (n : Int) ≤ left
  · have hb : decide (left - (n : Int) < 0) = false := by simp; omega
    go_enter Try.func5, Try.ntmps5
    go_wp2
    go_loopw [1, 5] (fun q i wr => ∃ (k : Nat) (m : Int), k ≤ n ∧ i = .int .i64 k ∧ q = .int .i64 m ∧ 0 ≤ m ∧ m ≤ 1048576 ∧ Hid (m = left - n - ((ds.take k).map cellsD).sum) ∧ Hid (Below w.heap.size w wr)) (fun _ i _ => n + 1 - (intOf i).toNat)
    case atStart => exact ⟨0, _, by omega, rfl, rfl, by omega, by omega, show _ = _ by simp, Lib.hid (Below.refl _ _)⟩
    case round =>
      obtain ⟨k, m, hk, rfl, rfl, hm0, hm1, hs, hB⟩ := hrel
      by_cases hlt : k < n
      · obtain ⟨g, off, a1, c1, rfl, hg, hE⟩ := hc'.out k (by rw [hn'.out]; exact hlt)
        obtain ⟨x0, x1, x2, x3, hi⟩ := hE.below hB.out
        have hst := Lib.hid (sumD_succ ds k (by rw [hn'.out]; exact hlt))
        have hsl := Lib.hid (sumD_le ds (k + 1))
        have hsz := Lib.hid (szDef_any (dAt ds k) _ m hm0 hm1 (HBG.out k (by rw [hn'.out]; exact hlt)).1 wr hi (HBG.out k (by rw [hn'.out]; exact hlt)).2)
        have hk0 : 0 ≤ (k : Int) := by omega
        have hkn : (k : Int) < (n : Int) := by omega
        clear hE hi
        rcases szN_part (cellsD (dAt ds k)) m with ⟨q0, q1, q2⟩ | ⟨q1, q2⟩
        · have hs2 : Hid (szN (cellsD (dAt ds k)) m = left - n - ((ds.take (k + 1)).map cellsD).sum ∧ szN (cellsD (dAt ds k)) m ≤ 1048576 ∧ 0 ≤ szN (cellsD (dAt ds k)) m) := by
            have h1 := hs.out
            have h2 := hst.out
            exact Lib.hid ⟨by omega, by omega, q0⟩
          have Q2 := Lib.hid q2
          clear q0 q1 q2
          go_wp2_with fail
          refine hsz.out.mono ?_
          rintro e w1 ⟨rfl, hb1⟩
          have q2 := Q2.out
          have hB2 := Lib.hid (hB.out.trans (hb1.mono hB.out.size))
          clear hb1 x0 x1 x2 x3
          generalize szN (cellsD (dAt ds k)) m = z at *
          go_wp2
          go_roundw
          case rel => exact ⟨k + 1, _, by omega, by go_num, rfl, hs2.out.2.2, hs2.out.2.1, Lib.hid hs2.out.1, hB2⟩
          case measure => simp [intOf]; omega
        · have hrm : Hid (r = -1) := by
            show _ = _
            have h1 := hs.out
            have h2 := hst.out
            have h3 := hsl.out
            have h4 := hn'.out
            have h5 : m < cellsD (dAt ds k) := by
              unfold szN at q1
              split at q1 <;> omega
            rw [← hr'.out]
            unfold szN totD
            rw [if_neg (by rw [h4]; omega)]
          have Q1 := Lib.hid q1
          clear q1 q2
          go_wp2_with fail
          refine hsz.out.mono ?_
          rintro e w1 ⟨rfl, hb1⟩
          rw [Q1.out]
          have hB2 := Lib.hid (hB.out.trans (hb1.mono hB.out.size))
          clear hb1 x0 x1 x2 x3
          go_wp2
          go_ret
          exact ⟨ret_int hrm.out.symm, hB2.out⟩
      · obtain rfl : k = n := by omega
        have hrm : Hid (r = m) := by
          show _ = _
          have h1 := hs.out
          have h4 := hn'.out
          rw [← h4, List.take_length] at h1
          rw [← hr'.out]
          unfold szN totD
          rw [if_pos (by omega)]
          omega
        go_wp2
        go_ret
        exact ⟨ret_int hrm.out.symm, hB.out⟩
  · have hb : decide (left - (n : Int) < 0) = true := by simp; omega
    have hrm : Hid (r = -1) := by
      show _ = _
      have h4 := hn'.out
      rw [← hr'.out]
      unfold szN totD
      rw [if_neg (by rw [h4]; omega)]
    go_enter Try.func5, Try.ntmps5
    go_wp2
    go_ret
    exact ⟨ret_int hrm.out.symm, Below.refl _ _⟩

end Ints
end Go.Proofs.Ytoegbphkheohoaa
