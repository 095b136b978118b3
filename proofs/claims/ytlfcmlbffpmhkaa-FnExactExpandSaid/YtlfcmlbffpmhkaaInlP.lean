/- A name replaced by its definition's body: the plain law, and the reference's walk. -/
import Derived.Test.YtlfcmlbffpmhkaaCopy
import Derived.Test.YtlfcmlbffpmhkaaSizeP
import Derived.Deep.RegionHeld3
import Derived.Deep.DeepCutAuto
namespace Go.Proofs.Ytlfcmlbffpmhkaa
open Go.RowKit
namespace Ints

def inlS (d : DefL) (n : NodeL) : List NodeL := if n.kind = 17 ∧ n.name.toList = d.name.toList then d.body else [n]
def inlN (d : DefL) (ns : List NodeL) : List NodeL := (ns.map (inlS d)).flatten
theorem inlN_succ (d : DefL) (ns : List NodeL) (k : Nat) (h : k < ns.length) : inlN d (ns.take (k + 1)) = inlN d (ns.take k) ++ inlS d (nAt ns k) := by
  unfold inlN
  rw [take_oneN ns k h]
  simp
theorem inlN_append (d : DefL) (a b : List NodeL) : inlN d (a ++ b) = inlN d a ++ inlN d b := by simp [inlN]
theorem inlN_le (d : DefL) (ns : List NodeL) : (inlN d ns).length ≤ ns.length * (1 + d.body.length) := by
  induction ns with
  | nil => simp [inlN]
  | cons n ns ih =>
    have h1 : (inlS d n).length ≤ 1 + d.body.length := by
      unfold inlS
      split
      · omega
      · simp
    have h2 : inlN d (n :: ns) = inlS d n ++ inlN d ns := by simp [inlN]
    rw [h2, List.length_append, List.length_cons, Nat.add_mul, Nat.one_mul]
    omega
theorem inlN_part (d : DefL) (ns : List NodeL) (k : Nat) : (inlN d (ns.take k)).length ≤ (inlN d ns).length := by
  have h : inlN d ns = inlN d (ns.take k) ++ inlN d (ns.drop k) := by rw [← inlN_append, List.take_append_drop]
  rw [h, List.length_append]
  omega

set_option maxRecDepth 100000 in
set_option maxHeartbeats 2000000 in
theorem lbInline_any (vn vb : Value) (d : DefL) (ns : List NodeL) (hln : (inlN d ns).length ≤ 1000000000) (w : World) (h : ReadsN w vn ns) (hb : ReadsN w vb d.body) :
    Calls Try.prog 51 #[.agg #[vn], .agg #[.string d.name, .int .i64 d.inp, .int .i64 d.out, vb]] w (NewTerm w (inlN d ns)) := by
  obtain ⟨nm, inp, out, body⟩ := d
  dsimp only at hb ⊢
  obtain ⟨d, hd⟩ : ∃ d, (⟨nm, inp, out, body⟩ : DefL) = d := ⟨_, rfl⟩
  have HIS : Hid (∀ n : NodeL, inlS d n = if n.kind = 17 ∧ n.name.toList = nm.toList then body else [n]) := by rw [← hd]; exact Lib.hid fun n => rfl
  rw [hd] at hln ⊢
  obtain ⟨w0, hw0⟩ : ∃ W, W = ((w.alloc (.cells #[vn] 36)).alloc (.cells #[.string nm, .int .i64 inp, .int .i64 out, vb] 56)).alloc (.cells #[.slice none 0 0] 36) := ⟨_, rfl⟩
  have hB : Below w.heap.size w w0 := by rw [hw0]; exact below_alloc (below_alloc (below_alloc (Below.refl _ _)))
  have hs0 : w0.heap.size = w.heap.size + 3 := by rw [hw0]; simp
  obtain ⟨q1, q2, q3⟩ := three_blocks w (.cells #[vn] 36) (.cells #[.string nm, .int .i64 inp, .int .i64 out, vb] 56) (.cells #[.slice none 0 0] 36)
  rw [← hw0] at q1 q2 q3
  have HX := Lib.hid (show ∀ W, Chg (fun g => w0.heap.size ≤ g) w0 W → W.heap[w.heap.size + 1]? = some (.cells #[.string nm, .int .i64 inp, .int .i64 out, vb] 56 (0, 0)) ∧ W.heap[w.heap.size + 2]? = some (.cells #[.slice none 0 0] 36 (0, 0)) from fun W hW =>
    ⟨(hW.block (w.heap.size + 1) (by omega) (by omega)).trans q2, (hW.block (w.heap.size + 2) (by omega) (by omega)).trans q3⟩)
  obtain ⟨a, cap, rfl, hm, hc⟩ := open_readsN h
  obtain ⟨ab, cb, rfl⟩ := hb.form
  obtain ⟨n, hn⟩ : ∃ n, ns.length = n := ⟨_, rfl⟩
  obtain ⟨mb, hmb⟩ : ∃ n, body.length = n := ⟨_, rfl⟩
  have HRB : Hid (∀ W, Below w.heap.size w W → Reads W 3 (.slice ab mb cb) mb (ofN body)) := Lib.hid fun W hW => by
    have := hb.below hW
    unfold ReadsN at this
    rw [hmb] at this
    exact this
  have HOB := Lib.hid (ofN_one body)
  have HC := Lib.hid hc
  have HN := Lib.hid hn
  have HMB := Lib.hid hmb
  have HB := Lib.hid hB
  have HS := Lib.hid hs0
  have HLN := Lib.hid hln
  have HW := Lib.hid hw0
  have HBW := Lib.hid (fun W (hW : Chg (fun g => w0.heap.size ≤ g) w0 W) => show Below w.heap.size w W from hB.trans (hW.below hB.size fun g hg => by omega))
  rw [hn] at hm HW ⊢
  rw [hmb] at HW HX ⊢
  clear h hb hc hn hmb hB hs0 hln hw0 q1 q2 q3 hd
  go_enter Try.func51, Try.ntmps51
  go_wp2
  rw [← HW.out]
  go_loopw [11, 5] (fun i o wr => ∃ (k : Nat) (ov : Value), k ≤ n ∧ i = .int .i64 k ∧ ov = o ∧ Hid (wr.ownsRow w0.heap.size 69 3 ov (inlN d (ns.take k)).length (ofN (inlN d (ns.take k))) ∧ Chg (fun g => w0.heap.size ≤ g) w0 wr)) (fun i _ _ => n + 1 - (intOf i).toNat)
  case atStart => exact ⟨0, _, by omega, rfl, rfl, Lib.hid ⟨by simpa [inlN, ofN] using World.ownsRow_nil w0 w0.heap.size 69 3, Chg.refl _ _⟩⟩
  case round =>
    obtain ⟨k, ov, hk, rfl, rfl, H⟩ := hrel
    by_cases hlt : k < n
    · obtain ⟨gg, off, rfl, hgg, hE⟩ := HC.out k (by rw [HN.out]; exact hlt)
      obtain ⟨x0, x1, x2⟩ := hE.below (HBW.out wr H.out.2)
      obtain ⟨h2, h3⟩ := HX.out wr H.out.2
      obtain ⟨y0, _, _, y3⟩ := cells4 h2
      have hk0 : 0 ≤ (k : Int) := by omega
      have hkn : (k : Int) < (n : Int) := by omega
      have hsu := inlN_succ d ns k (by rw [HN.out]; exact hlt)
      have hpl := inlN_part d ns (k + 1)
      rw [hsu, List.length_append] at hpl
      obtain ⟨nd, hnd⟩ : ∃ x, nAt ns k = x := ⟨_, rfl⟩
      rw [hnd] at x0 x1 x2 hsu hpl
      obtain ⟨m, hm2⟩ : ∃ m, (inlN d (ns.take k)).length = m := ⟨_, rfl⟩
      obtain ⟨kd, vl, s⟩ := nd
      dsimp only at x0 x1 x2
      obtain ⟨W1, hW1⟩ : ∃ W, W = wr.alloc (.cells #[.int .i64 kd, .int .i64 vl, .string s] 69) := ⟨_, rfl⟩
      have hb1 : Below wr.heap.size wr W1 := by rw [hW1]; exact below_alloc (Below.refl _ _)
      have HO1 := Lib.hid (ownsRow_below H.out.1 hb1)
      rw [hm2] at HO1 hpl
      have HCH := Lib.hid (H.out.2.trans (Below.chg hb1 _))
      have HSU := Lib.hid hsu
      have HM2 := Lib.hid hm2
      have hln := HLN.out
      have hisz := HIS.out ⟨kd, vl, s⟩
      dsimp only at hisz
      have hsz := Lib.hid (show w0.heap.size ≤ W1.heap.size from Nat.le_trans H.out.2.size hb1.size)
      have HW1 := Lib.hid hW1
      have hyy : W1.cell? ⟨w.heap.size + 1, 3, none⟩ = some (.slice ab mb cb) := cell_old hb1 y3
      have hzz : W1.cell? ⟨w.heap.size + 1, 0, none⟩ = some (.string nm) := cell_old hb1 y0
      obtain ⟨ao, co, rfl⟩ := ownsRow_form' HO1.out
      rw [HW1.out] at hyy hzz
      clear hE hnd hsu hb1 hW1 h2 h3 hgg hm2 H
      have hstep : ∀ (us : List NodeL), inlS d ⟨kd, vl, s⟩ = us → Hid (∀ v' w3, w3.ownsRow w0.heap.size 69 3 v' (m + us.length) (ofN (inlN d (ns.take k)) ++ ofN us) → W1.grownBy w3 (Value.slice ao m co).ownBlock →
          (w3.ownsRow w0.heap.size 69 3 v' (inlN d (ns.take (k + 1))).length (ofN (inlN d (ns.take (k + 1)))) ∧ Chg (fun g => w0.heap.size ≤ g) w0 w3)) := by
        intro us hus
        refine Lib.hid fun v' w3 hown3 hg3 => ⟨?_, HCH.out.trans ((chg_of_grown hg3).mono fun g _ hg => ?_)⟩
        · rw [HSU.out, hus, List.length_append, HM2.out, ofN_append]
          exact hown3
        · rcases HO1.out.2 with ⟨e, _⟩ | ⟨g2, _, _, e, hbg, _⟩
          · rw [e] at hg; cases hg
          · rw [e] at hg
            simp [Value.ownBlock] at hg
            omega
      by_cases hq : kd = 17 ∧ s.toList = nm.toList
      · rw [if_pos hq] at hisz
        obtain ⟨rfl, hq2⟩ := hq
        have hqb : (s.toList == nm.toList) = true := by simpa using hq2
        have HST := hstep _ hisz
        rw [hisz, HMB.out] at hpl
        rw [HMB.out] at HST
        have hm3 := Lib.hid (show m + mb ≤ maxLen by unfold maxLen; omega)
        have hm4 := Lib.hid (show (m + mb) * 32 ≤ 140737488355328 by omega)
        have HRB1 := Lib.hid (HRB.out W1 (HBW.out W1 HCH.out))
        clear hstep hisz hq2
        go_wp2_with (at_builtin; rw [← HW1.out]; refine wpList_append_reads _ rfl _ _ 34 rfl w0.heap.size 69 (.agg #[.int .i64 0, .int .i64 0, .string ByteArray.empty]) 3 32 Try.underlying34 infoNode rfl (by decide) _ _ _ HO1.out _ mb (ofN body) HRB1.out rfl rfl HOB.out hm3.out hm4.out hsz.out ?_; intro v' w3 hown3 hg3)
        have hnx := Lib.hid (HST.out v' w3 hown3 hg3)
        clear hown3 hg3
        go_wp2
        go_roundw
        case rel => exact ⟨k + 1, _, by omega, by go_num, rfl, hnx⟩
        case measure => simp [intOf]; omega
      · rw [if_neg hq] at hisz
        have HST := hstep _ hisz
        rw [hisz, List.length_singleton] at hpl
        rw [List.length_singleton] at HST
        have hm3 := Lib.hid (show m + 1 ≤ maxLen by unfold maxLen; omega)
        have hm4 := Lib.hid (show (m + 1) * 32 ≤ 140737488355328 by omega)
        have hone : ofN [⟨kd, vl, s⟩] = [.int .i64 kd, .int .i64 vl, .string s] := rfl
        rw [hone] at HST
        obtain ⟨W2, hW2⟩ : ∃ W, W = (wr.alloc (.cells #[.int .i64 kd, .int .i64 vl, .string s] 69)).alloc (.cells #[.int .i64 kd, .int .i64 vl, .string s] 69) := ⟨_, rfl⟩
        have hb2 : Below W1.heap.size W1 W2 := by rw [hW2, HW1.out]; exact below_alloc (Below.refl _ _)
        have hr1 : Reads W2 3 (.slice (some ⟨wr.heap.size + 1, 0, none⟩) 1 1) 1 [.int .i64 kd, .int .i64 vl, .string s] := by
          have := reads_new_many (size := 3) W1 #[.int .i64 kd, .int .i64 vl, .string s] 69 rfl (by omega)
          rw [HW1.out, show (wr.alloc (.cells #[.int .i64 kd, .int .i64 vl, .string s] 69)).heap.size = wr.heap.size + 1 by simp, ← hW2] at this
          exact this
        have HR1 := Lib.hid hr1
        have HO2 := Lib.hid (ownsRow_below HO1.out hb2)
        have hsz2 := Lib.hid (Nat.le_trans hsz.out hb2.size)
        have HG2 : Hid (∀ w3, W2.grownBy w3 (Value.slice ao m co).ownBlock → W1.grownBy w3 (Value.slice ao m co).ownBlock) := Lib.hid fun w3 h => ⟨h.os.trans hb2.os, h.tape.trans hb2.tape, h.output.trans hb2.output, Nat.le_trans hb2.size h.size, fun k hk hne => (h.block k (Nat.lt_of_lt_of_le hk hb2.size) hne).trans (hb2.block k hk)⟩
        have HW2 := Lib.hid hW2
        clear hb2 hr1 hW2
        by_cases h17 : kd = 17
        · subst h17
          have hqb : (s.toList == nm.toList) = false := by simpa using fun e => hq ⟨rfl, e⟩
          clear hstep hisz hq hone
          go_wp2_with (at_builtin; rw [← HW2.out]; refine wpList_append_reads _ rfl _ _ 34 rfl w0.heap.size 69 (.agg #[.int .i64 0, .int .i64 0, .string ByteArray.empty]) 3 32 Try.underlying34 infoNode rfl (by decide) _ _ _ HO2.out _ 1 _ HR1.out rfl rfl (by intro u hu; simp at hu; rcases hu with rfl | rfl | rfl <;> rfl) hm3.out hm4.out hsz2.out ?_; intro v' w3 hown3 hg3)
          have hnx := Lib.hid (HST.out v' w3 hown3 (HG2.out w3 hg3))
          clear hown3 hg3
          go_wp2
          go_roundw
          case rel => exact ⟨k + 1, _, by omega, by go_num, rfl, hnx⟩
          case measure => simp [intOf]; omega
        · have b17 : (kd == 17) = false := by simpa using h17
          clear hstep hisz hq hone h17
          go_wp2_with (at_builtin; rw [← HW2.out]; refine wpList_append_reads _ rfl _ _ 34 rfl w0.heap.size 69 (.agg #[.int .i64 0, .int .i64 0, .string ByteArray.empty]) 3 32 Try.underlying34 infoNode rfl (by decide) _ _ _ HO2.out _ 1 _ HR1.out rfl rfl (by intro u hu; simp at hu; rcases hu with rfl | rfl | rfl <;> rfl) hm3.out hm4.out hsz2.out ?_; intro v' w3 hown3 hg3)
          have hnx := Lib.hid (HST.out v' w3 hown3 (HG2.out w3 hg3))
          clear hown3 hg3
          go_wp2
          go_roundw
          case rel => exact ⟨k + 1, _, by omega, by go_num, rfl, hnx⟩
          case measure => simp [intOf]; omega
    · obtain rfl : k = n := by omega
      obtain ⟨h2, h3⟩ := HX.out wr H.out.2
      have z0 := (Go.Joins.cell_of_block h3 0).trans rfl
      have f0 := Go.Joins.unfrozen_of_block h3 0
      obtain ⟨ao, co, rfl⟩ := ownsRow_form' H.out.1
      have hfin : Hid (NewTerm w (inlN d ns) (.returned (.agg #[.slice ao (inlN d ns).length co])) (wr.setCell ⟨w.heap.size + 2, 0, none⟩ (.slice ao (inlN d ns).length co))) := by
        have h4 := HN.out
        have h5 := H.out.1
        rw [show ns.take k = ns by rw [← h4, List.take_length]] at h5
        have ho := ownsN_row h5 rfl (by have := HLN.out; unfold maxLen; omega)
        have hc3 := Chg.set1 wr ⟨w.heap.size + 2, 0, none⟩ (.slice ao (inlN d ns).length co)
        have h6 := HS.out
        have h7 := HBW.out wr H.out.2
        exact Lib.hid ⟨_, rfl, (ho.chg hc3 fun g hg e => by simp only at e; omega).mono fun g hg => by omega, h7.trans (hc3.below h7.size fun g hg => by simp only at hg; omega)⟩
      have htk : (inlN d (ns.take k)).length = (inlN d ns).length := by rw [show ns.take k = ns by rw [← HN.out, List.take_length]]
      rw [htk] at *
      clear h2 h3 htk
      go_wp2
      refine bodyPost_ret (v := .agg #[.slice ao (inlN d ns).length co]) (by simp [results, Try.results51, go_sem, z0]) rfl ?_
      exact hfin.out

end Ints
end Go.Proofs.Ytlfcmlbffpmhkaa
