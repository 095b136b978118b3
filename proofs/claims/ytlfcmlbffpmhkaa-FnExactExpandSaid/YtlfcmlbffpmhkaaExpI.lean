/- A term with all names spelled out: the program. -/
import Derived.Test.YtlfcmlbffpmhkaaExpP
namespace Go.Proofs.Ytlfcmlbffpmhkaa
open Go.RowKit
namespace Ints

/-- What the program's expansion returns: the nodes, where they are not too many. -/
def ExpOut (w : World) (L : List NodeL) (e : Ending) (w' : World) : Prop := ∃ v, e = .returned (.tuple #[v, .bool (decide (L.length ≤ 400))]) ∧ OwnsN (w.heap.size ≤ ·) w' v (if L.length ≤ 400 then L else []) ∧ Below w.heap.size w w'
theorem exp_no {w w' : World} {L : List NodeL} (h : ¬ L.length ≤ 400) (hb : Below w.heap.size w w') : ExpOut w L (.returned (.tuple #[.slice none 0 0, .bool false])) w' := by
  refine ⟨.slice none 0 0, by rw [decide_eq_false h], ?_, hb⟩
  rw [if_neg h]
  exact ownsN_nil _ _
theorem exp_yes {w w' : World} {L : List NodeL} {v : Value} (h : L.length ≤ 400) (ho : OwnsN (w.heap.size ≤ ·) w' v L) (hb : Below w.heap.size w w') : ExpOut w L (.returned (.tuple #[v, .bool true])) w' := by
  refine ⟨v, by rw [decide_eq_true h], ?_, hb⟩
  rw [if_pos h]
  exact ho

set_option maxRecDepth 100000 in
set_option maxHeartbeats 4000000 in
theorem expanded_any (ds : List DefL) (hlib : libB ds = true) (k : Nat) : ∀ (vd vn : Value) (ns : List NodeL) (_ : k ≤ ds.length) (_ : namedIn ds k ns) (w : World) (_ : ReadsD w vd ds) (_ : ReadsN w vn ns),
    Calls Try.prog 69 #[vd, vn] w (ExpOut w (exN ds k ns)) := by
  induction k using Nat.strongRecOn with
  | _ k ih =>
  intro vd vn ns hk hnm w hd h
  have HIH := Lib.hid (fun i (hi : i < k) v W (hW : Below w.heap.size w W) (hv : ReadsN W v (dAt ds i).body) => ih i hi vd v (dAt ds i).body (by omega) (named_body ((libB_all hlib).2.1 i (by omega))) W (hd.below hW) hv)
  have HF := Lib.hid (fun s W (hW : Below w.heap.size w W) => indexOf_any vd ds s W (hd.below hW))
  obtain ⟨ad, cd, rfl, hm, hc⟩ := open_readsD hd
  obtain ⟨an, cn, rfl, hmn, hcn⟩ := open_readsN h
  have HEX := Lib.hid (fun n h17 i hf hik => exN_name (libB_all hlib).2.2.2 (n := n) h17 (i := i) hf k hk hik)
  have HLF := Lib.hid (fun (n : NodeL) (h17 : n.kind ≠ 17) => exN_leaf ds h17 k)
  have HSU := Lib.hid (fun j hj => exN_succ ds k ns j hj)
  have HPT := Lib.hid (exN_part ds k ns)
  have HNM := Lib.hid hnm
  have HC := Lib.hid hc
  have HCN := Lib.hid hcn
  obtain ⟨n, hn⟩ : ∃ n, ds.length = n := ⟨_, rfl⟩
  have HN := Lib.hid hn
  obtain ⟨ln, hln⟩ : ∃ n, ns.length = n := ⟨_, rfl⟩
  have HLN := Lib.hid hln
  have hn12 := (libB_all hlib).1
  obtain ⟨E, hE⟩ : ∃ f, exN ds k = f := ⟨_, rfl⟩
  rw [hE] at HEX HLF HSU HPT ⊢
  have HE0 : Hid (E [] = []) := by rw [← hE]; exact Lib.hid (exN_nil ds k)
  rw [hn] at hm hk hn12 HF HIH ⊢
  rw [hln] at hmn HSU ⊢
  clear ih hd h hnm hc hcn hn hln hE hlib
  have HO0 := Lib.hid (own_lit (W := w) 69 3 rfl)
  go_enter Try.func69, Try.ntmps69
  go_wp2
  go_loopw [14, 6] (fun i o wr => ∃ (j : Nat) (ov : Value), j ≤ ln ∧ i = .int .i64 j ∧ ov = o ∧ Hid (wr.ownsRow w.heap.size 69 3 ov (E (ns.take j)).length (ofN (E (ns.take j))) ∧ (E (ns.take j)).length ≤ 400 ∧ Below w.heap.size w wr)) (fun i _ _ => ln + 1 - (intOf i).toNat)
  case atStart => exact ⟨0, _, by omega, rfl, rfl, Lib.hid ⟨by simpa [HE0.out, ofN] using HO0.out, by simp [HE0.out], below_alloc (Below.refl _ _)⟩⟩
  case round =>
    obtain ⟨j, ov, hj, rfl, rfl, H⟩ := hrel
    obtain ⟨hrow, h400, hbr⟩ := H.out
    by_cases hlt : j < ln
    · obtain ⟨gg, offn, rfl, hgg, hEn⟩ := HCN.out j (by rw [HLN.out]; exact hlt)
      obtain ⟨x0, x1, x2⟩ := hEn.below hbr
      have hj0 : 0 ≤ (j : Int) := by omega
      have hjn : (j : Int) < (ln : Int) := by omega
      have hsu := HSU.out j hlt
      have hpl := HPT.out (j + 1)
      rw [hsu, List.length_append] at hpl
      have hnk := HNM.out j (by rw [HLN.out]; exact hlt)
      obtain ⟨nd, hnd⟩ : ∃ x, nAt ns j = x := ⟨_, rfl⟩
      rw [hnd] at x0 x1 x2 hsu hpl hnk
      obtain ⟨m, hm2⟩ : ∃ m, (E (ns.take j)).length = m := ⟨_, rfl⟩
      obtain ⟨L1, hL1⟩ : ∃ L, E [nd] = L := ⟨_, rfl⟩
      rw [hL1] at hsu hpl
      rw [hm2] at hrow h400 hpl
      obtain ⟨ao, co, rfl⟩ := ownsRow_form' hrow
      obtain ⟨kd, vl, s2⟩ := nd
      dsimp only at x0 x1 x2 hnk
      obtain ⟨W1, hW1⟩ : ∃ W, W = wr.alloc (.cells #[.int .i64 kd, .int .i64 vl, .string s2] 69) := ⟨_, rfl⟩
      have hb1 : Below wr.heap.size wr W1 := by rw [hW1]; exact below_alloc (Below.refl _ _)
      have HO1 := Lib.hid (ownsRow_below hrow hb1)
      have HBR1 := Lib.hid (below_step hbr hb1)
      have HSU1 := Lib.hid hsu
      have HM2 := Lib.hid hm2
      have HL1 := Lib.hid hL1
      have HPL := Lib.hid hpl
      have HW1 := Lib.hid hW1
      have hmi : (m : Int) ≤ 400 := by omega
      have hnew : Hid (∀ W (v' : Value) w3, Below W1.heap.size W1 W → w3.ownsRow w.heap.size 69 3 v' (m + L1.length) (ofN (E (ns.take j)) ++ ofN L1) → W.grownBy w3 (Value.slice ao m co).ownBlock →
          w3.ownsRow w.heap.size 69 3 v' (E (ns.take (j + 1))).length (ofN (E (ns.take (j + 1)))) ∧ Below w.heap.size w w3) := by
        refine Lib.hid fun W v' w3 hW hown3 hg3 => ⟨?_, Below.grownRow (below_step HBR1.out hW) (ownsRow_below HO1.out hW) hg3 (Nat.le_trans HBR1.out.size hW.size)⟩
        rw [HSU1.out, List.length_append, HM2.out, ofN_append]
        exact hown3
      have hnl : Hid ((E (ns.take (j + 1))).length = m + L1.length) := Lib.hid (by rw [hsu, List.length_append, hm2])
      clear hEn hnd hsu hpl hgg hm2 H hrow hbr hb1 hL1
      by_cases h17 : kd = 17
      · subst h17
        obtain ⟨i, hfi, hik⟩ := hnk rfl
        have hin : i < n := by omega
        obtain ⟨g, off, a1, c1, rfl, hg, hE⟩ := HC.out i (by rw [HN.out]; exact hin)
        have hEi := HEX.out ⟨17, vl, s2⟩ rfl i hfi hik
        rw [HL1.out] at hEi
        have HE3 := Lib.hid hE.2.2.2.1
        have HEB := Lib.hid hE.2.2.2.2
        have HIHI := Lib.hid (HIH.out i hik (.slice a1 (dAt ds i).body.length c1))
        have hcall := Lib.hid (HF.out s2)
        rw [hfi] at hcall
        have hix : idxI (some i) = (i : Int) := rfl
        rw [hix] at hcall
        have hi0 : 0 ≤ (i : Int) := by omega
        have hin2 : (i : Int) < (n : Int) := by omega
        rw [← hEi] at HIHI
        clear hE hfi hix hEi hg hnk hin
        go_wp2_with fail
        rw [← HW1.out]
        refine (hcall.out W1 HBR1.out).mono ?_
        rintro e w5 ⟨rfl, hb5⟩
        have y3 := cell_old (below_step HBR1.out hb5) HE3.out
        have HB5 := Lib.hid hb5
        have HIH5 := Lib.hid (HIHI.out w5 (below_step HBR1.out hb5) (HEB.out.below (below_step HBR1.out hb5)))
        clear hb5 x0 x1 x2
        by_cases hl1 : L1.length ≤ 400
        · go_wp2_with fail
          refine HIH5.out.mono ?_
          rintro e w6 ⟨v6, rfl, ho6, hb6⟩
          rw [if_pos hl1] at ho6
          rw [decide_eq_true hl1]
          obtain ⟨a6, c6, rfl⟩ := ho6.reads.form
          obtain ⟨m1, hm1⟩ : ∃ x, L1.length = x := ⟨_, rfl⟩
          have HB6 := Lib.hid (below_step HB5.out hb6)
          have hr6 := ho6.reads
          unfold ReadsN at hr6
          rw [hm1] at hr6 hl1 ⊢
          have HR6 := Lib.hid hr6
          have HO6 := Lib.hid (ownsRow_below HO1.out HB6.out)
          have HOB := Lib.hid (ofN_one L1)
          have HM1 := Lib.hid hm1
          have hm3 := Lib.hid (show m + m1 ≤ maxLen by unfold maxLen; omega)
          have hm4 := Lib.hid (show (m + m1) * 32 ≤ 140737488355328 by omega)
          have hsz := Lib.hid (Nat.le_trans HBR1.out.size HB6.out.size)
          clear ho6 hb6 hr6 y3 hm1
          rw [HM1.out] at hnew
          obtain ⟨q, hq⟩ : ∃ q, m + m1 = q := ⟨_, rfl⟩
          have HQ := Lib.hid hq
          rw [hq] at hnew
          clear hq
          by_cases hq4 : q ≤ 400
          · have hd4 : decide (400 < q) = false := by simp; omega
            have hd5 : decide ((400 : Int) < (q : Int)) = false := by simp; omega
            have hl4 : Hid ((E (ns.take (j + 1))).length ≤ 400) := Lib.hid (by rw [hnl.out, HM1.out]; have := HQ.out; omega)
            clear hq4
            go_wp2_with (at_builtin; refine wpList_append_reads _ rfl _ _ 34 rfl w.heap.size 69 (.agg #[.int .i64 0, .int .i64 0, .string ByteArray.empty]) 3 32 Try.underlying34 infoNode rfl (by decide) _ _ _ HO6.out _ m1 _ HR6.out rfl rfl HOB.out hm3.out hm4.out hsz.out ?_; intro v7 w7 hown7 hg7; rw [HQ.out] at hown7; obtain ⟨a7, c7, rfl⟩ := ownsRow_form' hown7)
            have HGR := Lib.hid (hnew.out w6 _ w7 HB6.out hown7 hg7)
            clear hown7 hg7
            go_wp2
            go_roundw
            case rel => exact ⟨j + 1, _, by omega, by go_num, rfl, Lib.hid ⟨HGR.out.1, hl4.out, HGR.out.2⟩⟩
            case measure => simp [intOf]; omega
          · have hd4 : decide (400 < q) = true := by simp; omega
            have hd5 : decide ((400 : Int) < (q : Int)) = true := by simp; omega
            have hbig2 := Lib.hid (show ¬ (E ns).length ≤ 400 from fun h => by have h1 := HPL.out; have h2 := HQ.out; rw [HM1.out] at h1; omega)
            clear hq4
            go_wp2_with (at_builtin; refine wpList_append_reads _ rfl _ _ 34 rfl w.heap.size 69 (.agg #[.int .i64 0, .int .i64 0, .string ByteArray.empty]) 3 32 Try.underlying34 infoNode rfl (by decide) _ _ _ HO6.out _ m1 _ HR6.out rfl rfl HOB.out hm3.out hm4.out hsz.out ?_; intro v7 w7 hown7 hg7; rw [HQ.out] at hown7; obtain ⟨a7, c7, rfl⟩ := ownsRow_form' hown7)
            have HGR := Lib.hid (hnew.out w6 _ w7 HB6.out hown7 hg7)
            clear hown7 hg7
            have hfin := Lib.hid (exp_no (w := w) (L := E ns) hbig2.out HGR.out.2)
            go_wp2
            go_ret2
            exact hfin.out
        · have hdl : decide (L1.length ≤ 400) = false := decide_eq_false hl1
          have hbig := Lib.hid (show ¬ (E ns).length ≤ 400 from fun h => by have h1 := HPL.out; omega)
          go_wp2_with fail
          refine HIH5.out.mono ?_
          rintro e w6 ⟨v6, rfl, ho6, hb6⟩
          rw [hdl]
          rw [if_neg hl1] at ho6
          obtain ⟨a6, c6, rfl⟩ := ho6.reads.form
          have hfin := Lib.hid (exp_no (w := w) (L := E ns) hbig.out (below_step HBR1.out (below_step HB5.out hb6)))
          clear ho6 hb6 y3 hdl hl1
          go_wp2
          go_ret2
          exact hfin.out
      · have hL2 : L1 = [⟨kd, vl, s2⟩] := by rw [← HL1.out]; exact HLF.out _ h17
        have b17 : (kd != 17) = true := by simpa using h17
        have hone : ofN [⟨kd, vl, s2⟩] = [.int .i64 kd, .int .i64 vl, .string s2] := rfl
        have hl1 : L1.length = 1 := by rw [hL2]; rfl
        rw [hl1, hL2, hone] at hnew
        rw [hl1] at hnl HPL
        have hm3 := Lib.hid (show m + 1 ≤ maxLen by unfold maxLen; omega)
        have hm4 := Lib.hid (show (m + 1) * 32 ≤ 140737488355328 by omega)
        obtain ⟨W2, hW2⟩ : ∃ W, W = (wr.alloc (.cells #[.int .i64 kd, .int .i64 vl, .string s2] 69)).alloc (.cells #[.int .i64 kd, .int .i64 vl, .string s2] 69) := ⟨_, rfl⟩
        have hb2 : Below W1.heap.size W1 W2 := by rw [hW2, HW1.out]; exact below_alloc (Below.refl _ _)
        have hr1 : Reads W2 3 (.slice (some ⟨wr.heap.size + 1, 0, none⟩) 1 1) 1 [.int .i64 kd, .int .i64 vl, .string s2] := by
          have := reads_new_many (size := 3) W1 #[.int .i64 kd, .int .i64 vl, .string s2] 69 rfl (by omega)
          rw [HW1.out, show (wr.alloc (.cells #[.int .i64 kd, .int .i64 vl, .string s2] 69)).heap.size = wr.heap.size + 1 by simp, ← hW2] at this
          exact this
        have HR1 := Lib.hid hr1
        have HO2 := Lib.hid (ownsRow_below HO1.out hb2)
        have hsz2 := Lib.hid (Nat.le_trans HBR1.out.size hb2.size)
        have HB2 := Lib.hid hb2
        have HW2 := Lib.hid hW2
        clear hb2 hr1 hW2 h17 hL2 hone hl1 hnk
        obtain ⟨q, hq⟩ : ∃ q, m + 1 = q := ⟨_, rfl⟩
        have HQ := Lib.hid hq
        rw [hq] at hnew
        clear hq
        by_cases hq4 : q ≤ 400
        · have hd4 : decide (400 < q) = false := by simp; omega
          have hd5 : decide ((400 : Int) < (q : Int)) = false := by simp; omega
          have hl4 : Hid ((E (ns.take (j + 1))).length ≤ 400) := Lib.hid (by rw [hnl.out]; have := HQ.out; omega)
          clear hq4
          go_wp2_with (at_builtin; rw [← HW2.out]; refine wpList_append_reads _ rfl _ _ 34 rfl w.heap.size 69 (.agg #[.int .i64 0, .int .i64 0, .string ByteArray.empty]) 3 32 Try.underlying34 infoNode rfl (by decide) _ _ _ HO2.out _ 1 _ HR1.out rfl rfl (by intro u hu; simp at hu; rcases hu with rfl | rfl | rfl <;> rfl) hm3.out hm4.out hsz2.out ?_; intro v7 w7 hown7 hg7; rw [HQ.out] at hown7; obtain ⟨a7, c7, rfl⟩ := ownsRow_form' hown7)
          have HGR := Lib.hid (hnew.out W2 _ w7 HB2.out hown7 hg7)
          clear hown7 hg7
          go_wp2
          go_roundw
          case rel => exact ⟨j + 1, _, by omega, by go_num, rfl, Lib.hid ⟨HGR.out.1, hl4.out, HGR.out.2⟩⟩
          case measure => simp [intOf]; omega
        · have hd4 : decide (400 < q) = true := by simp; omega
          have hd5 : decide ((400 : Int) < (q : Int)) = true := by simp; omega
          have hbig2 := Lib.hid (show ¬ (E ns).length ≤ 400 from fun h => by have h1 := HPL.out; have h2 := HQ.out; omega)
          clear hq4
          go_wp2_with (at_builtin; rw [← HW2.out]; refine wpList_append_reads _ rfl _ _ 34 rfl w.heap.size 69 (.agg #[.int .i64 0, .int .i64 0, .string ByteArray.empty]) 3 32 Try.underlying34 infoNode rfl (by decide) _ _ _ HO2.out _ 1 _ HR1.out rfl rfl (by intro u hu; simp at hu; rcases hu with rfl | rfl | rfl <;> rfl) hm3.out hm4.out hsz2.out ?_; intro v7 w7 hown7 hg7; rw [HQ.out] at hown7; obtain ⟨a7, c7, rfl⟩ := ownsRow_form' hown7)
          have HGR := Lib.hid (hnew.out W2 _ w7 HB2.out hown7 hg7)
          clear hown7 hg7
          have hfin := Lib.hid (exp_no (w := w) (L := E ns) hbig2.out HGR.out.2)
          go_wp2
          go_ret2
          exact hfin.out
    · obtain rfl : j = ln := by omega
      have htk : ns.take j = ns := by rw [← HLN.out, List.take_length]
      rw [htk] at hrow h400
      have hfin := Lib.hid (exp_yes (w := w) h400 (ownsN_row hrow rfl (by unfold maxLen; omega)) hbr)
      obtain ⟨ao, co, rfl⟩ := ownsRow_form' hrow
      clear hrow h400 hbr htk H
      go_wp2
      go_ret2
      exact hfin.out

set_option maxRecDepth 100000 in
set_option maxHeartbeats 2000000 in
theorem implEX_any (vd vn : Value) (ds : List DefL) (ns : List NodeL) (hbd : totD ds ≤ 1048576) (hbn : totN ns ≤ 1048576) (w : World) (hd : ReadsD w vd ds) (h : ReadsN w vn ns) :
    Calls Try.prog 41 #[vd, .agg #[vn]] w (TermOut w (exB ds ns) (exR ds ns)) := by
  obtain ⟨w0, hw0⟩ : ∃ W, W = (w.alloc (.cells #[vn] 36)).alloc (.cells #[.slice none 0 0] 36) := ⟨_, rfl⟩
  have hB : Below w.heap.size w w0 := by rw [hw0]; exact below_alloc (below_alloc (Below.refl _ _))
  have hs0 : w0.heap.size = w.heap.size + 2 := by rw [hw0]; simp
  have HT := Lib.hid (isTermIn_any vd vn ds ns (by omega) (by omega) w0 (hd.below hB) (h.below hB))
  have HE := Lib.hid (fun (hl : libB ds = true) (hn : namedIn ds ds.length ns) W (hW : Below w.heap.size w W) => expanded_any ds hl ds.length vd vn ns (Nat.le_refl _) hn W (hd.below hW) (h.below hW))
  obtain ⟨ad, cd, rfl⟩ := hd.form
  obtain ⟨an, cn, rfl⟩ := h.form
  have q1 : w0.heap[w.heap.size]? = some (.cells #[.slice an ns.length cn] 36 (0, 0)) := by
    rw [hw0]
    exact block_old (heap_alloc_new w _) (below_alloc (Below.refl _ _))
  have q2 : w0.heap[w.heap.size + 1]? = some (.cells #[.slice none 0 0] 36 (0, 0)) := by
    rw [hw0]
    have := heap_alloc_new (w.alloc (.cells #[.slice an ns.length cn] 36)) (.cells #[.slice none 0 0] 36)
    simpa using this
  have HX := Lib.hid (show ∀ W, Below w0.heap.size w0 W → W.cell? ⟨w.heap.size, 0, none⟩ = some (.slice an ns.length cn) ∧ W.cell? ⟨w.heap.size + 1, 0, none⟩ = some (.slice none 0 0) ∧ W.frozen? ⟨w.heap.size + 1, 0, none⟩ = false from fun W hW =>
    ⟨(Go.Joins.cell_of_block (block_old q1 hW) 0).trans rfl, (Go.Joins.cell_of_block (block_old q2 hW) 0).trans rfl, Go.Joins.unfrozen_of_block (block_old q2 hW) 0⟩)
  have HB := Lib.hid hB
  have HS := Lib.hid hs0
  have HW := Lib.hid hw0
  clear hd h hw0 hB hs0 q1 q2 hbd hbn
  have HNO := Lib.hid (show exO ds ns = none → ∀ W, Below w0.heap.size w0 W → TermOut w (exB ds ns) (exR ds ns) (.returned (.tuple #[.agg #[.slice none 0 0], .bool false])) (W.setCell ⟨w.heap.size + 1, 0, none⟩ (.slice none 0 0)) from fun e W hW => by
    unfold exB exR
    rw [e]
    have h7 := below_step HB.out hW
    have hc3 := Chg.set1 W ⟨w.heap.size + 1, 0, none⟩ (.slice none 0 0)
    exact ⟨_, rfl, ownsN_nil _ _, h7.trans (hc3.below h7.size fun g hg => by simp only at hg; omega)⟩)
  cases hti : typI ds ns with
  | none =>
    rw [hti] at HT
    have HNE := Lib.hid (HNO.out (by unfold exO; rw [hti]; rfl))
    clear hti
    go_enter Try.func41, Try.ntmps41
    go_wp2_with fail
    rw [← HW.out]
    refine HT.out.mono ?_
    rintro e w1 ⟨rfl, hb1⟩
    obtain ⟨-, y0, f0⟩ := HX.out w1 hb1
    have HB1 := Lib.hid hb1
    clear hb1
    go_wp2
    refine bodyPost_ret (v := .tuple #[.agg #[.slice none 0 0], .bool false]) (by simp [results, Try.results41, go_sem, y0]) rfl ?_
    exact HNE.out w1 HB1.out
  | some p =>
    rw [hti] at HT
    obtain ⟨hl, hty⟩ := typI_lib hti
    have HE2 := Lib.hid (HE.out hl (named_term hty))
    have HEO : Hid (exO ds ns = if (exN ds ds.length ns).length ≤ 400 then some (exN ds ds.length ns) else none) := by
      unfold exO
      rw [hti]
      exact Lib.hid (if_pos rfl)
    obtain ⟨L, hL⟩ : ∃ L, exN ds ds.length ns = L := ⟨_, rfl⟩
    rw [hL] at HE2 HEO
    clear hti hl hty HE hL
    go_enter Try.func41, Try.ntmps41
    go_wp2_with fail
    rw [← HW.out]
    refine HT.out.mono ?_
    rintro e w1 ⟨rfl, hb1⟩
    obtain ⟨x0, -, -⟩ := HX.out w1 hb1
    have HB1 := Lib.hid hb1
    clear hb1
    go_wp2_with fail
    refine (HE2.out w1 (below_step HB.out HB1.out)).mono ?_
    rintro e w2 ⟨v2, rfl, ho2, hb2⟩
    have HB2 := Lib.hid (below_step HB1.out hb2)
    obtain ⟨-, y0, f0⟩ := HX.out w2 HB2.out
    by_cases h4 : L.length ≤ 400
    · rw [decide_eq_true h4]
      rw [if_pos h4] at ho2
      obtain ⟨a2, c2, rfl⟩ := ho2.reads.form
      have hfin : Hid (TermOut w (exB ds ns) (exR ds ns) (.returned (.tuple #[.agg #[.slice a2 L.length c2], .bool true])) (w2.setCell ⟨w.heap.size + 1, 0, none⟩ (.slice a2 L.length c2))) := by
        unfold exB exR
        rw [HEO.out, if_pos h4]
        have hc3 := Chg.set1 w2 ⟨w.heap.size + 1, 0, none⟩ (.slice a2 L.length c2)
        have h7 := below_step HB.out HB2.out
        have h8 := HS.out
        have h9 := HB1.out.size
        exact Lib.hid ⟨_, rfl, (ho2.chg hc3 fun g hg e => by simp only at e; omega).mono fun g hg => by omega, h7.trans (hc3.below h7.size fun g hg => by simp only at hg; omega)⟩
      clear h4 ho2 hb2 x0
      go_wp2
      refine bodyPost_ret (v := .tuple #[.agg #[.slice a2 L.length c2], .bool true]) (by simp [results, Try.results41, go_sem, y0]) rfl ?_
      exact hfin.out
    · rw [decide_eq_false h4]
      have HNE := Lib.hid (HNO.out (by rw [HEO.out, if_neg h4]))
      rw [if_neg h4] at ho2
      obtain ⟨a2, c2, rfl⟩ := ho2.reads.form
      clear h4 ho2 hb2 x0
      go_wp2
      refine bodyPost_ret (v := .tuple #[.agg #[.slice none 0 0], .bool false]) (by simp [results, Try.results41, go_sem, y0]) rfl ?_
      exact HNE.out w2 HB2.out

end Ints
end Go.Proofs.Ytlfcmlbffpmhkaa
