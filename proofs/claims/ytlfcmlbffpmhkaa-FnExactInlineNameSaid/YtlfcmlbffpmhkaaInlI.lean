/- A term with a name replaced: the program. -/
import Derived.Test.YtlfcmlbffpmhkaaInlS
import Derived.Test.YtlfcmlbffpmhkaaMarkD
namespace Go.Proofs.Ytlfcmlbffpmhkaa
open Go.RowKit
namespace Ints

set_option maxHeartbeats 1000000 in
theorem isNamed_any (vd vn : Value) (ds : List DefL) (ns : List NodeL) (s : ByteArray) (hbd : totD ds ≤ 1048576) (hbn : totN ns ≤ 1048576) (w : World) (hd : ReadsD w vd ds) (h : ReadsN w vn ns) :
    Calls Try.prog 53 #[vd, .agg #[vn], .string s] w fun e w' => e = .returned (.bool ((typI ds ns).isSome && (findD ds s).isSome)) ∧ Below w.heap.size w w' := by
  obtain ⟨w0, hw0⟩ : ∃ W, W = w.alloc (.cells #[vn] 36) := ⟨_, rfl⟩
  have hB := Lib.hid (show Below w.heap.size w w0 by rw [hw0]; exact below_alloc (Below.refl _ _))
  have HT := Lib.hid (isTermIn_any vd vn ds ns (by omega) (by omega) w0 (hd.below hB.out) (h.below hB.out))
  have HF := Lib.hid (fun W (hW : Below w.heap.size w W) => indexOf_any vd ds s W (hd.below hW))
  obtain ⟨ad, cd, rfl⟩ := hd.form
  obtain ⟨an, cn, rfl⟩ := h.form
  have HW := Lib.hid hw0
  obtain ⟨tb, htb⟩ : ∃ b, (typI ds ns).isSome = b := ⟨_, rfl⟩
  rw [htb] at HT ⊢
  obtain ⟨fo, hfo⟩ : ∃ f, findD ds s = f := ⟨_, rfl⟩
  rw [hfo] at HF ⊢
  clear hd h hw0 htb hfo hbd hbn
  cases tb with
  | false =>
    rw [Bool.false_and]
    go_enter Try.func53, Try.ntmps53
    go_wp2_with fail
    rw [← HW.out]
    refine HT.out.mono ?_
    rintro e w1 ⟨rfl, hb1⟩
    have HB1 := Lib.hid (below_step hB.out hb1)
    clear hb1
    go_wp2
    go_ret
    exact ⟨rfl, HB1.out⟩
  | true =>
    rw [Bool.true_and]
    obtain ⟨jv, hjv⟩ : ∃ j, idxI fo = j := ⟨_, rfl⟩
    rw [hjv] at HF
    have hdj : decide (0 ≤ jv) = fo.isSome := by
      rw [← hjv]
      cases fo with
      | none => rfl
      | some k => simp [idxI]
    obtain ⟨b, hb⟩ : ∃ b, fo.isSome = b := ⟨_, rfl⟩
    rw [hb] at hdj ⊢
    clear hjv hb
    go_enter Try.func53, Try.ntmps53
    go_wp2_with fail
    rw [← HW.out]
    refine HT.out.mono ?_
    rintro e w1 ⟨rfl, hb1⟩
    have HB1 := Lib.hid (below_step hB.out hb1)
    clear hb1
    go_wp2_with fail
    refine (HF.out w1 HB1.out).mono ?_
    rintro e w2 ⟨rfl, hb2⟩
    have HB2 := Lib.hid (below_step HB1.out hb2)
    clear hb2
    go_wp2
    go_ret
    exact ⟨rfl, HB2.out⟩

theorem row_apart {w : World} {base size n b : Nat} {v : Value} {xs cs : List Value} (h : w.ownsRow base 69 size v n xs) (hb : w.heap[b]? = some (.cells cs.toArray 36 (0, 0))) : ¬ v.ownBlock = some b := by
  intro e
  rcases h.2 with ⟨rfl, _⟩ | ⟨g, cap, cur, rfl, _, hg, _⟩
  · cases e
  · simp [Value.ownBlock] at e
    subst e
    rw [hg] at hb
    simp at hb

set_option maxRecDepth 100000 in
set_option maxHeartbeats 4000000 in
theorem implIN_any (vd vn : Value) (ds : List DefL) (ns : List NodeL) (s : ByteArray) (hbd : totD ds ≤ 1048576) (hbn : totN ns ≤ 1048576) (w : World) (hd : ReadsD w vd ds) (h : ReadsN w vn ns) :
    Calls Try.prog 19 #[vd, .agg #[vn], .string s] w (TermOut w (inlB ds ns s) (inlR ds ns s)) := by
  obtain ⟨w0, hw0⟩ : ∃ W, W = (w.alloc (.cells #[vn] 36)).alloc (.cells #[.slice none 0 0] 36) := ⟨_, rfl⟩
  have hB : Below w.heap.size w w0 := by rw [hw0]; exact below_alloc (below_alloc (Below.refl _ _))
  have hs0 : w0.heap.size = w.heap.size + 2 := by rw [hw0]; simp
  have HF := Lib.hid (fun W (hW : Below w.heap.size w W) => indexOf_any vd ds s W (hd.below hW))
  have HT := Lib.hid (isNamed_any vd vn ds ns s hbd hbn w0 (hd.below hB) (h.below hB))
  obtain ⟨ad, cd, rfl, hm, hc⟩ := open_readsD hd
  obtain ⟨an, cn, rfl, hmn, hcn⟩ := open_readsN h
  have q1 : w0.heap[w.heap.size]? = some (.cells #[.slice an ns.length cn] 36 (0, 0)) := by
    rw [hw0]
    exact block_old (heap_alloc_new w _) (below_alloc (Below.refl _ _))
  have q2 : w0.heap[w.heap.size + 1]? = some (.cells #[.slice none 0 0] 36 (0, 0)) := by
    rw [hw0]
    have := heap_alloc_new (w.alloc (.cells #[.slice an ns.length cn] 36)) (.cells #[.slice none 0 0] 36)
    simpa using this
  have HX := Lib.hid (show ∀ W, Below w0.heap.size w0 W → W.cell? ⟨w.heap.size, 0, none⟩ = some (.slice an ns.length cn) ∧ W.cell? ⟨w.heap.size + 1, 0, none⟩ = some (.slice none 0 0) ∧ W.frozen? ⟨w.heap.size + 1, 0, none⟩ = false from fun W hW =>
    ⟨(Go.Joins.cell_of_block (block_old q1 hW) 0).trans rfl, (Go.Joins.cell_of_block (block_old q2 hW) 0).trans rfl, Go.Joins.unfrozen_of_block (block_old q2 hW) 0⟩)
  have HB := Lib.hid hB
  have HS := Lib.hid hs0
  have HW := Lib.hid hw0
  have HC := Lib.hid hc
  have HCN := Lib.hid hcn
  have HSM := Lib.hid (fun (e : (typI ds ns).isSome = true) k hk => inlN_small (ds := ds) (ns := ns) e (k := k) hk)
  obtain ⟨n, hn⟩ : ∃ n, ds.length = n := ⟨_, rfl⟩
  have HN := Lib.hid hn
  obtain ⟨ln, hln⟩ : ∃ n, ns.length = n := ⟨_, rfl⟩
  have HLN := Lib.hid hln
  rw [hn] at hm ⊢
  rw [hn] at HF HT
  rw [hln] at hmn HT HX HW ⊢
  obtain ⟨tb, htb⟩ : ∃ b, (typI ds ns).isSome = b := ⟨_, rfl⟩
  rw [htb] at HT HSM
  have HIO : Hid (inlO ds ns s = if tb = true then (match findD ds s with
    | some k => if (inlN (dAt ds k) ns).length ≤ 400 then some (inlN (dAt ds k) ns) else none
    | none => none) else none) := by rw [← htb]; rfl
  unfold inlR inlB
  obtain ⟨fo, hfo⟩ : ∃ f, findD ds s = f := ⟨_, rfl⟩
  have hlt : ∀ k, fo = some k → k < n ∧ (dAt ds k).name = s := fun k e => by rw [← hn]; exact ⟨findD_lt (hfo.trans e), findD_name (hfo.trans e)⟩
  rw [hfo] at HF HIO HT
  clear hd h hw0 hB hs0 q1 q2 hc hcn hn hln htb hfo hbd hbn
  have hno : inlO ds ns s = none → ∀ W, Below w0.heap.size w0 W → TermOut w (inlO ds ns s).isSome ((inlO ds ns s).getD []) (.returned (.tuple #[.agg #[.slice none 0 0], .bool false])) (W.setCell ⟨w.heap.size + 1, 0, none⟩ (.slice none 0 0)) := by
    intro e W hW
    rw [e]
    have h7 := below_step HB.out hW
    have hc3 := Chg.set1 W ⟨w.heap.size + 1, 0, none⟩ (.slice none 0 0)
    exact ⟨_, rfl, ownsN_nil _ _, h7.trans (hc3.below h7.size fun g hg => by simp only at hg; omega)⟩
  have HNO := Lib.hid hno
  clear hno
  by_cases hok : tb = true ∧ ∃ k, fo = some k
  · obtain ⟨rfl, k, rfl⟩ := hok
    have hix : idxI (some k) = (k : Int) := rfl
    rw [hix] at HF
    obtain ⟨hkn, hnm⟩ := hlt k rfl
    obtain ⟨g, off, a1, c1, rfl, hg, hE⟩ := HC.out k (by rw [HN.out]; exact hkn)
    obtain ⟨d, hd⟩ : ∃ d, dAt ds k = d := ⟨_, rfl⟩
    have hsm := HSM.out rfl k (by rw [HN.out]; exact hkn)
    have hio := HIO.out
    rw [if_pos rfl] at hio
    dsimp only at hio
    rw [hd] at hE hsm hio hnm
    rw [show (true && (some k).isSome) = true from rfl] at HT
    have hk0 : 0 ≤ (k : Int) := by omega
    have hkn2 : (k : Int) < (n : Int) := by omega
    obtain ⟨body, hbody⟩ : ∃ b, d.body = b := ⟨_, rfl⟩
    obtain ⟨mb, hmb⟩ : ∃ m, body.length = m := ⟨_, rfl⟩
    have HMB := Lib.hid hmb
    obtain ⟨-, -, -, hE3, hE4⟩ := hE
    rw [hbody] at hE3 hE4
    rw [hmb] at hE3 hE4
    have HE3 := Lib.hid hE3
    have HRB : Hid (∀ W, Below w.heap.size w W → Reads W 3 (.slice a1 mb c1) mb (ofN body)) := Lib.hid fun W hW => by
      have := hE4.below hW
      unfold ReadsN at this
      rw [hmb] at this
      exact this
    have HOB := Lib.hid (ofN_one body)
    have HIS : Hid (∀ n : NodeL, inlS d n = if n.kind = 17 ∧ n.name.toList = s.toList then body else [n]) := by rw [← hbody, ← hnm]; exact Lib.hid fun n => rfl
    have HIO2 := Lib.hid hio
    have HPT := Lib.hid (inlN_part d ns)
    clear hix hio hkn hd hlt hE3 hE4 hg hnm hbody hmb
    go_enter Try.func19, Try.ntmps19
    go_wp2_with fail
    rw [← HW.out]
    refine HT.out.mono ?_
    rintro e w1 ⟨rfl, hb1⟩
    obtain ⟨x0, -, -⟩ := HX.out w1 hb1
    have HB1 := Lib.hid hb1
    have HBW := Lib.hid (below_step HB.out hb1)
    obtain ⟨w2, hw2⟩ : ∃ W, W = (w1.alloc (.cells #[] 69)).alloc (.cells #[.slice (some ⟨w1.heap.size, 0, none⟩) 0 0] 36) := ⟨_, rfl⟩
    have h12 : Below w1.heap.size w1 w2 := by rw [hw2]; exact below_alloc (below_alloc (Below.refl _ _))
    have hst0 : w2.ownsRow w1.heap.size 69 3 (.slice (some ⟨w1.heap.size, 0, none⟩) 0 0) 0 [] := by
      rw [hw2]
      exact ownsRow_below (own_lit 69 3 rfl) (below_alloc (Below.refl _ _))
    have hbk : w2.heap[w1.heap.size + 1]? = some (.cells #[.slice (some ⟨w1.heap.size, 0, none⟩) 0 0] 36 (0, 0)) := by
      rw [hw2]
      have := heap_alloc_new (w1.alloc (.cells #[] 69)) (.cells #[.slice (some ⟨w1.heap.size, 0, none⟩) 0 0] 36)
      simpa using this
    have HS0 := Lib.hid (And.intro hst0 (And.intro hbk h12))
    have HW2 := Lib.hid hw2
    have x02 := (HX.out w2 (below_step HB1.out h12)).1
    rw [hw2] at x02
    clear hb1 hw2 h12 hst0 hbk
    go_wp2
    rw [← HW2.out]
    go_loopw [22] (fun i wr => ∃ j : Nat, j ≤ ln ∧ i = .int .i64 j ∧ Hid (∃ ov, wr.heap[w1.heap.size + 1]? = some (.cells #[ov] 36 (0, 0)) ∧ wr.ownsRow w1.heap.size 69 3 ov (inlN d (ns.take j)).length (ofN (inlN d (ns.take j))) ∧ Chg (fun g => w1.heap.size ≤ g) w1 wr)) (fun i _ => ln + 1 - (intOf i).toNat)
    case atStart => exact ⟨0, by omega, rfl, Lib.hid ⟨_, HS0.out.2.1, by simpa [inlN, ofN] using HS0.out.1, Below.chg HS0.out.2.2 _⟩⟩
    case round =>
      obtain ⟨j, hj, rfl, H⟩ := hrel
      obtain ⟨ov, hbk, hrow, hch⟩ := H.out
      by_cases hlt : j < ln
      · obtain ⟨gg, offn, rfl, hgg, hEn⟩ := HCN.out j (by rw [HLN.out]; exact hlt)
        have hbr : Below w.heap.size w wr := HBW.out.trans (hch.below HBW.out.size fun g hg => Nat.le_trans HBW.out.size hg)
        obtain ⟨x0, x1, x2⟩ := hEn.below hbr
        have hj0 : 0 ≤ (j : Int) := by omega
        have hjn : (j : Int) < (ln : Int) := by omega
        have hsu := inlN_succ d ns j (by rw [HLN.out]; exact hlt)
        have hpl := HPT.out (j + 1)
        rw [hsu, List.length_append] at hpl
        obtain ⟨nd, hnd⟩ : ∃ x, nAt ns j = x := ⟨_, rfl⟩
        rw [hnd] at x0 x1 x2 hsu hpl
        obtain ⟨m, hm2⟩ : ∃ m, (inlN d (ns.take j)).length = m := ⟨_, rfl⟩
        obtain ⟨kd, vl, s2⟩ := nd
        dsimp only at x0 x1 x2
        obtain ⟨W1, hW1⟩ : ∃ W, W = wr.alloc (.cells #[.int .i64 kd, .int .i64 vl, .string s2] 69) := ⟨_, rfl⟩
        have hb1 : Below wr.heap.size wr W1 := by rw [hW1]; exact below_alloc (Below.refl _ _)
        rw [hm2] at hrow hpl
        obtain ⟨ao, co, rfl⟩ := ownsRow_form' hrow
        have HO1 := Lib.hid (ownsRow_below hrow hb1)
        have HBK1 := Lib.hid (block_old hbk hb1)
        have HCH := Lib.hid (hch.trans (Below.chg hb1 _))
        have HSU := Lib.hid hsu
        have HM2 := Lib.hid hm2
        have hisz := HIS.out ⟨kd, vl, s2⟩
        dsimp only at hisz
        have hsz := Lib.hid (show w1.heap.size ≤ W1.heap.size from Nat.le_trans hch.size hb1.size)
        have HBR1 := Lib.hid (below_step hbr hb1)
        have HNE : Hid (¬ (Value.slice ao m co).ownBlock = some (w1.heap.size + 1)) := Lib.hid (row_apart (cs := [.slice ao m co]) HO1.out HBK1.out)
        have hstep : ∀ (us : List NodeL), inlS d ⟨kd, vl, s2⟩ = us → Hid (∀ v' w3, w3.ownsRow w1.heap.size 69 3 v' (m + us.length) (ofN (inlN d (ns.take j)) ++ ofN us) → W1.grownBy w3 (Value.slice ao m co).ownBlock →
            (w3.cell? ⟨w1.heap.size + 1, 0, none⟩ = some (.slice ao m co) ∧ w3.frozen? ⟨w1.heap.size + 1, 0, none⟩ = false) ∧ (w3.setCell ⟨w1.heap.size + 1, 0, none⟩ v').heap[w1.heap.size + 1]? = some (.cells #[v'] 36 (0, 0)) ∧ (w3.setCell ⟨w1.heap.size + 1, 0, none⟩ v').ownsRow w1.heap.size 69 3 v' (inlN d (ns.take (j + 1))).length (ofN (inlN d (ns.take (j + 1)))) ∧ Chg (fun g => w1.heap.size ≤ g) w1 (w3.setCell ⟨w1.heap.size + 1, 0, none⟩ v')) := by
          intro us hus
          refine Lib.hid fun v' w3 hown3 hg3 => ?_
          have hb3 : w3.heap[w1.heap.size + 1]? = some (.cells #[.slice ao m co] 36 (0, 0)) := (hg3.block _ (Array.getElem?_eq_some_iff.1 HBK1.out).1 (fun e => HNE.out e.symm)).trans HBK1.out
          have hn3 : ¬ v'.ownBlock = some (w1.heap.size + 1) := row_apart (cs := [.slice ao m co]) hown3 hb3
          have hc3 := Chg.set1 w3 ⟨w1.heap.size + 1, 0, none⟩ v'
          refine ⟨⟨(Go.Joins.cell_of_block hb3 0).trans rfl, Go.Joins.unfrozen_of_block hb3 0⟩, Go.Joins.block_setCell (g := w1.heap.size + 1) (i := 0) hb3 v', ?_, (HCH.out.trans ((chg_of_grown hg3).mono fun g _ hg => ?_)).trans (hc3.mono fun g _ hg => by simp only at hg; omega)⟩
          · rw [HSU.out, hus, List.length_append, HM2.out, ofN_append]
            refine ⟨hown3.1, ?_⟩
            rcases hown3.2 with h0 | ⟨g2, cap2, cur2, e2, q2, hh, q3⟩
            · exact .inl h0
            · refine .inr ⟨g2, cap2, cur2, e2, q2, ?_, q3⟩
              rw [← hh]
              refine hc3.block g2 (Array.getElem?_eq_some_iff.1 hh).1 (fun e => ?_)
              simp only at e
              exact hn3 (by rw [e2, e]; rfl)
          · exact ownsRow_ge HO1.out hg
        have y0 : W1.cell? ⟨w1.heap.size + 1, 0, none⟩ = some (.slice ao m co) := (Go.Joins.cell_of_block HBK1.out 0).trans rfl
        have f0 : W1.frozen? ⟨w1.heap.size + 1, 0, none⟩ = false := Go.Joins.unfrozen_of_block HBK1.out 0
        have HW1 := Lib.hid hW1
        have Y0 := Lib.hid (And.intro y0 f0)
        clear hEn hnd hsu hgg hm2 H hbk hrow hch hbr hb1
        by_cases hq : kd = 17 ∧ s2.toList = s.toList
        · rw [if_pos hq] at hisz
          obtain ⟨rfl, hq2⟩ := hq
          have hqb : (s2.toList == s.toList) = true := by simpa using hq2
          have HST := hstep _ hisz
          rw [hisz, HMB.out] at hpl
          rw [HMB.out] at HST
          have hm3 := Lib.hid (show m + mb ≤ maxLen by unfold maxLen; omega)
          have hm4 := Lib.hid (show (m + mb) * 32 ≤ 140737488355328 by omega)
          have hbd : Below W1.heap.size W1 W1.drew := ⟨rfl, rfl, rfl, Nat.le_refl _, fun _ _ => rfl⟩
          have HBRd := Lib.hid (below_step HBR1.out hbd)
          have HO1d := Lib.hid (ownsRow_below HO1.out hbd)
          have S6 := Lib.hid (show W1.drew.cell? ⟨g, off + k * 4 + 3, none⟩ = some (.slice a1 mb c1) from cell_old HBRd.out HE3.out)
          have y0d : W1.drew.cell? ⟨w1.heap.size + 1, 0, none⟩ = some (.slice ao m co) := y0
          have HGB := Lib.hid (fun w5 (h5 : Below W1.drew.heap.size W1.drew w5) w6 (h6 : w5.grownBy w6 (Value.slice ao m co).ownBlock) => show W1.grownBy w6 (Value.slice ao m co).ownBlock from ⟨h6.os.trans h5.os, h6.tape.trans h5.tape, h6.output.trans h5.output, Nat.le_trans h5.size h6.size, fun q hq hne => (h6.block q (Nat.lt_of_lt_of_le hq h5.size) hne).trans (h5.block q hq)⟩)
          have HGN : Hid (¬ (Value.slice ao m co).ownBlock = some g) := Lib.hid fun e => by
            have h1 := ownsRow_ge HO1.out e
            have h2 := lt_of_cell HE3.out
            have h3 := HBW.out.size
            simp only at h2
            omega
          have HG1 : Hid (g ≠ w1.heap.size + 1) := Lib.hid (by
            have h2 := lt_of_cell HE3.out
            have h3 := HBW.out.size
            simp only at h2
            omega)
          clear hstep hisz hq2 hbd y0 f0 hW1
          go_upto_region 8 with fail
          rw [← HW1.out]
          have s6 := S6.out
          go_region_law (first | (go_simp; (with_reducible refine (HF.out _ HBRd.out).mono ?_); rintro e w5 ⟨rfl, hb5⟩; have s7 := cell_old hb5 s6; have y5 := cell_old hb5 y0d) | (refine step_append_readsN (by rfl) _ _ 34 (by rfl) w1.heap.size 69 (.agg #[.int .i64 0, .int .i64 0, .string ByteArray.empty]) 3 32 Try.underlying34 infoNode rfl (by decide) _ _ _ (ownsRow_below HO1d.out hb5) _ mb (ofN body) (HRB.out _ (below_step HBRd.out hb5)) (by rfl) (by rfl) HOB.out hm3.out hm4.out (Nat.le_trans hsz.out hb5.size) ?_; intro v6 w6 hown6 hg6; obtain ⟨a6, c6, rfl⟩ := ownsRow_form' hown6; have hnx := Lib.hid (HST.out _ w6 hown6 (HGB.out w5 hb5 w6 hg6)); have y6 := hnx.out.1.1; have f6 := hnx.out.1.2))
          all_goals
            have hnx2 := Lib.hid hnx.out.2
            clear hb5 hown6 hg6 y5 y6 f6 hnx
            go_wp2
            go_roundw
            case rel => exact ⟨j + 1, by omega, by go_num, Lib.hid ⟨_, hnx2.out⟩⟩
            case measure => simp [intOf]; omega
        · rw [if_neg hq] at hisz
          have HST := hstep _ hisz
          rw [hisz, List.length_singleton] at hpl
          rw [List.length_singleton] at HST
          have hm3 := Lib.hid (show m + 1 ≤ maxLen by unfold maxLen; omega)
          have hm4 := Lib.hid (show (m + 1) * 32 ≤ 140737488355328 by omega)
          have hone : ofN [⟨kd, vl, s2⟩] = [.int .i64 kd, .int .i64 vl, .string s2] := rfl
          rw [hone] at HST
          obtain ⟨W2, hW2⟩ : ∃ W, W = (wr.alloc (.cells #[.int .i64 kd, .int .i64 vl, .string s2] 69)).alloc (.cells #[.int .i64 kd, .int .i64 vl, .string s2] 69) := ⟨_, rfl⟩
          have hb2 : Below W1.heap.size W1 W2 := by rw [hW2, HW1.out]; exact below_alloc (Below.refl _ _)
          have hr1 : Reads W2 3 (.slice (some ⟨wr.heap.size + 1, 0, none⟩) 1 1) 1 [.int .i64 kd, .int .i64 vl, .string s2] := by
            have := reads_new_many (size := 3) W1 #[.int .i64 kd, .int .i64 vl, .string s2] 69 rfl (by omega)
            rw [HW1.out, show (wr.alloc (.cells #[.int .i64 kd, .int .i64 vl, .string s2] 69)).heap.size = wr.heap.size + 1 by simp, ← hW2] at this
            exact this
          have HR1 := Lib.hid hr1
          have HO2 := Lib.hid (ownsRow_below HO1.out hb2)
          have hsz2 := Lib.hid (Nat.le_trans hsz.out hb2.size)
          have HG2 : Hid (∀ w3, W2.grownBy w3 (Value.slice ao m co).ownBlock → W1.grownBy w3 (Value.slice ao m co).ownBlock) := Lib.hid fun w3 h => ⟨h.os.trans hb2.os, h.tape.trans hb2.tape, h.output.trans hb2.output, Nat.le_trans hb2.size h.size, fun k hk hne => (h.block k (Nat.lt_of_lt_of_le hk hb2.size) hne).trans (hb2.block k hk)⟩
          have HW2 := Lib.hid hW2
          rw [hW1] at y0
          clear hb2 hr1 hW2 hstep hisz f0 hW1
          by_cases h17 : kd = 17
          · subst h17
            have hqb : (s2.toList == s.toList) = false := by simpa using fun e => hq ⟨rfl, e⟩
            clear hq hone
            go_wp2_with (at_builtin; rw [← HW2.out]; refine wpList_append_reads _ rfl _ _ 34 rfl w1.heap.size 69 (.agg #[.int .i64 0, .int .i64 0, .string ByteArray.empty]) 3 32 Try.underlying34 infoNode rfl (by decide) _ _ _ HO2.out _ 1 _ HR1.out rfl rfl (by intro u hu; simp at hu; rcases hu with rfl | rfl | rfl <;> rfl) hm3.out hm4.out hsz2.out ?_; intro v3 w3 hown3 hg3; obtain ⟨a3, c3, rfl⟩ := ownsRow_form' hown3; have hnx := Lib.hid (HST.out _ w3 hown3 (HG2.out w3 hg3)); have y3 := hnx.out.1.1; have f3 := hnx.out.1.2)
            have hnx2 := Lib.hid hnx.out.2
            clear hown3 hg3 y3 f3 hnx
            go_wp2
            go_roundw
            case rel => exact ⟨j + 1, by omega, by go_num, Lib.hid ⟨_, hnx2.out⟩⟩
            case measure => simp [intOf]; omega
          · have b17 : (kd == 17) = false := by simpa using h17
            clear hq hone h17
            go_wp2_with (at_builtin; rw [← HW2.out]; refine wpList_append_reads _ rfl _ _ 34 rfl w1.heap.size 69 (.agg #[.int .i64 0, .int .i64 0, .string ByteArray.empty]) 3 32 Try.underlying34 infoNode rfl (by decide) _ _ _ HO2.out _ 1 _ HR1.out rfl rfl (by intro u hu; simp at hu; rcases hu with rfl | rfl | rfl <;> rfl) hm3.out hm4.out hsz2.out ?_; intro v3 w3 hown3 hg3; obtain ⟨a3, c3, rfl⟩ := ownsRow_form' hown3; have hnx := Lib.hid (HST.out _ w3 hown3 (HG2.out w3 hg3)); have y3 := hnx.out.1.1; have f3 := hnx.out.1.2)
            have hnx2 := Lib.hid hnx.out.2
            clear hown3 hg3 y3 f3 hnx
            go_wp2
            go_roundw
            case rel => exact ⟨j + 1, by omega, by go_num, Lib.hid ⟨_, hnx2.out⟩⟩
            case measure => simp [intOf]; omega
      · obtain rfl : j = ln := by omega
        have htk : ns.take j = ns := by rw [← HLN.out, List.take_length]
        rw [htk] at hrow
        obtain ⟨R, hR⟩ : ∃ R, inlN d ns = R := ⟨_, rfl⟩
        have hio := HIO2.out
        rw [hR] at hrow hsm hio
        obtain ⟨m, hm2⟩ : ∃ m, R.length = m := ⟨_, rfl⟩
        rw [hm2] at hrow hsm hio
        obtain ⟨ao, co, rfl⟩ := ownsRow_form' hrow
        have y0 : wr.cell? ⟨w1.heap.size + 1, 0, none⟩ = some (.slice ao m co) := (Go.Joins.cell_of_block hbk 0).trans rfl
        have hb0 : Below w0.heap.size w0 wr := HB1.out.trans (hch.below HB1.out.size fun g hg => Nat.le_trans HB1.out.size hg)
        obtain ⟨-, z0, g0⟩ := HX.out wr hb0
        have ho := ownsN_row hrow hm2 (by unfold maxLen; omega)
        have HO := Lib.hid ho
        have HB0 := Lib.hid hb0
        have hmi : (m : Int) ≤ 1000000 := by omega
        clear hbk hrow hch ho hb0 hm2 htk hR H
        by_cases hm4 : m ≤ 400
        · have hd5 : decide ((400 : Int) < (m : Int)) = false := by simp; omega
          have hd4 : decide (400 < m) = false := by simp; omega
          rw [if_pos hm4] at hio
          have hfin : Hid (TermOut w (inlO ds ns s).isSome ((inlO ds ns s).getD []) (.returned (.tuple #[.agg #[.slice ao m co], .bool true])) (wr.setCell ⟨w.heap.size + 1, 0, none⟩ (.slice ao m co))) := by
            rw [hio]
            have hc3 := Chg.set1 wr ⟨w.heap.size + 1, 0, none⟩ (.slice ao m co)
            have h7 := below_step HB.out HB0.out
            have h8 := HS.out
            have h9 := HB1.out.size
            exact Lib.hid ⟨_, rfl, (HO.out.chg hc3 fun g hg e => by simp only at e; omega).mono fun g hg => by omega, h7.trans (hc3.below h7.size fun g hg => by simp only at hg; omega)⟩
          clear hio hm4
          go_wp2
          refine bodyPost_ret (v := .tuple #[.agg #[.slice ao m co], .bool true]) (by simp [results, Try.results19, go_sem, z0]) rfl ?_
          exact hfin.out
        · have hd5 : decide ((400 : Int) < (m : Int)) = true := by simp; omega
          have hd4 : decide (400 < m) = true := by simp; omega
          rw [if_neg hm4] at hio
          have HNE := Lib.hid (HNO.out hio)
          clear hio hm4
          go_wp2
          refine bodyPost_ret (v := .tuple #[.agg #[.slice none 0 0], .bool false]) (by simp [results, Try.results19, go_sem, z0]) rfl ?_
          exact HNE.out wr HB0.out
  · have hio : inlO ds ns s = none := by
      rw [HIO.out]
      cases tb with
      | false => rfl
      | true =>
        cases fo with
        | none => rfl
        | some k => exact absurd ⟨rfl, k, rfl⟩ hok
    have hff : (tb && fo.isSome) = false := by
      cases tb with
      | false => rfl
      | true =>
        cases fo with
        | none => rfl
        | some k => exact absurd ⟨rfl, k, rfl⟩ hok
    rw [hff] at HT
    have HNE := Lib.hid (HNO.out hio)
    clear hio hff hok hlt
    go_enter Try.func19, Try.ntmps19
    go_wp2_with fail
    rw [← HW.out]
    refine HT.out.mono ?_
    rintro e w1 ⟨rfl, hb1⟩
    obtain ⟨-, y0, f0⟩ := HX.out w1 hb1
    have HB1 := Lib.hid hb1
    clear hb1
    go_wp2
    refine bodyPost_ret (v := .tuple #[.agg #[.slice none 0 0], .bool false]) (by simp [results, Try.results19, go_sem, y0]) rfl ?_
    exact HNE.out w1 HB1.out


theorem inlR_ctr (ds : List DefL) (ns : List NodeL) (s : ByteArray) : (1 : Int) + (sumN (inlR ds ns s) : Int) ≤ 1000000000 := by
  have h : (inlR ds ns s).length ≤ 400 := by
    unfold inlR inlO
    split
    · split
      · split
        · simpa using by assumption
        · exact Nat.zero_le _
      · exact Nat.zero_le _
    · exact Nat.zero_le _
  unfold sumN
  omega

end Ints
end Go.Proofs.Ytlfcmlbffpmhkaa
