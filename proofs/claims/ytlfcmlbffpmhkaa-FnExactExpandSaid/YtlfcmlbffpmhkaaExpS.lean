/- A term with all names spelled out: the reference. -/
import Derived.Test.YtlfcmlbffpmhkaaExpI
import Derived.Test.YtlfcmlbffpmhkaaMarkD
namespace Go.Proofs.Ytlfcmlbffpmhkaa
open Go.RowKit
namespace Ints

theorem exR_ctr (ds : List DefL) (ns : List NodeL) : (1 : Int) + (sumN (exR ds ns) : Int) ≤ 1000000000 := by
  have h := exR_len ds ns
  unfold sumN
  omega
/-- What the size says of the expanded term. -/
theorem esz_exO (ds : List DefL) (ns : List NodeL) : (exO ds ns = none ∧ ((eszP ds ns).2 = false ∨ (eszP ds ns).2 = true ∧ 400 < (eszP ds ns).1)) ∨ (∃ p, typI ds ns = some p ∧ exO ds ns = some (exN ds ds.length ns) ∧ (exN ds ds.length ns).length ≤ 400 ∧ (eszP ds ns).2 = true ∧ (eszP ds ns).1 ≤ 400) := by
  unfold exO eszP
  cases hti : typI ds ns with
  | none => exact .inl ⟨rfl, .inl rfl⟩
  | some p =>
    obtain ⟨hl, hty⟩ := typI_lib hti
    simp only [Option.isSome_some, if_true]
    rw [size_term hl (named_term hty)]
    by_cases h4 : (exN ds ds.length ns).length ≤ 400
    · right
      have hc : capN (exN ds ds.length ns).length = ((exN ds ds.length ns).length : Int) := by unfold capN; rw [if_pos (by omega)]
      rw [if_pos h4, hc, if_neg (by omega)]
      exact ⟨p, rfl, rfl, h4, rfl, by dsimp only; omega⟩
    · left
      rw [if_neg h4]
      refine ⟨rfl, ?_⟩
      by_cases h5 : 1000000 < capN (exN ds ds.length ns).length
      · rw [if_pos h5]
        exact .inl rfl
      · rw [if_neg h5]
        refine .inr ⟨rfl, ?_⟩
        dsimp only
        unfold capN
        split <;> omega

set_option maxRecDepth 100000 in
set_option maxHeartbeats 4000000 in
theorem specEX_any (vd vn : Value) (ds : List DefL) (ns : List NodeL) (w : World) (hd : ReadsD w vd ds) (h : ReadsN w vn ns) :
    Calls Try.prog 40 #[vd, .agg #[vn]] w (TermOut w (exB ds ns) (exR ds ns)) := by
  obtain ⟨w0, hw0⟩ : ∃ W, W = (w.alloc (.cells #[vn] 36)).alloc (.cells #[.slice none 0 0] 36) := ⟨_, rfl⟩
  have hB : Below w.heap.size w w0 := by rw [hw0]; exact below_alloc (below_alloc (Below.refl _ _))
  have hs0 : w0.heap.size = w.heap.size + 2 := by rw [hw0]; simp
  have HT := Lib.hid (specES_any vd vn ds ns w0 (hd.below hB) (h.below hB))
  have HRN := Lib.hid h
  obtain ⟨ad, cd, rfl, hm, hc⟩ := open_readsD hd
  obtain ⟨an, cn, rfl⟩ := h.form
  have q1 : w0.heap[w.heap.size]? = some (.cells #[.slice an ns.length cn] 36 (0, 0)) := by
    rw [hw0]
    exact block_old (heap_alloc_new w _) (below_alloc (Below.refl _ _))
  have q2 : w0.heap[w.heap.size + 1]? = some (.cells #[.slice none 0 0] 36 (0, 0)) := by
    rw [hw0]
    have := heap_alloc_new (w.alloc (.cells #[.slice an ns.length cn] 36)) (.cells #[.slice none 0 0] 36)
    simpa using this
  have HX := Lib.hid (show ∀ W, Below w0.heap.size w0 W → W.cell? ⟨w.heap.size, 0, none⟩ = some (.slice an ns.length cn) ∧ W.cell? ⟨w.heap.size + 1, 0, none⟩ = some (.slice none 0 0) ∧ W.frozen? ⟨w.heap.size + 1, 0, none⟩ = false from fun W hW =>
    ⟨(Go.Joins.cell_of_block (block_old q1 hW) 0).trans rfl, (Go.Joins.cell_of_block (block_old q2 hW) 0).trans rfl, Go.Joins.unfrozen_of_block (block_old q2 hW) 0⟩)
  have HB := Lib.hid hB
  have HS := Lib.hid hs0
  have HW := Lib.hid hw0
  have HC := Lib.hid hc
  obtain ⟨n, hn⟩ : ∃ n, ds.length = n := ⟨_, rfl⟩
  have HN := Lib.hid hn
  rw [hn] at hm HT ⊢
  clear hd h hw0 hB hs0 q1 q2 hc hn
  have HNO := Lib.hid (show exO ds ns = none → ∀ W, Below w0.heap.size w0 W → TermOut w (exB ds ns) (exR ds ns) (.returned (.tuple #[.agg #[.slice none 0 0], .bool false])) (W.setCell ⟨w.heap.size + 1, 0, none⟩ (.slice none 0 0)) from fun e W hW => by
    unfold exB exR
    rw [e]
    have h7 := below_step HB.out hW
    have hc3 := Chg.set1 W ⟨w.heap.size + 1, 0, none⟩ (.slice none 0 0)
    exact ⟨_, rfl, ownsN_nil _ _, h7.trans (hc3.below h7.size fun g hg => by simp only at hg; omega)⟩)
  rcases esz_exO ds ns with ⟨hno, hcase⟩ | ⟨p, hti, hyes, h400, he2, he1⟩
  · have HNE := Lib.hid (HNO.out hno)
    obtain ⟨e1, he1⟩ : ∃ x, (eszP ds ns).1 = x := ⟨_, rfl⟩
    obtain ⟨e2, he2⟩ : ∃ x, (eszP ds ns).2 = x := ⟨_, rfl⟩
    rw [he1, he2] at HT
    rw [he1, he2] at hcase
    clear he1 he2 hno
    rcases hcase with rfl | ⟨rfl, h4⟩
    · go_enter Try.func40, Try.ntmps40
      go_wp2_with fail
      rw [← HW.out]
      refine HT.out.mono ?_
      rintro e w1 ⟨rfl, hb1⟩
      obtain ⟨-, y0, f0⟩ := HX.out w1 hb1
      have HB1 := Lib.hid hb1
      clear hb1
      go_wp2
      refine bodyPost_ret (v := .tuple #[.agg #[.slice none 0 0], .bool false]) (by simp [results, Try.results40, go_sem, y0]) rfl ?_
      exact HNE.out w1 HB1.out
    · have hd4 : decide (400 < e1) = true := by simpa using h4
      clear h4
      go_enter Try.func40, Try.ntmps40
      go_wp2_with fail
      rw [← HW.out]
      refine HT.out.mono ?_
      rintro e w1 ⟨rfl, hb1⟩
      obtain ⟨-, y0, f0⟩ := HX.out w1 hb1
      have HB1 := Lib.hid hb1
      clear hb1
      go_wp2
      refine bodyPost_ret (v := .tuple #[.agg #[.slice none 0 0], .bool false]) (by simp [results, Try.results40, go_sem, y0]) rfl ?_
      exact HNE.out w1 HB1.out
  · obtain ⟨hl, hty⟩ := typI_lib hti
    have hn12 := (libB_all hl).1
    rw [HN.out] at hn12
    have HGE := Lib.hid (fun k hk ns => exN_ge (body_one hl) k hk ns)
    have hnl : ns.length ≤ 400 := (typI_len (by rw [hti]; rfl)).1
    obtain ⟨e1, he1'⟩ : ∃ x, (eszP ds ns).1 = x := ⟨_, rfl⟩
    rw [he1', he2] at HT
    rw [he1'] at he1
    have hd4 : decide (400 < e1) = false := by simp; omega
    have HYES := Lib.hid hyes
    rw [HN.out] at h400 HYES HGE
    have H400 := Lib.hid h400
    have HOWN := Lib.hid (fun W (hW : Below w.heap.size w W) => tmOwn_any (.slice an ns.length cn) ns W (HRN.out.below hW) (by omega))
    have hwn : IntKind.i64.wrap ((n : Int) - 1) = (n : Int) - 1 := IntWalk.i64_in _ (by omega)
    clear hti hl hty hyes he1 he2 he1' h400 hnl HNO
    go_enter Try.func40, Try.ntmps40
    go_wp2_with fail
    rw [← HW.out]
    refine HT.out.mono ?_
    rintro e w1 ⟨rfl, hb1⟩
    obtain ⟨x0, -, -⟩ := HX.out w1 hb1
    have HB1 := Lib.hid hb1
    clear hb1
    go_wp2_with fail
    refine (HOWN.out w1 (below_step HB.out HB1.out)).mono ?_
    rintro e w2 ⟨v2, rfl, ho2, hb2⟩
    obtain ⟨a2, c2, rfl⟩ := ho2.reads.form
    obtain ⟨w3, hw3⟩ : ∃ W, W = w2.alloc (.cells #[.slice a2 ns.length c2] 36) := ⟨_, rfl⟩
    have h23 : Below w2.heap.size w2 w3 := by rw [hw3]; exact below_alloc (Below.refl _ _)
    have hbk : w3.heap[w2.heap.size]? = some (.cells #[.slice a2 ns.length c2] 36 (0, 0)) := by rw [hw3]; exact heap_alloc_new w2 _
    have HS0 := Lib.hid (show w3.heap[w2.heap.size]? = some (.cells #[.slice a2 ns.length c2] 36 (0, 0)) ∧ OwnsN (fun g => w1.heap.size ≤ g ∧ g ≠ w2.heap.size) w3 (.slice a2 ns.length c2) ns ∧ Below w1.heap.size w1 w3 from ⟨hbk, (ho2.bound.below h23).mono fun g hg => ⟨hg.1, by omega⟩, below_step hb2 h23⟩)
    have HB2S := Lib.hid hb2.size
    have HW3 := Lib.hid hw3
    clear ho2 hb2 hw3 h23 hbk x0
    go_wp2
    rw [← HW3.out]
    go_loopw [9] (fun i wr => ∃ k : Nat, k ≤ n ∧ i = .int .i64 ((k : Int) - 1) ∧ Hid (∃ v M, wr.heap[w2.heap.size]? = some (.cells #[v] 36 (0, 0)) ∧ OwnsN (fun g => w1.heap.size ≤ g ∧ g ≠ w2.heap.size) wr v M ∧ exN ds k M = exN ds n ns ∧ Chg (fun g => w1.heap.size ≤ g) w1 wr)) (fun i _ => (intOf i + 1).toNat)
    case atStart => exact ⟨n, Nat.le_refl _, rfl, Lib.hid ⟨_, ns, HS0.out.1, HS0.out.2.1, rfl, Below.chg HS0.out.2.2 _⟩⟩
    case round =>
      obtain ⟨k, hk, rfl, H⟩ := hrel
      obtain ⟨v, M, hbk, ho, hex, hch⟩ := H.out
      obtain ⟨av, cv, rfl⟩ := ho.reads.form
      have hb0 : Below w0.heap.size w0 wr := HB1.out.trans (hch.below HB1.out.size fun g hg => Nat.le_trans HB1.out.size hg)
      have hbw : Below w.heap.size w wr := below_step HB.out hb0
      cases k with
      | zero =>
        have y8 : wr.cell? ⟨w2.heap.size, 0, none⟩ = some (.slice av M.length cv) := (Go.Joins.cell_of_block hbk 0).trans rfl
        obtain ⟨-, z0, g0⟩ := HX.out wr hb0
        have hM : M = exN ds n ns := hex
        have hneg : decide (0 ≤ ((0 : Nat) : Int) - 1) = false := by decide
        have hfin : Hid (TermOut w (exB ds ns) (exR ds ns) (.returned (.tuple #[.agg #[.slice av M.length cv], .bool true])) (wr.setCell ⟨w.heap.size + 1, 0, none⟩ (.slice av M.length cv))) := by
          unfold exB exR
          rw [HYES.out, ← hM]
          have hc3 := Chg.set1 wr ⟨w.heap.size + 1, 0, none⟩ (.slice av M.length cv)
          have h8 := HS.out
          have h9 := HB1.out.size
          exact Lib.hid ⟨_, rfl, (ho.chg hc3 fun g hg e => by simp only at e; omega).mono fun g hg => by omega, hbw.trans (hc3.below hbw.size fun g hg => by simp only at hg; omega)⟩
        clear hbk ho hex hch hb0 hbw hM H
        go_wp2
        refine bodyPost_ret (v := .tuple #[.agg #[.slice av M.length cv], .bool true]) (by simp [results, Try.results40, go_sem, z0]) rfl ?_
        exact hfin.out
      | succ k =>
        have hkn : k < n := by omega
        obtain ⟨g, off, a1, c1, rfl, hg, hE⟩ := HC.out k (by rw [HN.out]; exact hkn)
        obtain ⟨d, hd⟩ : ∃ d, dAt ds k = d := ⟨_, rfl⟩
        have hex2 : exN ds k (inlN (dAt ds k) M) = exN ds n ns := hex
        have hge := HGE.out k (by omega) (inlN (dAt ds k) M)
        rw [hex2] at hge
        have h400 := H400.out
        rw [hd] at hE hge hex2
        have hbd : Below wr.heap.size wr wr.drew := ⟨rfl, rfl, rfl, Nat.le_refl _, fun _ _ => rfl⟩
        have hbwd := below_step hbw hbd
        have hcall := Lib.hid (lbInline_any (.slice av M.length cv) (.slice a1 d.body.length c1) d M (by omega) wr.drew (ho.reads.below hbd) (hE.2.2.2.2.below hbwd))
        have m0 : wr.drew.cell? ⟨w2.heap.size, 0, none⟩ = some (.slice av M.length cv) := (Go.Joins.cell_of_block hbk 0).trans rfl
        have m1 : wr.drew.cell? ⟨g, off + k * 4, none⟩ = some (.string d.name) := cell_old hbwd hE.1
        have m2 : wr.drew.cell? ⟨g, off + k * 4 + 1, none⟩ = some (.int .i64 d.inp) := cell_old hbwd hE.2.1
        have m3 : wr.drew.cell? ⟨g, off + k * 4 + 2, none⟩ = some (.int .i64 d.out) := cell_old hbwd hE.2.2.1
        have m4 : wr.drew.cell? ⟨g, off + k * 4 + 3, none⟩ = some (.slice a1 d.body.length c1) := cell_old hbwd hE.2.2.2.1
        have HCH := Lib.hid (hch.trans (Below.chg hbd _))
        have HBK := Lib.hid (show wr.drew.heap[w2.heap.size]? = some (.cells #[.slice av M.length cv] 36 (0, 0)) from hbk)
        have HEX2 := Lib.hid hex2
        have hlt8 : Hid (w2.heap.size < wr.drew.heap.size) := Lib.hid (Array.getElem?_eq_some_iff.1 hbk).1
        have hk1 : ((k + 1 : Nat) : Int) - 1 = (k : Int) := by omega
        have hkk : Int.ofNat (k + 1) - 1 = (k : Int) := by omega
        rw [hk1]
        have hge0 : decide (0 ≤ (k : Int)) = true := by simp
        have hk0 : 0 ≤ (k : Int) := by omega
        have hkn2 : (k : Int) < (n : Int) := by omega
        have hwk : IntKind.i64.wrap ((k : Int) - 1) = (k : Int) - 1 := IntWalk.i64_in _ (by omega)
        clear hbk ho hex hch hb0 hbw hE hd hex2 hge h400 hbd hbwd H hg hk1 hkk
        go_wp2
        go_region_law (first | (go_simp; (with_reducible refine hcall.out.mono ?_); rintro e w5 ⟨v5, rfl, ho5, hb5⟩; obtain ⟨a5, c5, rfl⟩ := ho5.reads.form; have n0 := cell_old hb5 m0; have f5 := Go.Joins.unfrozen_of_block (block_old HBK.out hb5) 0))
        all_goals
          have hnx : Hid (∃ v M', (w5.setCell ⟨w2.heap.size, 0, none⟩ (.slice a5 (inlN d M).length c5)).heap[w2.heap.size]? = some (.cells #[v] 36 (0, 0)) ∧ OwnsN (fun g => w1.heap.size ≤ g ∧ g ≠ w2.heap.size) (w5.setCell ⟨w2.heap.size, 0, none⟩ (.slice a5 (inlN d M).length c5)) v M' ∧ exN ds k M' = exN ds n ns ∧ Chg (fun g => w1.heap.size ≤ g) w1 (w5.setCell ⟨w2.heap.size, 0, none⟩ (.slice a5 (inlN d M).length c5))) := by
            have hc3 := Chg.set1 w5 ⟨w2.heap.size, 0, none⟩ (.slice a5 (inlN d M).length c5)
            have h1 := HCH.out.size
            have h2 := hlt8.out
            have h3 := HB2S.out
            exact Lib.hid ⟨_, inlN d M, Go.Joins.block_setCell (g := w2.heap.size) (i := 0) (block_old HBK.out hb5) _, (ho5.chg hc3 fun g hg e => by simp only at e; omega).mono fun g hg => ⟨by omega, by omega⟩, HEX2.out, (HCH.out.trans (Below.chg hb5 _)).trans (hc3.mono fun g _ hg => by simp only at hg; omega)⟩
          clear ho5 hb5 n0 f5
          go_wp2
          go_roundw
          case rel => exact ⟨k, by omega, by go_num, hnx⟩
          case measure => simp [intOf]

end Ints
end Go.Proofs.Ytlfcmlbffpmhkaa
