/- Folding: the program's FoldName. -/
import Derived.Test.YtoegbphkheohoaaFoldQ
import Derived.Test.YtoegbphkheohoaaFolD
import Derived.Test.YtoegbphkheohoaaInlI
namespace Go.Proofs.Ytoegbphkheohoaa
open Go.RowKit
namespace Ints

set_option maxRecDepth 100000 in
set_option maxHeartbeats 4000000 in
theorem implFN_any (vd vn : Value) (ds : List DefL) (ns : List NodeL) (s : ByteArray) (hbd : totD ds ≤ 1048576) (hbn : totN ns ≤ 1048576) (w : World) (hd : ReadsD w vd ds) (h : ReadsN w vn ns) :
    Calls Try.prog 19 #[vd, .agg #[vn], .string s] w (TermOut w (fnB ds ns s) (fnR ds ns s)) := by
  obtain ⟨w0, hw0⟩ : ∃ W, W = (w.alloc (.cells #[vn] 35)).alloc (.cells #[.slice none 0 0] 35) := ⟨_, rfl⟩
  have hB : Below w.heap.size w w0 := by rw [hw0]; exact below_alloc (below_alloc (Below.refl _ _))
  have hs0 : w0.heap.size = w.heap.size + 2 := by rw [hw0]; simp
  have HF := Lib.hid (fun W (hW : Below w.heap.size w W) => indexOf_any vd ds s W (hd.below hW))
  have HT := Lib.hid (isNamed_any vd vn ds ns s hbd hbn w0 (hd.below hB) (h.below hB))
  have HRN := Lib.hid h
  obtain ⟨ad, cd, rfl, hm, hc⟩ := open_readsD hd
  obtain ⟨an, cn, rfl⟩ := h.form
  have q1 : w0.heap[w.heap.size]? = some (.cells #[.slice an ns.length cn] 35 (0, 0)) := by
    rw [hw0]
    exact block_old (heap_alloc_new w _) (below_alloc (Below.refl _ _))
  have q2 : w0.heap[w.heap.size + 1]? = some (.cells #[.slice none 0 0] 35 (0, 0)) := by
    rw [hw0]
    have := heap_alloc_new (w.alloc (.cells #[.slice an ns.length cn] 35)) (.cells #[.slice none 0 0] 35)
    simpa using this
  have HX := Lib.hid (show ∀ W, Below w0.heap.size w0 W → W.cell? ⟨w.heap.size, 0, none⟩ = some (.slice an ns.length cn) ∧ W.cell? ⟨w.heap.size + 1, 0, none⟩ = some (.slice none 0 0) ∧ W.frozen? ⟨w.heap.size + 1, 0, none⟩ = false from fun W hW =>
    ⟨(Go.Joins.cell_of_block (block_old q1 hW) 0).trans rfl, (Go.Joins.cell_of_block (block_old q2 hW) 0).trans rfl, Go.Joins.unfrozen_of_block (block_old q2 hW) 0⟩)
  have HB := Lib.hid hB
  have HS := Lib.hid hs0
  have HW := Lib.hid hw0
  have HC := Lib.hid hc
  obtain ⟨n, hn⟩ : ∃ n, ds.length = n := ⟨_, rfl⟩
  have HN := Lib.hid hn
  rw [hn] at hm ⊢
  rw [hn] at HF HT
  obtain ⟨tp, htp⟩ : ∃ b, typI ds ns = b := ⟨_, rfl⟩
  have HTY := Lib.hid (fun p (e : tp = some p) => (typI_lib (htp.trans e)).2)
  have HIO : Hid (fnO ds ns s = if tp.isSome = true then (match findD ds s with
    | some k => some (folR (dAt ds k).body s ns)
    | none => none) else none) := by rw [← htp]; rfl
  rw [htp] at HT
  unfold fnR fnB
  obtain ⟨fo, hfo⟩ : ∃ f, findD ds s = f := ⟨_, rfl⟩
  have hlt : ∀ k, fo = some k → k < n := fun k e => by rw [← hn]; exact findD_lt (hfo.trans e)
  rw [hfo] at HF HIO HT
  clear hd h hw0 hB hs0 q1 q2 hc hn htp hfo hbd hbn
  by_cases hok : (∃ p, tp = some p) ∧ ∃ k, fo = some k
  · obtain ⟨⟨p, rfl⟩, k, rfl⟩ := hok
    have hty := HTY.out p rfl
    have hix : idxI (some k) = (k : Int) := rfl
    rw [hix] at HF
    have hkn := hlt k rfl
    obtain ⟨g, off, a1, c1, rfl, hg, hE⟩ := HC.out k (by rw [HN.out]; exact hkn)
    obtain ⟨d, hd⟩ : ∃ d, dAt ds k = d := ⟨_, rfl⟩
    have hio := HIO.out
    rw [if_pos (show (some p).isSome = true from rfl)] at hio
    dsimp only at hio
    rw [hd] at hE hio
    rw [show ((some p).isSome && (some k).isSome) = true from rfl] at HT
    have hk0 : 0 ≤ (k : Int) := by omega
    have hkn2 : (k : Int) < (n : Int) := by omega
    obtain ⟨body, hbody⟩ : ∃ b, d.body = b := ⟨_, rfl⟩
    obtain ⟨mb, hmb⟩ : ∃ m, body.length = m := ⟨_, rfl⟩
    have HE := Lib.hid (fun W (hW : Below w.heap.size w W) => (hE.below hW).2.2.2)
    rw [hbody, hmb] at HE
    rw [hbody] at hio
    have HTR := Lib.hid (fun v W (hW : ReadsN W v ns) => treeOf_any v ns ds p hty W hW)
    obtain ⟨-, htn, -, -, hl4, -⟩ := tree_of hty
    have HFO := Lib.hid (fun vb W (hW : ReadsN W vb body) => folded_any vb body s (treeN ns) (by rw [htn]; omega) W hW)
    have hfl := fold_len body s (treeN ns)
    obtain ⟨ty, u, f, hv, ⟨hme, hen⟩, hca⟩ := reach_any (foldT body s (treeN ns)) (by rw [htn] at hfl; omega)
    unfold FoldOut at HFO
    rw [hv] at HFO
    have HCA := Lib.hid hca
    obtain ⟨tyt, ut, hvt⟩ := valT_form (treeN ns)
    rw [hvt] at HFO HTR
    have hR : folR body s ns = nodesT (foldT body s (treeN ns)) := rfl
    obtain ⟨R, hRR⟩ : ∃ R, nodesT (foldT body s (treeN ns)) = R := ⟨_, rfl⟩
    rw [hR, hRR] at hio
    rw [hRR] at HCA
    rw [hio]
    clear hE hio hd hbody hty htn hl4 hfl hv hca hvt hR hRR hg
    go_enter Try.func19, Try.ntmps19
    go_wp2_with fail
    rw [← HW.out]
    refine HT.out.mono ?_
    rintro e w1 ⟨rfl, hb1⟩
    have HB1 := Lib.hid hb1
    clear hb1
    go_wp2_with fail
    refine (HF.out _ (below_step HB.out HB1.out)).mono ?_
    rintro e w2 ⟨rfl, hb2⟩
    have HB2 := Lib.hid (below_step HB1.out hb2)
    have hq := HE.out _ (below_step HB.out HB2.out)
    have x3 := hq.1
    have HRB := Lib.hid hq.2
    obtain ⟨y0, -, -⟩ := HX.out _ HB2.out
    clear hb2 hq
    go_wp2_with fail
    refine (HTR.out _ _ (HRN.out.below (below_step HB.out HB2.out))).mono ?_
    rintro e w3 ⟨rfl, hb3⟩
    have HB3 := Lib.hid (below_step HB2.out hb3)
    have HRB3 := Lib.hid (HRB.out.below hb3)
    clear hb3 x3 y0
    go_wp2_with fail
    refine (HFO.out _ _ HRB3.out).mono ?_
    rintro e w4 ⟨rfl, hb4⟩
    have HB4 := Lib.hid (below_step HB3.out hb4)
    clear hb4
    go_wp2_with fail
    refine (HCA.out _).mono ?_
    rintro e w5 ⟨v5, rfl, ho5, hb5⟩
    have HB5 := Lib.hid (below_step HB4.out hb5)
    have hge := HB4.out.size
    obtain ⟨ao, co, rfl⟩ := ho5.reads.form
    have HO := Lib.hid ho5
    obtain ⟨-, z0, g0⟩ := HX.out _ HB5.out
    clear ho5 hb5
    have hfin : Hid (TermOut w (some R).isSome ((some R).getD []) (.returned (.tuple #[.agg #[.slice ao R.length co], .bool true])) (w5.setCell ⟨w.heap.size + 1, 0, none⟩ (.slice ao R.length co))) := by
      have hc3 := Chg.set1 w5 ⟨w.heap.size + 1, 0, none⟩ (.slice ao R.length co)
      have h7 := below_step HB.out HB5.out
      have h8 := HS.out
      exact Lib.hid ⟨_, rfl, (HO.out.chg hc3 fun g hg e => by simp only at e; omega).mono fun g hg => by omega, h7.trans (hc3.below h7.size fun g hg => by simp only at hg; omega)⟩
    clear hge
    go_wp2
    refine bodyPost_ret (v := .tuple #[.agg #[.slice ao R.length co], .bool true]) (by simp [results, Try.results19, go_sem, z0]) rfl ?_
    exact hfin.out
  · have hio : fnO ds ns s = none := by
      rw [HIO.out]
      cases tp with
      | none => rfl
      | some p =>
        cases fo with
        | none => rfl
        | some k => exact absurd ⟨⟨p, rfl⟩, k, rfl⟩ hok
    have hff : (tp.isSome && fo.isSome) = false := by
      cases tp with
      | none => rfl
      | some p =>
        cases fo with
        | none => rfl
        | some k => exact absurd ⟨⟨p, rfl⟩, k, rfl⟩ hok
    rw [hff] at HT
    rw [hio]
    clear hio hff hok hlt
    go_enter Try.func19, Try.ntmps19
    go_wp2_with fail
    rw [← HW.out]
    refine HT.out.mono ?_
    rintro e w1 ⟨rfl, hb1⟩
    obtain ⟨-, y0, f0⟩ := HX.out w1 hb1
    have HB1 := Lib.hid hb1
    clear hb1
    go_wp2
    refine bodyPost_ret (v := .tuple #[.agg #[.slice none 0 0], .bool false]) (by simp [results, Try.results19, go_sem, y0]) rfl ?_
    have h7 := below_step HB.out HB1.out
    have hc3 := Chg.set1 w1 ⟨w.heap.size + 1, 0, none⟩ (.slice none 0 0)
    exact ⟨_, rfl, ownsN_nil _ _, h7.trans (hc3.below h7.size fun g hg => by simp only at hg; omega)⟩

end Ints
end Go.Proofs.Ytoegbphkheohoaa
