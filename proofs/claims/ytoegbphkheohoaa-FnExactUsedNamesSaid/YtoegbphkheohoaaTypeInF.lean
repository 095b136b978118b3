/- A term's type in a library: both. (Printed by wip/gen_typein.py.) -/
import Derived.Test.YtoegbphkheohoaaGoodS
import Derived.Test.YtoegbphkheohoaaGoodI
namespace Go.Proofs.Ytoegbphkheohoaa
open Go.RowKit
namespace Ints
open Fld (inR)

def typI (ds : List DefL) (ns : List NodeL) : Option (Int × Int) := if libB ds = true then typeOf ds ns else none
theorem typI_no {ds : List DefL} {ns : List NodeL} (h : libB ds = false) : typI ds ns = none := by simp [typI, h]
theorem typI_yes {ds : List DefL} {ns : List NodeL} (h : libB ds = true) : typI ds ns = typeOf ds ns := by simp [typI, h]

set_option maxRecDepth 100000 in
set_option maxHeartbeats 4000000 in
theorem isTermIn_any (vd vn : Value) (ds : List DefL) (ns : List NodeL) (hbd : totD ds ≤ 10000000000000) (hbn : totN ns ≤ 10000000000000) (w : World) (hd : ReadsD w vd ds) (h : ReadsN w vn ns) :
    Calls Try.prog 27 #[vd, .agg #[vn]] w fun e w' => e = .returned (.bool (typI ds ns).isSome) ∧ Below w.heap.size w w' := by
  obtain ⟨w0, hw0⟩ : ∃ W, W = w.alloc (.cells #[vn] 35) := ⟨_, rfl⟩
  have hB := Lib.hid (show Below w.heap.size w w0 by rw [hw0]; exact below_alloc (Below.refl _ _))
  have hg := Lib.hid (isLibrary_any vd ds hbd w0 (hd.below hB.out))
  have htp := Lib.hid (fun (hl : libB ds = true) W (hW : Below w.heap.size w W) => typingIn_any vd ds W (hd.below hW) (libB_all hl).2.2.2 (bigNames_of hbd (by have := (libB_all hl).1; omega)))
  have htd := Lib.hid (fun (hl : libB ds = true) W g b (hW : Below w.heap.size w W) (hT : TypSt W g b ds) {tp : Option (Int × Int)} {tb : Bool} (h1 : typeOf ds ns = tp) (h2 : tp.isSome = tb) => typed_b vn ns ds g b (libB_all hl).2.2.1 hbn W (h.below hW) hT h1 h2)
  have hx0 := Lib.hid (show w0.cell? ⟨w.heap.size, 0, none⟩ = some vn by rw [hw0]; simp [go_sem])
  have HW := Lib.hid hw0
  obtain ⟨a, cap, rfl⟩ := h.form
  obtain ⟨ad, capd, rfl⟩ := hd.form
  clear h hd hw0
  cases hl : libB ds with
  | false =>
    rw [typI_no hl]
    rw [hl] at hg
    clear hl htp htd
    go_enter Try.func27, Try.ntmps27
    go_wp2_with fail
    rw [← HW.out]
    refine hg.out.mono ?_
    rintro e w1 ⟨rfl, hb⟩
    have HB1 := Lib.hid (below_step hB.out hb)
    clear hb
    go_wp2
    go_ret
    exact ⟨rfl, HB1.out⟩
  | true =>
    rw [typI_yes hl]
    obtain ⟨tp, htpe⟩ : ∃ o, typeOf ds ns = o := ⟨_, rfl⟩
    obtain ⟨tb, htb⟩ : ∃ o, tp.isSome = o := ⟨_, rfl⟩
    have hti0 := Lib.hid (htp.out hl)
    have hty0 := Lib.hid (fun W g b hW hT => htd.out hl W g b hW hT htpe htb)
    rw [hl] at hg
    rw [htpe, htb]
    clear hl htp htd htpe htb
    go_enter Try.func27, Try.ntmps27
    go_wp2_with fail
    rw [← HW.out]
    refine hg.out.mono ?_
    rintro e W1 ⟨rfl, hb⟩
    have HB1 := Lib.hid (below_step hB.out hb)
    have Z0 : ∀ W, Below W1.heap.size W1 W → W.cell? ⟨w.heap.size, 0, none⟩ = some (.slice a ns.length cap) := fun W hW => cell_old hW (cell_old hb hx0.out)
    have hti := Lib.hid (fun W (hW : Below W1.heap.size W1 W) => hti0.out W (below_step HB1.out hW))
    have hty := Lib.hid (fun W g b (hW : Below W1.heap.size W1 W) hT => hty0.out W g b (below_step HB1.out hW) hT)
    clear hb hti0 hty0 hg hx0
    go_upto_region 3 with fail
    go_cut [5, 6] (fun bx okv W => ∃ gb x y, bx = .pointer (some ⟨gb, 0, none⟩) ∧ okv = .bool tb ∧ Hid ((∀ p, tp = some p → (x, y) = p) ∧ W.cell? ⟨gb, 0, none⟩ = some (.int .i64 x) ∧ W.cell? ⟨gb, 1, none⟩ = some (.int .i64 y) ∧ Below W1.heap.size W1 W))
    case first =>
      go_region_held3 (fun W => Below W1.heap.size W1 W)
        (first
          | ((repeat (first | exact Below.refl _ _ | assumption | apply below_alloc | refine Below.drew ?_ | refine below_step ?_ hb_2 | refine below_step ?_ hb_1)); done)
          | (refine (Below.setCell (p := ⟨_, 0, none⟩) ?_ (by first | exact hz_1 | (simp; done)) _).setCell (p := ⟨_, 1, none⟩) (by first | exact hz_1 | (simp; done)) _; (repeat (first | exact Below.refl _ _ | assumption | apply below_alloc | refine Below.drew ?_ | refine below_step ?_ hb_2 | refine below_step ?_ hb_1)); done))
        (first
          | (go_at_call 45; (with_reducible refine (hti.out _ (by (repeat (first | exact Below.refl _ _ | apply below_alloc | refine Below.drew ?_)))).mono ?_); rintro e w_1 ⟨g_1, b_1, rfl, hst_1, hb_1⟩; have hz_1 : W1.heap.size ≤ w_1.heap.size := (show Below W1.heap.size W1 w_1 by (repeat (first | exact Below.refl _ _ | assumption | apply below_alloc | refine Below.drew ?_ | refine below_step ?_ hb_1))).size; (first | (have y0 := cell_old hb_1 (new_cellsD W1 _ _ _).1; have y1 := cell_old hb_1 (new_cellsD W1 _ _ _).2.1; have f0 := frozen_old hb_1 (lt_of_cell (new_cellsD W1 _ _ _).1) (new_cellsD W1 _ _ _).2.2.1; have f1 := frozen_old hb_1 (lt_of_cell (new_cellsD W1 _ _ _).2.1) (new_cellsD W1 _ _ _).2.2.2) | (have y0 := cell_old hb_1 (new_cells W1 _ _ _).1; have y1 := cell_old hb_1 (new_cells W1 _ _ _).2.1; have f0 := frozen_old hb_1 (lt_of_cell (new_cells W1 _ _ _).1) (new_cells W1 _ _ _).2.2.1; have f1 := frozen_old hb_1 (lt_of_cell (new_cells W1 _ _ _).2.1) (new_cells W1 _ _ _).2.2.2) | skip))
          | (go_at_call 44; (with_reducible refine (hty.out _ _ _ (by (repeat (first | exact Below.refl _ _ | assumption | apply below_alloc | refine Below.drew ?_ | refine below_step ?_ hb_1))) (hst_1.below (by (repeat (first | exact Below.refl _ _ | apply below_alloc | refine Below.drew ?_))))).mono ?_); rintro e w_2 ⟨x_2, y_2, rfl, hq_2, hb_2⟩; (first | (have u0 := cell_old hb_2 y0; have u1 := cell_old hb_2 y1; have v0 := frozen_old hb_2 (lt_of_cell y0) f0; have v1 := frozen_old hb_2 (lt_of_cell y1) f1) | (have u0 := cell_old hb_2 (new_cells w_1 _ _ _).1; have u1 := cell_old hb_2 (new_cells w_1 _ _ _).2.1; have v0 := frozen_old hb_2 (lt_of_cell (new_cells w_1 _ _ _).1) (new_cells w_1 _ _ _).2.2.1; have v1 := frozen_old hb_2 (lt_of_cell (new_cells w_1 _ _ _).2.1) (new_cells w_1 _ _ _).2.2.2) | (have u0 := cell_old hb_2 (new_cellsD w_1 _ _ _).1; have u1 := cell_old hb_2 (new_cellsD w_1 _ _ _).2.1; have v0 := frozen_old hb_2 (lt_of_cell (new_cellsD w_1 _ _ _).1) (new_cellsD w_1 _ _ _).2.2.1; have v1 := frozen_old hb_2 (lt_of_cell (new_cellsD w_1 _ _ _).2.1) (new_cellsD w_1 _ _ _).2.2.2) | skip)))
      all_goals go_wp2
      all_goals go_meet
      all_goals first
        | exact ⟨_, x_2, y_2, rfl, rfl, Lib.hid ⟨hq_2, by simp [go_sem], by simp [go_sem], by assumption⟩⟩
        | exact ⟨_, x_2, y_2, rfl, rfl, Lib.hid ⟨hq_2, by simp [go_sem, u0], by simp [go_sem, u1], by assumption⟩⟩
    case rest =>
    obtain ⟨gb, x, y, rfl, rfl, HJ⟩ := hcut
    obtain ⟨W2, hW2⟩ : ∃ W, W = wc := ⟨_, rfl⟩
    rw [← hW2] at HJ ⊢
    clear hW2 wc
    have HB2 := HJ.out.2.2.2
    have e0 := HJ.out.2.1
    have e1 := HJ.out.2.2.1
    have HF := Lib.hid (below_step HB1.out HB2)
    clear HB2 e0 e1 Z0 hti hty
    go_wp2
    go_ret
    exact ⟨rfl, HF.out⟩

end Ints
end Go.Proofs.Ytoegbphkheohoaa
