/- A valid library and a term's type: the program. (Printed by wip/gen_goodi.py.) -/
import Derived.Test.YtoegbphkheohoaaTypeF
import Derived.Test.YtoegbphkheohoaaGoodP
import Derived.Test.YtoegbphkheohoaaFind
import Derived.Deep.RegionHeld3
import Derived.Deep.DeepCutAuto
import Derived.Deep.QuietTactic
import Derived.BigQuiet
import Derived.OwnWalk
namespace Go.Proofs.Ytoegbphkheohoaa
open Go.RowKit
namespace Ints
open Fld (inR)

theorem eqWires (a b c d : Int) (w : World) : (Op.equalIn 10000 83 (.agg #[.int .i64 a, .int .i64 b]) (.agg #[.int .i64 c, .int .i64 d])).run Try.prog w = .ok (a == c && b == d) w := by
  have u3 := Try.underlying3
  have a3 := Try.isAgg3
  have z3 := Try.sizeOf3
  have hS : Try.prog.underlying 83 = some (.struct (Try.prog.fieldsOf 83)) := by kernel_rfl
  rw [show (10000 : Nat) = 9999 + 1 from rfl, run_equalIn_agg w 9999 83 _ _ hS (by kernel_rfl)]
  simp only [Program.fieldsOf, Try.underlying83]
  go_simp
  by_cases h1 : a = c <;> by_cases h2 : b = d <;> simp [h1, h2]
theorem defB_of {ds : List DefL} {k : Nat} {nb : Bool} {fd : Option Nat} {tp : Option (Int × Int)} {pi po : Int} (h1 : nameB (dAt ds k).name = nb) (h2 : findD (ds.take k) (dAt ds k).name = fd) (h3 : typeOf (ds.take k) (dAt ds k).body = tp) (h4 : (dAt ds k).inp = pi) (h5 : (dAt ds k).out = po) : defB ds k = (nb && fd.isNone && (tp == some (pi, po))) := by
  unfold defB
  rw [h1, h2, h3, h4, h5]
theorem typed_b (v : Value) (ns : List NodeL) (ds : List DefL) (g b : Nat) (hbd : bndD ds) (hbig : totN ns ≤ 10000000000000) (w : World) (h : ReadsN w v ns) (hT : TypSt w g b ds) {tp : Option (Int × Int)} {tb : Bool} (h1 : typeOf ds ns = tp) (h2 : tp.isSome = tb) :
    Calls Try.prog 44 #[v, .func (.func 58) #[] #[.pointer (some ⟨g, 0, none⟩)]] w fun e w' => ∃ a b, e = .returned (.tuple #[.agg #[.int .i64 a, .int .i64 b], .bool tb]) ∧ (∀ p, tp = some p → (a, b) = p) ∧ Below w.heap.size w w' := by
  subst h1 h2
  exact typed_any v ns ds g b hbd hbig w h hT
theorem new_cells (W : World) (x y : Value) (t : TypeId) : (W.alloc (.cells #[x, y] t)).cell? ⟨W.heap.size, 0, none⟩ = some x ∧ (W.alloc (.cells #[x, y] t)).cell? ⟨W.heap.size, 1, none⟩ = some y ∧ (W.alloc (.cells #[x, y] t)).frozen? ⟨W.heap.size, 0, none⟩ = false ∧ (W.alloc (.cells #[x, y] t)).frozen? ⟨W.heap.size, 1, none⟩ = false := by
  simp [go_sem]
theorem new_cellsD (W : World) (x y : Value) (t : TypeId) : (W.alloc (.cells #[x, y] t)).drew.cell? ⟨W.heap.size, 0, none⟩ = some x ∧ (W.alloc (.cells #[x, y] t)).drew.cell? ⟨W.heap.size, 1, none⟩ = some y ∧ (W.alloc (.cells #[x, y] t)).drew.frozen? ⟨W.heap.size, 0, none⟩ = false ∧ (W.alloc (.cells #[x, y] t)).drew.frozen? ⟨W.heap.size, 1, none⟩ = false := by
  simp [go_sem]
/-- The type and the test of it, in the words of the walk. -/
theorem typ_of {tp : Option (Int × Int)} {x y pi po : Int} (h : ∀ p, tp = some p → (x, y) = p) : (tp == some (pi, po)) = (tp.isSome && (x == pi && y == po)) := by
  cases tp with
  | none => rfl
  | some p =>
    obtain rfl := h p rfl
    rfl

set_option maxRecDepth 100000 in
set_option maxHeartbeats 4000000 in
theorem isLibrary_any (v : Value) (ds : List DefL) (hbig : totD ds ≤ 10000000000000) (w : World) (h : ReadsD w v ds) : Calls Try.prog 43 #[v] w fun e w' => e = .returned (.bool (libB ds)) ∧ Below w.heap.size w w' := by
  obtain ⟨a, cap, rfl, hm, hc⟩ := open_readsD h
  obtain ⟨n, hn⟩ : ∃ n, ds.length = n := ⟨_, rfl⟩
  have HTK := Lib.hid (show ∀ W, Below w.heap.size w W → ∀ k, k ≤ n → k ≤ cap ∧ ReadsD W (.slice a k cap) (ds.take k) from fun W hW k hk => (reads_take (h.below hW) (by omega)).2)
  have HN := Lib.hid hn
  have HC := Lib.hid hc
  have HBG := Lib.hid hbig
  obtain ⟨r, hr⟩ : ∃ r, libB ds = r := ⟨_, rfl⟩
  have HR := Lib.hid hr
  rw [hr]
  rw [hn] at hm ⊢
  clear h hc hn hr hbig
  by_cases h12 : n ≤ 12
  · have d12 : decide ((12 : Int) < (n : Int)) = false := by simp; omega
    have HBN := Lib.hid (bigNames_of HBG.out (by rw [HN.out]; omega))
    have hno := Lib.hid (fun k (hk : k < n) (h : defB ds k = false) => HR.out.symm.trans (libB_no (ds := ds) (k := k) (by rw [HN.out]; exact hk) h))
    go_enter Try.func43, Try.ntmps43
    go_wp2
    go_loopw [12] (fun i wr => ∃ k : Nat, k ≤ n ∧ i = .int .i64 k ∧ Hid ((∀ j, j < k → defB ds j = true) ∧ Below w.heap.size w wr)) (fun i _ => n + 1 - (intOf i).toNat)
    case atStart => exact ⟨0, by omega, rfl, Lib.hid ⟨fun j hj => by omega, Below.refl _ _⟩⟩
    case round =>
      obtain ⟨k, hk, rfl, H⟩ := hrel
      by_cases hlt : k < n
      · obtain ⟨g, off, a1, c1, rfl, hg, hE⟩ := HC.out k (by rw [HN.out]; exact hlt)
        obtain ⟨x0, x1, x2, x3, hbody⟩ := hE.below H.out.2
        have hk0 : 0 ≤ (k : Int) := by omega
        have hkn : (k : Int) < (n : Int) := by omega
        have hkn' : (k : Int) ≤ (n : Int) := by omega
        obtain ⟨hkc, hrd⟩ := HTK.out wr H.out.2 k hk
        have hkc' : (k : Int) ≤ (cap : Int) := by omega
        obtain ⟨W1, hW1⟩ : ∃ W, W = wr.alloc (.cells #[.string (dAt ds k).name, .int .i64 (dAt ds k).inp, .int .i64 (dAt ds k).out, .slice a1 (dAt ds k).body.length c1] 55) := ⟨_, rfl⟩
        have HBW := Lib.hid (show Below wr.heap.size wr W1 by rw [hW1]; exact below_alloc (Below.refl _ _))
        have hnm := Lib.hid (fun W => isName_any (dAt ds k).name W)
        have hfd := Lib.hid (fun W (hW : Below W1.heap.size W1 W) => indexOf_any _ (ds.take k) (dAt ds k).name W ((hrd.below HBW.out).below hW))
        have hpre := prefix_good (ds := ds) k (by rw [HN.out]; exact hk) H.out.1
        have hbt : totN (dAt ds k).body ≤ 10000000000000 := by
          have := cellsD_le ds k (by rw [HN.out]; exact hlt)
          have := HBG.out
          unfold cellsD at *
          omega
        have hti := Lib.hid (fun W (hW : Below W1.heap.size W1 W) => typingIn_any _ (ds.take k) W ((hrd.below HBW.out).below hW) hpre.2 (big_take HBN.out k))
        have z0 : W1.cell? ⟨wr.heap.size, 0, none⟩ = some (.string (dAt ds k).name) := by rw [hW1]; simp [go_sem]
        have z1 : W1.cell? ⟨wr.heap.size, 1, none⟩ = some (.int .i64 (dAt ds k).inp) := by rw [hW1]; simp [go_sem]
        have z2 : W1.cell? ⟨wr.heap.size, 2, none⟩ = some (.int .i64 (dAt ds k).out) := by rw [hW1]; simp [go_sem]
        have z3 : W1.cell? ⟨wr.heap.size, 3, none⟩ = some (.slice a1 (dAt ds k).body.length c1) := by rw [hW1]; simp [go_sem]
        have hstep := Lib.hid (fun (h : defB ds k = true) (j : Nat) (hj : j < k + 1) => show defB ds j = true from by
          by_cases hjk : j < k
          · exact H.out.1 j hjk
          · obtain rfl : j = k := by omega
            exact h)
        have hnok := Lib.hid (hno.out k hlt)
        have HBR := Lib.hid (below_step H.out.2 HBW.out)
        obtain ⟨nb, hnb⟩ : ∃ b, nameB (dAt ds k).name = b := ⟨_, rfl⟩
        obtain ⟨fd, hfd2⟩ : ∃ o, findD (ds.take k) (dAt ds k).name = o := ⟨_, rfl⟩
        obtain ⟨tp, htp⟩ : ∃ o, typeOf (ds.take k) (dAt ds k).body = o := ⟨_, rfl⟩
        obtain ⟨pi, hpi⟩ : ∃ s, (dAt ds k).inp = s := ⟨_, rfl⟩
        obtain ⟨po, hpo⟩ : ∃ s, (dAt ds k).out = s := ⟨_, rfl⟩
        have hde := Lib.hid (defB_of hnb hfd2 htp hpi hpo)
        rw [hnb] at hnm
        rw [hfd2] at hfd
        obtain ⟨tb, htb⟩ : ∃ o, tp.isSome = o := ⟨_, rfl⟩
        have hty := Lib.hid (fun W g b (hW : Below W1.heap.size W1 W) (hT : TypSt W g b (ds.take k)) => typed_b _ (dAt ds k).body (ds.take k) g b hpre.1 hbt W ((hbody.below HBW.out).below hW) hT htp htb)
        obtain ⟨jv, hjv⟩ : ∃ o, idxI fd = o := ⟨_, rfl⟩
        rw [hjv] at hfd
        obtain ⟨s, hs⟩ : ∃ s, (dAt ds k).name = s := ⟨_, rfl⟩
        obtain ⟨bl, hbl⟩ : ∃ s, (dAt ds k).body.length = s := ⟨_, rfl⟩
        rw [hs] at x0 z0 hW1 hnm hfd
        rw [hpi] at x1 z1 hW1
        rw [hpo] at x2 z2 hW1
        rw [hbl] at x3 z3 hW1 hty
        have HW1 := Lib.hid hW1
        have HTB := Lib.hid htb
        have Z0 : ∀ W, Below W1.heap.size W1 W → W.cell? ⟨wr.heap.size, 0, none⟩ = some (.string s) := fun W hW => cell_old hW z0
        have Z1 : ∀ W, Below W1.heap.size W1 W → W.cell? ⟨wr.heap.size, 1, none⟩ = some (.int .i64 pi) := fun W hW => cell_old hW z1
        have Z2 : ∀ W, Below W1.heap.size W1 W → W.cell? ⟨wr.heap.size, 2, none⟩ = some (.int .i64 po) := fun W hW => cell_old hW z2
        have Z3 : ∀ W, Below W1.heap.size W1 W → W.cell? ⟨wr.heap.size, 3, none⟩ = some (.slice a1 bl c1) := fun W hW => cell_old hW z3
        clear hE hnb hfd2 htp htb hs hpi hpo hbl hW1 hrd hbody hpre hg hbt z0 z1 z2 z3
        go_upto_region 6 with fail
        rw [← HW1.out]
        go_cut [5, 6] (fun bx okv W => ∃ gb x y, bx = .pointer (some ⟨gb, 0, none⟩) ∧ okv = .bool tb ∧ Hid ((∀ p, tp = some p → (x, y) = p) ∧ W.cell? ⟨gb, 0, none⟩ = some (.int .i64 x) ∧ W.cell? ⟨gb, 1, none⟩ = some (.int .i64 y) ∧ Below W1.heap.size W1 W))
        case first =>
          go_region_held3 (fun W => Below W1.heap.size W1 W)
            (first
              | ((repeat (first | exact Below.refl _ _ | assumption | apply below_alloc | refine Below.drew ?_ | refine below_step ?_ hb_2 | refine below_step ?_ hb_1)); done)
              | (refine (Below.setCell (p := ⟨_, 0, none⟩) ?_ (by first | exact hz_1 | (simp; done)) _).setCell (p := ⟨_, 1, none⟩) (by first | exact hz_1 | (simp; done)) _; (repeat (first | exact Below.refl _ _ | assumption | apply below_alloc | refine Below.drew ?_ | refine below_step ?_ hb_2 | refine below_step ?_ hb_1)); done))
            (first
              | (go_at_call 45; (with_reducible refine (hti.out _ (by (repeat (first | exact Below.refl _ _ | apply below_alloc | refine Below.drew ?_)))).mono ?_); rintro e w_1 ⟨g_1, b_1, rfl, hst_1, hb_1⟩; have hz_1 : W1.heap.size ≤ w_1.heap.size := (show Below W1.heap.size W1 w_1 by (repeat (first | exact Below.refl _ _ | assumption | apply below_alloc | refine Below.drew ?_ | refine below_step ?_ hb_1))).size; (first | (have y0 := cell_old hb_1 (new_cellsD W1 _ _ _).1; have y1 := cell_old hb_1 (new_cellsD W1 _ _ _).2.1; have f0 := frozen_old hb_1 (lt_of_cell (new_cellsD W1 _ _ _).1) (new_cellsD W1 _ _ _).2.2.1; have f1 := frozen_old hb_1 (lt_of_cell (new_cellsD W1 _ _ _).2.1) (new_cellsD W1 _ _ _).2.2.2) | (have y0 := cell_old hb_1 (new_cells W1 _ _ _).1; have y1 := cell_old hb_1 (new_cells W1 _ _ _).2.1; have f0 := frozen_old hb_1 (lt_of_cell (new_cells W1 _ _ _).1) (new_cells W1 _ _ _).2.2.1; have f1 := frozen_old hb_1 (lt_of_cell (new_cells W1 _ _ _).2.1) (new_cells W1 _ _ _).2.2.2) | skip))
              | (go_at_call 44; (with_reducible refine (hty.out _ _ _ (by (repeat (first | exact Below.refl _ _ | assumption | apply below_alloc | refine Below.drew ?_ | refine below_step ?_ hb_1))) (hst_1.below (by (repeat (first | exact Below.refl _ _ | apply below_alloc | refine Below.drew ?_))))).mono ?_); rintro e w_2 ⟨x_2, y_2, rfl, hq_2, hb_2⟩; (first | (have u0 := cell_old hb_2 y0; have u1 := cell_old hb_2 y1; have v0 := frozen_old hb_2 (lt_of_cell y0) f0; have v1 := frozen_old hb_2 (lt_of_cell y1) f1) | (have u0 := cell_old hb_2 (new_cells w_1 _ _ _).1; have u1 := cell_old hb_2 (new_cells w_1 _ _ _).2.1; have v0 := frozen_old hb_2 (lt_of_cell (new_cells w_1 _ _ _).1) (new_cells w_1 _ _ _).2.2.1; have v1 := frozen_old hb_2 (lt_of_cell (new_cells w_1 _ _ _).2.1) (new_cells w_1 _ _ _).2.2.2) | (have u0 := cell_old hb_2 (new_cellsD w_1 _ _ _).1; have u1 := cell_old hb_2 (new_cellsD w_1 _ _ _).2.1; have v0 := frozen_old hb_2 (lt_of_cell (new_cellsD w_1 _ _ _).1) (new_cellsD w_1 _ _ _).2.2.1; have v1 := frozen_old hb_2 (lt_of_cell (new_cellsD w_1 _ _ _).2.1) (new_cellsD w_1 _ _ _).2.2.2) | skip)))
          all_goals go_wp2
          all_goals go_meet
          all_goals first
            | exact ⟨_, x_2, y_2, rfl, rfl, Lib.hid ⟨hq_2, by simp [go_sem], by simp [go_sem], by assumption⟩⟩
            | exact ⟨_, x_2, y_2, rfl, rfl, Lib.hid ⟨hq_2, by simp [go_sem, u0], by simp [go_sem, u1], by assumption⟩⟩
        case rest =>
        obtain ⟨gb, x, y, rfl, rfl, HJ⟩ := hcut
        obtain ⟨W2, hW2⟩ : ∃ W, W = wc := ⟨_, rfl⟩
        rw [← hW2] at HJ ⊢
        clear hW2 wc
        have HB2 := HJ.out.2.2.2
        have e0 := HJ.out.2.1
        have e1 := HJ.out.2.2.1
        have hdf : Hid (defB ds k = (nb && fd.isNone && (tb && (x == pi && y == po)))) := by
          show _ = _
          rw [hde.out, typ_of HJ.out.1, HTB.out]
        have heq := fun W => eqWires x y pi po W
        obtain ⟨cq, hcq⟩ : ∃ b, (x == pi && y == po) = b := ⟨_, rfl⟩
        rw [hcq] at hdf heq
        clear hcq hti hty hde HJ HTB
        cases tb with
        | false =>
          have hrf := Lib.hid (hnok.out (by rw [hdf.out]; simp))
          have HF := Lib.hid (below_step HBR.out HB2)
          have z0 := Z0 _ HB2
          clear Z0 Z1 Z2 Z3 x0 x1 x2 x3
          go_upto_region 7 with fail
          go_quiet (fail)
          go_wp2
          go_ret
          exact ⟨ret_bool hrf.out.symm, Below.drewN' HF.out _⟩
        | true =>
          cases cq with
          | false =>
            have hrf := Lib.hid (hnok.out (by rw [hdf.out]; simp))
            have HF := Lib.hid (below_step HBR.out HB2)
            have z1 := Z1 _ HB2
            have z2 := Z2 _ HB2
            clear Z0 Z1 Z2 Z3 x0 x1 x2 x3
            go_upto_region 7 with fail
            go_quiet (fail)
            go_wp2
            go_ret
            exact ⟨ret_bool hrf.out.symm, Below.drewN' HF.out _⟩
          | true =>
            obtain ⟨W3, hW3⟩ : ∃ W, W = W2 := ⟨_, rfl⟩
            have Y0 : ∀ W, Below W2.heap.size W2 W → W.cell? ⟨wr.heap.size, 0, none⟩ = some (.string s) := fun W hW => cell_old hW (Z0 _ HB2)
            have Y1 : ∀ W, Below W2.heap.size W2 W → W.cell? ⟨wr.heap.size, 1, none⟩ = some (.int .i64 pi) := fun W hW => cell_old hW (Z1 _ HB2)
            have Y2 : ∀ W, Below W2.heap.size W2 W → W.cell? ⟨wr.heap.size, 2, none⟩ = some (.int .i64 po) := fun W hW => cell_old hW (Z2 _ HB2)
            have E0 : ∀ W, Below W2.heap.size W2 W → W.cell? ⟨gb, 0, none⟩ = some (.int .i64 x) := fun W hW => cell_old hW e0
            have E1 : ∀ W, Below W2.heap.size W2 W → W.cell? ⟨gb, 1, none⟩ = some (.int .i64 y) := fun W hW => cell_old hW e1
            have hfe := Lib.hid (fun W (hW : Below W2.heap.size W2 W) => hfd.out W (below_step HB2 hW))
            have HF2 := Lib.hid (below_step HBR.out HB2)
            clear hfd hW3 W3 Z0 Z1 Z2 Z3 x0 x1 x2 x3
            go_upto_region 7 with fail
            cases nb with
            | false =>
              have hrf := Lib.hid (hnok.out (by rw [hdf.out]; simp))
              clear HB2 e0 e1
              refine wp_region_held_drew (S := fun W => Below W2.heap.size W2 W) (by kernel_rfl) (Below.refl _ _).drew (fun hHeld => ?_)
              refine wpAnyH_take (i := 0) (v := ?_) rfl (by kernel_rfl) (by kernel_rfl) (by kernel_rfl) (fun _ _ _ h => h) (Or.inl ⟨by rfl, ?_⟩) hHeld ?_
              rotate_left
              · (intro w hSw; (try dsimp only at hSw); go_simp; try with_reducible rfl)
              try simp only [List.getElem_toArray, List.getElem_cons_zero, Act.put, List.setIfInBounds_toArray, List.set_cons_zero, List.set_cons_succ]
              refine wpAnyH_take (i := 1) (v := ?_) rfl (by kernel_rfl) (by kernel_rfl) (by kernel_rfl) (fun _ _ _ h => h) (Or.inl ⟨by rfl, ?_⟩) hHeld ?_
              rotate_left
              · (intro w hSw; (try dsimp only at hSw); go_simp; try with_reducible rfl)
              try simp only [List.getElem_toArray, List.getElem_cons_succ, List.getElem_cons_zero, Act.put, List.setIfInBounds_toArray, List.set_cons_zero, List.set_cons_succ]
              refine wpAnyH_take (i := 2) (v := ?_) rfl (by kernel_rfl) (by kernel_rfl) (by kernel_rfl) (fun _ _ _ h => h) (Or.inl ⟨by rfl, ?_⟩) hHeld ?_
              rotate_left
              · (intro w hSw; (try dsimp only at hSw); go_simp; try with_reducible rfl)
              try simp only [List.getElem_toArray, List.getElem_cons_succ, List.getElem_cons_zero, Act.put, List.setIfInBounds_toArray, List.set_cons_zero, List.set_cons_succ]
              refine wpAnyH_take (i := 3) (v := ?_) rfl (by kernel_rfl) (by kernel_rfl) (by kernel_rfl) (fun _ _ _ h => h) (Or.inl ⟨by rfl, ?_⟩) hHeld ?_
              rotate_left
              · (intro w hSw; (try dsimp only at hSw); go_simp; try with_reducible rfl)
              try simp only [List.getElem_toArray, List.getElem_cons_succ, List.getElem_cons_zero, Act.put, List.setIfInBounds_toArray, List.set_cons_zero, List.set_cons_succ]
              refine wpAnyH_take (i := 4) (v := ?_) rfl (by kernel_rfl) (by kernel_rfl) (by kernel_rfl) (fun _ _ _ h => h) (Or.inl ⟨by rfl, ?_⟩) hHeld ?_
              rotate_left
              · (intro w hSw; (try dsimp only at hSw); go_simp; try with_reducible rfl)
              try simp only [List.getElem_toArray, List.getElem_cons_succ, List.getElem_cons_zero, Act.put, List.setIfInBounds_toArray, List.set_cons_zero, List.set_cons_succ]
              refine wpAnyH_take (i := 5) (v := ?_) rfl (by kernel_rfl) (by kernel_rfl) (by kernel_rfl) (fun _ _ _ h => h) (Or.inl ⟨by rfl, ?_⟩) hHeld ?_
              rotate_left
              · (intro w hSw; (try dsimp only at hSw); go_simp; try with_reducible rfl)
              try simp only [List.getElem_toArray, List.getElem_cons_succ, List.getElem_cons_zero, Act.put, List.setIfInBounds_toArray, List.set_cons_zero, List.set_cons_succ]
              refine wpAnyH_take (i := 6) (v := ?_) rfl (by kernel_rfl) (by kernel_rfl) (by kernel_rfl) (fun _ _ _ h => h) (Or.inl ⟨by rfl, ?_⟩) hHeld ?_
              rotate_left
              · (intro w hSw; (try dsimp only at hSw); go_simp; try with_reducible rfl)
              try simp only [List.getElem_toArray, List.getElem_cons_succ, List.getElem_cons_zero, Act.put, List.setIfInBounds_toArray, List.set_cons_zero, List.set_cons_succ]
              refine wpAnyH_take (i := 7) (v := ?_) rfl (by kernel_rfl) (by kernel_rfl) (by kernel_rfl) (fun _ _ _ h => h) (Or.inl ⟨by rfl, ?_⟩) hHeld ?_
              rotate_left
              · (intro w hSw; (try dsimp only at hSw); go_simp; try with_reducible rfl)
              try simp only [List.getElem_toArray, List.getElem_cons_succ, List.getElem_cons_zero, Act.put, List.setIfInBounds_toArray, List.set_cons_zero, List.set_cons_succ]
              refine wpAnyH_take (i := 8) (v := ?_) rfl (by kernel_rfl) (by kernel_rfl) (by kernel_rfl) (fun _ _ _ h => h) (Or.inl ⟨by rfl, ?_⟩) hHeld ?_
              rotate_left
              · (intro w hSw; (try dsimp only at hSw); go_simp; try with_reducible rfl)
              try simp only [List.getElem_toArray, List.getElem_cons_succ, List.getElem_cons_zero, Act.put, List.setIfInBounds_toArray, List.set_cons_zero, List.set_cons_succ]
              refine wpAnyH_take (i := 9) (v := ?_) rfl (by kernel_rfl) (by kernel_rfl) (by kernel_rfl) (fun _ _ _ h => h) (Or.inl ⟨by rfl, ?_⟩) hHeld ?_
              rotate_left
              · (intro w hSw; (try dsimp only at hSw); go_simp; try with_reducible rfl)
              try simp only [List.getElem_toArray, List.getElem_cons_succ, List.getElem_cons_zero, Act.put, List.setIfInBounds_toArray, List.set_cons_zero, List.set_cons_succ]
              refine wpAnyH_take (i := 10) (v := ?_) rfl (by kernel_rfl) (by kernel_rfl) (by kernel_rfl) (fun _ _ _ h => h) (Or.inl ⟨by rfl, ?_⟩) hHeld ?_
              rotate_left
              · (intro w hSw; (try dsimp only at hSw); go_simp; try with_reducible rfl)
              try simp only [List.getElem_toArray, List.getElem_cons_succ, List.getElem_cons_zero, Act.put, List.setIfInBounds_toArray, List.set_cons_zero, List.set_cons_succ]
              refine wpAnyH_take (i := 11) (v := ?_) rfl (by kernel_rfl) (by kernel_rfl) (by kernel_rfl) (fun _ _ _ h => h) (Or.inl ⟨by rfl, ?_⟩) hHeld ?_
              rotate_left
              · (intro w hSw; (try dsimp only at hSw); go_simp; try with_reducible rfl)
              try simp only [List.getElem_toArray, List.getElem_cons_succ, List.getElem_cons_zero, Act.put, List.setIfInBounds_toArray, List.set_cons_zero, List.set_cons_succ]
              refine wpAnyH_take (i := 12) (v := ?_) rfl (by kernel_rfl) (by kernel_rfl) (by kernel_rfl) (fun _ _ _ h => h) (Or.inl ⟨by rfl, ?_⟩) hHeld ?_
              rotate_left
              · (intro w hSw; (try dsimp only at hSw); go_simp; try with_reducible rfl)
              try simp only [List.getElem_toArray, List.getElem_cons_succ, List.getElem_cons_zero, Act.put, List.setIfInBounds_toArray, List.set_cons_zero, List.set_cons_succ]
              refine wpAnyH_take (i := 13) (v := ?_) rfl (by kernel_rfl) (by kernel_rfl) (by kernel_rfl) (fun _ _ _ h => h) (Or.inl ⟨by rfl, ?_⟩) hHeld ?_
              rotate_left
              · (intro w hSw; (try dsimp only at hSw); go_simp; try with_reducible rfl)
              try simp only [List.getElem_toArray, List.getElem_cons_succ, List.getElem_cons_zero, Act.put, List.setIfInBounds_toArray, List.set_cons_zero, List.set_cons_succ]
              refine wpAnyH_ready (rs := [14]) (by kernel_rfl) (by simp) ?_
              refine AllReadyH.cons rfl (fun K hK => ?_) AllReadyH.nil
              go_simp
              go_at_call 55
              (with_reducible refine (hnm.out _).mono ?_)
              rintro e w_1 ⟨rfl, hb_1⟩
              go_wp2_with fail
              refine hK.out _ _ (below_step ((Below.refl _ _).drew) hb_1) (fun hHeld => ?_)
              clear hK K
              try simp only [List.getElem_toArray, List.getElem_cons_succ, List.getElem_cons_zero, Act.put, List.setIfInBounds_toArray, List.set_cons_zero, List.set_cons_succ]
              refine wpAnyH_take (i := 15) (v := ?_) rfl (by kernel_rfl) (by kernel_rfl) (by kernel_rfl) (fun _ _ _ h => h) (Or.inl ⟨by rfl, ?_⟩) hHeld ?_
              rotate_left
              · (intro w hSw; (try dsimp only at hSw); go_simp; try with_reducible rfl)
              try simp only [List.getElem_toArray, List.getElem_cons_succ, List.getElem_cons_zero, Act.put, List.setIfInBounds_toArray, List.set_cons_zero, List.set_cons_succ]
              refine wpAnyH_take (i := 16) (v := ?_) rfl (by kernel_rfl) (by kernel_rfl) (by kernel_rfl) (fun _ _ _ h => h) (Or.inl ⟨by rfl, ?_⟩) hHeld ?_
              rotate_left
              · (intro w hSw; (try dsimp only at hSw); go_simp; try with_reducible rfl)
              try simp only [List.getElem_toArray, List.getElem_cons_succ, List.getElem_cons_zero, Act.put, List.setIfInBounds_toArray, List.set_cons_zero, List.set_cons_succ]
              refine wpAnyH_take (i := 17) (v := ?_) rfl (by kernel_rfl) (by kernel_rfl) (by kernel_rfl) (fun _ _ _ h => h) (Or.inl ⟨by rfl, ?_⟩) hHeld ?_
              rotate_left
              · (intro w hSw; (try dsimp only at hSw); go_simp; try with_reducible rfl)
              try simp only [List.getElem_toArray, List.getElem_cons_succ, List.getElem_cons_zero, Act.put, List.setIfInBounds_toArray, List.set_cons_zero, List.set_cons_succ]
              refine wpAnyH_take (i := 18) (v := undef) rfl (by kernel_rfl) (by kernel_rfl) (by kernel_rfl) (fun _ _ _ h => h) (Or.inr ⟨by rfl, rfl⟩) hHeld ?_
              try simp only [List.getElem_toArray, List.getElem_cons_succ, List.getElem_cons_zero, Act.put, List.setIfInBounds_toArray, List.set_cons_zero, List.set_cons_succ]
              refine wpAnyH_take (i := 19) (v := undef) rfl (by kernel_rfl) (by kernel_rfl) (by kernel_rfl) (fun _ _ _ h => h) (Or.inr ⟨by rfl, rfl⟩) hHeld ?_
              try simp only [List.getElem_toArray, List.getElem_cons_succ, List.getElem_cons_zero, Act.put, List.setIfInBounds_toArray, List.set_cons_zero, List.set_cons_succ]
              refine wpAnyH_take (i := 20) (v := undef) rfl (by kernel_rfl) (by kernel_rfl) (by kernel_rfl) (fun _ _ _ h => h) (Or.inr ⟨by rfl, rfl⟩) hHeld ?_
              try simp only [List.getElem_toArray, List.getElem_cons_succ, List.getElem_cons_zero, Act.put, List.setIfInBounds_toArray, List.set_cons_zero, List.set_cons_succ]
              refine wpAnyH_take (i := 21) (v := undef) rfl (by kernel_rfl) (by kernel_rfl) (by kernel_rfl) (fun _ _ _ h => h) (Or.inr ⟨by rfl, rfl⟩) hHeld ?_
              try simp only [List.getElem_toArray, List.getElem_cons_succ, List.getElem_cons_zero, Act.put, List.setIfInBounds_toArray, List.set_cons_zero, List.set_cons_succ]
              refine wpAnyH_take (i := 22) (v := undef) rfl (by kernel_rfl) (by kernel_rfl) (by kernel_rfl) (fun _ _ _ h => h) (Or.inr ⟨by rfl, rfl⟩) hHeld ?_
              try simp only [List.getElem_toArray, List.getElem_cons_succ, List.getElem_cons_zero, Act.put, List.setIfInBounds_toArray, List.set_cons_zero, List.set_cons_succ]
              refine wpAnyH_take (i := 23) (v := undef) rfl (by kernel_rfl) (by kernel_rfl) (by kernel_rfl) (fun _ _ _ h => h) (Or.inr ⟨by rfl, rfl⟩) hHeld ?_
              try simp only [List.getElem_toArray, List.getElem_cons_succ, List.getElem_cons_zero, Act.put, List.setIfInBounds_toArray, List.set_cons_zero, List.set_cons_succ]
              refine wpAnyH_take (i := 24) (v := undef) rfl (by kernel_rfl) (by kernel_rfl) (by kernel_rfl) (fun _ _ _ h => h) (Or.inr ⟨by rfl, rfl⟩) hHeld ?_
              try simp only [List.getElem_toArray, List.getElem_cons_succ, List.getElem_cons_zero, Act.put, List.setIfInBounds_toArray, List.set_cons_zero, List.set_cons_succ]
              refine wpAnyH_take (i := 25) (v := ?_) rfl (by kernel_rfl) (by kernel_rfl) (by kernel_rfl) (fun _ _ _ h => h) (Or.inl ⟨by rfl, ?_⟩) hHeld ?_
              rotate_left
              · (intro w hSw; (try dsimp only at hSw); go_simp; try with_reducible rfl)
              try simp only [List.getElem_toArray, List.getElem_cons_succ, List.getElem_cons_zero, Act.put, List.setIfInBounds_toArray, List.set_cons_zero, List.set_cons_succ]
              refine wpAnyH_done (by kernel_rfl) ?_ _
              all_goals
                have HF := Lib.hid (below_step HF2.out (show Below W2.heap.size W2 w_1 by ((repeat (first | exact Below.refl _ _ | assumption | apply below_alloc | refine Below.drew ?_ | refine below_step ?_ hb_1)); done)))
                clear hb_1
                go_wp2
                go_ret
                exact ⟨ret_bool hrf.out.symm, HF.out⟩
            | true =>
              cases fd with
              | some j =>
                have hj : jv = (j : Int) := hjv.symm
                have dj : decide (0 ≤ (j : Int)) = true := by simp
                have hrf := Lib.hid (hnok.out (by rw [hdf.out]; rfl))
                rw [hj] at hfe
                clear hjv hj HB2 e0 e1
                go_region_held3 (fun W => Below W2.heap.size W2 W)
                  (first | ((repeat (first | exact Below.refl _ _ | assumption | apply below_alloc | refine Below.drew ?_ | refine below_step ?_ hb_2 | refine below_step ?_ hb_1)); done))
                  (first
                    | (go_at_call 55; (with_reducible refine (hnm.out _).mono ?_); rintro e w_1 ⟨rfl, hb_1⟩)
                    | (go_at_call 36; (with_reducible refine (hfe.out _ (by (repeat (first | exact Below.refl _ _ | assumption | apply below_alloc | refine Below.drew ?_ | refine below_step ?_ hb_1)))).mono ?_); rintro e w_2 ⟨rfl, hb_2⟩))
                all_goals
                  have HF := Lib.hid (below_step HF2.out (show Below W2.heap.size W2 w_2 by ((repeat (first | exact Below.refl _ _ | assumption | apply below_alloc | refine Below.drew ?_ | refine below_step ?_ hb_2 | refine below_step ?_ hb_1)); done)))
                  clear hb_1 hb_2
                  go_wp2
                  go_ret
                  exact ⟨ret_bool hrf.out.symm, HF.out⟩
              | none =>
                have hj : jv = -1 := hjv.symm
                have dj : decide (0 ≤ (-1 : Int)) = false := rfl
                rw [hj] at hfe
                have hnx := Lib.hid (hstep.out (by rw [hdf.out]; rfl))
                clear hjv hj HB2 e0 e1
                go_region_held3 (fun W => Below W2.heap.size W2 W)
                  (first | ((repeat (first | exact Below.refl _ _ | assumption | apply below_alloc | refine Below.drew ?_ | refine below_step ?_ hb_2 | refine below_step ?_ hb_1)); done))
                  (first
                    | (go_at_call 55; (with_reducible refine (hnm.out _).mono ?_); rintro e w_1 ⟨rfl, hb_1⟩)
                    | (go_at_call 36; (with_reducible refine (hfe.out _ (by (repeat (first | exact Below.refl _ _ | assumption | apply below_alloc | refine Below.drew ?_ | refine below_step ?_ hb_1)))).mono ?_); rintro e w_2 ⟨rfl, hb_2⟩))
                all_goals
                  have HF := Lib.hid (below_step HF2.out (show Below W2.heap.size W2 w_2 by ((repeat (first | exact Below.refl _ _ | assumption | apply below_alloc | refine Below.drew ?_ | refine below_step ?_ hb_2 | refine below_step ?_ hb_1)); done)))
                  clear hb_1 hb_2
                  go_wp2
                  go_roundw
                  case rel => exact ⟨k + 1, by omega, by go_num, Lib.hid ⟨hnx.out, HF.out⟩⟩
                  case measure => simp [intOf]; omega
      · obtain rfl : k = n := by omega
        have hrt : Hid (r = true) := by
          show _ = _
          rw [← HR.out]
          exact libB_yes (by rw [HN.out]; exact h12) fun j hj => H.out.1 j (by rw [← HN.out]; exact hj)
        have HF := Lib.hid H.out.2
        go_wp2
        go_ret
        exact ⟨ret_bool hrt.out.symm, HF.out⟩
  · have d12 : decide ((12 : Int) < (n : Int)) = true := by simp; omega
    have hrf : Hid (r = false) := by
      show _ = _
      rw [← HR.out]
      exact libB_long (by rw [HN.out]; exact h12)
    go_enter Try.func43, Try.ntmps43
    go_wp2
    go_ret
    exact ⟨ret_bool hrf.out.symm, Below.refl _ _⟩

end Ints
end Go.Proofs.Ytoegbphkheohoaa
