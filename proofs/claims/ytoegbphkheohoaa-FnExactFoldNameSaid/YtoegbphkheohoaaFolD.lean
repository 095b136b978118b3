/- Folding: the program's folded. -/
import Derived.Test.YtoegbphkheohoaaFolN
import Derived.Test.YtoegbphkheohoaaFolW
namespace Go.Proofs.Ytoegbphkheohoaa
open Go.RowKit
namespace Ints

theorem as_seq_seq (a b : Value) (W : World) : (Instr.typeAssert (.iface 100 (.agg #[a, b])) 74 100 true).run Try.prog W = .ok (.tuple #[.agg #[a, b], .bool true]) W := by kernel_rfl
theorem as_par_seq (v : Value) (W : World) : (Instr.typeAssert (.iface 101 v) 74 100 true).run Try.prog W = .ok (.tuple #[.agg #[.nilIface, .nilIface], .bool false]) W := by kernel_rfl
theorem as_leaf_seq (v : Value) (W : World) : (Instr.typeAssert (.iface 98 v) 74 100 true).run Try.prog W = .ok (.tuple #[.agg #[.nilIface, .nilIface], .bool false]) W := by kernel_rfl
theorem as_par_par (a b : Value) (W : World) : (Instr.typeAssert (.iface 101 (.agg #[a, b])) 74 101 true).run Try.prog W = .ok (.tuple #[.agg #[a, b], .bool true]) W := by kernel_rfl
theorem as_leaf_par (v : Value) (W : World) : (Instr.typeAssert (.iface 98 v) 74 101 true).run Try.prog W = .ok (.tuple #[.agg #[.nilIface, .nilIface], .bool false]) W := by kernel_rfl

theorem equal_any (va vb : Value) (xs ys : List NodeL) (w : World) (ha : ReadsN w va xs) (hb : ReadsN w vb ys) :
    Calls Try.prog 52 #[va, vb] w fun e w' => e = .returned (.bool (eqL xs ys)) ∧ Below w.heap.size w w' := slicesEqual_any va vb xs ys w ha hb
def FoldOut (w : World) (t : TreeL) (e : Ending) (w' : World) : Prop := e = .returned (valT t) ∧ Below w.heap.size w w'

set_option maxRecDepth 100000 in
set_option maxHeartbeats 2000000 in
/-- A tree that is the body. -/
theorem folded_pos (vb : Value) (body : List NodeL) (s : ByteArray) (t : TreeL) (hl : (nodesT t).length ≤ 100000) (he : eqL (nodesT t) body = true) (w : World) (hb : ReadsN w vb body) :
    Calls Try.prog 37 #[valT t, vb, .string s] w (FoldOut w (foldT body s t)) := by
  obtain ⟨ty, u, f, hv, ⟨hm, hen⟩, hc⟩ := reach_any t hl
  rw [foldT_pos he, hv]
  have HE := Lib.hid (fun v W (h1 : ReadsN W v (nodesT t)) (h2 : ReadsN W vb body) => equal_any v vb (nodesT t) body W h1 h2)
  rw [he] at HE
  have HC := Lib.hid hc
  have HB := Lib.hid (fun W (hW : Below w.heap.size w W) => hb.below hW)
  obtain ⟨ab, cb, rfl⟩ := hb.form
  clear hv hc he hl hb
  go_enter Try.func37, Try.ntmps37
  go_wp2_with fail
  refine (HC.out _).mono ?_
  rintro e w1 ⟨v1, rfl, ho1, hb1⟩
  have HO := Lib.hid ho1.reads
  have HB1 := Lib.hid hb1
  obtain ⟨a1, c1, rfl⟩ := ho1.reads.form
  clear ho1 hb1
  go_wp2_with fail
  refine (HE.out _ _ HO.out (HB.out _ HB1.out)).mono ?_
  rintro e w2 ⟨rfl, hb2⟩
  have HB2 := Lib.hid (below_step HB1.out hb2)
  clear hb2
  go_wp2
  go_ret
  exact ⟨rfl, HB2.out⟩

set_option maxRecDepth 100000 in
set_option maxHeartbeats 2000000 in
/-- A leaf that is not the body. -/
theorem folded_leaf (vb : Value) (body : List NodeL) (s : ByteArray) (n : NodeL) (he : eqL (nodesT (.leaf n)) body = false) (w : World) (hb : ReadsN w vb body) :
    Calls Try.prog 37 #[valT (.leaf n), vb, .string s] w (FoldOut w (foldT body s (.leaf n))) := by
  obtain ⟨ty, u, f, hv, ⟨hm, hen⟩, hc⟩ := reach_any (.leaf n) (by simp [nodesT])
  rw [foldT_leaf (by rw [he]; decide)]
  have HE := Lib.hid (fun v W (h1 : ReadsN W v (nodesT (.leaf n))) (h2 : ReadsN W vb body) => equal_any v vb (nodesT (.leaf n)) body W h1 h2)
  rw [he] at HE
  have HC := Lib.hid hc
  have HB := Lib.hid (fun W (hW : Below w.heap.size w W) => hb.below hW)
  obtain ⟨ab, cb, rfl⟩ := hb.form
  have hv2 : valT (.leaf n) = .iface 98 (.agg #[.int .i64 n.kind, .int .i64 n.value, .string n.name]) := rfl
  rw [hv2] at hv
  injection hv with hty hu
  subst hty
  have HV := Lib.hid (hv2.trans (congrArg (Value.iface 98) hu))
  rw [HV.out]
  have h1 := as_leaf_seq
  have h2 := as_leaf_par
  clear hv2 hu hc he hb
  go_enter Try.func37, Try.ntmps37
  go_wp2_with fail
  refine (HC.out _).mono ?_
  rintro e w1 ⟨v1, rfl, ho1, hb1⟩
  have HO := Lib.hid ho1.reads
  have HB1 := Lib.hid hb1
  obtain ⟨a1, c1, rfl⟩ := ho1.reads.form
  clear ho1 hb1
  go_wp2_with fail
  refine (HE.out _ _ HO.out (HB.out _ HB1.out)).mono ?_
  rintro e w2 ⟨rfl, hb2⟩
  have HB2 := Lib.hid (below_step HB1.out hb2)
  clear hb2
  go_wp2
  go_ret
  exact ⟨by rw [HV.out]; rfl, HB2.out⟩

set_option maxRecDepth 100000 in
set_option maxHeartbeats 2000000 in
theorem folded_seq (vb : Value) (body : List NodeL) (s : ByteArray) (a b : TreeL) (hl : (nodesT (.seq a b)).length ≤ 100000) (he : eqL (nodesT (.seq a b)) body = false)
    (iha : ∀ w, ReadsN w vb body → Calls Try.prog 37 #[valT a, vb, .string s] w (FoldOut w (foldT body s a))) (ihb : ∀ w, ReadsN w vb body → Calls Try.prog 37 #[valT b, vb, .string s] w (FoldOut w (foldT body s b)))
    (w : World) (hb : ReadsN w vb body) : Calls Try.prog 37 #[valT (.seq a b), vb, .string s] w (FoldOut w (foldT body s (.seq a b))) := by
  obtain ⟨ty, u, f, hv, ⟨hm, hen⟩, hc⟩ := reach_any (.seq a b) hl
  rw [foldT_seq (by rw [he]; decide)]
  have HE := Lib.hid (fun v W (h1 : ReadsN W v (nodesT (.seq a b))) (h2 : ReadsN W vb body) => equal_any v vb (nodesT (.seq a b)) body W h1 h2)
  rw [he] at HE
  have HC := Lib.hid hc
  have HB := Lib.hid (fun W (hW : Below w.heap.size w W) => hb.below hW)
  obtain ⟨ab, cb, rfl⟩ := hb.form
  obtain ⟨tya, ua, hva⟩ := valT_form a
  obtain ⟨tyb, ub, hvb⟩ := valT_form b
  have hv2 : valT (.seq a b) = .iface 100 (.agg #[valT a, valT b]) := rfl
  have hv3 : valT (.seq (foldT body s a) (foldT body s b)) = .iface 100 (.agg #[valT (foldT body s a), valT (foldT body s b)]) := rfl
  have HPA := Lib.hid iha
  have HPB := Lib.hid ihb
  unfold FoldOut at HPA HPB ⊢
  rw [hv3]
  obtain ⟨tfa, ufa, hfa⟩ := valT_form (foldT body s a)
  obtain ⟨tfb, ufb, hfb⟩ := valT_form (foldT body s b)
  rw [hfa] at HPA ⊢
  rw [hfb] at HPB ⊢
  rw [hva] at HPA hv2
  rw [hvb] at HPB hv2
  rw [hv2] at hv ⊢
  injection hv with hty hu
  subst hty hu
  have h1 := as_seq_seq
  clear hv2 hv3 hva hvb hfa hfb hc he hb iha ihb hl
  go_enter Try.func37, Try.ntmps37
  go_wp2_with fail
  refine (HC.out _).mono ?_
  rintro e w1 ⟨v1, rfl, ho1, hb1⟩
  have HO := Lib.hid ho1.reads
  have HB1 := Lib.hid hb1
  obtain ⟨a1, c1, rfl⟩ := ho1.reads.form
  clear ho1 hb1
  go_wp2_with fail
  refine (HE.out _ _ HO.out (HB.out _ HB1.out)).mono ?_
  rintro e w2 ⟨rfl, hb2⟩
  have HB2 := Lib.hid (below_step HB1.out hb2)
  clear hb2
  obtain ⟨w0, hw0⟩ : ∃ W, W = w2.alloc (.cells #[.iface tya ua, .iface tyb ub] 100) := ⟨_, rfl⟩
  have HB0 := Lib.hid (show Below w.heap.size w w0 by rw [hw0]; exact below_alloc HB2.out)
  have c0 : w0.cell? ⟨w2.heap.size, 0, none⟩ = some (.iface tya ua) := by rw [hw0]; simp [go_sem]
  have c1 : w0.cell? ⟨w2.heap.size, 1, none⟩ = some (.iface tyb ub) := by rw [hw0]; simp [go_sem]
  have HX := Lib.hid (show ∀ W, Below w0.heap.size w0 W → W.cell? ⟨w2.heap.size, 0, none⟩ = some (.iface tya ua) ∧ W.cell? ⟨w2.heap.size, 1, none⟩ = some (.iface tyb ub) from fun W hW => ⟨cell_old hW c0, cell_old hW c1⟩)
  have HRB := Lib.hid (fun W (hW : Below w0.heap.size w0 W) => HB.out W (below_step HB0.out hW))
  have HW := Lib.hid hw0
  have HBR := Below.refl w0.heap.size w0
  have zd := (HX.out w0 HBR).1
  have zd1 := (HX.out w0 HBR).2
  clear hw0 c0 c1
  go_upto_region 6 with fail
  rw [← HW.out]
  (first | go_region_law (first
    | (go_simp; (with_reducible refine (HPA.out _ (HRB.out _ HBR.drew)).mono ?_); rintro e w_1 ⟨rfl, hb_1⟩; have bb_1 := below_step HBR.drew hb_1; have z_1 := (HX.out w_1 bb_1).2)
    | (go_simp; (with_reducible refine (HPB.out _ (HRB.out _ bb_1)).mono ?_); rintro e w_2 ⟨rfl, hb_2⟩; have bb_2 := below_step bb_1 hb_2; have HF := Lib.hid (below_step HB0.out bb_2))) | fail)
  all_goals
    clear bb_1 bb_2 hb_1 hb_2
    go_wp2
    go_ret
    exact ⟨rfl, HF.out⟩

set_option maxRecDepth 100000 in
set_option maxHeartbeats 2000000 in
theorem folded_par (vb : Value) (body : List NodeL) (s : ByteArray) (a b : TreeL) (hl : (nodesT (.par a b)).length ≤ 100000) (he : eqL (nodesT (.par a b)) body = false)
    (iha : ∀ w, ReadsN w vb body → Calls Try.prog 37 #[valT a, vb, .string s] w (FoldOut w (foldT body s a))) (ihb : ∀ w, ReadsN w vb body → Calls Try.prog 37 #[valT b, vb, .string s] w (FoldOut w (foldT body s b)))
    (w : World) (hb : ReadsN w vb body) : Calls Try.prog 37 #[valT (.par a b), vb, .string s] w (FoldOut w (foldT body s (.par a b))) := by
  obtain ⟨ty, u, f, hv, ⟨hm, hen⟩, hc⟩ := reach_any (.par a b) hl
  rw [foldT_par (by rw [he]; decide)]
  have HE := Lib.hid (fun v W (h1 : ReadsN W v (nodesT (.par a b))) (h2 : ReadsN W vb body) => equal_any v vb (nodesT (.par a b)) body W h1 h2)
  rw [he] at HE
  have HC := Lib.hid hc
  have HB := Lib.hid (fun W (hW : Below w.heap.size w W) => hb.below hW)
  obtain ⟨ab, cb, rfl⟩ := hb.form
  obtain ⟨tya, ua, hva⟩ := valT_form a
  obtain ⟨tyb, ub, hvb⟩ := valT_form b
  have hv2 : valT (.par a b) = .iface 101 (.agg #[valT a, valT b]) := rfl
  have hv3 : valT (.par (foldT body s a) (foldT body s b)) = .iface 101 (.agg #[valT (foldT body s a), valT (foldT body s b)]) := rfl
  have HPA := Lib.hid iha
  have HPB := Lib.hid ihb
  unfold FoldOut at HPA HPB ⊢
  rw [hv3]
  obtain ⟨tfa, ufa, hfa⟩ := valT_form (foldT body s a)
  obtain ⟨tfb, ufb, hfb⟩ := valT_form (foldT body s b)
  rw [hfa] at HPA ⊢
  rw [hfb] at HPB ⊢
  rw [hva] at HPA hv2
  rw [hvb] at HPB hv2
  rw [hv2] at hv ⊢
  injection hv with hty hu
  subst hty hu
  have h1 := as_par_seq
  have h2 := as_par_par
  clear hv2 hv3 hva hvb hfa hfb hc he hb iha ihb hl
  go_enter Try.func37, Try.ntmps37
  go_wp2_with fail
  refine (HC.out _).mono ?_
  rintro e w1 ⟨v1, rfl, ho1, hb1⟩
  have HO := Lib.hid ho1.reads
  have HB1 := Lib.hid hb1
  obtain ⟨a1, c1, rfl⟩ := ho1.reads.form
  clear ho1 hb1
  go_wp2_with fail
  refine (HE.out _ _ HO.out (HB.out _ HB1.out)).mono ?_
  rintro e w2 ⟨rfl, hb2⟩
  have HB2 := Lib.hid (below_step HB1.out hb2)
  clear hb2
  obtain ⟨w0, hw0⟩ : ∃ W, W = w2.alloc (.cells #[.iface tya ua, .iface tyb ub] 101) := ⟨_, rfl⟩
  have HB0 := Lib.hid (show Below w.heap.size w w0 by rw [hw0]; exact below_alloc HB2.out)
  have c0 : w0.cell? ⟨w2.heap.size, 0, none⟩ = some (.iface tya ua) := by rw [hw0]; simp [go_sem]
  have c1 : w0.cell? ⟨w2.heap.size, 1, none⟩ = some (.iface tyb ub) := by rw [hw0]; simp [go_sem]
  have HX := Lib.hid (show ∀ W, Below w0.heap.size w0 W → W.cell? ⟨w2.heap.size, 0, none⟩ = some (.iface tya ua) ∧ W.cell? ⟨w2.heap.size, 1, none⟩ = some (.iface tyb ub) from fun W hW => ⟨cell_old hW c0, cell_old hW c1⟩)
  have HRB := Lib.hid (fun W (hW : Below w0.heap.size w0 W) => HB.out W (below_step HB0.out hW))
  have HW := Lib.hid hw0
  have HBR := Below.refl w0.heap.size w0
  have zd := (HX.out w0 HBR).1
  have zd1 := (HX.out w0 HBR).2
  clear hw0 c0 c1
  go_upto_region 9 with fail
  rw [← HW.out]
  (first | go_region_law (first
    | (go_simp; (with_reducible refine (HPA.out _ (HRB.out _ HBR.drew)).mono ?_); rintro e w_1 ⟨rfl, hb_1⟩; have bb_1 := below_step HBR.drew hb_1; have z_1 := (HX.out w_1 bb_1).2)
    | (go_simp; (with_reducible refine (HPB.out _ (HRB.out _ bb_1)).mono ?_); rintro e w_2 ⟨rfl, hb_2⟩; have bb_2 := below_step bb_1 hb_2; have HF := Lib.hid (below_step HB0.out bb_2))) | fail)
  all_goals
    clear bb_1 bb_2 hb_1 hb_2
    go_wp2
    go_ret
    exact ⟨rfl, HF.out⟩

theorem folded_any (vb : Value) (body : List NodeL) (s : ByteArray) : ∀ t : TreeL, (nodesT t).length ≤ 100000 → ∀ w, ReadsN w vb body → Calls Try.prog 37 #[valT t, vb, .string s] w (FoldOut w (foldT body s t)) := by
  intro t
  induction t with
  | leaf n =>
    intro hl w hb
    cases he : eqL (nodesT (.leaf n)) body with
    | true => exact folded_pos vb body s _ hl he w hb
    | false => exact folded_leaf vb body s n he w hb
  | seq a b iha ihb =>
    intro hl w hb
    have hln : (nodesT (.seq a b)).length = (nodesT a).length + (nodesT b).length + 1 := by simp [nodesT]; omega
    cases he : eqL (nodesT (.seq a b)) body with
    | true => exact folded_pos vb body s _ hl he w hb
    | false => exact folded_seq vb body s a b hl he (fun W hW => iha (by omega) W hW) (fun W hW => ihb (by omega) W hW) w hb
  | par a b iha ihb =>
    intro hl w hb
    have hln : (nodesT (.par a b)).length = (nodesT a).length + (nodesT b).length + 1 := by simp [nodesT]; omega
    cases he : eqL (nodesT (.par a b)) body with
    | true => exact folded_pos vb body s _ hl he w hb
    | false => exact folded_par vb body s a b hl he (fun W hW => iha (by omega) W hW) (fun W hW => ihb (by omega) W hW) w hb

end Ints
end Go.Proofs.Ytoegbphkheohoaa
