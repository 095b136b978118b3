/- Folding: the nodes of a tree. -/
import Derived.Test.YtoegbphkheohoaaFolJ
import Derived.Test.YtoegbphkheohoaaTreeW
import Derived.Deep.RegionLaw
namespace Go.Proofs.Ytoegbphkheohoaa
open Go.RowKit
namespace Ints

def NodesOut (w : World) (ns : List NodeL) (e : Ending) (w' : World) : Prop := ∃ v, e = .returned v ∧ OwnsN (fun g => w.heap.size ≤ g) w' v ns ∧ Below w.heap.size w w'
/-- How the method nodes is reached behind an interface value. -/
def Meth (ty : TypeId) (u : Value) (f : Nat) : Prop :=
  (∀ w, (method 240 ty u "loop.example/g01073/impl.nodes").run Try.prog w = .ok (f, u) w) ∧ (∀ args w, (callFunc f args).run Try.prog w = .ok (.enter f args) w)
theorem meth_leaf (u : Value) : Meth 98 u 89 := ⟨fun _ => by kernel_rfl, fun _ _ => by kernel_rfl⟩
theorem meth_seq (u : Value) : Meth 100 u 90 := ⟨fun _ => by kernel_rfl, fun _ _ => by kernel_rfl⟩
theorem meth_par (u : Value) : Meth 101 u 94 := ⟨fun _ => by kernel_rfl, fun _ _ => by kernel_rfl⟩

set_option maxHeartbeats 1000000 in
theorem leafNodes_any (n : NodeL) (w : World) : Calls Try.prog 89 #[.agg #[.int .i64 n.kind, .int .i64 n.value, .string n.name]] w (NodesOut w [n]) := by
  obtain ⟨k, vl, s⟩ := n
  obtain ⟨w0, hw0⟩ : ∃ W, W = w.alloc (.cells #[.int .i64 k, .int .i64 vl, .string s] 98) := ⟨_, rfl⟩
  have hB : Below w.heap.size w w0 := by rw [hw0]; exact below_alloc (Below.refl _ _)
  have HO := Lib.hid (row_base (World.ownsRow_lit (base := w0.heap.size) (size := 3) (e := 71) w0 #[.int .i64 k, .int .i64 vl, .string s] 1 (Nat.le_refl _) (by decide) (by simp)) hB.size)
  have HB := Lib.hid (below_alloc (o := .cells #[.int .i64 k, .int .i64 vl, .string s] 71) hB)
  have HW := Lib.hid hw0
  have hs : w0.heap.size = w.heap.size + 1 := by rw [hw0]; simp
  rw [hs] at HO
  clear hw0 hB hs
  dsimp only
  go_enter Try.func89, Try.ntmps89
  go_wp2
  go_ret
  rw [← HW.out]
  exact ⟨_, rfl, ownsN_row HO.out rfl (by unfold maxLen; decide), HB.out⟩

/-- What a tree's value is, and how its nodes are reached. -/
def Reach (t : TreeL) : Prop := ∃ ty u f, valT t = .iface ty u ∧ Meth ty u f ∧ ∀ w, Calls Try.prog f #[u] w (NodesOut w (nodesT t))

set_option maxRecDepth 100000 in
set_option maxHeartbeats 2000000 in
theorem seqNodes_any (a b : TreeL) (ha : Reach a) (hb : Reach b) (hl : (nodesT a).length + (nodesT b).length ≤ 100000) (w : World) :
    Calls Try.prog 90 #[.agg #[valT a, valT b]] w (NodesOut w (nodesT (.seq a b))) := by
  obtain ⟨tya, ua, fa, hva, ⟨hma, hea⟩, hca⟩ := ha
  obtain ⟨tyb, ub, fb, hvb, ⟨hmb, heb⟩, hcb⟩ := hb
  rw [hva, hvb]
  have hR : nodesT (.seq a b) = nodesT a ++ nodesT b ++ [nodeK 15] := rfl
  have hln : (nodesT (.seq a b)).length = (nodesT a).length + (nodesT b).length + 1 := by rw [hR]; simp; omega
  have hJ := Lib.hid (fun va vb W h1 h2 => joinNodes_any 15 va vb (nodesT a) (nodesT b) W h1 h2 hl)
  rw [← hR, ← hln] at hJ
  have hml := Lib.hid (show (nodesT (.seq a b)).length ≤ maxLen by unfold maxLen; omega)
  obtain ⟨w0, hw0⟩ : ∃ W, W = w.alloc (.cells #[.iface tya ua, .iface tyb ub] 100) := ⟨_, rfl⟩
  have HB0 := Lib.hid (show Below w.heap.size w w0 by rw [hw0]; exact below_alloc (Below.refl _ _))
  have c0 : w0.cell? ⟨w.heap.size, 0, none⟩ = some (.iface tya ua) := by rw [hw0]; simp [go_sem]
  have c1 : w0.cell? ⟨w.heap.size, 1, none⟩ = some (.iface tyb ub) := by rw [hw0]; simp [go_sem]
  have HX := Lib.hid (show ∀ W, Below w0.heap.size w0 W → W.cell? ⟨w.heap.size, 0, none⟩ = some (.iface tya ua) ∧ W.cell? ⟨w.heap.size, 1, none⟩ = some (.iface tyb ub) from fun W hW => ⟨cell_old hW c0, cell_old hW c1⟩)
  have HW := Lib.hid hw0
  have HCA := Lib.hid hca
  have HCB := Lib.hid hcb
  have HBR := Below.refl w0.heap.size w0
  have zd := (HX.out w0 HBR).1
  obtain ⟨R, hRR⟩ : ∃ R, nodesT (.seq a b) = R := ⟨_, rfl⟩
  rw [hRR] at hJ hml ⊢
  clear hva hvb hR hl hca hcb hw0 hln hRR
  go_enter Try.func90, Try.ntmps90
  go_upto_region 1 with fail
  rw [← HW.out]
  (first | go_region_law (first
    | (go_simp; (with_reducible refine (HCA.out _).mono ?_); rintro e w_1 ⟨v_1, rfl, ho_1, hb_1⟩; have bb_1 := below_step HBR.drew hb_1; have z_1 := (HX.out w_1 bb_1).2)
    | (go_simp; (with_reducible refine (HCB.out _).mono ?_); rintro e w_2 ⟨v_2, rfl, ho_2, hb_2⟩; have bb_2 := below_step bb_1 hb_2; have z_2 := (HX.out w_2 bb_2).2)
    | (go_simp; (with_reducible refine (hJ.out _ _ _ (ho_1.reads.below hb_2) ho_2.reads).mono ?_); rintro e w_3 ⟨v_3, rfl, ho_3, hb_3⟩; have bb_3 := below_step bb_2 hb_3; obtain ⟨a_3, c_3, rfl⟩ := ownsRow_form' ho_3; have HF := Lib.hid (And.intro (ownsN_row (row_base ho_3 (Nat.le_trans HB0.out.size bb_2.size)) rfl hml.out) (below_step HB0.out bb_3)))) | fail)
  all_goals
    clear bb_1 bb_2 bb_3 ho_1 ho_2 ho_3 hb_1 hb_2 hb_3
    go_wp2
    go_ret
    exact ⟨_, rfl, HF.out.1, HF.out.2⟩

set_option maxRecDepth 100000 in
set_option maxHeartbeats 2000000 in
theorem parNodes_any (a b : TreeL) (ha : Reach a) (hb : Reach b) (hl : (nodesT a).length + (nodesT b).length ≤ 100000) (w : World) :
    Calls Try.prog 94 #[.agg #[valT a, valT b]] w (NodesOut w (nodesT (.par a b))) := by
  obtain ⟨tya, ua, fa, hva, ⟨hma, hea⟩, hca⟩ := ha
  obtain ⟨tyb, ub, fb, hvb, ⟨hmb, heb⟩, hcb⟩ := hb
  rw [hva, hvb]
  have hR : nodesT (.par a b) = nodesT a ++ nodesT b ++ [nodeK 16] := rfl
  have hln : (nodesT (.par a b)).length = (nodesT a).length + (nodesT b).length + 1 := by rw [hR]; simp; omega
  have hJ := Lib.hid (fun va vb W h1 h2 => joinNodes_any 16 va vb (nodesT a) (nodesT b) W h1 h2 hl)
  rw [← hR, ← hln] at hJ
  have hml := Lib.hid (show (nodesT (.par a b)).length ≤ maxLen by unfold maxLen; omega)
  obtain ⟨w0, hw0⟩ : ∃ W, W = w.alloc (.cells #[.iface tya ua, .iface tyb ub] 101) := ⟨_, rfl⟩
  have HB0 := Lib.hid (show Below w.heap.size w w0 by rw [hw0]; exact below_alloc (Below.refl _ _))
  have c0 : w0.cell? ⟨w.heap.size, 0, none⟩ = some (.iface tya ua) := by rw [hw0]; simp [go_sem]
  have c1 : w0.cell? ⟨w.heap.size, 1, none⟩ = some (.iface tyb ub) := by rw [hw0]; simp [go_sem]
  have HX := Lib.hid (show ∀ W, Below w0.heap.size w0 W → W.cell? ⟨w.heap.size, 0, none⟩ = some (.iface tya ua) ∧ W.cell? ⟨w.heap.size, 1, none⟩ = some (.iface tyb ub) from fun W hW => ⟨cell_old hW c0, cell_old hW c1⟩)
  have HW := Lib.hid hw0
  have HCA := Lib.hid hca
  have HCB := Lib.hid hcb
  have HBR := Below.refl w0.heap.size w0
  have zd := (HX.out w0 HBR).1
  obtain ⟨R, hRR⟩ : ∃ R, nodesT (.par a b) = R := ⟨_, rfl⟩
  rw [hRR] at hJ hml ⊢
  clear hva hvb hR hl hca hcb hw0 hln hRR
  go_enter Try.func94, Try.ntmps94
  go_upto_region 1 with fail
  rw [← HW.out]
  (first | go_region_law (first
    | (go_simp; (with_reducible refine (HCA.out _).mono ?_); rintro e w_1 ⟨v_1, rfl, ho_1, hb_1⟩; have bb_1 := below_step HBR.drew hb_1; have z_1 := (HX.out w_1 bb_1).2)
    | (go_simp; (with_reducible refine (HCB.out _).mono ?_); rintro e w_2 ⟨v_2, rfl, ho_2, hb_2⟩; have bb_2 := below_step bb_1 hb_2; have z_2 := (HX.out w_2 bb_2).2)
    | (go_simp; (with_reducible refine (hJ.out _ _ _ (ho_1.reads.below hb_2) ho_2.reads).mono ?_); rintro e w_3 ⟨v_3, rfl, ho_3, hb_3⟩; have bb_3 := below_step bb_2 hb_3; obtain ⟨a_3, c_3, rfl⟩ := ownsRow_form' ho_3; have HF := Lib.hid (And.intro (ownsN_row (row_base ho_3 (Nat.le_trans HB0.out.size bb_2.size)) rfl hml.out) (below_step HB0.out bb_3)))) | fail)
  all_goals
    clear bb_1 bb_2 bb_3 ho_1 ho_2 ho_3 hb_1 hb_2 hb_3
    go_wp2
    go_ret
    exact ⟨_, rfl, HF.out.1, HF.out.2⟩

/-- How the nodes of any tree are reached. -/
theorem reach_any : ∀ t : TreeL, (nodesT t).length ≤ 100000 → Reach t
  | .leaf n, _ => ⟨_, _, _, rfl, meth_leaf _, leafNodes_any n⟩
  | .seq a b, h => by
    have hl : (nodesT (.seq a b)).length = (nodesT a).length + (nodesT b).length + 1 := by simp [nodesT]; omega
    exact ⟨_, _, _, rfl, meth_seq _, seqNodes_any a b (reach_any a (by omega)) (reach_any b (by omega)) (by omega)⟩
  | .par a b, h => by
    have hl : (nodesT (.par a b)).length = (nodesT a).length + (nodesT b).length + 1 := by simp [nodesT]; omega
    exact ⟨_, _, _, rfl, meth_par _, parNodes_any a b (reach_any a (by omega)) (reach_any b (by omega)) (by omega)⟩

end Ints
end Go.Proofs.Ytoegbphkheohoaa
