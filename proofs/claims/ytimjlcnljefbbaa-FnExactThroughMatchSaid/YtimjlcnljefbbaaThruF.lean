/- ThroughMatch, both. (Printed by wip/gen_thru.py.) -/
import Derived.Test.YtimjlcnljefbbaaHgList
import Derived.Test.YtimjlcnljefbbaaPair
import Derived.Deep.RegionHeld3
import Derived.Deep.DeepCutAuto
namespace Go.Proofs.Ytimjlcnljefbbaa
open Go.RowKit
namespace Ints

def tmB (A B : List Int × List Int) : Bool := (A.1.all fun a => Fld.inR a 0 (B.1.length - 1)) && (A.2.all fun a => Fld.inR a 0 (B.2.length - 1)) && (B.1.all fun a => Fld.inR a 0 99) && (B.2.all fun a => Fld.inR a 0 59)
def tmOut (A B : List Int × List Int) : List Int × List Int := if tmB A B then (pickL B.1 A.1, pickL B.2 A.2) else ([], [])
theorem tm_in {l : List Int} {n : Nat} (h : (l.all fun a => Fld.inR a 0 ((n : Int) - 1)) = true) : ∀ i, i < l.length → 0 ≤ l[i]?.getD 0 ∧ l[i]?.getD 0 < n := fun i hi => by
  have h1 := List.all_eq_true.1 h (l[i]) (List.getElem_mem hi)
  unfold Fld.inR at h1
  simp only [Bool.and_eq_true, decide_eq_true_eq] at h1
  rw [List.getElem?_eq_getElem hi]
  simp only [Option.getD_some]
  omega
theorem tm_none {A B : List Int × List Int} (h : tmB A B = false) : tmOut A B = ([], []) := by simp [tmOut, h]
theorem tmOut_sum (A B : List Int × List Int) : sumP (tmOut A B) ≤ totP A := by
  unfold tmOut sumP totP
  split
  · simp [pickL_length]
  · simp

set_option maxRecDepth 100000 in
set_option maxHeartbeats 4000000 in
theorem specTM_any (A B : List Int × List Int) (u1 u2 v1 v2 : Value) (w : World) (hu : ReadsP w u1 u2 A) (hv : ReadsP w v1 v2 B) (hs : totP A ≤ 1048576) :
    Calls Try.prog 20 #[.agg #[u1, u2], .agg #[v1, v2]] w (OptMatch w (tmB A B) (tmOut A B)) := by
  obtain ⟨a1, c1, a2, c2, rfl, rfl⟩ := hu.form
  obtain ⟨d1, k1, d2, k2, rfl, rfl⟩ := hv.form
  have hl1 : B.1.length ≤ 9223372036854775807 := by obtain ⟨_, _, _, _, h, _⟩ := open_reads hv.1; exact h
  have hl2 : B.2.length ≤ 9223372036854775807 := by obtain ⟨_, _, _, _, h, _⟩ := open_reads hv.2; exact h
  have hw1 : IntKind.i64.wrap ((B.1.length : Int) - 1) = (B.1.length : Int) - 1 := IntWalk.i64_in _ (by omega)
  have hw2 : IntKind.i64.wrap ((B.2.length : Int) - 1) = (B.2.length : Int) - 1 := IntWalk.i64_in _ (by omega)
  obtain ⟨w0, hw0⟩ : ∃ W, W = (((w.alloc (.cells #[.slice a1 A.1.length c1, .slice a2 A.2.length c2] 40)).alloc (.cells #[.slice d1 B.1.length k1, .slice d2 B.2.length k2] 40)).alloc (.cells #[.slice none 0 0, .slice none 0 0] 40)) := ⟨_, rfl⟩
  have hB : Below w.heap.size w w0 := by rw [hw0]; exact ((((Below.refl w.heap.size w).alloc (by simp) (.cells #[.slice a1 A.1.length c1, .slice a2 A.2.length c2] 40)).alloc (by simp) (.cells #[.slice d1 B.1.length k1, .slice d2 B.2.length k2] 40)).alloc (by simp; omega) (.cells #[.slice none 0 0, .slice none 0 0] 40))
  have hs0 : w0.heap.size = w.heap.size + 3 := by rw [hw0]; simp
  have X0_0 : ∀ W, Below w0.heap.size w0 W → W.cell? ⟨w.heap.size, 0, none⟩ = some (.slice a1 A.1.length c1) := fun W hW => cell_old hW (by rw [hw0]; simp [go_sem])
  have X0_1 : ∀ W, Below w0.heap.size w0 W → W.cell? ⟨w.heap.size, 1, none⟩ = some (.slice a2 A.2.length c2) := fun W hW => cell_old hW (by rw [hw0]; simp [go_sem])
  have X1_0 : ∀ W, Below w0.heap.size w0 W → W.cell? ⟨w.heap.size + 1, 0, none⟩ = some (.slice d1 B.1.length k1) := fun W hW => cell_old hW (by rw [hw0]; simp [go_sem])
  have X1_1 : ∀ W, Below w0.heap.size w0 W → W.cell? ⟨w.heap.size + 1, 1, none⟩ = some (.slice d2 B.2.length k2) := fun W hW => cell_old hW (by rw [hw0]; simp [go_sem])
  have Q0 : ∀ W, Below w0.heap.size w0 W → W.cell? ⟨w.heap.size + 1 + 1, 0, none⟩ = some (.slice none 0 0) := fun W hW => cell_old hW (by rw [hw0]; simp [go_sem])
  have G0 : ∀ W, Below w0.heap.size w0 W → W.frozen? ⟨w.heap.size + 1 + 1, 0, none⟩ = false := fun W hW => frozen_old hW (by show w.heap.size + 1 + 1 < _; omega) (by rw [hw0]; simp [go_sem])
  have Q1 : ∀ W, Below w0.heap.size w0 W → W.cell? ⟨w.heap.size + 1 + 1, 1, none⟩ = some (.slice none 0 0) := fun W hW => cell_old hW (by rw [hw0]; simp [go_sem])
  have G1 : ∀ W, Below w0.heap.size w0 W → W.frozen? ⟨w.heap.size + 1 + 1, 1, none⟩ = false := fun W hW => frozen_old hW (by show w.heap.size + 1 + 1 < _; omega) (by rw [hw0]; simp [go_sem])
  have HW := Lib.hid hw0
  have HB := Lib.hid hB
  have HS := Lib.hid hs0
  have HU := Lib.hid (hu.below hB)
  have HV := Lib.hid (hv.below hB)
  obtain ⟨b1, hb1⟩ : ∃ b, (A.1.all fun a => Fld.inR a 0 ((B.1.length : Int) - 1)) = b := ⟨_, rfl⟩
  have Cb1 := Lib.hid (fun W (hW : Below w0.heap.size w0 W) => l1All_any (.slice a1 A.1.length c1) A.1.length A.1 0 ((B.1.length : Int) - 1) W (HU.out.1.below hW))
  rw [hb1] at Cb1
  obtain ⟨b2, hb2⟩ : ∃ b, (A.2.all fun a => Fld.inR a 0 ((B.2.length : Int) - 1)) = b := ⟨_, rfl⟩
  have Cb2 := Lib.hid (fun W (hW : Below w0.heap.size w0 W) => l1All_any (.slice a2 A.2.length c2) A.2.length A.2 0 ((B.2.length : Int) - 1) W (HU.out.2.below hW))
  rw [hb2] at Cb2
  obtain ⟨b3, hb3⟩ : ∃ b, (B.1.all fun a => Fld.inR a 0 (99)) = b := ⟨_, rfl⟩
  have Cb3 := Lib.hid (fun W (hW : Below w0.heap.size w0 W) => l1All_any (.slice d1 B.1.length k1) B.1.length B.1 0 (99) W (HV.out.1.below hW))
  rw [hb3] at Cb3
  obtain ⟨b4, hb4⟩ : ∃ b, (B.2.all fun a => Fld.inR a 0 (59)) = b := ⟨_, rfl⟩
  have Cb4 := Lib.hid (fun W (hW : Below w0.heap.size w0 W) => l1All_any (.slice d2 B.2.length k2) B.2.length B.2 0 (59) W (HV.out.2.below hW))
  rw [hb4] at Cb4
  clear hw0 hB hs0 hu hv
  cases b1 with
  | false =>
    have e0 : tmB A B = false := by simp [tmB, hb1]
    rw [e0, tm_none e0]
    clear e0
    clear hb1 hb2 hb3 hb4
    go_enter Try.func20, Try.ntmps20
    go_wp2_with fail
    rw [← HW.out]
    have BR := Below.refl w0.heap.size w0
    refine (Cb1.out w0 (Below.refl _ _)).mono ?_
    rintro e w1 ⟨rfl, rfl⟩
    go_wp2
    refine bodyPost_ret (v := .tuple #[.agg #[.slice none 0 0, .slice none 0 0], .bool false]) (by simp [results, Try.results20, go_sem, Q0 _ (Below.refl w0.heap.size w0), Q1 _ (Below.refl w0.heap.size w0)]) rfl ?_
    exact optMatch_none (HB.out.trans ((Below.refl w0.heap.size w0).mono HB.out.size)) (by omega)
  | true =>
    cases b2 with
    | false =>
      have e0 : tmB A B = false := by simp [tmB, hb1, hb2]
      rw [e0, tm_none e0]
      clear e0
      clear hb1 hb2 hb3 hb4
      go_enter Try.func20, Try.ntmps20
      go_wp2_with fail
      rw [← HW.out]
      have BR := Below.refl w0.heap.size w0
      refine (Cb1.out w0 (Below.refl _ _)).mono ?_
      rintro e w1 ⟨rfl, rfl⟩
      go_wp2_with fail
      refine (Cb2.out w0 (Below.refl _ _)).mono ?_
      rintro e w1 ⟨rfl, rfl⟩
      go_wp2
      refine bodyPost_ret (v := .tuple #[.agg #[.slice none 0 0, .slice none 0 0], .bool false]) (by simp [results, Try.results20, go_sem, Q0 _ (Below.refl w0.heap.size w0), Q1 _ (Below.refl w0.heap.size w0)]) rfl ?_
      exact optMatch_none (HB.out.trans ((Below.refl w0.heap.size w0).mono HB.out.size)) (by omega)
    | true =>
      cases b3 with
      | false =>
        have e0 : tmB A B = false := by simp [tmB, hb1, hb2, hb3]
        rw [e0, tm_none e0]
        clear e0
        clear hb1 hb2 hb3 hb4
        go_enter Try.func20, Try.ntmps20
        go_wp2_with fail
        rw [← HW.out]
        have BR := Below.refl w0.heap.size w0
        refine (Cb1.out w0 (Below.refl _ _)).mono ?_
        rintro e w1 ⟨rfl, rfl⟩
        go_wp2_with fail
        refine (Cb2.out w0 (Below.refl _ _)).mono ?_
        rintro e w1 ⟨rfl, rfl⟩
        go_wp2_with fail
        refine (Cb3.out w0 (Below.refl _ _)).mono ?_
        rintro e w1 ⟨rfl, rfl⟩
        go_wp2
        refine bodyPost_ret (v := .tuple #[.agg #[.slice none 0 0, .slice none 0 0], .bool false]) (by simp [results, Try.results20, go_sem, Q0 _ (Below.refl w0.heap.size w0), Q1 _ (Below.refl w0.heap.size w0)]) rfl ?_
        exact optMatch_none (HB.out.trans ((Below.refl w0.heap.size w0).mono HB.out.size)) (by omega)
      | true =>
        cases b4 with
        | false =>
          have e0 : tmB A B = false := by simp [tmB, hb1, hb2, hb3, hb4]
          rw [e0, tm_none e0]
          clear e0
          clear hb1 hb2 hb3 hb4
          go_enter Try.func20, Try.ntmps20
          go_wp2_with fail
          rw [← HW.out]
          have BR := Below.refl w0.heap.size w0
          refine (Cb1.out w0 (Below.refl _ _)).mono ?_
          rintro e w1 ⟨rfl, rfl⟩
          go_wp2_with fail
          refine (Cb2.out w0 (Below.refl _ _)).mono ?_
          rintro e w1 ⟨rfl, rfl⟩
          go_wp2_with fail
          refine (Cb3.out w0 (Below.refl _ _)).mono ?_
          rintro e w1 ⟨rfl, rfl⟩
          go_wp2_with fail
          refine (Cb4.out w0 (Below.refl _ _)).mono ?_
          rintro e w1 ⟨rfl, rfl⟩
          go_wp2
          refine bodyPost_ret (v := .tuple #[.agg #[.slice none 0 0, .slice none 0 0], .bool false]) (by simp [results, Try.results20, go_sem, Q0 _ (Below.refl w0.heap.size w0), Q1 _ (Below.refl w0.heap.size w0)]) rfl ?_
          exact optMatch_none (HB.out.trans ((Below.refl w0.heap.size w0).mono HB.out.size)) (by omega)
        | true =>
          have e0 : tmB A B = true := by simp [tmB, hb1, hb2, hb3, hb4]
          have hi1 := tm_in hb1
          have hi2 := tm_in hb2
          have e1 : tmOut A B = (pickL B.1 A.1, pickL B.2 A.2) := by simp [tmOut, e0]
          rw [e0, e1]
          obtain ⟨R1, hR1⟩ : ∃ R, pickL B.1 A.1 = R := ⟨_, rfl⟩
          obtain ⟨R2, hR2⟩ : ∃ R, pickL B.2 A.2 = R := ⟨_, rfl⟩
          have hA := Lib.hid (fun W (hW : Below w0.heap.size w0 W) => hgList_any (.slice d1 B.1.length k1) (.slice a1 A.1.length c1) B.1.length A.1.length B.1 A.1 W (HV.out.1.below hW) (HU.out.1.below hW) (by unfold totP at hs; omega) hi1)
          have hE := Lib.hid (fun W (hW : Below w0.heap.size w0 W) => hgList_any (.slice d2 B.2.length k2) (.slice a2 A.2.length c2) B.2.length A.2.length B.2 A.2 W (HV.out.2.below hW) (HU.out.2.below hW) (by unfold totP at hs; omega) hi2)
          rw [hR1] at hA
          rw [hR2] at hE
          rw [hR1, hR2]
          clear e0 e1 hi1 hi2 hR1 hR2 hb1 hb2 hb3 hb4
          go_enter Try.func20, Try.ntmps20
          go_wp2_with fail
          rw [← HW.out]
          have BR := Below.refl w0.heap.size w0
          refine (Cb1.out w0 (Below.refl _ _)).mono ?_
          rintro e w1 ⟨rfl, rfl⟩
          go_wp2_with fail
          refine (Cb2.out w0 (Below.refl _ _)).mono ?_
          rintro e w1 ⟨rfl, rfl⟩
          go_wp2_with fail
          refine (Cb3.out w0 (Below.refl _ _)).mono ?_
          rintro e w1 ⟨rfl, rfl⟩
          go_wp2_with fail
          refine (Cb4.out w0 (Below.refl _ _)).mono ?_
          rintro e w1 ⟨rfl, rfl⟩
          have x0_0 := X0_0 _ BR
          have x0_1 := X0_1 _ BR
          have x1_0 := X1_0 _ BR
          have x1_1 := X1_1 _ BR
          go_upto_region 3 with fail
          go_region_held3 (fun W => W.cell? ⟨w.heap.size, 0, none⟩ = some (.slice a1 A.1.length c1) ∧ W.cell? ⟨w.heap.size, 1, none⟩ = some (.slice a2 A.2.length c2) ∧ W.cell? ⟨w.heap.size + 1, 0, none⟩ = some (.slice d1 B.1.length k1) ∧ W.cell? ⟨w.heap.size + 1, 1, none⟩ = some (.slice d2 B.2.length k2)) (first | exact S9.out | exact S7.out | exact ⟨(pair_chg w9 (w.heap.size + 1 + 1) _ _).keep (X0_0 _ B9) (fun e => by simp only at e; omega), (pair_chg w9 (w.heap.size + 1 + 1) _ _).keep (X0_1 _ B9) (fun e => by simp only at e; omega), (pair_chg w9 (w.heap.size + 1 + 1) _ _).keep (X1_0 _ B9) (fun e => by simp only at e; omega), (pair_chg w9 (w.heap.size + 1 + 1) _ _).keep (X1_1 _ B9) (fun e => by simp only at e; omega)⟩ | go_keep) (first | (go_at_call 51; (with_reducible refine (hA.out _ (below_drewB BR)).mono ?_); rintro e w_1 ⟨v_1, rfl, ho_1, hf_1, hb_1⟩; obtain ⟨s_1, e_1, rfl⟩ := ho_1.form; have B_1 := below_step (below_drewB BR) hb_1; have S7 := Lib.hid (And.intro (X0_0 _ B_1) (And.intro (X0_1 _ B_1) (And.intro (X1_0 _ B_1) (X1_1 _ B_1))))) | (go_at_call 51; (with_reducible refine (hE.out _ B_1).mono ?_); rintro e w9 ⟨v9, rfl, ho9, hf9, hb9⟩; obtain ⟨s9, e9, rfl⟩ := ho9.form; have B9 := below_step B_1 hb9; have q0 := Q0 _ B9; have q1 := Q1 _ B9; have g0 := G0 _ B9; have g1 := G1 _ B9; have S9 := Lib.hid (And.intro (X0_0 _ B9) (And.intro (X0_1 _ B9) (And.intro (X1_0 _ B9) (X1_1 _ B9))))))
          have hp : OwnsP (w0.heap.size ≤ ·) w9 (.slice s_1 R1.length e_1) (.slice s9 R2.length e9) (R1, R2) := ownsP_two (S := fun g => w0.heap.size ≤ g) (L := (R1, R2)) ⟨ho_1, hf_1⟩ hb9 ⟨ho9, hf9⟩ (fun g hg => Nat.le_trans B_1.size hg)
          have hfin := Lib.hid (optMatch_put (L := (R1, R2)) HB.out B9 hp (b := w.heap.size + 1 + 1) (by omega) (by have h2 := HS.out; omega))
          clear ho_1 hf_1 hb_1 ho9 hf9 hb9 hp
          go_wp2
          refine bodyPost_ret (v := .tuple #[.agg #[.slice s_1 R1.length e_1, .slice s9 R2.length e9], .bool true]) (by simp [results, Try.results20, go_sem, q0, q1]) rfl ?_
          exact hfin.out

set_option maxRecDepth 100000 in
set_option maxHeartbeats 4000000 in
theorem implTM_any (A B : List Int × List Int) (u1 u2 v1 v2 : Value) (w : World) (hu : ReadsP w u1 u2 A) (hv : ReadsP w v1 v2 B) (hs : totP A ≤ 1048576) :
    Calls Try.prog 22 #[.agg #[u1, u2], .agg #[v1, v2]] w (OptMatch w (tmB A B) (tmOut A B)) := by
  obtain ⟨a1, c1, a2, c2, rfl, rfl⟩ := hu.form
  obtain ⟨d1, k1, d2, k2, rfl, rfl⟩ := hv.form
  have hl1 : B.1.length ≤ 9223372036854775807 := by obtain ⟨_, _, _, _, h, _⟩ := open_reads hv.1; exact h
  have hl2 : B.2.length ≤ 9223372036854775807 := by obtain ⟨_, _, _, _, h, _⟩ := open_reads hv.2; exact h
  have hw1 : IntKind.i64.wrap ((B.1.length : Int) - 1) = (B.1.length : Int) - 1 := IntWalk.i64_in _ (by omega)
  have hw2 : IntKind.i64.wrap ((B.2.length : Int) - 1) = (B.2.length : Int) - 1 := IntWalk.i64_in _ (by omega)
  obtain ⟨w0, hw0⟩ : ∃ W, W = (((w.alloc (.cells #[.slice a1 A.1.length c1, .slice a2 A.2.length c2] 40)).alloc (.cells #[.slice d1 B.1.length k1, .slice d2 B.2.length k2] 40)).alloc (.cells #[.slice none 0 0, .slice none 0 0] 40)) := ⟨_, rfl⟩
  have hB : Below w.heap.size w w0 := by rw [hw0]; exact ((((Below.refl w.heap.size w).alloc (by simp) (.cells #[.slice a1 A.1.length c1, .slice a2 A.2.length c2] 40)).alloc (by simp) (.cells #[.slice d1 B.1.length k1, .slice d2 B.2.length k2] 40)).alloc (by simp; omega) (.cells #[.slice none 0 0, .slice none 0 0] 40))
  have hs0 : w0.heap.size = w.heap.size + 3 := by rw [hw0]; simp
  have X0_0 : ∀ W, Below w0.heap.size w0 W → W.cell? ⟨w.heap.size, 0, none⟩ = some (.slice a1 A.1.length c1) := fun W hW => cell_old hW (by rw [hw0]; simp [go_sem])
  have X0_1 : ∀ W, Below w0.heap.size w0 W → W.cell? ⟨w.heap.size, 1, none⟩ = some (.slice a2 A.2.length c2) := fun W hW => cell_old hW (by rw [hw0]; simp [go_sem])
  have X1_0 : ∀ W, Below w0.heap.size w0 W → W.cell? ⟨w.heap.size + 1, 0, none⟩ = some (.slice d1 B.1.length k1) := fun W hW => cell_old hW (by rw [hw0]; simp [go_sem])
  have X1_1 : ∀ W, Below w0.heap.size w0 W → W.cell? ⟨w.heap.size + 1, 1, none⟩ = some (.slice d2 B.2.length k2) := fun W hW => cell_old hW (by rw [hw0]; simp [go_sem])
  have Q0 : ∀ W, Below w0.heap.size w0 W → W.cell? ⟨w.heap.size + 1 + 1, 0, none⟩ = some (.slice none 0 0) := fun W hW => cell_old hW (by rw [hw0]; simp [go_sem])
  have G0 : ∀ W, Below w0.heap.size w0 W → W.frozen? ⟨w.heap.size + 1 + 1, 0, none⟩ = false := fun W hW => frozen_old hW (by show w.heap.size + 1 + 1 < _; omega) (by rw [hw0]; simp [go_sem])
  have Q1 : ∀ W, Below w0.heap.size w0 W → W.cell? ⟨w.heap.size + 1 + 1, 1, none⟩ = some (.slice none 0 0) := fun W hW => cell_old hW (by rw [hw0]; simp [go_sem])
  have G1 : ∀ W, Below w0.heap.size w0 W → W.frozen? ⟨w.heap.size + 1 + 1, 1, none⟩ = false := fun W hW => frozen_old hW (by show w.heap.size + 1 + 1 < _; omega) (by rw [hw0]; simp [go_sem])
  have HW := Lib.hid hw0
  have HB := Lib.hid hB
  have HS := Lib.hid hs0
  have HU := Lib.hid (hu.below hB)
  have HV := Lib.hid (hv.below hB)
  obtain ⟨b1, hb1⟩ : ∃ b, (A.1.all fun a => Fld.inR a 0 ((B.1.length : Int) - 1)) = b := ⟨_, rfl⟩
  have Cb1 := Lib.hid (fun W (hW : Below w0.heap.size w0 W) => areBelow_hi (.slice a1 A.1.length c1) A.1.length A.1 (B.1.length : Int) ((B.1.length : Int) - 1) rfl (by omega) (by omega) W (HU.out.1.below hW))
  rw [hb1] at Cb1
  obtain ⟨b2, hb2⟩ : ∃ b, (A.2.all fun a => Fld.inR a 0 ((B.2.length : Int) - 1)) = b := ⟨_, rfl⟩
  have Cb2 := Lib.hid (fun W (hW : Below w0.heap.size w0 W) => areBelow_hi (.slice a2 A.2.length c2) A.2.length A.2 (B.2.length : Int) ((B.2.length : Int) - 1) rfl (by omega) (by omega) W (HU.out.2.below hW))
  rw [hb2] at Cb2
  obtain ⟨b3, hb3⟩ : ∃ b, (B.1.all fun a => Fld.inR a 0 (99)) = b := ⟨_, rfl⟩
  have Cb3 := Lib.hid (fun W (hW : Below w0.heap.size w0 W) => areBelow_hi (.slice d1 B.1.length k1) B.1.length B.1 100 (99) rfl (by omega) (by omega) W (HV.out.1.below hW))
  rw [hb3] at Cb3
  obtain ⟨b4, hb4⟩ : ∃ b, (B.2.all fun a => Fld.inR a 0 (59)) = b := ⟨_, rfl⟩
  have Cb4 := Lib.hid (fun W (hW : Below w0.heap.size w0 W) => areBelow_hi (.slice d2 B.2.length k2) B.2.length B.2 60 (59) rfl (by omega) (by omega) W (HV.out.2.below hW))
  rw [hb4] at Cb4
  clear hw0 hB hs0 hu hv
  cases b1 with
  | false =>
    have e0 : tmB A B = false := by simp [tmB, hb1]
    rw [e0, tm_none e0]
    clear e0
    clear hb1 hb2 hb3 hb4
    go_enter Try.func22, Try.ntmps22
    go_wp2_with fail
    rw [← HW.out]
    have BR := Below.refl w0.heap.size w0
    refine (Cb1.out w0 (Below.refl _ _)).mono ?_
    rintro e w1 ⟨rfl, rfl⟩
    go_wp2
    refine bodyPost_ret (v := .tuple #[.agg #[.slice none 0 0, .slice none 0 0], .bool false]) (by simp [results, Try.results22, go_sem, Q0 _ (Below.refl w0.heap.size w0), Q1 _ (Below.refl w0.heap.size w0)]) rfl ?_
    exact optMatch_none (HB.out.trans ((Below.refl w0.heap.size w0).mono HB.out.size)) (by omega)
  | true =>
    cases b2 with
    | false =>
      have e0 : tmB A B = false := by simp [tmB, hb1, hb2]
      rw [e0, tm_none e0]
      clear e0
      clear hb1 hb2 hb3 hb4
      go_enter Try.func22, Try.ntmps22
      go_wp2_with fail
      rw [← HW.out]
      have BR := Below.refl w0.heap.size w0
      refine (Cb1.out w0 (Below.refl _ _)).mono ?_
      rintro e w1 ⟨rfl, rfl⟩
      go_wp2_with fail
      refine (Cb2.out w0 (Below.refl _ _)).mono ?_
      rintro e w1 ⟨rfl, rfl⟩
      go_wp2
      refine bodyPost_ret (v := .tuple #[.agg #[.slice none 0 0, .slice none 0 0], .bool false]) (by simp [results, Try.results22, go_sem, Q0 _ (Below.refl w0.heap.size w0), Q1 _ (Below.refl w0.heap.size w0)]) rfl ?_
      exact optMatch_none (HB.out.trans ((Below.refl w0.heap.size w0).mono HB.out.size)) (by omega)
    | true =>
      cases b3 with
      | false =>
        have e0 : tmB A B = false := by simp [tmB, hb1, hb2, hb3]
        rw [e0, tm_none e0]
        clear e0
        clear hb1 hb2 hb3 hb4
        go_enter Try.func22, Try.ntmps22
        go_wp2_with fail
        rw [← HW.out]
        have BR := Below.refl w0.heap.size w0
        refine (Cb1.out w0 (Below.refl _ _)).mono ?_
        rintro e w1 ⟨rfl, rfl⟩
        go_wp2_with fail
        refine (Cb2.out w0 (Below.refl _ _)).mono ?_
        rintro e w1 ⟨rfl, rfl⟩
        go_wp2_with fail
        refine (Cb3.out w0 (Below.refl _ _)).mono ?_
        rintro e w1 ⟨rfl, rfl⟩
        go_wp2
        refine bodyPost_ret (v := .tuple #[.agg #[.slice none 0 0, .slice none 0 0], .bool false]) (by simp [results, Try.results22, go_sem, Q0 _ (Below.refl w0.heap.size w0), Q1 _ (Below.refl w0.heap.size w0)]) rfl ?_
        exact optMatch_none (HB.out.trans ((Below.refl w0.heap.size w0).mono HB.out.size)) (by omega)
      | true =>
        cases b4 with
        | false =>
          have e0 : tmB A B = false := by simp [tmB, hb1, hb2, hb3, hb4]
          rw [e0, tm_none e0]
          clear e0
          clear hb1 hb2 hb3 hb4
          go_enter Try.func22, Try.ntmps22
          go_wp2_with fail
          rw [← HW.out]
          have BR := Below.refl w0.heap.size w0
          refine (Cb1.out w0 (Below.refl _ _)).mono ?_
          rintro e w1 ⟨rfl, rfl⟩
          go_wp2_with fail
          refine (Cb2.out w0 (Below.refl _ _)).mono ?_
          rintro e w1 ⟨rfl, rfl⟩
          go_wp2_with fail
          refine (Cb3.out w0 (Below.refl _ _)).mono ?_
          rintro e w1 ⟨rfl, rfl⟩
          go_wp2_with fail
          refine (Cb4.out w0 (Below.refl _ _)).mono ?_
          rintro e w1 ⟨rfl, rfl⟩
          go_wp2
          refine bodyPost_ret (v := .tuple #[.agg #[.slice none 0 0, .slice none 0 0], .bool false]) (by simp [results, Try.results22, go_sem, Q0 _ (Below.refl w0.heap.size w0), Q1 _ (Below.refl w0.heap.size w0)]) rfl ?_
          exact optMatch_none (HB.out.trans ((Below.refl w0.heap.size w0).mono HB.out.size)) (by omega)
        | true =>
          have e0 : tmB A B = true := by simp [tmB, hb1, hb2, hb3, hb4]
          have hi1 := tm_in hb1
          have hi2 := tm_in hb2
          have e1 : tmOut A B = (pickL B.1 A.1, pickL B.2 A.2) := by simp [tmOut, e0]
          rw [e0, e1]
          obtain ⟨R1, hR1⟩ : ∃ R, pickL B.1 A.1 = R := ⟨_, rfl⟩
          obtain ⟨R2, hR2⟩ : ∃ R, pickL B.2 A.2 = R := ⟨_, rfl⟩
          have hA := Lib.hid (fun W (hW : Below w0.heap.size w0 W) => mapped_any (.slice d1 B.1.length k1) (.slice a1 A.1.length c1) B.1.length A.1.length B.1 A.1 W (HV.out.1.below hW) (HU.out.1.below hW) (by unfold totP at hs; omega) hi1)
          have hE := Lib.hid (fun W (hW : Below w0.heap.size w0 W) => mapped_any (.slice d2 B.2.length k2) (.slice a2 A.2.length c2) B.2.length A.2.length B.2 A.2 W (HV.out.2.below hW) (HU.out.2.below hW) (by unfold totP at hs; omega) hi2)
          rw [hR1] at hA
          rw [hR2] at hE
          rw [hR1, hR2]
          clear e0 e1 hi1 hi2 hR1 hR2 hb1 hb2 hb3 hb4
          go_enter Try.func22, Try.ntmps22
          go_wp2_with fail
          rw [← HW.out]
          have BR := Below.refl w0.heap.size w0
          refine (Cb1.out w0 (Below.refl _ _)).mono ?_
          rintro e w1 ⟨rfl, rfl⟩
          go_wp2_with fail
          refine (Cb2.out w0 (Below.refl _ _)).mono ?_
          rintro e w1 ⟨rfl, rfl⟩
          go_wp2_with fail
          refine (Cb3.out w0 (Below.refl _ _)).mono ?_
          rintro e w1 ⟨rfl, rfl⟩
          go_wp2_with fail
          refine (Cb4.out w0 (Below.refl _ _)).mono ?_
          rintro e w1 ⟨rfl, rfl⟩
          have x0_0 := X0_0 _ BR
          have x0_1 := X0_1 _ BR
          have x1_0 := X1_0 _ BR
          have x1_1 := X1_1 _ BR
          go_upto_region 3 with fail
          go_region_held3 (fun W => W.cell? ⟨w.heap.size, 0, none⟩ = some (.slice a1 A.1.length c1) ∧ W.cell? ⟨w.heap.size, 1, none⟩ = some (.slice a2 A.2.length c2) ∧ W.cell? ⟨w.heap.size + 1, 0, none⟩ = some (.slice d1 B.1.length k1) ∧ W.cell? ⟨w.heap.size + 1, 1, none⟩ = some (.slice d2 B.2.length k2)) (first | exact S9.out | exact S7.out | exact ⟨(pair_chg w9 (w.heap.size + 1 + 1) _ _).keep (X0_0 _ B9) (fun e => by simp only at e; omega), (pair_chg w9 (w.heap.size + 1 + 1) _ _).keep (X0_1 _ B9) (fun e => by simp only at e; omega), (pair_chg w9 (w.heap.size + 1 + 1) _ _).keep (X1_0 _ B9) (fun e => by simp only at e; omega), (pair_chg w9 (w.heap.size + 1 + 1) _ _).keep (X1_1 _ B9) (fun e => by simp only at e; omega)⟩ | go_keep) (first | (go_at_call 53; (with_reducible refine (hA.out _ (below_drewB BR)).mono ?_); rintro e w_1 ⟨v_1, rfl, ho_1, hf_1, hb_1⟩; obtain ⟨s_1, e_1, rfl⟩ := ho_1.form; have B_1 := below_step (below_drewB BR) hb_1; have S7 := Lib.hid (And.intro (X0_0 _ B_1) (And.intro (X0_1 _ B_1) (And.intro (X1_0 _ B_1) (X1_1 _ B_1))))) | (go_at_call 53; (with_reducible refine (hE.out _ B_1).mono ?_); rintro e w9 ⟨v9, rfl, ho9, hf9, hb9⟩; obtain ⟨s9, e9, rfl⟩ := ho9.form; have B9 := below_step B_1 hb9; have q0 := Q0 _ B9; have q1 := Q1 _ B9; have g0 := G0 _ B9; have g1 := G1 _ B9; have S9 := Lib.hid (And.intro (X0_0 _ B9) (And.intro (X0_1 _ B9) (And.intro (X1_0 _ B9) (X1_1 _ B9))))))
          have hp : OwnsP (w0.heap.size ≤ ·) w9 (.slice s_1 R1.length e_1) (.slice s9 R2.length e9) (R1, R2) := ownsP_two (S := fun g => w0.heap.size ≤ g) (L := (R1, R2)) ⟨ho_1, hf_1⟩ hb9 ⟨ho9, hf9⟩ (fun g hg => Nat.le_trans B_1.size hg)
          have hfin := Lib.hid (optMatch_put (L := (R1, R2)) HB.out B9 hp (b := w.heap.size + 1 + 1) (by omega) (by have h2 := HS.out; omega))
          clear ho_1 hf_1 hb_1 ho9 hf9 hb9 hp
          go_wp2
          refine bodyPost_ret (v := .tuple #[.agg #[.slice s_1 R1.length e_1, .slice s9 R2.length e9], .bool true]) (by simp [results, Try.results22, go_sem, q0, q1]) rfl ?_
          exact hfin.out

end Ints
end Go.Proofs.Ytimjlcnljefbbaa
