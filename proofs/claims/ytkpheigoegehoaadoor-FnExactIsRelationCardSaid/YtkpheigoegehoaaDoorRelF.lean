/- RelationFrom, both. (Printed by wip/gen_rel.py.) -/
import Derived.Test.YtkpheigoegehoaaDoorSpanF
import Derived.Test.YtkpheigoegehoaaDoorRel
import Derived.IntWalk
namespace Go.Proofs.YtkpheigoegehoaaDoor
open Go.RowKit
namespace Ints

def fitsB (l r : Int) : Bool := Fld.inR l 0 24 && Fld.inR r 0 (24 - l)
def fitRel (p l r : Int) (A : List (List Int)) : Bool := Fld.goodB p && fitsB l r && decide (A.length ≤ 48) && rowsB p (l + r) A
def relOut (p l r : Int) (A : List (List Int)) : List (List Int) := if fitRel p l r A then reducedL p (l + r).toNat A else []
def relL (p l r : Int) (A : List (List Int)) : Int := if fitRel p l r A then l else 0
def relR (p l r : Int) (A : List (List Int)) : Int := if fitRel p l r A then r else 0
theorem fits_nats {l r : Int} (h : fitsB l r = true) : ∃ a b : Nat, l = a ∧ r = b ∧ a + b ≤ 24 := by
  simp only [fitsB, Bool.and_eq_true] at h
  obtain ⟨q1, q2⟩ := inR_parts h.1
  obtain ⟨q3, q4⟩ := inR_parts h.2
  exact ⟨l.toNat, r.toNat, by omega, by omega, by omega⟩
theorem fitRel_parts {p l r : Int} {A : List (List Int)} (h : fitRel p l r A = true) : ∃ a b : Nat, l = a ∧ r = b ∧ a + b ≤ 24 ∧ A.length ≤ 48 ∧ Fld.goodB p = true ∧ ElemsT p A.length (a + b) A := by
  simp only [fitRel, Bool.and_eq_true, decide_eq_true_eq] at h
  obtain ⟨⟨⟨h1, h2⟩, h3⟩, h4⟩ := h
  obtain ⟨a, b, rfl, rfl, hab⟩ := fits_nats h2
  have := rows_elems h4 (by omega)
  rw [show ((a : Int) + (b : Int)).toNat = a + b by omega] at this
  exact ⟨a, b, rfl, rfl, hab, h3, h1, this⟩
theorem relOut_ctr (p l r : Int) (A : List (List Int)) : (1 : Int) + (sumL (relOut p l r A) : Int) ≤ 1000000000 := by
  unfold relOut
  split
  · rename_i h
    obtain ⟨a, b, rfl, rfl, hab, hl, hg, hA⟩ := fitRel_parts h
    rw [show ((a : Int) + (b : Int)).toNat = a + b by omega]
    obtain ⟨h1, h2⟩ := reduced_elems hg hA
    exact ctr_elems' h1 (by omega) (by omega)
  · exact ctr_nil

/-- A relation in new memory, and whether there is one. -/
def OptRel (w : World) (b : Bool) (c d : Int) (R : List (List Int)) (e : Ending) (w' : World) : Prop :=
  ∃ v, e = .returned (.tuple #[.agg #[.int .i64 c, .int .i64 d, v], .bool b]) ∧ OwnsM (w.heap.size ≤ ·) w' v R ∧ Below w.heap.size w w'
theorem relBox_chg (W : World) (b : Nat) (x y z : Value) : Chg (fun g => g = b) W (((W.setCell ⟨b, 0, none⟩ x).setCell ⟨b, 1, none⟩ y).setCell ⟨b, 2, none⟩ z) :=
  ((Chg.set1 W ⟨b, 0, none⟩ x).setCell (p := ⟨b, 1, none⟩) (fun _ => rfl) y).setCell (p := ⟨b, 2, none⟩) (fun _ => rfl) z
theorem optRel_put {w w1 w2 : World} {b : Nat} {c d : Int} {v : Value} {R : List (List Int)} (h1 : Below w.heap.size w w1) (h2 : Below w1.heap.size w1 w2) (ho : OwnsM (w1.heap.size ≤ ·) w2 v R) (hb : w.heap.size ≤ b) (hs : b < w1.heap.size) :
    OptRel w true c d R (.returned (.tuple #[.agg #[.int .i64 c, .int .i64 d, v], .bool true])) (((w2.setCell ⟨b, 0, none⟩ (.int .i64 c)).setCell ⟨b, 1, none⟩ (.int .i64 d)).setCell ⟨b, 2, none⟩ v) := by
  have hc2 := relBox_chg w2 b (.int .i64 c) (.int .i64 d) v
  refine ⟨_, rfl, (ho.chg hc2 fun g hg e => by omega).mono fun g hg => by omega, ?_⟩
  have := h1.size
  have := h2.size
  exact (h1.trans (h2.mono (by omega))).trans (hc2.below (by omega) fun g e => by omega)
theorem optRel_none {w w1 : World} {b : Nat} (h1 : Below w.heap.size w w1) (hb : w.heap.size ≤ b) :
    OptRel w false 0 0 [] (.returned (.tuple #[.agg #[.int .i64 0, .int .i64 0, .slice none 0 0], .bool false])) (((w1.setCell ⟨b, 0, none⟩ (.int .i64 0)).setCell ⟨b, 1, none⟩ (.int .i64 0)).setCell ⟨b, 2, none⟩ (.slice none 0 0)) :=
  ⟨_, rfl, ownsM_nil _ _, h1.trans ((relBox_chg w1 b _ _ _).below h1.size fun g e => by omega)⟩

set_option maxHeartbeats 1000000 in
theorem fits_any (l r : Int) (hl : (Lit.int .i64 l).wf = true) (w : World) :
    Calls Tryd.prog 75 #[.int .i64 l, .int .i64 r] w fun e w' => e = .returned (.bool (fitsB l r)) ∧ w = w' := by
  have hc1 := Lib.hid (fun W => within_any l 0 24 W)
  have hc2 := Lib.hid (fun W => within_any r 0 24 W)
  obtain ⟨b1, hb1⟩ : ∃ b, Fld.inR l 0 24 = b := ⟨_, rfl⟩
  obtain ⟨b2, hb2⟩ : ∃ b, Fld.inR r 0 24 = b := ⟨_, rfl⟩
  rw [hb1] at hc1
  rw [hb2] at hc2
  have hno : ∀ {x y z : Int}, Fld.inR x y z = false → ¬ (y ≤ x ∧ x ≤ z) := fun {x y z} h e => by
    have := h
    unfold Fld.inR at this
    simp at this
    omega
  have hmk : ∀ {x y z : Int}, ¬ (y ≤ x ∧ x ≤ z) → Fld.inR x y z = false := fun {x y z} h => by
    unfold Fld.inR
    simp
    omega
  have hyes : ∀ {x y z : Int}, (y ≤ x ∧ x ≤ z) → Fld.inR x y z = true := fun {x y z} h => by
    unfold Fld.inR
    simp
    omega
  cases b1 with
  | false =>
    have e0 : fitsB l r = false := by simp [fitsB, hb1]
    rw [e0]
    clear hb1 hb2 e0 hno hmk hyes
    go_enter Tryd.func75, Tryd.ntmps75
    go_wp2_with (go_at_call 91; ((with_reducible refine (hc1.out _).mono ?_); rintro e w' ⟨rfl, rfl⟩))
    go_ret
    exact ⟨rfl, rfl⟩
  | true =>
    obtain ⟨q1, q2⟩ := inR_parts hb1
    cases b2 with
    | false =>
      have e0 : fitsB l r = false := by
        unfold fitsB
        rw [hmk (x := r) (z := 24 - l) (fun e => hno hb2 ⟨e.1, by omega⟩), Bool.and_false]
      rw [e0]
      clear hb1 hb2 e0 hno hmk hyes
      go_enter Tryd.func75, Tryd.ntmps75
      go_wp2_with (first | (go_at_call 91; ((with_reducible refine (hc1.out _).mono ?_); rintro e w' ⟨rfl, rfl⟩)) | (go_at_call 91; ((with_reducible refine (hc2.out _).mono ?_); rintro e w' ⟨rfl, rfl⟩)))
      go_ret
      exact ⟨rfl, rfl⟩
    | true =>
      obtain ⟨q3, q4⟩ := inR_parts hb2
      obtain ⟨a, rfl⟩ : ∃ a : Nat, l = a := ⟨l.toNat, by omega⟩
      obtain ⟨b, rfl⟩ : ∃ b : Nat, r = b := ⟨r.toNat, by omega⟩
      have hw : IntKind.i64.wrap ((a : Int) + (b : Int)) = (a : Int) + (b : Int) := IntWalk.i64_in _ (by omega)
      by_cases hs : a + b ≤ 24
      · have e0 : fitsB (a : Int) (b : Int) = true := by
          unfold fitsB
          rw [hb1, hyes (x := (b : Int)) ⟨q3, by omega⟩]
          rfl
        have hd1 : decide ((a : Int) + (b : Int) ≤ 24) = true := by simp; omega
        have hd2 : (a : Int) + (b : Int) ≤ 24 := by omega
        rw [e0]
        clear hb1 hb2 e0 hno hmk hyes
        go_enter Tryd.func75, Tryd.ntmps75
        go_wp2_with (first | (go_at_call 91; ((with_reducible refine (hc1.out _).mono ?_); rintro e w' ⟨rfl, rfl⟩)) | (go_at_call 91; ((with_reducible refine (hc2.out _).mono ?_); rintro e w' ⟨rfl, rfl⟩)))
        go_ret
        exact ⟨rfl, rfl⟩
      · have e0 : fitsB (a : Int) (b : Int) = false := by
          unfold fitsB
          rw [hmk (x := (b : Int)) (z := 24 - (a : Int)) (fun e => hs (by omega)), Bool.and_false]
        have hd1 : decide ((a : Int) + (b : Int) ≤ 24) = false := by simp; omega
        have hd2 : ¬ (a : Int) + (b : Int) ≤ 24 := by omega
        rw [e0]
        clear hb1 hb2 e0 hno hmk hyes
        go_enter Tryd.func75, Tryd.ntmps75
        go_wp2_with (first | (go_at_call 91; ((with_reducible refine (hc1.out _).mono ?_); rintro e w' ⟨rfl, rfl⟩)) | (go_at_call 91; ((with_reducible refine (hc2.out _).mono ?_); rintro e w' ⟨rfl, rfl⟩)))
        go_ret
        exact ⟨rfl, rfl⟩

set_option maxHeartbeats 1000000 in
theorem rlOf_any (p : Int) (hg : Fld.goodB p = true) (n a b : Nat) (hn : n ≤ 1000) (hab : a + b ≤ 1000) (v : Value) (M : List (List Int)) (w : World) (hM : ElemsT p n (a + b) M) (hv : ReadsM w v M) :
    Calls Tryd.prog 96 #[.int .i64 p, .int .i64 a, .int .i64 b, v] w (NewRel w a b (reducedL p (a + b) M)) := by
  obtain ⟨av, cap, rfl⟩ := hv.form
  have hB := Lib.hid ((Below.refl w.heap.size w).alloc (Nat.le_refl _) (.cells #[.int .i64 0, .int .i64 0, .slice none 0 0] 27))
  have hcall := Lib.hid (spReduce_any p hg n (a + b) hn hab _ M _ hM (hv.below hB.out))
  have hw : IntKind.i64.wrap ((a : Int) + (b : Int)) = ((a + b : Nat) : Int) := by rw [IntWalk.i64_in _ (by omega)]; omega
  obtain ⟨R, hR⟩ : ∃ R, reducedL p (a + b) M = R := ⟨_, rfl⟩
  rw [hR] at hcall ⊢
  obtain ⟨s, hs⟩ : ∃ s, ((a + b : Nat) : Int) = s := ⟨_, rfl⟩
  rw [hs] at hcall hw
  clear hg hM hv hR hs
  go_enter Tryd.func96, Tryd.ntmps96
  go_wp2_with fail
  refine hcall.out.mono ?_
  rintro e w1 ⟨v1, rfl, ho1, hb1⟩
  obtain ⟨a1, c1, rfl⟩ := ho1.reads.form
  have q0 : w1.cell? ⟨w.heap.size, 0, none⟩ = some (.int .i64 0) := cell_old hb1 (by simp [go_sem])
  have q1 : w1.cell? ⟨w.heap.size, 1, none⟩ = some (.int .i64 0) := cell_old hb1 (by simp [go_sem])
  have q2 : w1.cell? ⟨w.heap.size, 2, none⟩ = some (.slice none 0 0) := cell_old hb1 (by simp [go_sem])
  have g0 : w1.frozen? ⟨w.heap.size, 0, none⟩ = false := frozen_old hb1 (by simp) (by simp [go_sem])
  have g1 : w1.frozen? ⟨w.heap.size, 1, none⟩ = false := frozen_old hb1 (by simp) (by simp [go_sem])
  have g2 : w1.frozen? ⟨w.heap.size, 2, none⟩ = false := frozen_old hb1 (by simp) (by simp [go_sem])
  have hfin : Hid (NewRel w a b R (.returned (.agg #[.int .i64 a, .int .i64 b, .slice a1 R.length c1])) (((w1.setCell ⟨w.heap.size, 0, none⟩ (.int .i64 a)).setCell ⟨w.heap.size, 1, none⟩ (.int .i64 b)).setCell ⟨w.heap.size, 2, none⟩ (.slice a1 R.length c1))) := by
    have hc2 := relBox_chg w1 w.heap.size (.int .i64 a) (.int .i64 b) (.slice a1 R.length c1)
    exact ⟨_, rfl, (ho1.chg hc2 fun g hg e => by simp at hg; omega).mono fun g hg => by simp at hg; omega, (hB.out.trans (hb1.mono hB.out.size)).trans (hc2.below (Nat.le_trans hB.out.size hb1.size) fun g hg => by omega)⟩
  clear ho1 hb1 hcall hw
  go_wp2
  refine bodyPost_ret (v := .agg #[.int .i64 a, .int .i64 b, .slice a1 R.length c1]) (by simp [results, Tryd.results96, go_sem, q0, q1, q2]) rfl ?_
  exact hfin.out

set_option maxHeartbeats 1000000 in
theorem relation_any (p : Int) (hg : Fld.goodB p = true) (n a b : Nat) (hn : n ≤ 1000) (hab : a + b ≤ 1000) (v : Value) (M : List (List Int)) (w : World) (hM : ElemsT p n (a + b) M) (hv : ReadsM w v M) :
    Calls Tryd.prog 97 #[.int .i64 p, .int .i64 a, .int .i64 b, v] w (NewRel w a b (reducedL p (a + b) M)) := by
  obtain ⟨av, cap, rfl⟩ := hv.form
  have hB := Lib.hid ((Below.refl w.heap.size w).alloc (Nat.le_refl _) (.cells #[.int .i64 0, .int .i64 0, .slice none 0 0] 27))
  have hcall := Lib.hid (reduced_any p hg n (a + b) hn hab _ M _ hM (hv.below hB.out))
  have hw : IntKind.i64.wrap ((a : Int) + (b : Int)) = ((a + b : Nat) : Int) := by rw [IntWalk.i64_in _ (by omega)]; omega
  obtain ⟨R, hR⟩ : ∃ R, reducedL p (a + b) M = R := ⟨_, rfl⟩
  rw [hR] at hcall ⊢
  obtain ⟨s, hs⟩ : ∃ s, ((a + b : Nat) : Int) = s := ⟨_, rfl⟩
  rw [hs] at hcall hw
  clear hg hM hv hR hs
  go_enter Tryd.func97, Tryd.ntmps97
  go_wp2_with fail
  refine hcall.out.mono ?_
  rintro e w1 ⟨v1, rfl, ho1, hb1⟩
  obtain ⟨a1, c1, rfl⟩ := ho1.reads.form
  have q0 : w1.cell? ⟨w.heap.size, 0, none⟩ = some (.int .i64 0) := cell_old hb1 (by simp [go_sem])
  have q1 : w1.cell? ⟨w.heap.size, 1, none⟩ = some (.int .i64 0) := cell_old hb1 (by simp [go_sem])
  have q2 : w1.cell? ⟨w.heap.size, 2, none⟩ = some (.slice none 0 0) := cell_old hb1 (by simp [go_sem])
  have g0 : w1.frozen? ⟨w.heap.size, 0, none⟩ = false := frozen_old hb1 (by simp) (by simp [go_sem])
  have g1 : w1.frozen? ⟨w.heap.size, 1, none⟩ = false := frozen_old hb1 (by simp) (by simp [go_sem])
  have g2 : w1.frozen? ⟨w.heap.size, 2, none⟩ = false := frozen_old hb1 (by simp) (by simp [go_sem])
  have hfin : Hid (NewRel w a b R (.returned (.agg #[.int .i64 a, .int .i64 b, .slice a1 R.length c1])) (((w1.setCell ⟨w.heap.size, 0, none⟩ (.int .i64 a)).setCell ⟨w.heap.size, 1, none⟩ (.int .i64 b)).setCell ⟨w.heap.size, 2, none⟩ (.slice a1 R.length c1))) := by
    have hc2 := relBox_chg w1 w.heap.size (.int .i64 a) (.int .i64 b) (.slice a1 R.length c1)
    exact ⟨_, rfl, (ho1.chg hc2 fun g hg e => by simp at hg; omega).mono fun g hg => by simp at hg; omega, (hB.out.trans (hb1.mono hB.out.size)).trans (hc2.below (Nat.le_trans hB.out.size hb1.size) fun g hg => by omega)⟩
  clear ho1 hb1 hcall hw
  go_wp2
  refine bodyPost_ret (v := .agg #[.int .i64 a, .int .i64 b, .slice a1 R.length c1]) (by simp [results, Tryd.results97, go_sem, q0, q1, q2]) rfl ?_
  exact hfin.out

set_option maxHeartbeats 4000000 in
set_option maxRecDepth 100000 in
theorem specRel_any (p l r : Int) (hwl : (Lit.int .i64 l).wf = true) (u : Value) (A : List (List Int)) (w : World) (hu : ReadsM w u A) :
    Calls Tryd.prog 45 #[.int .i64 p, .int .i64 l, .int .i64 r, u] w (OptRel w (fitRel p l r A) (relL p l r A) (relR p l r A) (relOut p l r A)) := by
  obtain ⟨ua, uc, rfl⟩ := hu.form
  obtain ⟨w0, hw0⟩ : ∃ W, W = (w.alloc (.cells #[.int .i64 0, .int .i64 0, .slice none 0 0] 27)) := ⟨_, rfl⟩
  have hB : Below w.heap.size w w0 := by rw [hw0]; exact ((Below.refl w.heap.size w).alloc (by simp) (.cells #[.int .i64 0, .int .i64 0, .slice none 0 0] 27))
  have hs0 : w0.heap.size = w.heap.size + 1 := by rw [hw0]; simp
  have Q0 : ∀ W, Below w0.heap.size w0 W → W.cell? ⟨w.heap.size, 0, none⟩ = some (.int .i64 0) := fun W hW => cell_old hW (by rw [hw0]; simp [go_sem])
  have q0 := Q0 w0 (Below.refl _ _)
  have G0 : ∀ W, Below w0.heap.size w0 W → W.frozen? ⟨w.heap.size, 0, none⟩ = false := fun W hW => frozen_old hW (by show w.heap.size < _; omega) (by rw [hw0]; simp [go_sem])
  have g0 := G0 w0 (Below.refl _ _)
  have Q1 : ∀ W, Below w0.heap.size w0 W → W.cell? ⟨w.heap.size, 1, none⟩ = some (.int .i64 0) := fun W hW => cell_old hW (by rw [hw0]; simp [go_sem])
  have q1 := Q1 w0 (Below.refl _ _)
  have G1 : ∀ W, Below w0.heap.size w0 W → W.frozen? ⟨w.heap.size, 1, none⟩ = false := fun W hW => frozen_old hW (by show w.heap.size < _; omega) (by rw [hw0]; simp [go_sem])
  have g1 := G1 w0 (Below.refl _ _)
  have Q2 : ∀ W, Below w0.heap.size w0 W → W.cell? ⟨w.heap.size, 2, none⟩ = some (.slice none 0 0) := fun W hW => cell_old hW (by rw [hw0]; simp [go_sem])
  have q2 := Q2 w0 (Below.refl _ _)
  have G2 : ∀ W, Below w0.heap.size w0 W → W.frozen? ⟨w.heap.size, 2, none⟩ = false := fun W hW => frozen_old hW (by show w.heap.size < _; omega) (by rw [hw0]; simp [go_sem])
  have g2 := G2 w0 (Below.refl _ _)
  have HW := Lib.hid hw0
  have HB := Lib.hid hB
  have HS := Lib.hid hs0
  have HU := Lib.hid (hu.below hB)
  have hc1 := Lib.hid (fun W => Fld.fdGood_any p W)
  have hc2 := Lib.hid (fun W => Fld.l1In_any l 0 24 W)
  have hc3 := Lib.hid (fun W => Fld.l1In_any r 0 (24 - l) W)
  obtain ⟨b1, hb1⟩ : ∃ b, (Fld.goodB p) = b := ⟨_, rfl⟩
  obtain ⟨b2, hb2⟩ : ∃ b, (Fld.inR l 0 24) = b := ⟨_, rfl⟩
  obtain ⟨b3, hb3⟩ : ∃ b, (Fld.inR r 0 (24 - l)) = b := ⟨_, rfl⟩
  obtain ⟨b4, hb4⟩ : ∃ b, (decide (A.length ≤ 48)) = b := ⟨_, rfl⟩
  obtain ⟨b5, hb5⟩ : ∃ b, (rowsB p (l + r) A) = b := ⟨_, rfl⟩
  clear hw0 hB hs0 hu
  cases b1 with
  | false =>
    have e0 : fitRel p l r A = false := by simp [fitRel, fitsB, hb1]
    have e1 : relOut p l r A = [] := by simp [relOut, e0]
    have e2 : relL p l r A = 0 := by simp [relL, e0]
    have e3 : relR p l r A = 0 := by simp [relR, e0]
    rw [e0, e1, e2, e3]
    rw [hb1] at hc1
    clear e0 e1 e2 e3 hb1 hb2 hb3 hb4 hb5
    go_enter Tryd.func45, Tryd.ntmps45
    go_wp2_with fail
    rw [← HW.out]
    go_wp2_with (first | (go_at_call 86; ((with_reducible refine (hc1.out _).mono ?_); rintro e w' ⟨rfl, rfl⟩)))
    refine bodyPost_ret (v := .tuple #[.agg #[.int .i64 0, .int .i64 0, .slice none 0 0], .bool false]) (by simp [results, Tryd.results45, go_sem, q0, q1, q2]) rfl ?_
    exact optRel_none HB.out (by omega)
  | true =>
    have h297 := Lib.hid (Fld.good_bounds hb1)
    cases b2 with
    | false =>
      have e0 : fitRel p l r A = false := by simp [fitRel, fitsB, hb1, hb2]
      have e1 : relOut p l r A = [] := by simp [relOut, e0]
      have e2 : relL p l r A = 0 := by simp [relL, e0]
      have e3 : relR p l r A = 0 := by simp [relR, e0]
      rw [e0, e1, e2, e3]
      rw [hb1] at hc1
      rw [hb2] at hc2
      clear e0 e1 e2 e3 hb1 hb2 hb3 hb4 hb5
      go_enter Tryd.func45, Tryd.ntmps45
      go_wp2_with fail
      rw [← HW.out]
      go_wp2_with (first | (go_at_call 86; ((with_reducible refine (hc1.out _).mono ?_); rintro e w' ⟨rfl, rfl⟩)) | (go_at_call 87; ((with_reducible refine (hc2.out _).mono ?_); rintro e w' ⟨rfl, rfl⟩)))
      refine bodyPost_ret (v := .tuple #[.agg #[.int .i64 0, .int .i64 0, .slice none 0 0], .bool false]) (by simp [results, Tryd.results45, go_sem, q0, q1, q2]) rfl ?_
      exact optRel_none HB.out (by omega)
    | true =>
      obtain ⟨y1, y2⟩ := inR_parts hb2
      have hw1 : IntKind.i64.wrap (24 - l) = 24 - l := IntWalk.i64_in _ (by omega)
      cases b3 with
      | false =>
        have e0 : fitRel p l r A = false := by simp [fitRel, fitsB, hb1, hb2, hb3]
        have e1 : relOut p l r A = [] := by simp [relOut, e0]
        have e2 : relL p l r A = 0 := by simp [relL, e0]
        have e3 : relR p l r A = 0 := by simp [relR, e0]
        rw [e0, e1, e2, e3]
        rw [hb1] at hc1
        rw [hb2] at hc2
        rw [hb3] at hc3
        clear e0 e1 e2 e3 hb1 hb2 hb3 hb4 hb5
        go_enter Tryd.func45, Tryd.ntmps45
        go_wp2_with fail
        rw [← HW.out]
        go_wp2_with (first | (go_at_call 86; ((with_reducible refine (hc1.out _).mono ?_); rintro e w' ⟨rfl, rfl⟩)) | (go_at_call 87; ((with_reducible refine (hc2.out _).mono ?_); rintro e w' ⟨rfl, rfl⟩)) | (go_at_call 87; ((with_reducible refine (hc3.out _).mono ?_); rintro e w' ⟨rfl, rfl⟩)))
        refine bodyPost_ret (v := .tuple #[.agg #[.int .i64 0, .int .i64 0, .slice none 0 0], .bool false]) (by simp [results, Tryd.results45, go_sem, q0, q1, q2]) rfl ?_
        exact optRel_none HB.out (by omega)
      | true =>
        obtain ⟨y3, y4⟩ := inR_parts hb3
        have hw2 : IntKind.i64.wrap (l + r) = l + r := IntWalk.i64_in _ (by omega)
        cases b4 with
        | false =>
          have e0 : fitRel p l r A = false := by simp [fitRel, fitsB, hb1, hb2, hb3, hb4]
          have e1 : relOut p l r A = [] := by simp [relOut, e0]
          have e2 : relL p l r A = 0 := by simp [relL, e0]
          have e3 : relR p l r A = 0 := by simp [relR, e0]
          rw [e0, e1, e2, e3]
          rw [hb1] at hc1
          rw [hb2] at hc2
          rw [hb3] at hc3
          have hlen : ¬ A.length ≤ 48 := by simpa using hb4
          have hx1 : decide ((48 : Int) < (A.length : Int)) = true := by simp; omega
          have hx2 : (48 : Int) < (A.length : Int) := by omega
          have hx3 : 48 < A.length := by omega
          clear e0 e1 e2 e3 hb1 hb2 hb3 hb4 hb5
          go_enter Tryd.func45, Tryd.ntmps45
          go_wp2_with fail
          rw [← HW.out]
          go_wp2_with (first | (go_at_call 86; ((with_reducible refine (hc1.out _).mono ?_); rintro e w' ⟨rfl, rfl⟩)) | (go_at_call 87; ((with_reducible refine (hc2.out _).mono ?_); rintro e w' ⟨rfl, rfl⟩)) | (go_at_call 87; ((with_reducible refine (hc3.out _).mono ?_); rintro e w' ⟨rfl, rfl⟩)))
          refine bodyPost_ret (v := .tuple #[.agg #[.int .i64 0, .int .i64 0, .slice none 0 0], .bool false]) (by simp [results, Tryd.results45, go_sem, q0, q1, q2]) rfl ?_
          exact optRel_none HB.out (by omega)
        | true =>
          have hlen : A.length ≤ 48 := by simpa using hb4
          have hx1 : decide ((48 : Int) < (A.length : Int)) = false := by simp; omega
          have hx2 : ¬ (48 : Int) < (A.length : Int) := by omega
          have hx3 : ¬ 48 < A.length := by omega
          have hc5 := Lib.hid (fun W (hW : Below w0.heap.size w0 W) => spRows_any p (l + r) h297.out.1 h297.out.2 _ A W (HU.out.below hW))
          cases b5 with
          | false =>
            have e0 : fitRel p l r A = false := by simp [fitRel, fitsB, hb1, hb2, hb3, hb4, hb5]
            have e1 : relOut p l r A = [] := by simp [relOut, e0]
            have e2 : relL p l r A = 0 := by simp [relL, e0]
            have e3 : relR p l r A = 0 := by simp [relR, e0]
            rw [e0, e1, e2, e3]
            rw [hb1] at hc1
            rw [hb2] at hc2
            rw [hb3] at hc3
            rw [hb5] at hc5
            clear e0 e1 e2 e3 hb1 hb2 hb3 hb4 hb5
            go_enter Tryd.func45, Tryd.ntmps45
            go_wp2_with fail
            rw [← HW.out]
            go_wp2_with (first | (go_at_call 86; ((with_reducible refine (hc1.out _).mono ?_); rintro e w' ⟨rfl, rfl⟩)) | (go_at_call 87; ((with_reducible refine (hc2.out _).mono ?_); rintro e w' ⟨rfl, rfl⟩)) | (go_at_call 87; ((with_reducible refine (hc3.out _).mono ?_); rintro e w' ⟨rfl, rfl⟩)) | (go_at_call 88; ((with_reducible refine (hc5.out _ (Below.refl _ _)).mono ?_); rintro e w' ⟨rfl, rfl⟩)))
            refine bodyPost_ret (v := .tuple #[.agg #[.int .i64 0, .int .i64 0, .slice none 0 0], .bool false]) (by simp [results, Tryd.results45, go_sem, q0, q1, q2]) rfl ?_
            exact optRel_none HB.out (by omega)
          | true =>
            have e0 : fitRel p l r A = true := by simp [fitRel, fitsB, hb1, hb2, hb3, hb4, hb5]
            obtain ⟨a, b, rfl, rfl, hab, hl, hg, hA⟩ := fitRel_parts e0
            have eab : ((a : Int) + (b : Int)).toNat = a + b := by omega
            have e1 : relOut p a b A = reducedL p (a + b) A := by simp [relOut, e0, eab]
            have e2 : relL p a b A = a := by simp [relL, e0]
            have e3 : relR p a b A = b := by simp [relR, e0]
            rw [e0, e1, e2, e3]
            rw [hb1] at hc1
            rw [hb2] at hc2
            rw [hb3] at hc3
            rw [hb5] at hc5
            have hcall := Lib.hid (rlOf_any p hg A.length a b (by omega) (by omega) _ A w0 hA HU.out)
            obtain ⟨R, hR⟩ : ∃ R, reducedL p (a + b) A = R := ⟨_, rfl⟩
            rw [hR] at hcall ⊢
            clear e0 e1 e2 e3 eab hA hg hR hb1 hb2 hb3 hb4 hb5
            go_enter Tryd.func45, Tryd.ntmps45
            go_wp2_with fail
            rw [← HW.out]
            go_wp2_with (first | (go_at_call 86; ((with_reducible refine (hc1.out _).mono ?_); rintro e w' ⟨rfl, rfl⟩)) | (go_at_call 87; ((with_reducible refine (hc2.out _).mono ?_); rintro e w' ⟨rfl, rfl⟩)) | (go_at_call 87; ((with_reducible refine (hc3.out _).mono ?_); rintro e w' ⟨rfl, rfl⟩)) | (go_at_call 88; ((with_reducible refine (hc5.out _ (Below.refl _ _)).mono ?_); rintro e w' ⟨rfl, rfl⟩)))
            refine hcall.out.mono ?_
            rintro e w9 ⟨v9, rfl, ho9, hb9⟩
            obtain ⟨a9, c9, rfl⟩ := ho9.reads.form
            have q0 := Q0 _ hb9
            have q1 := Q1 _ hb9
            have q2 := Q2 _ hb9
            have g2 := G2 _ hb9
            have g0 := G0 _ hb9
            have g1 := G1 _ hb9
            have HLT : w.heap.size < w0.heap.size := by have := HS.out; omega
            have hfin := Lib.hid (optRel_put HB.out hb9 ho9 (b := w.heap.size) (by omega) HLT (c := (a : Int)) (d := (b : Int)))
            clear ho9 hb9 hcall
            go_wp2
            refine bodyPost_ret (v := .tuple #[.agg #[.int .i64 (a : Int), .int .i64 (b : Int), .slice a9 R.length c9], .bool true]) (by simp [results, Tryd.results45, go_sem, q0, q1, q2]) rfl ?_
            exact hfin.out
set_option maxHeartbeats 4000000 in
set_option maxRecDepth 100000 in
theorem implRel_any (p l r : Int) (hwl : (Lit.int .i64 l).wf = true) (u : Value) (A : List (List Int)) (w : World) (ht : Tab w) (hu : ReadsM w u A) :
    Calls Tryd.prog 46 #[.int .i64 p, .int .i64 l, .int .i64 r, u] w (OptRel w (fitRel p l r A) (relL p l r A) (relR p l r A) (relOut p l r A)) := by
  obtain ⟨ua, uc, rfl⟩ := hu.form
  obtain ⟨w0, hw0⟩ : ∃ W, W = (w.alloc (.cells #[.int .i64 0, .int .i64 0, .slice none 0 0] 27)) := ⟨_, rfl⟩
  have hB : Below w.heap.size w w0 := by rw [hw0]; exact ((Below.refl w.heap.size w).alloc (by simp) (.cells #[.int .i64 0, .int .i64 0, .slice none 0 0] 27))
  have hs0 : w0.heap.size = w.heap.size + 1 := by rw [hw0]; simp
  have Q0 : ∀ W, Below w0.heap.size w0 W → W.cell? ⟨w.heap.size, 0, none⟩ = some (.int .i64 0) := fun W hW => cell_old hW (by rw [hw0]; simp [go_sem])
  have q0 := Q0 w0 (Below.refl _ _)
  have G0 : ∀ W, Below w0.heap.size w0 W → W.frozen? ⟨w.heap.size, 0, none⟩ = false := fun W hW => frozen_old hW (by show w.heap.size < _; omega) (by rw [hw0]; simp [go_sem])
  have g0 := G0 w0 (Below.refl _ _)
  have Q1 : ∀ W, Below w0.heap.size w0 W → W.cell? ⟨w.heap.size, 1, none⟩ = some (.int .i64 0) := fun W hW => cell_old hW (by rw [hw0]; simp [go_sem])
  have q1 := Q1 w0 (Below.refl _ _)
  have G1 : ∀ W, Below w0.heap.size w0 W → W.frozen? ⟨w.heap.size, 1, none⟩ = false := fun W hW => frozen_old hW (by show w.heap.size < _; omega) (by rw [hw0]; simp [go_sem])
  have g1 := G1 w0 (Below.refl _ _)
  have Q2 : ∀ W, Below w0.heap.size w0 W → W.cell? ⟨w.heap.size, 2, none⟩ = some (.slice none 0 0) := fun W hW => cell_old hW (by rw [hw0]; simp [go_sem])
  have q2 := Q2 w0 (Below.refl _ _)
  have G2 : ∀ W, Below w0.heap.size w0 W → W.frozen? ⟨w.heap.size, 2, none⟩ = false := fun W hW => frozen_old hW (by show w.heap.size < _; omega) (by rw [hw0]; simp [go_sem])
  have g2 := G2 w0 (Below.refl _ _)
  have HW := Lib.hid hw0
  have HB := Lib.hid hB
  have HS := Lib.hid hs0
  have htB : Hid (Tab w0) := ht.below ht.size hB
  have HU := Lib.hid (hu.below hB)
  have hc1 := Lib.hid (Fld.isField_any p w0 htB.out)
  have hc2 := Lib.hid (fun W => fits_any l r hwl W)
  obtain ⟨b1, hb1⟩ : ∃ b, (Fld.goodB p) = b := ⟨_, rfl⟩
  obtain ⟨b2, hb2⟩ : ∃ b, (fitsB l r) = b := ⟨_, rfl⟩
  obtain ⟨b4, hb4⟩ : ∃ b, (decide (A.length ≤ 48)) = b := ⟨_, rfl⟩
  obtain ⟨b5, hb5⟩ : ∃ b, (rowsB p (l + r) A) = b := ⟨_, rfl⟩
  clear hw0 hB hs0 hu ht
  cases b1 with
  | false =>
    have e0 : fitRel p l r A = false := by simp [fitRel, hb1]
    have e1 : relOut p l r A = [] := by simp [relOut, e0]
    have e2 : relL p l r A = 0 := by simp [relL, e0]
    have e3 : relR p l r A = 0 := by simp [relR, e0]
    rw [e0, e1, e2, e3]
    rw [hb1] at hc1
    clear e0 e1 e2 e3 hb1 hb2 hb4 hb5
    go_enter Tryd.func46, Tryd.ntmps46
    go_wp2_with fail
    rw [← HW.out]
    go_wp2_with (first | (go_at_call 90; ((with_reducible refine (hc1.out).mono ?_); rintro e w' ⟨rfl, rfl⟩)))
    refine bodyPost_ret (v := .tuple #[.agg #[.int .i64 0, .int .i64 0, .slice none 0 0], .bool false]) (by simp [results, Tryd.results46, go_sem, q0, q1, q2]) rfl ?_
    exact optRel_none HB.out (by omega)
  | true =>
    cases b2 with
    | false =>
      have e0 : fitRel p l r A = false := by simp [fitRel, hb1, hb2]
      have e1 : relOut p l r A = [] := by simp [relOut, e0]
      have e2 : relL p l r A = 0 := by simp [relL, e0]
      have e3 : relR p l r A = 0 := by simp [relR, e0]
      rw [e0, e1, e2, e3]
      rw [hb1] at hc1
      rw [hb2] at hc2
      clear e0 e1 e2 e3 hb1 hb2 hb4 hb5
      go_enter Tryd.func46, Tryd.ntmps46
      go_wp2_with fail
      rw [← HW.out]
      go_wp2_with (first | (go_at_call 90; ((with_reducible refine (hc1.out).mono ?_); rintro e w' ⟨rfl, rfl⟩)) | (go_at_call 75; ((with_reducible refine (hc2.out _).mono ?_); rintro e w' ⟨rfl, rfl⟩)))
      refine bodyPost_ret (v := .tuple #[.agg #[.int .i64 0, .int .i64 0, .slice none 0 0], .bool false]) (by simp [results, Tryd.results46, go_sem, q0, q1, q2]) rfl ?_
      exact optRel_none HB.out (by omega)
    | true =>
      have hfn := fits_nats hb2
      have hw2 : IntKind.i64.wrap (l + r) = l + r := by obtain ⟨a, b, rfl, rfl, hab⟩ := hfn; exact IntWalk.i64_in _ (by omega)
      clear hfn
      cases b4 with
      | false =>
        have e0 : fitRel p l r A = false := by simp [fitRel, hb1, hb2, hb4]
        have e1 : relOut p l r A = [] := by simp [relOut, e0]
        have e2 : relL p l r A = 0 := by simp [relL, e0]
        have e3 : relR p l r A = 0 := by simp [relR, e0]
        rw [e0, e1, e2, e3]
        rw [hb1] at hc1
        rw [hb2] at hc2
        have hlen : ¬ A.length ≤ 48 := by simpa using hb4
        have hx1 : decide ((48 : Int) < (A.length : Int)) = true := by simp; omega
        have hx2 : (48 : Int) < (A.length : Int) := by omega
        have hx3 : 48 < A.length := by omega
        clear e0 e1 e2 e3 hb1 hb2 hb4 hb5
        go_enter Tryd.func46, Tryd.ntmps46
        go_wp2_with fail
        rw [← HW.out]
        go_wp2_with (first | (go_at_call 90; ((with_reducible refine (hc1.out).mono ?_); rintro e w' ⟨rfl, rfl⟩)) | (go_at_call 75; ((with_reducible refine (hc2.out _).mono ?_); rintro e w' ⟨rfl, rfl⟩)))
        refine bodyPost_ret (v := .tuple #[.agg #[.int .i64 0, .int .i64 0, .slice none 0 0], .bool false]) (by simp [results, Tryd.results46, go_sem, q0, q1, q2]) rfl ?_
        exact optRel_none HB.out (by omega)
      | true =>
        have hlen : A.length ≤ 48 := by simpa using hb4
        have hx1 : decide ((48 : Int) < (A.length : Int)) = false := by simp; omega
        have hx2 : ¬ (48 : Int) < (A.length : Int) := by omega
        have hx3 : ¬ 48 < A.length := by omega
        have hc5 := Lib.hid (fun W (hW : Below w0.heap.size w0 W) => areVectors_any p (l + r) _ A W (HU.out.below hW))
        cases b5 with
        | false =>
          have e0 : fitRel p l r A = false := by simp [fitRel, hb1, hb2, hb4, hb5]
          have e1 : relOut p l r A = [] := by simp [relOut, e0]
          have e2 : relL p l r A = 0 := by simp [relL, e0]
          have e3 : relR p l r A = 0 := by simp [relR, e0]
          rw [e0, e1, e2, e3]
          rw [hb1] at hc1
          rw [hb2] at hc2
          rw [hb5] at hc5
          clear e0 e1 e2 e3 hb1 hb2 hb4 hb5
          go_enter Tryd.func46, Tryd.ntmps46
          go_wp2_with fail
          rw [← HW.out]
          go_wp2_with (first | (go_at_call 90; ((with_reducible refine (hc1.out).mono ?_); rintro e w' ⟨rfl, rfl⟩)) | (go_at_call 75; ((with_reducible refine (hc2.out _).mono ?_); rintro e w' ⟨rfl, rfl⟩)) | (go_at_call 92; ((with_reducible refine (hc5.out _ (Below.refl _ _)).mono ?_); rintro e w' ⟨rfl, rfl⟩)))
          refine bodyPost_ret (v := .tuple #[.agg #[.int .i64 0, .int .i64 0, .slice none 0 0], .bool false]) (by simp [results, Tryd.results46, go_sem, q0, q1, q2]) rfl ?_
          exact optRel_none HB.out (by omega)
        | true =>
          have e0 : fitRel p l r A = true := by simp [fitRel, hb1, hb2, hb4, hb5]
          obtain ⟨a, b, rfl, rfl, hab, hl, hg, hA⟩ := fitRel_parts e0
          have eab : ((a : Int) + (b : Int)).toNat = a + b := by omega
          have e1 : relOut p a b A = reducedL p (a + b) A := by simp [relOut, e0, eab]
          have e2 : relL p a b A = a := by simp [relL, e0]
          have e3 : relR p a b A = b := by simp [relR, e0]
          rw [e0, e1, e2, e3]
          rw [hb1] at hc1
          rw [hb2] at hc2
          rw [hb5] at hc5
          have hcall := Lib.hid (relation_any p hg A.length a b (by omega) (by omega) _ A w0 hA HU.out)
          obtain ⟨R, hR⟩ : ∃ R, reducedL p (a + b) A = R := ⟨_, rfl⟩
          rw [hR] at hcall ⊢
          clear e0 e1 e2 e3 eab hA hg hR hb1 hb2 hb4 hb5
          go_enter Tryd.func46, Tryd.ntmps46
          go_wp2_with fail
          rw [← HW.out]
          go_wp2_with (first | (go_at_call 90; ((with_reducible refine (hc1.out).mono ?_); rintro e w' ⟨rfl, rfl⟩)) | (go_at_call 75; ((with_reducible refine (hc2.out _).mono ?_); rintro e w' ⟨rfl, rfl⟩)) | (go_at_call 92; ((with_reducible refine (hc5.out _ (Below.refl _ _)).mono ?_); rintro e w' ⟨rfl, rfl⟩)))
          refine hcall.out.mono ?_
          rintro e w9 ⟨v9, rfl, ho9, hb9⟩
          obtain ⟨a9, c9, rfl⟩ := ho9.reads.form
          have q0 := Q0 _ hb9
          have q1 := Q1 _ hb9
          have q2 := Q2 _ hb9
          have g2 := G2 _ hb9
          have g0 := G0 _ hb9
          have g1 := G1 _ hb9
          have HLT : w.heap.size < w0.heap.size := by have := HS.out; omega
          have hfin := Lib.hid (optRel_put HB.out hb9 ho9 (b := w.heap.size) (by omega) HLT (c := (a : Int)) (d := (b : Int)))
          clear ho9 hb9 hcall
          go_wp2
          refine bodyPost_ret (v := .tuple #[.agg #[.int .i64 (a : Int), .int .i64 (b : Int), .slice a9 R.length c9], .bool true]) (by simp [results, Tryd.results46, go_sem, q0, q1, q2]) rfl ?_
          exact hfin.out

end Ints
end Go.Proofs.YtkpheigoegehoaaDoor
