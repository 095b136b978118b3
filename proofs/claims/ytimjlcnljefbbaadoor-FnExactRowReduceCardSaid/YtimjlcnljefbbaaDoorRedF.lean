/- RowReduce, both. (Printed by wip/gen_red.py.) -/
import Derived.Test.YtimjlcnljefbbaaDoorMxReduce
import Derived.Test.YtimjlcnljefbbaaDoorReduction
import Derived.Test.YtimjlcnljefbbaaDoorClones
import Derived.Test.YtimjlcnljefbbaaDoorPred
import Derived.Test.YtimjlcnljefbbaaDoorLawBase
import Derived.Deep.RegionHeld3
namespace Go.Proofs.YtimjlcnljefbbaaDoor
open Go.RowKit
namespace Ints

/-- Two matrices in new memory, apart from each other, and whether there are any. -/
def TwoMat (w : World) (b : Bool) (c1 : Int) (M : List (List Int)) (c2 : Int) (T : List (List Int)) (e : Ending) (w' : World) : Prop :=
  ∃ (v1 v2 : Value) (m : Nat), e = .returned (.tuple #[.agg #[.int .i64 c1, v1], .agg #[.int .i64 c2, v2], .bool b]) ∧ OwnsM (fun g => w.heap.size ≤ g ∧ g < m) w' v1 M ∧ OwnsM (fun g => w.heap.size ≤ g ∧ m ≤ g) w' v2 T ∧ Below w.heap.size w w'
def rrM (p c : Int) (A : List (List Int)) : List (List Int) := if matB p c A then (redI p c.toNat A).M else []
def rrT (p c : Int) (A : List (List Int)) : List (List Int) := if matB p c A then (redI p c.toNat A).T else []
def rrC (p c : Int) (A : List (List Int)) : Int := if matB p c A then c else 0
def rrN (p c : Int) (A : List (List Int)) : Int := if matB p c A then A.length else 0
theorem rr_ok {p : Int} {n c : Nat} {M : List (List Int)} (hg : Fld.goodB p = true) (hM : ElemsT p n c M) : RedOk p n c n (redI p c M) := by
  have hp := (Fld.good_bounds hg).1
  unfold redI
  rw [hM.1]
  exact redN_ok hp ⟨hM, elems_id hp n, Nat.zero_le _⟩ c
theorem rr_ctr (p c : Int) (A : List (List Int)) : (1 : Int) + (sumL (rrM p c A) : Int) + (sumL (rrT p c A) : Int) ≤ 1000000000 := by
  unfold rrM rrT
  split
  · rename_i h
    obtain ⟨n, rfl, hn, hl, _, hA⟩ := mat_nats h
    have hok := rr_ok (mat_parts h).1 hA
    simp only [Int.toNat_natCast]
    have e1 := sum_le_mul List.length 24 (redI p n A).M (fun l hl => by
      obtain ⟨i, hi, rfl⟩ := List.getElem_of_mem hl
      have := (hok.1.2 i (by rw [← hok.1.1]; exact hi)).1
      rw [show lAt (redI p n A).M i = (redI p n A).M[i] by simp [lAt, hi]] at this
      omega)
    have e2 := sum_le_mul List.length 24 (redI p n A).T (fun l hl => by
      obtain ⟨i, hi, rfl⟩ := List.getElem_of_mem hl
      have := (hok.2.1.2 i (by rw [← hok.2.1.1]; exact hi)).1
      rw [show lAt (redI p n A).T i = (redI p n A).T[i] by simp [lAt, hi]] at this
      omega)
    rw [hok.1.1] at e1
    rw [hok.2.1.1] at e2
    unfold sumL
    omega
  · simp [sumL]
theorem rr_ctr1 (p c : Int) (A : List (List Int)) : (1 : Int) + (sumL (rrM p c A) : Int) ≤ 1000000000 := by have := rr_ctr p c A; omega
theorem rr_none {p c : Int} {A : List (List Int)} (h : matB p c A = false) : rrM p c A = [] ∧ rrT p c A = [] ∧ rrC p c A = 0 ∧ rrN p c A = 0 := by simp [rrM, rrT, rrC, rrN, h]
theorem rr_some {p : Int} {n : Nat} {A : List (List Int)} (h : matB p n A = true) : rrM p n A = (redI p n A).M ∧ rrT p n A = (redI p n A).T ∧ rrC p n A = n ∧ rrN p n A = A.length := by simp [rrM, rrT, rrC, rrN, h]

/-- A result's struct, still nothing: its cells in every later world. -/
theorem resAt_mk {w0 : World} {b : Nat} (h0 : w0.cell? ⟨b, 0, none⟩ = some (.int .i64 0)) (h1 : w0.cell? ⟨b, 1, none⟩ = some (.slice none 0 0)) (f0 : w0.frozen? ⟨b, 0, none⟩ = false) (f1 : w0.frozen? ⟨b, 1, none⟩ = false) :
    ∀ W, Below w0.heap.size w0 W → W.cell? ⟨b, 0, none⟩ = some (.int .i64 0) ∧ W.cell? ⟨b, 1, none⟩ = some (.slice none 0 0) ∧ W.frozen? ⟨b, 0, none⟩ = false ∧ W.frozen? ⟨b, 1, none⟩ = false :=
  fun _ hW => ⟨cell_old hW h0, cell_old hW h1, frozen_old hW (lt_of_cell h0) f0, frozen_old hW (lt_of_cell h1) f1⟩
theorem two_chg (W : World) (b1 b2 : Nat) (x y x' y' : Value) : Chg (fun g => g = b1 ∨ g = b2) W ((((W.setCell ⟨b1, 0, none⟩ x).setCell ⟨b1, 1, none⟩ y).setCell ⟨b2, 0, none⟩ x').setCell ⟨b2, 1, none⟩ y') :=
  ((matAt_chg2 W b1 x y).mono fun _ _ e => .inl e).trans ((matAt_chg2 _ b2 x' y').mono fun _ _ e => .inr e)
theorem twoMat_none {w w1 : World} {b1 b2 : Nat} (h1 : Below w.heap.size w w1) (e1 : w.heap.size ≤ b1) (e2 : w.heap.size ≤ b2) :
    TwoMat w false 0 [] 0 [] (.returned (.tuple #[.agg #[.int .i64 0, .slice none 0 0], .agg #[.int .i64 0, .slice none 0 0], .bool false])) ((((w1.setCell ⟨b1, 0, none⟩ (.int .i64 0)).setCell ⟨b1, 1, none⟩ (.slice none 0 0)).setCell ⟨b2, 0, none⟩ (.int .i64 0)).setCell ⟨b2, 1, none⟩ (.slice none 0 0)) :=
  ⟨_, _, 0, rfl, ownsM_nil _ _, ownsM_nil _ _, h1.trans ((two_chg w1 b1 b2 _ _ _ _).below h1.size fun g e => by rcases e with e | e <;> omega)⟩
theorem twoMat_put {w w1 w2 : World} {b1 b2 m : Nat} {c1 c2 : Int} {v1 v2 : Value} {M T : List (List Int)} (h1 : Below w.heap.size w w1) (h2 : Below w1.heap.size w1 w2) (o1 : OwnsM (fun g => w1.heap.size ≤ g ∧ g < m) w2 v1 M) (o2 : OwnsM (fun g => w1.heap.size ≤ g ∧ m ≤ g) w2 v2 T)
    (e1 : w.heap.size ≤ b1) (e2 : w.heap.size ≤ b2) (f1 : b1 < w1.heap.size) (f2 : b2 < w1.heap.size) :
    TwoMat w true c1 M c2 T (.returned (.tuple #[.agg #[.int .i64 c1, v1], .agg #[.int .i64 c2, v2], .bool true])) ((((w2.setCell ⟨b1, 0, none⟩ (.int .i64 c1)).setCell ⟨b1, 1, none⟩ v1).setCell ⟨b2, 0, none⟩ (.int .i64 c2)).setCell ⟨b2, 1, none⟩ v2) := by
  have hc := two_chg w2 b1 b2 (.int .i64 c1) v1 (.int .i64 c2) v2
  have hs := h1.size
  have hs2 := h2.size
  refine ⟨_, _, m, rfl, (o1.chg hc fun g hg e => by rcases e with e | e <;> omega).mono fun g hg => by omega, (o2.chg hc fun g hg e => by rcases e with e | e <;> omega).mono fun g hg => by omega, ?_⟩
  exact (h1.trans (h2.mono hs)).trans (hc.below (by omega) fun g e => by rcases e with e | e <;> omega)
theorem TwoMat.drew {w : World} {b : Bool} {c1 c2 : Int} {M T : List (List Int)} {e : Ending} {w' : World} (h : TwoMat w b c1 M c2 T e w') : TwoMat w b c1 M c2 T e w'.drew := by
  obtain ⟨v1, v2, m, h0, h1, h2, h3⟩ := h
  exact ⟨v1, v2, m, h0, h1.chg (T := fun _ => False) (Chg.refl _ _).drew (fun _ _ => id), h2.chg (T := fun _ => False) (Chg.refl _ _).drew (fun _ _ => id), h3.drew⟩

set_option maxHeartbeats 4000000 in
set_option maxRecDepth 100000 in
theorem specRR_any (p c : Int) (u : Value) (A : List (List Int)) (w : World) (hu : ReadsM w u A) :
    Calls Tryd.prog 17 #[.int .i64 p, .agg #[.int .i64 c, u]] w (TwoMat w (matB p c A) (rrC p c A) (rrM p c A) (rrN p c A) (rrT p c A)) := by
  obtain ⟨ua, uc, rfl⟩ := hu.form
  obtain ⟨w0, hw0⟩ : ∃ W, W = (((w.alloc (.cells #[.int .i64 c, .slice ua A.length uc] 30)).alloc (.cells #[.int .i64 0, .slice none 0 0] 30)).alloc (.cells #[.int .i64 0, .slice none 0 0] 30)) := ⟨_, rfl⟩
  have hB : Below w.heap.size w w0 := by rw [hw0]; exact (((Below.refl w.heap.size w).alloc (by simp) _).alloc (by simp) _).alloc (by simp; omega) _
  have hs0 : w0.heap.size = w.heap.size + 3 := by rw [hw0]; simp
  have X0 : ∀ W, Below w0.heap.size w0 W → W.cell? ⟨w.heap.size, 0, none⟩ = some (.int .i64 c) := fun W hW => cell_old hW (by rw [hw0]; simp [go_sem])
  have X1 : ∀ W, Below w0.heap.size w0 W → W.cell? ⟨w.heap.size, 1, none⟩ = some (.slice ua A.length uc) := fun W hW => cell_old hW (by rw [hw0]; simp [go_sem])
  have hQ := resAt_mk (w0 := w0) (b := w.heap.size + 1) (by rw [hw0]; simp [go_sem]) (by rw [hw0]; simp [go_sem]) (by rw [hw0]; simp [go_sem]) (by rw [hw0]; simp [go_sem])
  have hR := resAt_mk (w0 := w0) (b := w.heap.size + 1 + 1) (by rw [hw0]; simp [go_sem]) (by rw [hw0]; simp [go_sem]) (by rw [hw0]; simp [go_sem]) (by rw [hw0]; simp [go_sem])
  have HQ := Lib.hid hQ
  have HR := Lib.hid hR
  have HW := Lib.hid hw0
  have HB := Lib.hid hB
  have HS := Lib.hid hs0
  have HU := Lib.hid (hu.below hB)
  have hgood := Lib.hid (mxGood_any p c _ A w0 HU.out)
  clear hw0 hB hs0 hu hQ hR
  cases hb : matB p c A with
  | false =>
    have e0 := rr_none hb
    rw [e0.1, e0.2.1, e0.2.2.1, e0.2.2.2]
    rw [hb] at hgood
    clear hb e0
    go_enter Tryd.func17, Tryd.ntmps17
    go_wp2_with fail
    rw [← HW.out]
    refine hgood.out.mono ?_
    rintro e w1 ⟨rfl, hb1⟩
    have q0 := (HQ.out _ hb1).1
    have q1 := (HQ.out _ hb1).2.1
    have q2 := (HQ.out _ hb1).2.2.1
    have q3 := (HQ.out _ hb1).2.2.2
    have r0 := (HR.out _ hb1).1
    have r1 := (HR.out _ hb1).2.1
    have r2 := (HR.out _ hb1).2.2.1
    have r3 := (HR.out _ hb1).2.2.2
    have B1 := Lib.hid (HB.out.trans (hb1.mono HB.out.size))
    clear hb1
    go_wp2
    refine bodyPost_ret (v := .tuple #[.agg #[.int .i64 0, .slice none 0 0], .agg #[.int .i64 0, .slice none 0 0], .bool false]) (by simp [results, Tryd.results17, go_sem, q0, q1, r0, r1]) rfl ?_
    exact twoMat_none B1.out (by omega) (by omega)
  | true =>
    have hg := (mat_parts hb).1
    obtain ⟨n, rfl, hn, hl, _, hA⟩ := mat_nats hb
    have e0 := rr_some hb
    rw [e0.1, e0.2.1, e0.2.2.1, e0.2.2.2]
    rw [hb] at hgood
    have hok := rr_ok hg hA
    have e2 : (Lin.detN p ⟨⟨A, idT A.length, 0⟩, 1⟩ n).s = redI p n A := by rw [Lin.detN_s, redI]
    have hrd : Hid (∀ W, Below w0.heap.size w0 W → Calls Tryd.prog 49 #[.int .i64 p, .agg #[.int .i64 n, .slice ua A.length uc]] W fun e w' => ∃ (s8 s9 : Option Addr) (k8 k9 m : Nat) (r d : Int), e = .returned (.tuple #[.agg #[.int .i64 n, .slice s8 A.length k8], .agg #[.int .i64 A.length, .slice s9 A.length k9], .int .i64 r, .int .i64 d]) ∧ OwnsM (fun g => W.heap.size ≤ g ∧ g < m) w' (.slice s8 A.length k8) (redI p n A).M ∧ OwnsM (fun g => W.heap.size ≤ g ∧ m ≤ g) w' (.slice s9 A.length k9) (redI p n A).T ∧ Below W.heap.size W w') :=
      Lib.hid fun W hW => (mxReduce_any p hg A.length n (by omega) (by omega) (.slice ua A.length uc) A W hA (HU.out.below hW)).mono fun e w' ⟨v8, v9, m, q1, q2, q3, q4⟩ => by
        rw [e2] at q1 q2 q3
        obtain ⟨s8, k8, rfl⟩ := q2.reads.form
        obtain ⟨s9, k9, rfl⟩ := q3.reads.form
        rw [hok.1.1] at q1 q2
        rw [hok.2.1.1] at q1 q3
        exact ⟨s8, s9, k8, k9, m, _, _, q1, q2, q3, q4⟩
    obtain ⟨R1, hR1⟩ : ∃ R, (redI p n A).M = R := ⟨_, rfl⟩
    obtain ⟨R2, hR2⟩ : ∃ R, (redI p n A).T = R := ⟨_, rfl⟩
    rw [hR1, hR2] at hrd ⊢
    obtain ⟨l, hln⟩ : ∃ l, A.length = l := ⟨_, rfl⟩
    rw [hln] at hrd X1 HW hgood ⊢
    clear hb e0 hg hA hok e2 hR1 hR2 hl
    go_enter Tryd.func17, Tryd.ntmps17
    go_wp2_with fail
    rw [← HW.out]
    refine hgood.out.mono ?_
    rintro e w1 ⟨rfl, hb1⟩
    have x0 := X0 _ hb1
    have x1 := X1 _ hb1
    have B1 := Lib.hid hb1
    clear hb1
    go_wp2_with fail
    refine (hrd.out w1 B1.out).mono ?_
    rintro e w_3 ⟨s8, s9, k8, k9, m, r, d, rfl, ho1, ho2, hb3⟩
    have hb34 : Below w_3.heap.size w_3 ((w_3.alloc (.cells #[.int .i64 n, .slice s8 l k8] 30)).alloc (.cells #[.int .i64 l, .slice s9 l k9] 30)) := ((Below.refl _ _).alloc (Nat.le_refl _) _).alloc (by simp) _
    have HO1 := Lib.hid (ho1.below hb34)
    have HO2 := Lib.hid (ho2.below hb34)
    have hb14 := below_step hb3 hb34
    have B4 := Lib.hid (below_step B1.out hb14)
    have HBW1 := Lib.hid (HB.out.trans (B1.out.mono HB.out.size))
    have HB14 := Lib.hid hb14
    have HZ := Lib.hid (show w.heap.size + 1 + 1 < w1.heap.size ∧ w.heap.size + 1 + 1 < w_3.heap.size by have h1 := B1.out.size; have h2 := HS.out; have h3 := hb3.size; omega)
    clear ho1 ho2 hb3 hb34 hb14 x0 x1
    have q0 := (HQ.out _ B4.out).1
    have q1 := (HQ.out _ B4.out).2.1
    have q2 := (HQ.out _ B4.out).2.2.1
    have q3 := (HQ.out _ B4.out).2.2.2
    have r0 := (HR.out _ B4.out).1
    have r1 := (HR.out _ B4.out).2.1
    have r2 := (HR.out _ B4.out).2.2.1
    have r3 := (HR.out _ B4.out).2.2.2
    have hfin := Lib.hid ((twoMat_put (b1 := w.heap.size + 1) (b2 := w.heap.size + 1 + 1) (c1 := (n : Int)) (c2 := (l : Int)) HBW1.out HB14.out HO1.out HO2.out (by omega) (by omega) (by have := HZ.out; omega) (by have := HZ.out; omega)).drew)
    have k1 : ((w_3.alloc (.cells #[.int .i64 n, .slice s8 l k8] 30)).alloc (.cells #[.int .i64 l, .slice s9 l k9] 30)).cell? ⟨w_3.heap.size, 0, none⟩ = some (.int .i64 n) := by simp [go_sem]
    have k2 : ((w_3.alloc (.cells #[.int .i64 n, .slice s8 l k8] 30)).alloc (.cells #[.int .i64 l, .slice s9 l k9] 30)).cell? ⟨w_3.heap.size, 1, none⟩ = some (.slice s8 l k8) := by simp [go_sem]
    have k3 : ((w_3.alloc (.cells #[.int .i64 n, .slice s8 l k8] 30)).alloc (.cells #[.int .i64 l, .slice s9 l k9] 30)).cell? ⟨w_3.heap.size + 1, 0, none⟩ = some (.int .i64 l) := by simp [go_sem]
    have k4 : ((w_3.alloc (.cells #[.int .i64 n, .slice s8 l k8] 30)).alloc (.cells #[.int .i64 l, .slice s9 l k9] 30)).cell? ⟨w_3.heap.size + 1, 1, none⟩ = some (.slice s9 l k9) := by simp [go_sem]
    obtain ⟨w4, hw4⟩ : ∃ W, W = ((w_3.alloc (.cells #[.int .i64 n, .slice s8 l k8] 30)).alloc (.cells #[.int .i64 l, .slice s9 l k9] 30)) := ⟨_, rfl⟩
    have HW4 := Lib.hid hw4
    rw [← hw4] at q0 q1 q2 q3 r0 r1 r2 r3 k1 k2 k3 k4 hfin
    have HF := Lib.hid hfin
    clear hw4 hfin B4 HB14 HO1 HO2
    obtain ⟨b7, hb7⟩ : ∃ b, w_3.heap.size = b := ⟨_, rfl⟩
    have hz := HZ.out
    rw [hb7] at k1 k2 k3 k4 hz
    have cA := matAt_chg2 w4 (w.heap.size + 1) (.int .i64 n) (.slice s8 l k8)
    have l0 := cA.keep k4 (fun e => by simp only at e; omega)
    have l1 := cA.keep k2 (fun e => by simp only at e; omega)
    have l2 := cA.keep k3 (fun e => by simp only at e; omega)
    have l3 := cA.keep k1 (fun e => by simp only at e; omega)
    clear cA hz
    go_wp2_with fail
    rw [← HW4.out]
    go_region
    all_goals
      go_wp2
      refine bodyPost_ret (v := .tuple #[.agg #[.int .i64 n, .slice s8 l k8], .agg #[.int .i64 l, .slice s9 l k9], .bool true]) (by simp [results, Tryd.results17, go_sem, q0, q1, r0, r1]) rfl ?_
      exact HF.out

set_option maxHeartbeats 4000000 in
set_option maxRecDepth 100000 in
theorem implRR_any (p c : Int) (u : Value) (A : List (List Int)) (w : World) (ht : Tab w) (hu : ReadsM w u A) :
    Calls Tryd.prog 18 #[.int .i64 p, .agg #[.int .i64 c, u]] w (TwoMat w (matB p c A) (rrC p c A) (rrM p c A) (rrN p c A) (rrT p c A)) := by
  obtain ⟨ua, uc, rfl⟩ := hu.form
  obtain ⟨w0, hw0⟩ : ∃ W, W = (((w.alloc (.cells #[.int .i64 c, .slice ua A.length uc] 30)).alloc (.cells #[.int .i64 0, .slice none 0 0] 30)).alloc (.cells #[.int .i64 0, .slice none 0 0] 30)) := ⟨_, rfl⟩
  have hB : Below w.heap.size w w0 := by rw [hw0]; exact (((Below.refl w.heap.size w).alloc (by simp) _).alloc (by simp) _).alloc (by simp; omega) _
  have hs0 : w0.heap.size = w.heap.size + 3 := by rw [hw0]; simp
  have X0 : ∀ W, Below w0.heap.size w0 W → W.cell? ⟨w.heap.size, 0, none⟩ = some (.int .i64 c) := fun W hW => cell_old hW (by rw [hw0]; simp [go_sem])
  have X1 : ∀ W, Below w0.heap.size w0 W → W.cell? ⟨w.heap.size, 1, none⟩ = some (.slice ua A.length uc) := fun W hW => cell_old hW (by rw [hw0]; simp [go_sem])
  have hQ := resAt_mk (w0 := w0) (b := w.heap.size + 1) (by rw [hw0]; simp [go_sem]) (by rw [hw0]; simp [go_sem]) (by rw [hw0]; simp [go_sem]) (by rw [hw0]; simp [go_sem])
  have hR := resAt_mk (w0 := w0) (b := w.heap.size + 1 + 1) (by rw [hw0]; simp [go_sem]) (by rw [hw0]; simp [go_sem]) (by rw [hw0]; simp [go_sem]) (by rw [hw0]; simp [go_sem])
  have HQ := Lib.hid hQ
  have HR := Lib.hid hR
  have HW := Lib.hid hw0
  have HB := Lib.hid hB
  have HS := Lib.hid hs0
  have HU := Lib.hid (hu.below hB)
  have hgood := Lib.hid (isMatrix_any p c _ A w0 (ht.below ht.size hB) HU.out)
  clear hw0 hB hs0 hu hQ hR ht
  cases hb : matB p c A with
  | false =>
    have e0 := rr_none hb
    rw [e0.1, e0.2.1, e0.2.2.1, e0.2.2.2]
    rw [hb] at hgood
    clear hb e0
    go_enter Tryd.func18, Tryd.ntmps18
    go_wp2_with fail
    rw [← HW.out]
    refine hgood.out.mono ?_
    rintro e w1 ⟨rfl, hb1⟩
    have q0 := (HQ.out _ hb1).1
    have q1 := (HQ.out _ hb1).2.1
    have q2 := (HQ.out _ hb1).2.2.1
    have q3 := (HQ.out _ hb1).2.2.2
    have r0 := (HR.out _ hb1).1
    have r1 := (HR.out _ hb1).2.1
    have r2 := (HR.out _ hb1).2.2.1
    have r3 := (HR.out _ hb1).2.2.2
    have B1 := Lib.hid (HB.out.trans (hb1.mono HB.out.size))
    clear hb1
    go_wp2
    refine bodyPost_ret (v := .tuple #[.agg #[.int .i64 0, .slice none 0 0], .agg #[.int .i64 0, .slice none 0 0], .bool false]) (by simp [results, Tryd.results18, go_sem, q0, q1, r0, r1]) rfl ?_
    exact twoMat_none B1.out (by omega) (by omega)
  | true =>
    have hg := (mat_parts hb).1
    obtain ⟨n, rfl, hn, hl, _, hA⟩ := mat_nats hb
    have e0 := rr_some hb
    rw [e0.1, e0.2.1, e0.2.2.1, e0.2.2.2]
    rw [hb] at hgood
    have hok := rr_ok hg hA
    have htot : tot A ≤ 1048576 := elems_tot hA hl hn
    have hcl := Lib.hid (fun W (hW : Below w0.heap.size w0 W) => clones_any (.slice ua A.length uc) A W (HU.out.below hW) htot)
    have hid := Lib.hid (fun W => identityRows_any A.length (by omega) W)
    have hrd : redI p n A = redN p ⟨A, idT A.length, 0⟩ n := rfl
    have hred := Lib.hid (fun (S S' : Nat → Prop) (hSS : ∀ g, S g → ¬ S' g) (vA vT : Value) (W : World) (h1 : OwnsM S W vA A) (h2 : OwnsM S' W vT (idT A.length)) => reduction_any S S' hSS p hg A.length n A.length (by omega) (by omega) vA vT A (idT A.length) W hA (elems_id (Fld.good_bounds hg).1 A.length) h1 h2)
    rw [← hrd] at hred
    have HIL := Lib.hid (show (idT A.length).length = A.length by rw [idT, tabT_length])
    have hlA : A.length ≤ 9223372036854775807 := by omega
    obtain ⟨R1, hR1⟩ : ∃ R, (redI p n A).M = R := ⟨_, rfl⟩
    obtain ⟨R2, hR2⟩ : ∃ R, (redI p n A).T = R := ⟨_, rfl⟩
    obtain ⟨r, hr⟩ : ∃ r, (redI p n A).r = r := ⟨_, rfl⟩
    rw [hR1, hR2, hr] at hred
    rw [hR1, hR2]
    obtain ⟨l, hln⟩ : ∃ l, A.length = l := ⟨_, rfl⟩
    have HLN := Lib.hid hln
    rw [hln] at hred X1 HW hgood hcl hid HIL hlA ⊢
    clear hb e0 hg hA hok hR1 hR2 hl hrd hr htot hln
    go_enter Tryd.func18, Tryd.ntmps18
    go_wp2_with fail
    rw [← HW.out]
    refine hgood.out.mono ?_
    rintro e w1 ⟨rfl, hb1⟩
    have B1 := Lib.hid hb1
    have M0 : ∀ W, Below w1.heap.size w1 W → W.cell? ⟨w.heap.size, 0, none⟩ = some (.int .i64 n) := fun W hW => X0 W (below_step B1.out hW)
    have M1 : ∀ W, Below w1.heap.size w1 W → W.cell? ⟨w.heap.size, 1, none⟩ = some (.slice ua l uc) := fun W hW => X1 W (below_step B1.out hW)
    have HX0 := Lib.hid X0
    have HX1 := Lib.hid X1
    clear hb1 X0 X1
    go_upto_region 3 with fail
    go_region_held3 (fun W => Below w1.heap.size w1 W)
      (first | ((repeat (first | exact Below.refl _ _ | assumption | apply below_drewB | refine below_step ?_ hb_2 | refine below_step ?_ hb_1)); done))
      (first
        | (go_at_call 50; (with_reducible refine (hcl.out _ (below_step B1.out (by repeat (first | exact Below.refl _ _ | assumption | apply below_drewB | refine below_step ?_ hb_2)))).mono ?_); rintro e w_1 ⟨v_1, rfl, ho_1, hb_1⟩)
        | (go_at_call 51; (with_reducible refine (hid.out _).mono ?_); rintro e w_2 ⟨v_2, rfl, ho_2, hb_2⟩))
    obtain ⟨a1, c1, rfl⟩ := ho_1.reads.form
    obtain ⟨a2, c2, rfl⟩ := ho_2.reads.form
    rw [HLN.out] at ho_1 ⊢
    rw [HIL.out] at ho_2 ⊢
    have hB1 : Below w1.heap.size w1 w_1 := below_step (below_drewB (Below.refl _ _)) hb_1
    have hB2 : Below w1.heap.size w1 w_2 := below_step hB1 hb_2
    have hs1 := hB1.size
    have hs2 := hb_2.size
    have O1 : OwnsM (fun g => w1.heap.size ≤ g ∧ g < w_1.heap.size) w_2 (.slice a1 l c1) A := (ho_1.bound.below hb_2).mono fun g hg => hg
    have O2 : OwnsM (fun g => w1.heap.size ≤ g ∧ w_1.heap.size ≤ g) w_2 (.slice a2 l c2) (idT l) := ho_2.mono fun g hg => ⟨Nat.le_trans hs1 hg, hg⟩
    have hcall : Hid (∀ W, Below w_2.heap.size w_2 W → Calls Tryd.prog 52 #[.int .i64 p, .slice a1 l c1, .int .i64 n, .slice a2 l c2] W fun e w' => e = .returned (.int .i64 r) ∧ OwnsM (fun g => w1.heap.size ≤ g ∧ g < w_1.heap.size) w' (.slice a1 l c1) R1 ∧ OwnsM (fun g => w1.heap.size ≤ g ∧ w_1.heap.size ≤ g) w' (.slice a2 l c2) R2 ∧ Below w1.heap.size w1 w') := fun W hW =>
      (hred.out _ _ (fun g h h' => by omega) _ _ W (O1.below hW) (O2.below hW)).mono fun e w' ⟨q1, q2, q3, q4⟩ => ⟨q1, q2, q3, (below_step hB2 hW).trans (q4.below (by have := hW.size; omega) fun g hg => by omega)⟩
    have HB2 := Lib.hid hB2
    clear hcl hid hred ho_1 ho_2 hb_1 hb_2 hB1 hB2 hs1 hs2 O1 O2
    have x0 := M0 _ HB2.out
    go_wp2_with fail
    refine (hcall.out w_2 (Below.refl _ _)).mono ?_
    rintro e w_4 ⟨rfl, ho1, ho2, hb4⟩
    have y0 := M0 _ hb4
    have B4 := Lib.hid (below_step B1.out hb4)
    have q0 := (HQ.out _ B4.out).1
    have q1 := (HQ.out _ B4.out).2.1
    have q2 := (HQ.out _ B4.out).2.2.1
    have q3 := (HQ.out _ B4.out).2.2.2
    have r0 := (HR.out _ B4.out).1
    have r1 := (HR.out _ B4.out).2.1
    have r2 := (HR.out _ B4.out).2.2.1
    have r3 := (HR.out _ B4.out).2.2.2
    have hfin := Lib.hid (twoMat_put (b1 := w.heap.size + 1) (b2 := w.heap.size + 1 + 1) (c1 := (n : Int)) (c2 := (l : Int)) (HB.out.trans (B1.out.mono HB.out.size)) hb4 ho1 ho2 (by omega) (by omega) (by have h1 := B1.out.size; have h2 := HS.out; omega) (by have h1 := B1.out.size; have h2 := HS.out; omega))
    clear ho1 ho2 hb4 hcall x0 M0 M1
    go_wp2
    refine bodyPost_ret (v := .tuple #[.agg #[.int .i64 n, .slice a1 l c1], .agg #[.int .i64 l, .slice a2 l c2], .bool true]) (by simp [results, Tryd.results18, go_sem, q0, q1, r0, r1]) rfl ?_
    exact hfin.out

end Ints
end Go.Proofs.YtimjlcnljefbbaaDoor
