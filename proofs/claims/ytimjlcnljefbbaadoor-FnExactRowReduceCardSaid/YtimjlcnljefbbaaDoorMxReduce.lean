/- Row reduction: the reference's. (Printed by wip/gen_reduce.py.) -/
import Derived.Test.YtimjlcnljefbbaaDoorMxCopy
import Derived.Test.YtimjlcnljefbbaaDoorMxId
import Derived.Test.YtimjlcnljefbbaaDoorMatBox
import Derived.Test.YtimjlcnljefbbaaDoorRowFn
import Derived.Test.YtimjlcnljefbbaaDoorFx
import Derived.Test.YtimjlcnljefbbaaDoorRedMore
import Derived.Deep.RegionHeld3
import Derived.Deep.DeepCutAuto
namespace Go.Proofs.YtimjlcnljefbbaaDoor
open Go.RowKit
namespace Ints
open Fld (fdMul_any fdNeg_any fdInv_any)

/-- What the reference's reduction returns: both matrices in new memory, apart from each other, the rank, the determinant of the steps. -/
def ReduceOut (p : Int) (w : World) (c : Nat) (n : Nat) (M : List (List Int)) (e : Ending) (w' : World) : Prop :=
  ∃ (v8 v9 : Value) (m : Nat), e = .returned (.tuple #[.agg #[.int .i64 c, v8], .agg #[.int .i64 n, v9], .int .i64 (Lin.detN p ⟨⟨M, idT n, 0⟩, 1⟩ c).s.r, .int .i64 (Lin.detN p ⟨⟨M, idT n, 0⟩, 1⟩ c).det]) ∧
    OwnsM (fun g => w.heap.size ≤ g ∧ g < m) w' v8 (Lin.detN p ⟨⟨M, idT n, 0⟩, 1⟩ c).s.M ∧ OwnsM (fun g => w.heap.size ≤ g ∧ m ≤ g) w' v9 (Lin.detN p ⟨⟨M, idT n, 0⟩, 1⟩ c).s.T ∧ Below w.heap.size w w'

set_option maxHeartbeats 16000000 in
set_option maxRecDepth 100000 in
theorem mxReduce_any (p : Int) (hg : Fld.goodB p = true) (n c : Nat) (hn : n ≤ 1000) (hc : c ≤ 1000) (u : Value) (M : List (List Int)) (w : World) (hM : ElemsT p n c M) (hu : ReadsM w u M) :
    Calls Tryd.prog 49 #[.int .i64 p, .agg #[.int .i64 c, u]] w (ReduceOut p w c n M) := by
  obtain ⟨h2, h97⟩ := Fld.good_bounds hg
  obtain ⟨ua, uc, rfl⟩ := hu.form
  have hl := hM.1
  rw [hl] at hu ⊢
  obtain ⟨w0, hw0⟩ : ∃ W, W = (((w.alloc (.cells #[.int .i64 c, .slice ua n uc] 30)).alloc (.cells #[.int .i64 0, .slice none 0 0] 30)).alloc (.cells #[.int .i64 0, .slice none 0 0] 30)) := ⟨_, rfl⟩
  have hB : Below w.heap.size w w0 := by rw [hw0]; exact (((Below.refl w.heap.size w).alloc (by simp) _).alloc (by simp) _).alloc (by simp; omega) _
  have hs0 : w0.heap.size = w.heap.size + 3 := by rw [hw0]; simp
  have M0 : ∀ W, Below w0.heap.size w0 W → W.cell? ⟨w.heap.size, 0, none⟩ = some (.int .i64 c) := fun W hW => cell_old hW (by rw [hw0]; simp [go_sem])
  have M1 : ∀ W, Below w0.heap.size w0 W → W.cell? ⟨w.heap.size, 1, none⟩ = some (.slice ua n uc) := fun W hW => cell_old hW (by rw [hw0]; simp [go_sem])
  have hcopy := Lib.hid (fun W (hW : Below w0.heap.size w0 W) => mxCopy_any c (.slice ua n uc) M W (by omega) (fun i hi => by rw [(hM.2 i (by omega)).1]; exact hc) (hu.below (hB.trans (hW.mono hB.size))))
  have hid := Lib.hid (fun W => mxId_any n hn W)
  have HQQ := Lib.hid (And.intro (matAt_nil (W := w0) (b := w.heap.size + 1) (by rw [hw0]; simp [go_sem]) (by rw [hw0]; simp [go_sem]) (by rw [hw0]; simp [go_sem]) (by rw [hw0]; simp [go_sem])) (matAt_nil (W := w0) (b := w.heap.size + 1 + 1) (by rw [hw0]; simp [go_sem]) (by rw [hw0]; simp [go_sem]) (by rw [hw0]; simp [go_sem]) (by rw [hw0]; simp [go_sem])))
  have HW := Lib.hid hw0
  have HB := Lib.hid hB
  have HS := Lib.hid hs0
  have HM := Lib.hid hM
  have HG := Lib.hid hg
  clear hg hM hu hl hw0 hB hs0
  go_enter Tryd.func49, Tryd.ntmps49
  go_wp2_with fail
  rw [← HW.out]
  go_upto_region 1 with fail
  go_cut [8, 9] (fun t8 t9 W => TwoBox w0 c M n (idT n) t8 t9 W)
  case first =>
    go_region_held3 (fun W => Below w0.heap.size w0 W)
      (((repeat (first | exact Below.refl _ _ | assumption | apply below_alloc | apply below_drewB | refine below_step ?_ hb_2 | refine below_step ?_ hb_1 | refine Below.setCell ?_ (by first | exact bxA.1 | exact bxB.1 | exact below_le (c := w0) (by (repeat (first | exact Below.refl _ _ | assumption | apply below_alloc | apply below_drewB | refine below_step ?_ hb_2 | refine below_step ?_ hb_1))) | (show w0.heap.size ≤ _; simp; exact Nat.le_succ_of_le (below_le (c := w0) (by (repeat (first | exact Below.refl _ _ | assumption | apply below_alloc | apply below_drewB | refine below_step ?_ hb_2 | refine below_step ?_ hb_1)))))) _)); done))
      (first
        | (go_at_call 81; (with_reducible refine (hcopy.out _ (by (repeat (first | exact Below.refl _ _ | assumption | apply below_alloc | apply below_drewB | refine below_step ?_ hb_2 | refine below_step ?_ hb_1)))).mono ?_); rintro e w_1 ⟨v_1, rfl, ho_1, hb_1⟩; obtain ⟨s_1, e_1, rfl⟩ := ho_1.reads.form; (first | (have bq := boxIn_new2 (c := w0) (by (repeat (first | exact Below.refl _ _ | assumption | apply below_alloc | apply below_drewB | refine below_step ?_ hb_2 | refine below_step ?_ hb_1))) hb_1; have bxA := bq.1; have bxB := bq.2) | (have bq := boxIn_new2' (c := w0) hb_1; have bxA := bq.1; have bxB := bq.2) | (have bxN := boxIn_new (c := w0) (by (repeat (first | exact Below.refl _ _ | assumption | apply below_alloc | apply below_drewB | refine below_step ?_ hb_2 | refine below_step ?_ hb_1))) hb_1; (first | (have nAB := Nat.ne_of_lt bxB.2.1; have nBA := Nat.ne_of_gt bxB.2.1; have bxA := show BoxIn w0 w_1 _ from BoxIn.keep bxB (by (repeat (first | exact Below.refl _ _ | assumption | apply below_alloc | apply below_drewB | refine below_step ?_ hb_2 | refine below_step ?_ hb_1)))) | skip); have bxB := bxN) | (have bxN := boxIn_new' (c := w0) hb_1; (first | (have nAB := Nat.ne_of_lt bxB.2.1; have nBA := Nat.ne_of_gt bxB.2.1; have bxA := show BoxIn w0 w_1 _ from BoxIn.keep bxB (by (repeat (first | exact Below.refl _ _ | assumption | apply below_alloc | apply below_drewB | refine below_step ?_ hb_2 | refine below_step ?_ hb_1)))) | skip); have bxB := bxN) | ((first | have bxA := show BoxIn w0 w_1 _ from BoxIn.keep bxA (by (repeat (first | exact Below.refl _ _ | assumption | apply below_alloc | apply below_drewB | refine below_step ?_ hb_2 | refine below_step ?_ hb_1))) | skip); (first | have bxB := show BoxIn w0 w_1 _ from BoxIn.keep bxB (by (repeat (first | exact Below.refl _ _ | assumption | apply below_alloc | apply below_drewB | refine below_step ?_ hb_2 | refine below_step ?_ hb_1))) | skip))))
        | (go_at_call 82; (with_reducible refine (hid.out _).mono ?_); rintro e w_2 ⟨v_2, rfl, ho_2, hb_2⟩; obtain ⟨s_2, e_2, rfl⟩ := ho_2.reads.form; (first | (have bq := boxIn_new2 (c := w0) (by (repeat (first | exact Below.refl _ _ | assumption | apply below_alloc | apply below_drewB | refine below_step ?_ hb_2 | refine below_step ?_ hb_1))) hb_2; have bxA := bq.1; have bxB := bq.2) | (have bq := boxIn_new2' (c := w0) hb_2; have bxA := bq.1; have bxB := bq.2) | (have bxN := boxIn_new (c := w0) (by (repeat (first | exact Below.refl _ _ | assumption | apply below_alloc | apply below_drewB | refine below_step ?_ hb_2 | refine below_step ?_ hb_1))) hb_2; (first | (have nAB := Nat.ne_of_lt bxB.2.1; have nBA := Nat.ne_of_gt bxB.2.1; have bxA := show BoxIn w0 w_2 _ from BoxIn.keep bxB (by (repeat (first | exact Below.refl _ _ | assumption | apply below_alloc | apply below_drewB | refine below_step ?_ hb_2 | refine below_step ?_ hb_1)))) | skip); have bxB := bxN) | (have bxN := boxIn_new' (c := w0) hb_2; (first | (have nAB := Nat.ne_of_lt bxB.2.1; have nBA := Nat.ne_of_gt bxB.2.1; have bxA := show BoxIn w0 w_2 _ from BoxIn.keep bxB (by (repeat (first | exact Below.refl _ _ | assumption | apply below_alloc | apply below_drewB | refine below_step ?_ hb_2 | refine below_step ?_ hb_1)))) | skip); have bxB := bxN) | ((first | have bxA := show BoxIn w0 w_2 _ from BoxIn.keep bxA (by (repeat (first | exact Below.refl _ _ | assumption | apply below_alloc | apply below_drewB | refine below_step ?_ hb_2 | refine below_step ?_ hb_1))) | skip); (first | have bxB := show BoxIn w0 w_2 _ from BoxIn.keep bxB (by (repeat (first | exact Below.refl _ _ | assumption | apply below_alloc | apply below_drewB | refine below_step ?_ hb_2 | refine below_step ?_ hb_1))) | skip))); (first | (have yA0 := bxA.2.2.1; have yA1 := bxA.2.2.2.1; have yA2 := bxA.2.2.2.2.1; have yA3 := bxA.2.2.2.2.2; have yA4 := Nat.ne_of_lt bxA.2.1; have yA9 := Nat.ne_of_gt bxA.2.1; have yA5 := fun ob => cell_old (below_alloc (Below.refl _ _) (o := ob)) bxA.2.2.1; have yA6 := fun ob => cell_old (below_alloc (Below.refl _ _) (o := ob)) bxA.2.2.2.1; have yA7 := fun ob => frozen_old (below_alloc (Below.refl _ _) (o := ob)) bxA.2.1 bxA.2.2.2.2.1; have yA8 := fun ob => frozen_old (below_alloc (Below.refl _ _) (o := ob)) bxA.2.1 bxA.2.2.2.2.2) | skip); (first | (have yB0 := bxB.2.2.1; have yB1 := bxB.2.2.2.1; have yB2 := bxB.2.2.2.2.1; have yB3 := bxB.2.2.2.2.2; have yB4 := Nat.ne_of_lt bxB.2.1; have yB9 := Nat.ne_of_gt bxB.2.1; have yB5 := fun ob => cell_old (below_alloc (Below.refl _ _) (o := ob)) bxB.2.2.1; have yB6 := fun ob => cell_old (below_alloc (Below.refl _ _) (o := ob)) bxB.2.2.2.1; have yB7 := fun ob => frozen_old (below_alloc (Below.refl _ _) (o := ob)) bxB.2.1 bxB.2.2.2.2.1; have yB8 := fun ob => frozen_old (below_alloc (Below.refl _ _) (o := ob)) bxB.2.1 bxB.2.2.2.2.2) | skip)))
    all_goals go_wp2
    all_goals go_meet
    all_goals
      have z1 := hb_1.size
      have z2 := hb_2.size
      (try simp at z1)
      (try simp at z2)
      exact twoBox_mk (by (repeat (first | exact Below.refl _ _ | assumption | apply below_alloc | apply below_drewB | refine below_step ?_ hb_2 | refine below_step ?_ hb_1))) hb_1 ho_1 (by (repeat (first | exact Below.refl _ _ | assumption | apply below_alloc | apply below_drewB | refine below_step ?_ hb_2 | refine below_step ?_ hb_1))) hb_2 ho_2 (by repeat (first | exact Chg.refl _ _ | refine Chg.setCell ?_ (fun _ => by simp) _ | refine Chg.alloc ?_ _)) ⟨by simp [go_sem, *], by simp [go_sem, *], by simp [go_sem, *], by simp [go_sem, *]⟩ (by first | (left; omega) | (right; omega) | (left; simp; done) | (right; simp; done) | (left; simp; omega) | (right; simp; omega)) (by first | (left; omega) | (right; omega) | (left; simp; done) | (right; simp; done) | (left; simp; omega) | (right; simp; omega)) (by first | (left; omega) | (right; omega) | (left; simp; done) | (right; simp; done) | (left; simp; omega) | (right; simp; omega)) (by first | (left; omega) | (right; omega) | (left; simp; done) | (right; simp; done) | (left; simp; omega) | (right; simp; omega)) (by first | omega | (simp; done) | (simp; omega)) (by first | omega | (simp; done) | (simp; omega))
  case rest =>
  obtain ⟨b8, b9, m, v8, v9, rfl, rfl, hcells, ho8, ho9, hm0, hb81, hb82, hb91, hb92, hbc⟩ := hcut
  obtain ⟨w1, hw1⟩ : ∃ W, W = wc := ⟨_, rfl⟩
  rw [← hw1] at hcells ho8 ho9 hb82 hb92 hbc ⊢
  clear hw1 wc
  obtain ⟨SB, hSB⟩ : ∃ SB : Nat → Prop, (fun g => w0.heap.size ≤ g ∧ g < m ∧ g ≠ b8 ∧ g ≠ b9) = SB := ⟨_, rfl⟩
  obtain ⟨SB', hSB'⟩ : ∃ SB : Nat → Prop, (fun g => m ≤ g ∧ g < w1.heap.size ∧ g ≠ b8 ∧ g ≠ b9) = SB := ⟨_, rfl⟩
  rw [hSB] at ho8
  rw [hSB'] at ho9
  have hdis : ∀ g, SB g → ¬ SB' g := fun g h h' => by rw [← hSB] at h; rw [← hSB'] at h'; omega
  have hge : ∀ g, SB g ∨ SB' g → w0.heap.size ≤ g := fun g h => by rw [← hSB, ← hSB'] at h; rcases h with h | h <;> omega
  have hnb : ¬ (SB b8 ∨ SB' b8) ∧ ¬ (SB b9 ∨ SB' b9) := by rw [← hSB, ← hSB']; exact ⟨fun h => by rcases h with h | h; exact h.2.2.1 rfl; exact h.2.2.1 rfl, fun h => by rcases h with h | h; exact h.2.2.2 rfl; exact h.2.2.2 rfl⟩
  obtain ⟨aA, cA, hv8⟩ : ∃ a k, v8 = .slice a n k := by have := ho8.reads.form; rw [HM.out.1] at this; exact this
  obtain ⟨aT, cT, hv9⟩ : ∃ a k, v9 = .slice a n k := by have := ho9.reads.form; rw [idT, tabT_length] at this; exact this
  subst hv8 hv9
  have hm0c := M0 w1 hbc
  have hkeep : ∀ W, Chg (fun g => SB g ∨ SB' g) w1 W → W.cell? ⟨w.heap.size, 0, none⟩ = some (.int .i64 c) ∧ W.cell? ⟨b8, 1, none⟩ = some (.slice aA n cA) ∧ W.cell? ⟨b9, 1, none⟩ = some (.slice aT n cT) ∧ W.cell? ⟨b8, 0, none⟩ = some (.int .i64 c) ∧ W.cell? ⟨b9, 0, none⟩ = some (.int .i64 n) ∧ Below w.heap.size w W := fun W h =>
    ⟨h.keep hm0c (fun e => by have := hge _ e; have := HS.out; simp only at *; omega), h.keep hcells.2.1 hnb.1, h.keep hcells.2.2.2 hnb.2, h.keep hcells.1 hnb.1, h.keep hcells.2.2.1 hnb.2, (HB.out.trans (hbc.mono HB.out.size)).trans (h.below (by have := hbc.size; have := HB.out.size; omega) fun g e => by have := hge _ e; have := HB.out.size; omega)⟩
  obtain ⟨d0, hd0⟩ : ∃ d, (⟨⟨M, idT n, 0⟩, 1⟩ : Lin.Det) = d := ⟨_, rfl⟩
  have hokN : ∀ j, RedOk p n c n (Lin.detN p d0 j).s := fun j => by
    rw [Lin.detN_s, ← hd0]
    exact redN_ok h2 ⟨HM.out, elems_id h2 n, Nat.zero_le _⟩ j
  have hdet : ∀ j, 0 ≤ (Lin.detN p d0 j).det ∧ (Lin.detN p d0 j).det < p := fun j => by rw [← hd0]; exact detN_bounds h2 _ j
  have h00 : Lin.detN p d0 0 = ⟨⟨M, idT n, 0⟩, 1⟩ := hd0.symm
  have hkeep2 : ∀ W, Chg (fun g => SB g ∨ SB' g) w1 W → MatAt (fun _ => False) W (w.heap.size + 1) 0 [] (.slice none 0 0) ∧ MatAt (fun _ => False) W (w.heap.size + 1 + 1) 0 [] (.slice none 0 0) := fun W h =>
    ⟨(HQQ.out.1.below hbc).chg h (fun e => by have := hge _ e; have := HS.out; omega) (fun _ _ e => e.elim), (HQQ.out.2.below hbc).chg h (fun e => by have := hge _ e; have := HS.out; omega) (fun _ _ e => e.elim)⟩
  have HKEEP := Lib.hid hkeep
  have HKEEP2 := Lib.hid hkeep2
  have HB89 := Lib.hid (And.intro hb81 hb91)
  have HDIS := Lib.hid hdis
  have HNB := Lib.hid hnb
  have HOK := Lib.hid hokN
  have HDET := Lib.hid hdet
  have H00 := Lib.hid h00
  have HO8 := Lib.hid ho8
  have HO9 := Lib.hid ho9
  have HSBB := Lib.hid (And.intro (fun g (h : SB g) => show w0.heap.size ≤ g ∧ g < m by rw [← hSB] at h; exact ⟨h.1, h.2.1⟩) (And.intro (fun g (h : SB' g) => show m ≤ g by rw [← hSB'] at h; exact h.1) hm0))
  have HD0 := Lib.hid hd0
  clear hkeep hkeep2 hdis hge hnb hokN hdet h00 ho8 ho9 hm0c hcells hSB hSB' hd0 hm0 hb81 hb82 hb91 hb92 hbc M0 M1 hcopy hid
  go_wp2
  go_loopw [10, 11, 12] (fun r dt j wr => ∃ (c0 : Nat), c0 ≤ c ∧ j = .int .i64 c0 ∧ r = .int .i64 (Lin.detN p d0 c0).s.r ∧ dt = .int .i64 (Lin.detN p d0 c0).det ∧ OwnsM SB wr (.slice aA n cA) (Lin.detN p d0 c0).s.M ∧ OwnsM SB' wr (.slice aT n cT) (Lin.detN p d0 c0).s.T ∧ Chg (fun g => SB g ∨ SB' g) w1 wr) (fun _ _ j _ => c + 1 - (intOf j).toNat)
  case atStart => exact ⟨0, by omega, rfl, by rw [H00.out]; rfl, by rw [H00.out], by rw [H00.out]; exact HO8.out, by rw [H00.out]; exact HO9.out, Chg.refl _ _⟩
  case round =>
    obtain ⟨c0, hc0, rfl, rfl, rfl, hMM, hTT, hch⟩ := hrel
    have hok := HOK.out c0
    have hdb := HDET.out c0
    obtain ⟨k0, k1, k2, k3, k4, _⟩ := HKEEP.out wr hch
    have hrn := hok.2.2
    have hml := hok.1.1
    by_cases hlt : c0 < c
    · have hsucc : Lin.detN p d0 (c0 + 1) = Lin.detCol p (Lin.detN p d0 c0) c0 := rfl
      generalize Lin.detN p d0 c0 = dd at *
      obtain ⟨s, dt⟩ := dd
      dsimp only at hok hdb hrn hml hMM hTT ⊢
      have HSUCC := Lib.hid hsucc
      have HOKS := Lib.hid hok
      have HMM := Lib.hid hMM
      have HTT := Lib.hid hTT
      have HCH := Lib.hid hch
      have HML := Lib.hid hml
      have hci : (c0 : Int) < (c : Int) := by omega
      clear hsucc hok hMM hTT hch hml k3 k4
      go_wp2
      go_loop [13] (fun i => ∃ k : Nat, s.r ≤ k ∧ k ≤ n ∧ i = .int .i64 k ∧ Hid (∀ q, s.r ≤ q → q < k → at2 s.M q c0 = 0)) (fun i => n + 1 - (intOf i).toNat)
      case atStart => exact ⟨s.r, Nat.le_refl _, by omega, rfl, fun q h1 h2 => by omega⟩
      case round =>
        obtain ⟨k, hrk, hkn, rfl, hz⟩ := hrel
        by_cases hk : k < n
        · obtain ⟨g, off, cap, g2, off2, cap2, e, _, hm2, hcell, hy, _, _, _, _, _⟩ := HMM.out.openAt (i := k) (j := c0) (by rw [HML.out]; exact hk) (by rw [(HOKS.out.1.2 k hk).1]; exact hlt)
          simp only [Value.slice.injEq] at e
          obtain ⟨rfl, -, rfl⟩ := e
          rw [(HOKS.out.1.2 k hk).1] at hm2 hcell
          have hki : (k : Int) < (n : Int) := by omega
          have hk0 : 0 ≤ (k : Int) := by omega
          have hc00 : 0 ≤ (c0 : Int) := by omega
          by_cases hv : at2 s.M k c0 = 0
          · have hz2 : Hid (∀ q, s.r ≤ q → q < k + 1 → at2 s.M q c0 = 0) := fun q h1 h3 => by
              by_cases e : q = k
              · subst e; exact hv
              · exact hz.out q h1 (by omega)
            rw [hv] at hy
            clear hv
            go_wp2
            go_round
            case rel => exact ⟨k + 1, by omega, by omega, by go_num, hz2⟩
            case measure => simp [intOf]; omega
          · have hvb : (at2 s.M k c0 == 0) = false := by simpa using hv
            have hseek : seek s.M c0 s.r = k := seek_at hrk (by rw [HML.out]; exact hk) (fun q h1 h3 => hz.out q h1 h3) hv
            have hpiv := Lin.pivot_in HOKS.out hlt (by rw [hseek, HML.out]; exact hk)
            rw [hseek] at hpiv
            obtain ⟨hfull, _, _, hp1, hp2⟩ := hpiv
            have hri : (s.r : Int) < (n : Int) := by omega
            have hr0 : 0 ≤ (s.r : Int) := by omega
            have hcol : Lin.detCol p ⟨s, dt⟩ c0 = ⟨Red.step p s c0 k, ((if s.r < k then Lin.negI p dt else dt) * at2 s.M k c0) % p⟩ := by
              unfold Lin.detCol
              simp only
              rw [hseek, if_pos (by rw [HML.out]; exact hk)]
            have hpe : at2 (swapL s.M s.r k) s.r c0 = at2 s.M k c0 := by
              rw [Lin.at2_swap (by rw [HML.out]; exact hfull) (by rw [HML.out]; exact hk)]
              by_cases e : s.r = k
              · rw [if_pos e, e]
              · rw [if_neg e, if_pos rfl]
            rw [← hpe] at hcol
            have HCOL := Lib.hid hcol
            have HE1 := Lib.hid (elems_swap HOKS.out.1 (i := s.r) (j := k) (by omega) hk)
            have HE1T := Lib.hid (elems_swap HOKS.out.2.1 (i := s.r) (j := k) (by omega) hk)
            have hs1 := Red.step_M p s c0 k
            have hs2 := Red.step_T p s c0 k
            have hs3 : (Red.step p s c0 k).r = s.r + 1 := rfl
            rw [HML.out] at hs1
            rw [HOKS.out.2.1.1] at hs2
            obtain ⟨d1, hd1⟩ : ∃ d1, (if s.r < k then Lin.negI p dt else dt) = d1 := ⟨_, rfl⟩
            have hd1b : 0 ≤ d1 ∧ d1 < p := by
              rw [← hd1]
              split
              · exact ⟨Int.emod_nonneg _ (by omega), Int.emod_lt_of_pos _ (by omega)⟩
              · exact hdb
            rw [hd1] at HCOL
            have HD1 := Lib.hid hd1
            have HS1 := Lib.hid hs1
            have HS2 := Lib.hid hs2
            have HS3 := Lib.hid hs3
            clear hseek hcol hpe hv hs1 hs2 hs3 hd1 hz
            go_upto_if 57 with fail
            clear hcell hy hm2 hvb
            go_cut [11] (fun dv wq => dv = .int .i64 d1 ∧ OwnsM SB wq (.slice (some ⟨g, off, none⟩) n cA) (swapL s.M s.r k) ∧ OwnsM SB' wq (.slice aT n cT) (swapL s.T s.r k) ∧ Chg (fun g => SB g ∨ SB' g) w1 wq)
            case first =>
              by_cases hgt : s.r < k
              · have hgt2 : (s.r : Int) < (k : Int) := by omega
                have hdv : d1 = (p - dt) % p := by rw [← HD1.out, if_pos hgt, show p - dt = -dt + p * 1 by omega, Int.add_mul_emod_self_left]; rfl
                obtain ⟨gA, oA, qA, ak, ar, eA, _, hSA, cAk, cAr, fAk, fAr, ⟨xa, xn, xc, rfl⟩, ⟨ya, yn, yc, rfl⟩, hOA⟩ := HMM.out.openSwap (i := k) (j := s.r) (by rw [HML.out]; exact hk) (by rw [HML.out]; exact hfull)
                obtain ⟨gT, oT, qT, tk, tr, eT, _, hST, cTk, cTr, fTk, fTr, ⟨za, zn, zc, rfl⟩, ⟨va, vn, vc, rfl⟩, hOT⟩ := HTT.out.openSwap (i := k) (j := s.r) (by rw [HOKS.out.2.1.1]; exact hk) (by rw [HOKS.out.2.1.1]; exact hfull)
                rw [HML.out] at eA
                rw [HOKS.out.2.1.1] at eT
                simp only [Value.slice.injEq] at eA eT
                obtain ⟨rfl, -, rfl⟩ := eT
                obtain ⟨eA, -, rfl⟩ := eA
                simp only [Option.some.injEq, Addr.mk.injEq, and_true] at eA
                obtain ⟨rfl, rfl⟩ := eA
                have hgg : g ≠ gT := fun e => HDIS.out g hSA (by rw [e]; exact hST)
                have n8 : ¬ b8 = g ∧ ¬ b8 = gT ∧ ¬ b9 = g ∧ ¬ b9 = gT := by
                  have h8 := HNB.out
                  exact ⟨fun e => h8.1 (.inl (by rw [e]; exact hSA)), fun e => h8.1 (.inr (by rw [e]; exact hST)), fun e => h8.2 (.inl (by rw [e]; exact hSA)), fun e => h8.2 (.inr (by rw [e]; exact hST))⟩
                have c1 := Chg.set1 wr ⟨g, off + k, none⟩ (.slice ya yn yc)
                have c2 := Chg.set1 (wr.setCell ⟨g, off + k, none⟩ (.slice ya yn yc)) ⟨gT, oT + k, none⟩ (.slice va vn vc)
                have c3 := Chg.set1 ((wr.setCell ⟨g, off + k, none⟩ (.slice ya yn yc)).setCell ⟨gT, oT + k, none⟩ (.slice va vn vc)) ⟨g, off + s.r, none⟩ (.slice xa xn xc)
                have a1 := c1.keep k1 n8.1
                have a2 := c1.keep k2 n8.2.2.1
                have a3 := c1.keep cTk (fun e => hgg e.symm)
                have a4 := c1.keep cTr (fun e => hgg e.symm)
                have a5 := c1.keepF fTk (lt_of_cell cTk) (fun e => hgg e.symm)
                have a6 : (wr.setCell ⟨g, off + k, none⟩ (.slice ya yn yc)).cell? ⟨g, off + s.r, none⟩ = some (.slice ya yn yc) := by
                  have : ¬ s.r = k := by omega
                  simp [go_sem, cAr]
                have a7 : (wr.setCell ⟨g, off + k, none⟩ (.slice ya yn yc)).frozen? ⟨g, off + s.r, none⟩ = false := by simp [go_sem, fAr]
                have b1 := c2.keep a1 n8.2.1
                have b2 := c2.keep a2 n8.2.2.2
                have b6 := c2.keep a6 hgg
                have b7 := c2.keepF a7 (lt_of_cell a6) hgg
                have b4 : ((wr.setCell ⟨g, off + k, none⟩ (.slice ya yn yc)).setCell ⟨gT, oT + k, none⟩ (.slice va vn vc)).cell? ⟨gT, oT + s.r, none⟩ = some (.slice va vn vc) := by
                  have : ¬ s.r = k := by omega
                  simp [go_sem, a4]
                have b5 : ((wr.setCell ⟨g, off + k, none⟩ (.slice ya yn yc)).setCell ⟨gT, oT + k, none⟩ (.slice va vn vc)).frozen? ⟨gT, oT + s.r, none⟩ = false := by simp [go_sem, fTr]
                have d2 := c3.keep b2 n8.2.2.1
                have d4 := c3.keep b4 (fun e => hgg e.symm)
                have d5 := c3.keepF b5 (lt_of_cell b4) (fun e => hgg e.symm)
                have hfin : Hid (OwnsM SB ((((wr.setCell ⟨g, off + k, none⟩ (.slice ya yn yc)).setCell ⟨gT, oT + k, none⟩ (.slice va vn vc)).setCell ⟨g, off + s.r, none⟩ (.slice xa xn xc)).setCell ⟨gT, oT + s.r, none⟩ (.slice za zn zc)) (.slice (some ⟨g, off, none⟩) n cA) (swapL s.M s.r k) ∧ OwnsM SB' ((((wr.setCell ⟨g, off + k, none⟩ (.slice ya yn yc)).setCell ⟨gT, oT + k, none⟩ (.slice va vn vc)).setCell ⟨g, off + s.r, none⟩ (.slice xa xn xc)).setCell ⟨gT, oT + s.r, none⟩ (.slice za zn zc)) (.slice (some ⟨gT, oT, none⟩) n cT) (swapL s.T s.r k) ∧ Chg (fun g => SB g ∨ SB' g) w1 ((((wr.setCell ⟨g, off + k, none⟩ (.slice ya yn yc)).setCell ⟨gT, oT + k, none⟩ (.slice va vn vc)).setCell ⟨g, off + s.r, none⟩ (.slice xa xn xc)).setCell ⟨gT, oT + s.r, none⟩ (.slice za zn zc))) := by
                  have e1 : ((((wr.setCell ⟨g, off + k, none⟩ (.slice ya yn yc)).setCell ⟨gT, oT + k, none⟩ (.slice va vn vc)).setCell ⟨g, off + s.r, none⟩ (.slice xa xn xc)).setCell ⟨gT, oT + s.r, none⟩ (.slice za zn zc)) = (((wr.setCell ⟨g, off + k, none⟩ (.slice ya yn yc)).setCell ⟨g, off + s.r, none⟩ (.slice xa xn xc)).setCell ⟨gT, oT + k, none⟩ (.slice va vn vc)).setCell ⟨gT, oT + s.r, none⟩ (.slice za zn zc) := by
                    rw [setCell_comm (wr.setCell ⟨g, off + k, none⟩ (.slice ya yn yc)) (a := ⟨gT, oT + k, none⟩) (b := ⟨g, off + s.r, none⟩) (fun e => hgg e.symm)]
                  have e2 : ((((wr.setCell ⟨g, off + k, none⟩ (.slice ya yn yc)).setCell ⟨gT, oT + k, none⟩ (.slice va vn vc)).setCell ⟨g, off + s.r, none⟩ (.slice xa xn xc)).setCell ⟨gT, oT + s.r, none⟩ (.slice za zn zc)) = (((wr.setCell ⟨gT, oT + k, none⟩ (.slice va vn vc)).setCell ⟨gT, oT + s.r, none⟩ (.slice za zn zc)).setCell ⟨g, off + k, none⟩ (.slice ya yn yc)).setCell ⟨g, off + s.r, none⟩ (.slice xa xn xc) := by
                    rw [setCell_comm wr (a := ⟨g, off + k, none⟩) (b := ⟨gT, oT + k, none⟩) hgg, setCell_comm _ (a := ⟨g, off + s.r, none⟩) (b := ⟨gT, oT + s.r, none⟩) hgg, setCell_comm _ (a := ⟨g, off + k, none⟩) (b := ⟨gT, oT + s.r, none⟩) hgg]
                  refine ⟨?_, ?_, ?_⟩
                  · rw [e1, swapL_comm (by rw [HML.out]; exact hfull) (by rw [HML.out]; exact hk)]
                    exact (hOA.chg (T := fun q => q = gT) ((Chg.set1 _ ⟨gT, oT + k, none⟩ _).trans (Chg.set1 _ ⟨gT, oT + s.r, none⟩ _)) fun q hq e => HDIS.out q hq (by rw [e]; exact hST))
                  · rw [e2, swapL_comm (by rw [HOKS.out.2.1.1]; exact hfull) (by rw [HOKS.out.2.1.1]; exact hk)]
                    exact (hOT.chg (T := fun q => q = g) ((Chg.set1 _ ⟨g, off + k, none⟩ _).trans (Chg.set1 _ ⟨g, off + s.r, none⟩ _)) fun q hq e => HDIS.out q (by rw [e]; exact hSA) hq)
                  · exact HCH.out.trans ((((c1.mono fun g _ e => .inl (by rw [e]; exact hSA)).trans (c2.mono fun g _ e => .inr (by rw [e]; exact hST))).trans (c3.mono fun g _ e => .inl (by rw [e]; exact hSA))).trans ((Chg.set1 _ ⟨gT, oT + s.r, none⟩ _).mono fun g _ e => .inr (by rw [e]; exact hST)))
                have hcall := Lib.hid (fun W => fdNeg_any p dt h2 h97 hdb.1 hdb.2 W)
                rw [← hdv] at hcall
                clear hOA hOT hSA hST hgg n8 c1 c2 c3 hdv
                go_wp2
                go_region
                go_wp2
                go_region
                go_wp2
                go_region
                go_wp2_with (go_at_call 83; ((with_reducible refine (hcall.out _).mono ?_); rintro e w' ⟨rfl, rfl⟩))
                go_meet
                exact ⟨rfl, hfin.out.1, hfin.out.2.1, hfin.out.2.2.drew.drew.drew⟩
              · have hkr : k = s.r := by omega
                subst hkr
                have hd2 : d1 = dt := by rw [← HD1.out, if_neg (Nat.lt_irrefl _)]
                subst hd2
                have hfin : Hid (OwnsM SB wr (.slice (some ⟨g, off, none⟩) n cA) (swapL s.M s.r s.r) ∧ OwnsM SB' wr (.slice aT n cT) (swapL s.T s.r s.r)) := by
                  rw [swapL_same (by rw [HML.out]; exact hfull), swapL_same (by rw [HOKS.out.2.1.1]; exact hfull)]
                  exact ⟨HMM.out, HTT.out⟩
                go_wp2
                go_meet
                exact ⟨rfl, hfin.out.1, hfin.out.2, HCH.out⟩
            case rest =>
              obtain ⟨rfl, hM1, hT1, hc1⟩ := hcut
              obtain ⟨w2, hw2⟩ : ∃ W, W = wc := ⟨_, rfl⟩
              rw [← hw2] at hM1 hT1 hc1 ⊢
              clear hw2 wc
              obtain ⟨q0, q1, q2, _, _, _⟩ := HKEEP.out w2 hc1
              obtain ⟨M1, hM1e⟩ : ∃ M1, swapL s.M s.r k = M1 := ⟨_, rfl⟩
              obtain ⟨T1, hT1e⟩ : ∃ T1, swapL s.T s.r k = T1 := ⟨_, rfl⟩
              rw [hM1e] at hM1 hp1 hp2 HE1 HS1 HS2 HCOL
              rw [hT1e] at hT1 HE1T HS2
              obtain ⟨gM, oM, qM, rM, eM, _, cM1, hSM, hoM, hbM, hapM, hKM⟩ := hM1.openRow2 (i := s.r) (by rw [HE1.out.1]; exact hfull)
              rw [HE1.out.1] at eM
              simp only [Value.slice.injEq, Option.some.injEq, Addr.mk.injEq, and_true] at eM
              obtain ⟨⟨rfl, rfl⟩, -, rfl⟩ := eM
              rw [(HE1.out.2 s.r hfull).1] at hoM hapM hKM
              obtain ⟨_, a3, c3, rfl, hm3, hc3⟩ := open_owns hoM
              obtain ⟨g3, off3, rfl, hg3, hj3⟩ := hc3 (by omega)
              have hy3 := (hj3 c0 hlt).1
              rw [at2_lAt] at hy3
              obtain ⟨piv, hpiv⟩ : ∃ x, at2 M1 s.r c0 = x := ⟨_, rfl⟩
              obtain ⟨iv, hiv⟩ : ∃ x, invI p piv = x := ⟨_, rfl⟩
              rw [hpiv] at hy3 hp1 hp2 HCOL
              have hiv0 : 0 ≤ iv := by rw [← hiv]; unfold invI; omega
              have hiv1 : iv < p := by
                rw [← hiv]; unfold invI
                have := Fld.inv_lt (p := p.toNat) (a := piv.toNat) (by omega)
                omega
              have hinv : Hid (∀ W, Calls Tryd.prog 63 #[.int .i64 p, .int .i64 piv] W fun e w' => e = .returned (.int .i64 iv) ∧ W = w') := fun W => by
                have e1 : ((p.toNat : Nat) : Int) = p := by omega
                have e2 : ((piv.toNat : Nat) : Int) = piv := by omega
                have h := fdInv_any p.toNat piv.toNat (by omega) (by omega) (by omega) W
                rw [e1, e2] at h
                rw [← hiv]
                exact h
              have hmul := Lib.hid (fun W => fdMul_any p d1 piv h2 h97 hd1b.1 hd1b.2 (by omega) hp2 W)
              have hcall := Lib.hid (mxScale_any p iv h2 h97 hiv0 hiv1 (.slice (some ⟨g3, off3, none⟩) c c3) c (lAt M1 s.r) w2.drew hoM (HE1.out.2 s.r hfull).2)
              have er : (rowT c fun j => (lAt M1 s.r)[j]?.getD 0 * iv % p) = scaleRow p (invI p (at2 M1 s.r c0)) (lAt M1 s.r) := by rw [hpiv, hiv, scaleRow, (HE1.out.2 s.r hfull).1]
              rw [er] at hcall
              have HKM := Lib.hid hKM
              have HBM := Lib.hid (fun g' (hp : 0 < c) (hg' : (Value.slice (some ⟨g3, off3, none⟩) c c3).ownBlock = some g') => hbM g' (ofL_ne.2 (List.length_pos_iff.1 (by rw [(HE1.out.2 s.r hfull).1]; exact hp))) hg')
              have HAM := Lib.hid hapM
              have HT1 := Lib.hid hT1
              have HC1 := Lib.hid hc1
              have HSC := Lib.hid (show w2.cell? ⟨b8, 1, none⟩ = some (.slice (some ⟨g, off, none⟩) n cA) ∧ w2.cell? ⟨g, off + s.r, none⟩ = some (.slice (some ⟨g3, off3, none⟩) c c3) from ⟨q1, cM1⟩)
              have HLS : Hid ((scaleRow p (invI p (at2 M1 s.r c0)) (lAt M1 s.r)).length = c) := by show _ = _; rw [scaleRow_length, (HE1.out.2 s.r hfull).1]
              have HPV := Lib.hid hpiv
              have HIV := Lib.hid hiv
              clear hKM hbM hapM hT1 hc1 hoM hj3 hc3 hM1 hSM er hM1e hT1e hpiv hiv k0 k1 k2
              go_wp2_with (go_at_call 64; ((with_reducible refine (hmul.out _).mono ?_); rintro e w' ⟨rfl, rfl⟩))
              go_region_held3 (fun W => W.cell? ⟨b8, 1, none⟩ = some (.slice (some ⟨g, off, none⟩) n cA) ∧ W.cell? ⟨g, off + s.r, none⟩ = some (.slice (some ⟨g3, off3, none⟩) c c3))
                (first | exact S7.out | go_keep)
                (first | (go_at_call 63; (with_reducible refine (hinv.out _).mono ?_); rintro e w' ⟨rfl, rfl⟩) | (go_at_call 84; (with_reducible refine hcall.out.mono ?_); rintro e w7 ⟨rfl, ho7, hc7⟩; have S7 := Lib.hid (And.intro (hc7.keep (show w2.drew.cell? _ = _ from HSC.out.1) (fun h => HNB.out.1 (.inl (HBM.out _ h.2 h.1)))) (hc7.keep (show w2.drew.cell? _ = _ from HSC.out.2) (fun h => HAM.out h.2 h.1)))))
              have hch3 : Chg (fun g' => (Value.slice (some ⟨g3, off3, none⟩) c c3).ownBlock = some g' ∧ 0 < c) w2 w7 := (Chg.refl _ w2).drew.trans hc7
              have hM3 := HKM.out w7 _ HLS.out hch3 (by rw [HLS.out]; exact ho7)
              have hc3' : Chg (fun g => SB g ∨ SB' g) w2 w7 := hch3.mono fun g' _ hg' => .inl (HBM.out g' hg'.2 hg'.1)
              have hC3 := HC1.out.trans hc3'
              have hT3 := HT1.out.chg hch3 fun g' hg' e => HDIS.out g' (HBM.out g' e.2 e.1) hg'
              obtain ⟨k0, k1, k2, _, _, _⟩ := HKEEP.out w7 hC3
              obtain ⟨gT, oT, qT, rT, eT, _, cT1, hST, hoT, hbT, hapT, hKT⟩ := hT3.openRow2 (i := s.r) (by rw [HE1T.out.1]; exact hfull)
              rw [HE1T.out.1] at eT
              simp only [Value.slice.injEq] at eT
              obtain ⟨rfl, -, rfl⟩ := eT
              rw [(HE1T.out.2 s.r hfull).1] at hoT hapT hKT
              obtain ⟨aT3, cT3, rfl⟩ := hoT.form
              have hcall2 := Lib.hid (mxScale_any p iv h2 h97 hiv0 hiv1 (.slice aT3 n cT3) n (lAt T1 s.r) w7.drew hoT (HE1T.out.2 s.r hfull).2)
              have er : (rowT n fun j => (lAt T1 s.r)[j]?.getD 0 * iv % p) = scaleRow p (invI p (at2 M1 s.r c0)) (lAt T1 s.r) := by rw [HPV.out, HIV.out, scaleRow, (HE1T.out.2 s.r hfull).1]
              rw [er] at hcall2
              have HKT := Lib.hid hKT
              have HBT := Lib.hid (fun g' (hp : 0 < n) (hg' : (Value.slice aT3 n cT3).ownBlock = some g') => hbT g' (ofL_ne.2 (List.length_pos_iff.1 (by rw [(HE1T.out.2 s.r hfull).1]; exact hp))) hg')
              have HAT := Lib.hid hapT
              have HM3 := Lib.hid hM3
              have HC3 := Lib.hid hC3
              have HSC2 := Lib.hid (show w7.cell? ⟨b9, 1, none⟩ = some (.slice (some ⟨gT, oT, none⟩) n cT) ∧ w7.cell? ⟨gT, oT + s.r, none⟩ = some (.slice aT3 n cT3) from ⟨k2, cT1⟩)
              have HLT : Hid ((scaleRow p (invI p (at2 M1 s.r c0)) (lAt T1 s.r)).length = n) := by show _ = _; rw [scaleRow_length, (HE1T.out.2 s.r hfull).1]
              clear hKT hbT hapT hM3 hC3 hT3 hoT hc3' hch3 ho7 hc7 S7 er hST q0 q1 q2 cM1 hy3 hcall hmul HKM HSC HLS HT1
              go_wp2
              go_region_held3 (fun W => W.cell? ⟨b9, 1, none⟩ = some (.slice (some ⟨gT, oT, none⟩) n cT) ∧ W.cell? ⟨gT, oT + s.r, none⟩ = some (.slice aT3 n cT3))
                (first | exact S8.out | go_keep)
                (first | (go_at_call 63; (with_reducible refine (hinv.out _).mono ?_); rintro e w' ⟨rfl, rfl⟩) | (go_at_call 84; (with_reducible refine hcall2.out.mono ?_); rintro e w8 ⟨rfl, ho8, hc8⟩; have S8 := Lib.hid (And.intro (hc8.keep (show w7.drew.cell? _ = _ from HSC2.out.1) (fun h => HNB.out.2 (.inr (HBT.out _ h.2 h.1)))) (hc8.keep (show w7.drew.cell? _ = _ from HSC2.out.2) (fun h => HAT.out h.2 h.1)))))
              have hch4 : Chg (fun g' => (Value.slice aT3 n cT3).ownBlock = some g' ∧ 0 < n) w7 w8 := (Chg.refl _ w7).drew.trans hc8
              have HT2 := Lib.hid (HKT.out w8 _ HLT.out hch4 (by rw [HLT.out]; exact ho8))
              have HC4 := Lib.hid (HC3.out.trans (hch4.mono fun g' _ hg' => .inr (HBT.out g' hg'.2 hg'.1)))
              have HM2 := Lib.hid (HM3.out.chg hch4 fun g' hg' e => HDIS.out g' hg' (HBT.out g' e.2 e.1))
              have HE2 := Lib.hid (elems_scaled h2 (q := c0) (M := M1) HE1.out hfull)
              have HE2T := Lib.hid (elems_scaled h2 (q := c0) (M := M1) HE1T.out hfull)
              rw [show M1.set s.r (scaleRow p (invI p (at2 M1 s.r c0)) (lAt M1 s.r)) = Red.scaled p s.r c0 M1 M1 from rfl] at HM2
              rw [show T1.set s.r (scaleRow p (invI p (at2 M1 s.r c0)) (lAt T1 s.r)) = Red.scaled p s.r c0 M1 T1 from rfl] at HT2
              obtain ⟨q0, q1, q2, _, _, _⟩ := HKEEP.out w8 HC4.out
              clear ho8 hc8 S8 hch4 k0 k1 k2 cT1 hcall2 HKT HSC2 HLT HBT HAT HM3 HBM HAM HC3 HC1
              generalize Red.scaled p s.r c0 M1 M1 = M2 at *
              generalize Red.scaled p s.r c0 M1 T1 = T2 at *
              go_wp2
              go_loopw [134] (fun i wr => ∃ q : Nat, q ≤ n ∧ i = .int .i64 q ∧ OwnsM SB wr (.slice (some ⟨g, off, none⟩) n cA) (clearP p (Red.col c0 M2) s.r M2 q) ∧ OwnsM SB' wr (.slice (some ⟨gT, oT, none⟩) n cT) (clearP p (Red.col c0 M2) s.r T2 q) ∧ Chg (fun g => SB g ∨ SB' g) w1 wr) (fun i _ => n + 1 - (intOf i).toNat)
              case atStart => exact ⟨0, by omega, rfl, by rw [clearP_zero]; exact HM2.out, by rw [clearP_zero]; exact HT2.out, HC4.out⟩
              case round =>
                obtain ⟨q, hq, rfl, hMq, hTq, hcq⟩ := hrel
                obtain ⟨y0, y1, y2, _, _, _⟩ := HKEEP.out _ hcq
                by_cases hqn : q < n
                · have hq0 : 0 ≤ (q : Int) := by omega
                  have hqi : (q : Int) < (n : Int) := by omega
                  have hc00 : 0 ≤ (c0 : Int) := by omega
                  have hEq := elems_clear (i := q) (k := s.r) (X := Red.col c0 M2) h2 HE2.out
                  have hEqT := elems_clear (i := q) (k := s.r) (X := Red.col c0 M2) h2 HE2T.out
                  obtain ⟨g', off', cap', g4, off4, cap4, e, _, hm4, hcell4, hy4, _, _, _, _, _⟩ := hMq.openAt (i := q) (j := c0) (by rw [hEq.1]; exact hqn) (by rw [(hEq.2 q hqn).1]; exact hlt)
                  simp only [Value.slice.injEq, Option.some.injEq, Addr.mk.injEq, and_true] at e
                  obtain ⟨⟨rfl, rfl⟩, -, rfl⟩ := e
                  rw [(hEq.2 q hqn).1] at hm4 hcell4
                  have hval : at2 (clearP p (Red.col c0 M2) s.r M2 q) q c0 = Red.col c0 M2 q := by
                    show (lAt _ q)[c0]?.getD 0 = at2 M2 q c0
                    rw [clearP_next (by rw [HE2.out.1]; exact hqn)]
                    rfl
                  rw [hval] at hy4
                  have hxb := (HE2.out.2 q hqn).2 c0 hlt
                  rw [show at2 M2 q c0 = Red.col c0 M2 q from rfl] at hxb
                  by_cases hskip : q = s.r ∨ Red.col c0 M2 q = 0
                  · have H1 : Hid (OwnsM SB wr (.slice (some ⟨g, off, none⟩) n cA) (clearP p (Red.col c0 M2) s.r M2 (q + 1))) := by rw [clearP_skip (by rw [HE2.out.1]; exact hqn) hskip] at hMq; exact hMq
                    have H2 : Hid (OwnsM SB' wr (.slice (some ⟨gT, oT, none⟩) n cT) (clearP p (Red.col c0 M2) s.r T2 (q + 1))) := by rw [clearP_skip (by rw [HE2T.out.1]; exact hqn) hskip] at hTq; exact hTq
                    have H3 := Lib.hid hcq
                    clear hMq hTq hcq hEq hEqT hval hxb
                    generalize Red.col c0 M2 q = xv at *
                    by_cases hqr : q = s.r
                    · have hqb : ((q : Int) != (s.r : Int)) = false := by simp [hqr]
                      clear hskip hqr
                      go_wp2
                      go_roundw
                      case rel => exact ⟨q + 1, by omega, by go_num, H1.out, H2.out, H3.out⟩
                      case measure => simp [intOf]; omega
                    · have hqb : ((q : Int) != (s.r : Int)) = true := by simp; omega
                      have hx0 : xv = 0 := by rcases hskip with h | h; exact absurd h hqr; exact h
                      clear hskip hqr
                      subst hx0
                      go_wp2
                      go_roundw
                      case rel => exact ⟨q + 1, by omega, by go_num, H1.out, H2.out, H3.out⟩
                      case measure => simp [intOf]; omega
                  · have hqr : q ≠ s.r := fun e => hskip (.inl e)
                    have hx : Red.col c0 M2 q ≠ 0 := fun e => hskip (.inr e)
                    have hqb : ((q : Int) != (s.r : Int)) = true := by simp; omega
                    have hxn : (Red.col c0 M2 q != 0) = true := by simpa using hx
                    obtain ⟨gM, oM, qM, ri, rk, eM, _, cMi, cMk, hSM, hoM, hbM, hrM, hdM, hapM, hKM⟩ := hMq.openTwo (i := q) (k := s.r) (by rw [hEq.1]; exact hqn) (by rw [hEq.1]; exact hfull) hqr (by rw [(hEq.2 q hqn).1, (hEq.2 s.r hfull).1])
                    rw [hEq.1] at eM
                    simp only [Value.slice.injEq, Option.some.injEq, Addr.mk.injEq, and_true] at eM
                    obtain ⟨⟨rfl, rfl⟩, -, rfl⟩ := eM
                    rw [(hEq.2 q hqn).1] at hoM hrM hapM hKM
                    have hcall := Lib.hid (mxLess_any p _ h2 h97 hxb.1 hxb.2 ri rk c (lAt (clearP p (Red.col c0 M2) s.r M2 q) q) (lAt (clearP p (Red.col c0 M2) s.r M2 q) s.r) wr.drew hoM hrM hdM (hEq.2 q hqn).2 (hEq.2 s.r hfull).2)
                    have er : (rowT c fun j => ((lAt (clearP p (Red.col c0 M2) s.r M2 q) q)[j]?.getD 0 + -(Red.col c0 M2 q) * (lAt (clearP p (Red.col c0 M2) s.r M2 q) s.r)[j]?.getD 0) % p) = lessRow p (Red.col c0 M2 q) (lAt (clearP p (Red.col c0 M2) s.r M2 q) q) (lAt (clearP p (Red.col c0 M2) s.r M2 q) s.r) := by rw [lessRow, (hEq.2 q hqn).1]
                    rw [er] at hcall
                    have HKM := Lib.hid hKM
                    have HBM := Lib.hid (fun g' (hp : 0 < c) (hg' : ri.ownBlock = some g') => hbM g' (ofL_ne.2 (List.length_pos_iff.1 (by rw [(hEq.2 q hqn).1]; exact hp))) hg')
                    have HAM := Lib.hid hapM
                    have HTQ := Lib.hid hTq
                    have HCQ := Lib.hid hcq
                    have HSC := Lib.hid (show wr.cell? ⟨b8, 1, none⟩ = some (.slice (some ⟨g, off, none⟩) n cA) ∧ wr.cell? ⟨g, off + q, none⟩ = some ri ∧ wr.cell? ⟨g, off + s.r, none⟩ = some rk from ⟨y1, cMi, cMk⟩)
                    have HLM : Hid ((lessRow p (Red.col c0 M2 q) (lAt (clearP p (Red.col c0 M2) s.r M2 q) q) (lAt (clearP p (Red.col c0 M2) s.r M2 q) s.r)).length = c) := by show _ = _; rw [lessRow_length, (hEq.2 q hqn).1]
                    have HNX := Lib.hid (clear_next (p := p) (X := Red.col c0 M2) (by rw [HE2.out.1]; exact hqn) (by rw [HE2.out.1]; exact hfull) hqr hx)
                    have HNXT := Lib.hid (clear_next (p := p) (X := Red.col c0 M2) (M := T2) (by rw [HE2T.out.1]; exact hqn) (by rw [HE2T.out.1]; exact hfull) hqr hx)
                    have HEQT := Lib.hid hEqT
                    have HXB := Lib.hid hxb
                    have HQR := Lib.hid hqr
                    obtain ⟨xv, hxv⟩ : ∃ x, Red.col c0 M2 q = x := ⟨_, rfl⟩
                    have HXV := Lib.hid hxv
                    rw [hxv] at hy4 hcall hxn HXB
                    have hcell5 : wr.cell? ⟨g, off + q, none⟩ = some ri := cMi
                    have hri2 : ri = .slice (some ⟨g4, off4, none⟩) c cap4 := Option.some.inj (cMi.symm.trans hcell4)
                    subst hri2
                    clear hMq hTq hcq hEq hEqT hval hqr hx hskip hxb hKM hbM hapM hoM hrM hdM hSM er hxv hcell5 cMi
                    go_wp2
                    go_region_held3 (fun W => W.cell? ⟨b8, 1, none⟩ = some (.slice (some ⟨g, off, none⟩) n cA) ∧ W.cell? ⟨g, off + q, none⟩ = some (.slice (some ⟨g4, off4, none⟩) c cap4) ∧ W.cell? ⟨g, off + s.r, none⟩ = some rk)
                      (first | exact S7.out | go_keep)
                      ((go_at_call 85; (with_reducible refine hcall.out.mono ?_); rintro e w5 ⟨rfl, ho5, hc5⟩; have S7 := Lib.hid (And.intro (hc5.keep (show wr.drew.cell? _ = _ from HSC.out.1) (fun h => HNB.out.1 (.inl (HBM.out _ h.2 h.1)))) (And.intro (hc5.keep (show wr.drew.cell? _ = _ from HSC.out.2.1) (fun h => HAM.out h.2 h.1)) (hc5.keep (show wr.drew.cell? _ = _ from HSC.out.2.2) (fun h => HAM.out h.2 h.1))))))
                    have hch5 : Chg (fun g' => (Value.slice (some ⟨g4, off4, none⟩) c cap4).ownBlock = some g' ∧ 0 < c) wr w5 := (Chg.refl _ wr).drew.trans hc5
                    have hM5 := HKM.out w5 _ HLM.out hch5 (by rw [HLM.out, HXV.out]; exact ho5)
                    rw [HNX.out] at hM5
                    have hC5 := HCQ.out.trans (hch5.mono fun g' _ hg' => .inl (HBM.out g' hg'.2 hg'.1))
                    have hT5 := HTQ.out.chg hch5 fun g' hg' e => HDIS.out g' (HBM.out g' e.2 e.1) hg'
                    obtain ⟨z0, z1, z2, _, _, _⟩ := HKEEP.out _ hC5
                    obtain ⟨gU, oU, qU, ri, rk', eT, _, cTi, cTk, hST, hoT, hbT, hrT, hdT, hapT, hKT⟩ := hT5.openTwo (i := q) (k := s.r) (by rw [HEQT.out.1]; exact hqn) (by rw [HEQT.out.1]; exact hfull) HQR.out (by rw [(HEQT.out.2 q hqn).1, (HEQT.out.2 s.r hfull).1])
                    rw [HEQT.out.1] at eT
                    simp only [Value.slice.injEq, Option.some.injEq, Addr.mk.injEq, and_true] at eT
                    obtain ⟨⟨rfl, rfl⟩, -, rfl⟩ := eT
                    rw [(HEQT.out.2 q hqn).1] at hoT hrT hapT hKT
                    have hcall2 := Lib.hid (mxLess_any p xv h2 h97 HXB.out.1 HXB.out.2 ri rk' n (lAt (clearP p (Red.col c0 M2) s.r T2 q) q) (lAt (clearP p (Red.col c0 M2) s.r T2 q) s.r) w5.drew hoT hrT hdT (HEQT.out.2 q hqn).2 (HEQT.out.2 s.r hfull).2)
                    have er2 : (rowT n fun j => ((lAt (clearP p (Red.col c0 M2) s.r T2 q) q)[j]?.getD 0 + -xv * (lAt (clearP p (Red.col c0 M2) s.r T2 q) s.r)[j]?.getD 0) % p) = lessRow p (Red.col c0 M2 q) (lAt (clearP p (Red.col c0 M2) s.r T2 q) q) (lAt (clearP p (Red.col c0 M2) s.r T2 q) s.r) := by rw [HXV.out, lessRow, (HEQT.out.2 q hqn).1]
                    rw [er2] at hcall2
                    have HKT := Lib.hid hKT
                    have HBT := Lib.hid (fun g' (hp : 0 < n) (hg' : ri.ownBlock = some g') => hbT g' (ofL_ne.2 (List.length_pos_iff.1 (by rw [(HEQT.out.2 q hqn).1]; exact hp))) hg')
                    have HAT := Lib.hid hapT
                    have HM5 := Lib.hid hM5
                    have HC5 := Lib.hid hC5
                    have HSC2 := Lib.hid (show w5.cell? ⟨b9, 1, none⟩ = some (.slice (some ⟨gT, oT, none⟩) n cT) ∧ w5.cell? ⟨gT, oT + q, none⟩ = some ri ∧ w5.cell? ⟨gT, oT + s.r, none⟩ = some rk' from ⟨z2, cTi, cTk⟩)
                    have HLT : Hid ((lessRow p (Red.col c0 M2 q) (lAt (clearP p (Red.col c0 M2) s.r T2 q) q) (lAt (clearP p (Red.col c0 M2) s.r T2 q) s.r)).length = n) := by show _ = _; rw [lessRow_length, (HEQT.out.2 q hqn).1]
                    clear hM5 hC5 hT5 hch5 ho5 hc5 S7 hKT hbT hapT hoT hrT hdT hST er2 hcall y0 y1 y2 hcell4 hy4 cMk HKM HSC HLM
                    go_wp2
                    go_region_held3 (fun W => W.cell? ⟨b9, 1, none⟩ = some (.slice (some ⟨gT, oT, none⟩) n cT) ∧ W.cell? ⟨gT, oT + q, none⟩ = some ri ∧ W.cell? ⟨gT, oT + s.r, none⟩ = some rk')
                      (first | exact S7.out | go_keep)
                      ((go_at_call 85; (with_reducible refine hcall2.out.mono ?_); rintro e w6 ⟨rfl, ho6, hc6⟩; have S7 := Lib.hid (And.intro (hc6.keep (show w5.drew.cell? _ = _ from HSC2.out.1) (fun h => HNB.out.2 (.inr (HBT.out _ h.2 h.1)))) (And.intro (hc6.keep (show w5.drew.cell? _ = _ from HSC2.out.2.1) (fun h => HAT.out h.2 h.1)) (hc6.keep (show w5.drew.cell? _ = _ from HSC2.out.2.2) (fun h => HAT.out h.2 h.1))))))
                    have hch6 : Chg (fun g' => ri.ownBlock = some g' ∧ 0 < n) w5 w6 := (Chg.refl _ w5).drew.trans hc6
                    have hT6 := HKT.out w6 _ HLT.out hch6 (by rw [HLT.out]; exact ho6)
                    rw [HNXT.out] at hT6
                    have H1 := Lib.hid (HM5.out.chg hch6 fun g' hg' e => HDIS.out g' hg' (HBT.out g' e.2 e.1))
                    have H2 := Lib.hid hT6
                    have H3 := Lib.hid (HC5.out.trans (hch6.mono fun g' _ hg' => .inr (HBT.out g' hg'.2 hg'.1)))
                    clear hT6 hch6 ho6 hc6 S7 hcall2 z0 z1 z2 cTi cTk
                    go_wp2
                    go_roundw
                    case rel => exact ⟨q + 1, by omega, by go_num, H1.out, H2.out, H3.out⟩
                    case measure => simp [intOf]; omega
                · obtain rfl : q = n := by omega
                  rw [← HS1.out] at hMq
                  rw [← HS2.out] at hTq
                  have hnx : Lin.detN p d0 (c0 + 1) = ⟨Red.step p s c0 k, d1 * piv % p⟩ := by rw [HSUCC.out, HCOL.out]
                  have H0 := Lib.hid hnx
                  have H1 := Lib.hid hMq
                  have H2 := Lib.hid hTq
                  have H3 := Lib.hid hcq
                  clear hMq hTq hcq hnx
                  go_wp2
                  go_roundw
                  case rel => exact ⟨c0 + 1, by omega, by go_num, by rw [H0.out]; show _ = Value.int .i64 ((Red.step p s c0 k).r : Int); rw [HS3.out]; go_num, by rw [H0.out], by rw [H0.out]; exact H1.out, by rw [H0.out]; exact H2.out, H3.out⟩
                  case measure => simp [intOf]; omega
        · obtain rfl : k = n := by omega
          have hseek : seek s.M c0 s.r = s.M.length := seek_end (by rw [HML.out]; omega) fun q h1 h3 => hz.out q h1 (by rw [HML.out] at h3; exact h3)
          have hsame : Lin.detN p d0 (c0 + 1) = ⟨s, dt⟩ := by
            rw [HSUCC.out]
            unfold Lin.detCol
            simp only
            rw [if_neg (by omega)]
          have HSAME := Lib.hid hsame
          clear hseek hsame hz
          go_wp2
          go_roundw
          case rel => exact ⟨c0 + 1, by omega, by go_num, by rw [HSAME.out], by rw [HSAME.out], by rw [HSAME.out]; exact HMM.out, by rw [HSAME.out]; exact HTT.out, HCH.out⟩
          case measure => simp [intOf]; omega
    · obtain rfl : c0 = c := by omega
      obtain ⟨hq1, hq2⟩ := HKEEP2.out wr hch
      have g1 := hq1.1
      have g2 := hq1.2.1
      have g3 := hq1.2.2.1
      have g4 := hq1.2.2.2.1
      have e1 := hq2.1
      have e2 := hq2.2.1
      have e3 := hq2.2.2.1
      have e4 := hq2.2.2.2.1
      have hfin : Hid (ReduceOut p w c0 n M (.returned (.tuple #[.agg #[.int .i64 c0, .slice aA n cA], .agg #[.int .i64 n, .slice aT n cT], .int .i64 (Lin.detN p d0 c0).s.r, .int .i64 (Lin.detN p d0 c0).det])) ((((wr.setCell ⟨w.heap.size + 1, 0, none⟩ (.int .i64 c0)).setCell ⟨w.heap.size + 1, 1, none⟩ (.slice aA n cA)).setCell ⟨w.heap.size + 1 + 1, 0, none⟩ (.int .i64 n)).setCell ⟨w.heap.size + 1 + 1, 1, none⟩ (.slice aT n cT)).drew) := by
        have hs := HS.out
        have hc4 : Chg (fun g => g = w.heap.size + 1 ∨ g = w.heap.size + 1 + 1) wr ((((wr.setCell ⟨w.heap.size + 1, 0, none⟩ (.int .i64 c0)).setCell ⟨w.heap.size + 1, 1, none⟩ (.slice aA n cA)).setCell ⟨w.heap.size + 1 + 1, 0, none⟩ (.int .i64 n)).setCell ⟨w.heap.size + 1 + 1, 1, none⟩ (.slice aT n cT)).drew := Chg.drew <|
          ((matAt_chg2 wr (w.heap.size + 1) _ _).mono fun g _ e => .inl e).trans ((matAt_chg2 _ (w.heap.size + 1 + 1) _ _).mono fun g _ e => .inr e)
        have hbw := (HKEEP.out wr hch).2.2.2.2.2
        rw [ReduceOut, HD0.out]
        refine ⟨_, _, m, rfl, (hMM.chg hc4 fun g hg e => ?_).mono fun g hg => ?_, (hTT.chg hc4 fun g hg e => ?_).mono fun g hg => ?_, hbw.trans (hc4.below hbw.size fun g e => by omega)⟩
        · have := HSBB.out.1 g hg; omega
        · have := HSBB.out.1 g hg; omega
        · have := HSBB.out.2.1 g hg; have := HSBB.out.2.2; omega
        · have := HSBB.out.2.1 g hg; have := HSBB.out.2.2; omega
      have hs := HS.out
      have hb89 := HB89.out
      have cA := matAt_chg2 wr (w.heap.size + 1) (.int .i64 c0) (.slice aA n cA)
      have l0 := cA.keep k4 (fun e => by simp only at e; omega)
      have l1 := cA.keep k2 (fun e => by simp only at e; omega)
      have l2 := cA.keep k3 (fun e => by simp only at e; omega)
      have l3 := cA.keep k1 (fun e => by simp only at e; omega)
      clear cA hs hb89 hMM hTT hch hok hml hq1 hq2 hrn
      generalize (Lin.detN p d0 c0).s.r = rr at *
      generalize (Lin.detN p d0 c0).det = dt at *
      go_wp2
      go_region
      all_goals
        go_wp2
        refine bodyPost_ret (v := .tuple #[.agg #[.int .i64 c0, .slice aA n cA], .agg #[.int .i64 n, .slice aT n cT], .int .i64 rr, .int .i64 dt]) (by simp [results, Tryd.results49, go_sem, g1, g2, e1, e2]) rfl ?_
        exact hfin.out


end Ints
end Go.Proofs.YtimjlcnljefbbaaDoor
