/- The program's row operations: exchange, division, subtraction. -/
import Derived.Test.YtimjlcnljefbbaaDoorRowFn
import Derived.Test.YtimjlcnljefbbaaDoorLinAll
import Derived.Test.YtimjlcnljefbbaaDoorMemB
import Derived.Test.YtimjlcnljefbbaaDoorFx
import Derived.IntWalk
namespace Go.Proofs.YtimjlcnljefbbaaDoor
open Go.RowKit
namespace Ints
open Fld (inverse_any)

set_option maxHeartbeats 2000000 in
theorem applySwap_any (S : Nat → Prop) (p : Int) (i k : Nat) (v : Value) (L : List (List Int)) (w : World) (hi : i < L.length) (hk : k < L.length) (h : OwnsM S w v L) :
    Calls Tryd.prog 68 #[.agg #[.int .i64 0, .int .i64 i, .int .i64 k, .int .i64 0], .int .i64 p, v] w fun e w' => e = .returned (.tuple #[]) ∧ OwnsM S w' v (swapL L i k) ∧ Chg S w w' := by
  obtain ⟨w0, hw0⟩ : ∃ W, W = w.alloc (.cells #[.int .i64 0, .int .i64 i, .int .i64 k, .int .i64 0] 92) := ⟨_, rfl⟩
  have hb : Below w.heap.size w w0 := by rw [hw0]; exact (Below.refl _ _).alloc (Nat.le_refl _) _
  have c1 : w0.cell? ⟨w.heap.size, 1, none⟩ = some (.int .i64 i) := by rw [hw0]; simp [go_sem]
  have c2 : w0.cell? ⟨w.heap.size, 2, none⟩ = some (.int .i64 k) := by rw [hw0]; simp [go_sem]
  obtain ⟨g, off, cap, ri, rj, rfl, hm, hS, hri, hrj, fi, fj, ⟨ai, ni, ci, rfl⟩, ⟨aj, nj, cj, rfl⟩, hO⟩ := (h.bound.below hb).openSwap hi hk
  obtain ⟨r, hr⟩ : ∃ r, L.length = r := ⟨_, rfl⟩
  have hz : (w0.setCell ⟨g, off + i, none⟩ (.slice aj nj cj)).cell? ⟨g, off + k, none⟩ = some (.slice aj nj cj) := by
    by_cases e : i = k
    · subst e; simp [go_sem, hri]
    · simp [go_sem, hrj]
  have hgw : ¬ w.heap.size = g := by have := hS.2; omega
  have y1 : (w0.setCell ⟨g, off + i, none⟩ (.slice aj nj cj)).cell? ⟨w.heap.size, 1, none⟩ = some (.int .i64 i) := (Chg.set1 w0 ⟨g, off + i, none⟩ _).keep c1 hgw
  have y2 : (w0.setCell ⟨g, off + i, none⟩ (.slice aj nj cj)).cell? ⟨w.heap.size, 2, none⟩ = some (.int .i64 k) := (Chg.set1 w0 ⟨g, off + i, none⟩ _).keep c2 hgw
  have H1 := Lib.hid (hO.mono (T := S) fun g hg => hg.1)
  have hch : Chg S w0 ((w0.setCell ⟨g, off + i, none⟩ (.slice aj nj cj)).setCell ⟨g, off + k, none⟩ (.slice ai ni ci)) :=
    ((Chg.refl S w0).setCell (p := ⟨g, off + i, none⟩) (fun _ => hS.1) _).setCell (p := ⟨g, off + k, none⟩) (fun _ => hS.1) _
  have H2 := Lib.hid ((Below.chg hb S).trans_new hch fun _ _ h => h)
  have HW := Lib.hid hw0
  have hil : (i : Int) < (r : Int) := by omega
  have hkl : (k : Int) < (r : Int) := by omega
  have hi0 : 0 ≤ (i : Int) := by omega
  have hk0 : 0 ≤ (k : Int) := by omega
  rw [hr] at hm ⊢
  rw [hr] at H1
  clear h hO hch hS hb hw0 hi hk hr hgw
  go_enter Tryd.func68, Tryd.ntmps68
  go_wp2
  rw [← HW.out]
  go_region
  go_wp2
  go_end0
  exact ⟨rfl, H1.out, H2.out.drew⟩

set_option maxHeartbeats 4000000 in
set_option maxRecDepth 100000 in
theorem applyDivide_any (S : Nat → Prop) (p b : Int) (hg : Fld.goodB p = true) (hb1 : 1 ≤ b) (hb2 : b < p) (i d : Nat) (v : Value) (L : List (List Int)) (w : World) (hi : i < L.length) (hd : (lAt L i).length = d) (hl : ∀ j, j < d → 0 ≤ at2 L i j ∧ at2 L i j < p) (h : OwnsM S w v L) :
    Calls Tryd.prog 68 #[.agg #[.int .i64 1, .int .i64 i, .int .i64 0, .int .i64 b], .int .i64 p, v] w fun e w' => e = .returned (.tuple #[]) ∧ OwnsM S w' v (L.set i (scaleRow p (invI p b) (lAt L i))) ∧ Chg S w w' := by
  obtain ⟨h2, h97⟩ := Fld.good_bounds hg
  obtain ⟨w0, hw0⟩ : ∃ W, W = w.alloc (.cells #[.int .i64 1, .int .i64 i, .int .i64 0, .int .i64 b] 92) := ⟨_, rfl⟩
  have hb : Below w.heap.size w w0 := by rw [hw0]; exact (Below.refl _ _).alloc (Nat.le_refl _) _
  have hsz : w0.heap.size = w.heap.size + 1 := by rw [hw0]; simp
  have c1 : w0.cell? ⟨w.heap.size, 1, none⟩ = some (.int .i64 i) := by rw [hw0]; simp [go_sem]
  have c3 : w0.cell? ⟨w.heap.size, 3, none⟩ = some (.int .i64 b) := by rw [hw0]; simp [go_sem]
  obtain ⟨g, off, cap, rv, rfl, hm, hrow, hS, ho, hbk, hap, hK⟩ := (h.bound.below hb).openRow2 hi
  rw [hd] at ho hap hK
  obtain ⟨av, cv, rfl⟩ := ho.form
  obtain ⟨r, hr⟩ : ∃ r, L.length = r := ⟨_, rfl⟩
  obtain ⟨t, ht⟩ : ∃ t, invI p b = t := ⟨_, rfl⟩
  have ht0 : 0 ≤ t := by rw [← ht]; unfold invI; omega
  have ht1 : t < p := by
    rw [← ht]; unfold invI
    have := Fld.inv_lt (p := p.toNat) (a := b.toNat) (by omega)
    omega
  have hinv : Hid (Calls Tryd.prog 99 #[.int .i64 p, .int .i64 b] w0 fun e w' => e = .returned (.int .i64 t) ∧ w0 = w') := by
    have e1 : ((p.toNat : Nat) : Int) = p := by omega
    have e2 : ((b.toNat : Nat) : Int) = b := by omega
    have hgn : Fld.goodN p.toNat = true := by rw [← Fld.goodB_nat, e1]; exact hg
    have h := inverse_any p.toNat b.toNat hgn (by omega) (by omega) (by omega) (by omega) w0
    rw [e1, e2] at h
    rw [← ht]
    exact h
  obtain ⟨f, hf⟩ : ∃ f : Nat → Int, (fun j : Nat => ((lAt L i)[j]?.getD 0 * t) % p) = f := ⟨_, rfl⟩
  have hsc : scaleRow p (invI p b) (lAt L i) = rowT d f := by rw [ht, scaleRow, hd, hf]
  rw [hsc]
  have HF := Lib.hid hf
  have ho0 : Hid (Owns w0 3 1 (.slice av d cv) d (ofL (part d 0 f fun j => (lAt L i)[j]?.getD 0))) := by rw [part_start (f := f) hd] at ho; exact ho
  have HK := Lib.hid hK
  have HAP := Lib.hid hap
  have HBK := Lib.hid hbk
  have HB := Lib.hid hb
  have HW := Lib.hid hw0
  have HSZ := Lib.hid hsz
  have HL := Lib.hid hl
  have HD := Lib.hid hd
  have hil : (i : Int) < (r : Int) := by omega
  have hi0 : 0 ≤ (i : Int) := by omega
  have hdm : d ≤ 9223372036854775807 := by obtain ⟨_, a, c, e, q1, q2, _⟩ := ho; simp only [Value.slice.injEq] at e; unfold maxLen at q2; omega
  have HC := Lib.hid (And.intro c1 hrow)
  have HSG := Lib.hid hS
  rw [hr] at hm ⊢
  rw [hr] at HK
  clear h ho hK hap hbk hb hw0 hsz hl hf hsc ht hS hi hr hd
  go_enter Tryd.func68, Tryd.ntmps68
  go_wp2_with fail
  rw [← HW.out]
  refine hinv.out.mono ?_
  rintro e w' ⟨rfl, rfl⟩
  go_wp2
  clear c1 c3 hrow
  go_loopw [43] (fun q wr => ∃ j : Nat, j ≤ d ∧ q = .int .i64 j ∧ Owns wr 3 1 (.slice av d cv) d (ofL (part d j f fun j => (lAt L i)[j]?.getD 0)) ∧ Chg (fun g => (Value.slice av d cv).ownBlock = some g ∧ 0 < d) w0 wr) (fun q _ => d + 1 - (intOf q).toNat)
  case atStart => exact ⟨0, by omega, rfl, ho0.out, Chg.refl _ _⟩
  case round =>
    obtain ⟨j, hj, rfl, ho, hch⟩ := hrel
    by_cases hlt : j < d
    · obtain ⟨_, a2, c2, e, _, hc⟩ := open_owns ho
      simp only [Value.slice.injEq] at e
      obtain ⟨rfl, -, rfl⟩ := e
      obtain ⟨g2, off2, rfl, hg2, hjj⟩ := hc (by omega)
      have hne : ¬ (g2 = w.heap.size) := fun e => by
        have := HBK.out g2 (ofL_ne.2 (List.length_pos_iff.1 (by rw [HD.out]; omega))) rfl
        omega
      have hx := (hjj j hlt).1
      have hfr := (hjj j hlt).2.1
      have hst := (hjj j hlt).2.2 (f j)
      rw [part_set] at hst
      rw [part_at hlt] at hx
      have k1 : wr.cell? ⟨w.heap.size, 1, none⟩ = some (.int .i64 i) := hch.keep HC.out.1 (fun e => by simp [Value.ownBlock] at e; omega)
      have k2 : wr.cell? ⟨g, off + i, none⟩ = some (.slice (some ⟨g2, off2, none⟩) d cv) := hch.keep HC.out.2 (fun e => HAP.out e.2 e.1)
      have H1 := Lib.hid hst
      have H2 := Lib.hid (hch.setCell (p := ⟨g2, off2 + j, none⟩) (fun _ => ⟨rfl, by omega⟩) (.int .i64 (f j)))
      have hfj : Hid (f j = ((lAt L i)[j]?.getD 0 * t) % p) := by show _ = _; rw [← HF.out]
      have hlj := HL.out j hlt
      rw [← at2_lAt] at hlj
      clear ho hch hc hjj hst HF hne
      generalize (lAt L i)[j]?.getD 0 = x at *
      obtain ⟨z, hz⟩ : ∃ z, f j = z := ⟨_, rfl⟩
      rw [hz] at H1 H2 hfj
      clear hz
      have hmb := Fld.mul_bounds h97 hlj.1 hlj.2 ht0 ht1
      have hj0 : 0 ≤ (j : Int) := by omega
      have hjn : (j : Int) < (d : Int) := by omega
      go_wp2
      go_region
      go_wp2
      go_roundw
      case rel => exact ⟨j + 1, by omega, by go_num, by rw [← hfj.out]; exact H1.out, by rw [← hfj.out]; exact H2.out.drew⟩
      case measure => simp [intOf]; omega
    · obtain rfl : j = d := by omega
      rw [part_end] at ho
      have hfin : Hid (OwnsM S wr (.slice (some ⟨g, off, none⟩) r cap) (L.set i (rowT j f)) ∧ Chg S w wr) := by
        refine ⟨(HK.out wr (rowT j f) (rowT_length _ _) hch (by rw [rowT_length]; exact ho)).mono fun g hg => hg.1, (Below.chg HB.out S).trans_new (T := S) (hch.mono fun g' _ hg' => ?_) fun _ _ h => h⟩
        exact (HBK.out g' (ofL_ne.2 (List.length_pos_iff.1 (by rw [HD.out]; omega))) hg'.1).1
      clear ho hch
      go_wp2
      go_end0
      exact ⟨rfl, hfin.out⟩

set_option maxHeartbeats 4000000 in
set_option maxRecDepth 100000 in
theorem applySubtract_any (S : Nat → Prop) (p b : Int) (h2 : 2 ≤ p) (h97 : p ≤ 97) (hb1 : 0 ≤ b) (hb2 : b < p) (i k d : Nat) (v : Value) (L : List (List Int)) (w : World) (hi : i < L.length) (hk : k < L.length) (hne : i ≠ k) (hd : (lAt L i).length = d) (hd2 : (lAt L k).length = d)
    (hl : ∀ j, j < d → 0 ≤ at2 L i j ∧ at2 L i j < p) (hm : ∀ j, j < d → 0 ≤ at2 L k j ∧ at2 L k j < p) (h : OwnsM S w v L) :
    Calls Tryd.prog 68 #[.agg #[.int .i64 2, .int .i64 i, .int .i64 k, .int .i64 b], .int .i64 p, v] w fun e w' => e = .returned (.tuple #[]) ∧ OwnsM S w' v (L.set i (lessRow p b (lAt L i) (lAt L k))) ∧ Chg S w w' := by
  obtain ⟨w0, hw0⟩ : ∃ W, W = w.alloc (.cells #[.int .i64 2, .int .i64 i, .int .i64 k, .int .i64 b] 92) := ⟨_, rfl⟩
  have hb : Below w.heap.size w w0 := by rw [hw0]; exact (Below.refl _ _).alloc (Nat.le_refl _) _
  have c1 : w0.cell? ⟨w.heap.size, 1, none⟩ = some (.int .i64 i) := by rw [hw0]; simp [go_sem]
  have c2 : w0.cell? ⟨w.heap.size, 2, none⟩ = some (.int .i64 k) := by rw [hw0]; simp [go_sem]
  have c3 : w0.cell? ⟨w.heap.size, 3, none⟩ = some (.int .i64 b) := by rw [hw0]; simp [go_sem]
  obtain ⟨g, off, cap, ri, rk, rfl, hmm, hri, hrk, hS, ho, hbk, hrd, hdis, hap, hK⟩ := (h.bound.below hb).openTwo hi hk hne (hd.trans hd2.symm)
  rw [hd] at ho hrd hap hK
  have hcall := Lib.hid (addTimes_any p (-b) h2 h97 (by omega) (by omega) ri rk d (lAt L i) (lAt L k) w0.drew ho hrd hdis hl hm)
  have er : (rowT d fun j => ((lAt L i)[j]?.getD 0 + -b * (lAt L k)[j]?.getD 0) % p) = lessRow p b (lAt L i) (lAt L k) := by rw [lessRow, hd]
  rw [er] at hcall
  obtain ⟨r, hr⟩ : ∃ r, L.length = r := ⟨_, rfl⟩
  have hil : (i : Int) < (r : Int) := by omega
  have hi0 : 0 ≤ (i : Int) := by omega
  have hkl : (k : Int) < (r : Int) := by omega
  have hk0 : 0 ≤ (k : Int) := by omega
  have HK := Lib.hid hK
  have HBK := Lib.hid (fun g (hp : 0 < d) (hg : ri.ownBlock = some g) => hbk g (ofL_ne.2 (List.length_pos_iff.1 (by rw [hd]; exact hp))) hg)
  have HAP := Lib.hid hap
  have HB := Lib.hid hb
  have HW := Lib.hid hw0
  have HLL : Hid ((lessRow p b (lAt L i) (lAt L k)).length = d) := by show _ = _; rw [lessRow_length, hd]
  have HS := Lib.hid (show w0.cell? ⟨w.heap.size, 1, none⟩ = some (.int .i64 i) ∧ w0.cell? ⟨w.heap.size, 2, none⟩ = some (.int .i64 k) ∧ w0.cell? ⟨w.heap.size, 3, none⟩ = some (.int .i64 b) ∧ w0.cell? ⟨g, off + i, none⟩ = some ri ∧ w0.cell? ⟨g, off + k, none⟩ = some rk from ⟨c1, c2, c3, hri, hrk⟩)
  have hw1 : IntKind.i64.wrap (-b) = -b := IntWalk.i64_in _ (by omega)
  rw [hr] at hmm ⊢
  rw [hr] at HK
  clear h hb hw0 hK hbk hap ho hrd hdis hS hl hm hd hd2 er hr hi hk hne
  go_enter Tryd.func68, Tryd.ntmps68
  go_wp2
  rw [← HW.out]
  go_region_held3 (fun W => W.cell? ⟨w.heap.size, 1, none⟩ = some (.int .i64 i) ∧ W.cell? ⟨w.heap.size, 2, none⟩ = some (.int .i64 k) ∧ W.cell? ⟨w.heap.size, 3, none⟩ = some (.int .i64 b) ∧ W.cell? ⟨g, off + i, none⟩ = some ri ∧ W.cell? ⟨g, off + k, none⟩ = some rk)
    (first | exact S7.out | go_keep)
    ((go_at_call 100; (with_reducible refine hcall.out.mono ?_); rintro e w7 ⟨rfl, ho7, hc7⟩; have S7 := Lib.hid (And.intro (hc7.keep (show w0.drew.cell? _ = _ from HS.out.1) (fun h => absurd (HBK.out _ h.2 h.1).2 (Nat.lt_irrefl _))) (And.intro (hc7.keep (show w0.drew.cell? _ = _ from HS.out.2.1) (fun h => absurd (HBK.out _ h.2 h.1).2 (Nat.lt_irrefl _))) (And.intro (hc7.keep (show w0.drew.cell? _ = _ from HS.out.2.2.1) (fun h => absurd (HBK.out _ h.2 h.1).2 (Nat.lt_irrefl _))) (And.intro (hc7.keep (show w0.drew.cell? _ = _ from HS.out.2.2.2.1) (fun h => HAP.out h.2 h.1)) (hc7.keep (show w0.drew.cell? _ = _ from HS.out.2.2.2.2) (fun h => HAP.out h.2 h.1))))))))
  have hch : Chg (fun g => ri.ownBlock = some g ∧ 0 < d) w0 w7 := (Chg.refl _ w0).drew.trans hc7
  have hfin : Hid (OwnsM S w7 (.slice (some ⟨g, off, none⟩) r cap) (L.set i (lessRow p b (lAt L i) (lAt L k))) ∧ Chg S w w7) :=
    ⟨(HK.out w7 _ HLL.out hch (by rw [HLL.out]; exact ho7)).mono fun g hg => hg.1, (Below.chg HB.out S).trans_new (T := S) (hch.mono fun g' _ hg' => (HBK.out g' hg'.2 hg'.1).1) fun _ _ h => h⟩
  clear ho7 hc7 S7 hch hcall
  go_wp2
  go_end0
  exact ⟨rfl, hfin.out⟩

end Ints
end Go.Proofs.YtimjlcnljefbbaaDoor
