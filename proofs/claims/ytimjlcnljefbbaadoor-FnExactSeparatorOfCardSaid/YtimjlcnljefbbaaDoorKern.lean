/- The kernel: the program's. -/
import Derived.Test.YtimjlcnljefbbaaDoorReduced
import Derived.Test.YtimjlcnljefbbaaDoorLinAll
namespace Go.Proofs.YtimjlcnljefbbaaDoor
open Go.RowKit
namespace Ints

/-- Rows behind the first r: 'rows[r:]', laid behind them, or (at the capacity) at the head with no room. -/
theorem ReadsM.drop {w : World} {a : Option Addr} {n cap : Nat} {L : List (List Int)} (h : ReadsM w (.slice a n cap) L) (r : Nat) (hr : r ≤ n) :
    L.length = n ∧ n ≤ cap ∧ cap ≤ 9223372036854775807 ∧ (ReadsM w (.slice (Option.map (fun x => x.add r) a) (n - r) (cap - r)) (L.drop r)) ∧ (r = cap → ReadsM w (.slice a (n - r) 0) (L.drop r)) := by
  obtain ⟨rs, ⟨h0, a', cap', e, h1, h2, h3⟩, h4, h5⟩ := h
  simp only [Value.slice.injEq] at e
  obtain ⟨rfl, hn, rfl⟩ := e
  subst hn
  have hrl : rs.length = L.length := h4
  have hdl : (L.drop r).length = L.length - r := by simp
  have hrows : RowsRead w (rs.drop r) (L.drop r) := by
    refine ⟨by simp [hrl], fun i hi => ?_⟩
    rw [hdl] at hi
    have e1 : vAt (rs.drop r) i = vAt rs (r + i) := by unfold vAt; rw [List.getElem?_drop]
    have e2 : lAt (L.drop r) i = lAt L (r + i) := by unfold lAt; rw [List.getElem?_drop]
    rw [e1, e2]
    exact h5 (r + i) (by omega)
  refine ⟨rfl, h1, by unfold maxLen at h2; exact h2, ⟨rs.drop r, ⟨by simp [hrl], _, _, by rw [hdl], by omega, by omega, fun hp => ?_⟩, hrows⟩, fun hc => ⟨rs.drop r, ⟨by simp [hrl], _, _, by rw [hdl], by omega, by omega, fun hp => ?_⟩, hrows⟩⟩
  · rw [List.length_drop] at hp
    obtain ⟨g, off, rfl, hcell⟩ := h3 (by omega)
    refine ⟨g, off + r, by simp [Addr.add], fun j hj => ?_⟩
    rw [List.length_drop] at hj
    rw [List.getElem?_drop, show off + r + j = off + (r + j) by omega]
    exact hcell (r + j) (by omega)
  · rw [List.length_drop] at hp
    omega

set_option maxHeartbeats 4000000 in
set_option maxRecDepth 100000 in
theorem kernel_any (p : Int) (hg : Fld.goodB p = true) (n c : Nat) (hn : n ≤ 1000) (hc : c ≤ 1000) (v : Value) (M : List (List Int)) (w : World) (hM : ElemsT p n c M) (hv : ReadsM w v M) :
    Calls Tryd.prog 96 #[.int .i64 p, v, .int .i64 c] w (NewRows w (Lin.kernelL p c M)) := by
  have hl := hM.1
  have htot : tot M ≤ 1048576 := by
    have h1 := sum_le_mul List.length c M (fun l hl' => by
      obtain ⟨i, hi, rfl⟩ := List.getElem_of_mem hl'
      have := (hM.2 i (by omega)).1
      rw [show lAt M i = M[i] by simp [lAt, hi]] at this
      omega)
    have h3 : M.length * c ≤ 1000 * 1000 := Nat.mul_le_mul (by omega) hc
    unfold tot
    omega
  have hcl := Lib.hid (clones_any v M w hv htot)
  have hidr := Lib.hid (fun W => identityRows_any n hn W)
  have hred := Lib.hid (fun (S S' : Nat → Prop) (hSS : ∀ g, S g → ¬ S' g) (vA vT : Value) (W : World) (h1 : OwnsM S W vA M) (h2 : OwnsM S' W vT (idT n)) => reduction_any S S' hSS p hg n c n hn hc vA vT M (idT n) W hM (elems_id (Fld.good_bounds hg).1 n) h1 h2)
  obtain ⟨d1, d2, d3⟩ := Lin.drop_elems hg hM
  have er : redN p ⟨M, idT n, 0⟩ c = redI p c M := by unfold redI; rw [hl]
  rw [er] at hred
  have ek : Lin.kernelL p c M = reducedL p n ((redI p c M).T.drop (redI p c M).r) := by unfold Lin.kernelL; rw [hl]
  have htl : (redI p c M).T.length = n := d3.2.1.1
  rw [ek]
  obtain ⟨r, hr⟩ : ∃ r, (redI p c M).r = r := ⟨_, rfl⟩
  obtain ⟨T, hT⟩ : ∃ T, (redI p c M).T = T := ⟨_, rfl⟩
  obtain ⟨M', hM'⟩ : ∃ T, (redI p c M).M = T := ⟨_, rfl⟩
  rw [hr, hT] at d1 hred ⊢
  rw [hM'] at hred
  rw [hT] at htl
  rw [hr] at d2
  have hrd := Lib.hid (fun (W : World) (u : Value) (h : ReadsM W u (T.drop r)) => reduced_any p hg (n - r) n (by omega) hn u (T.drop r) W d1 h)
  obtain ⟨R, hR⟩ : ∃ R, reducedL p n (T.drop r) = R := ⟨_, rfl⟩
  rw [hR] at hrd ⊢
  obtain ⟨av, cv, rfl⟩ := hv.form
  have HL := Lib.hid hl
  have HTL := Lib.hid htl
  rw [hl] at hcl ⊢
  have hidl : (idT n).length = n := by rw [idT, tabT_length]
  have HIL := Lib.hid hidl
  clear hg hM hv htot d1 d3 er ek hr hT hM' hR hl htl hidl
  go_enter Tryd.func96, Tryd.ntmps96
  go_wp2_with fail
  refine hcl.out.mono ?_
  rintro e w1 ⟨v1, rfl, ho1, hb1⟩
  obtain ⟨a1, c1, rfl⟩ := ho1.reads.form
  rw [HL.out] at ho1 ⊢
  go_wp2_with fail
  refine (hidr.out _).mono ?_
  rintro e w2 ⟨v2, rfl, ho2, hb2⟩
  obtain ⟨a2, c2, rfl⟩ := ho2.reads.form
  rw [HIL.out] at ho2 ⊢
  have HB2 := Lib.hid (hb1.trans (hb2.mono hb1.size))
  have hs1 := hb1.size
  have hcall := Lib.hid (hred.out (fun g => w.heap.size ≤ g ∧ g < w1.heap.size) (fun g => w1.heap.size ≤ g) (fun g h h' => by omega) (.slice a1 n c1) (.slice a2 n c2) w2 (ho1.bound.below hb2) ho2)
  have HS1 := Lib.hid hs1
  clear ho1 ho2 hb1 hb2 hs1 hcl hidr hred
  go_wp2_with fail
  refine hcall.out.mono ?_
  rintro e w3 ⟨rfl, hM3, hT3, hc3⟩
  have HB3 := Lib.hid (HB2.out.trans (hc3.below HB2.out.size fun g hg => by have := HS1.out; rcases hg with hg | hg <;> omega))
  obtain ⟨_, q1, q2, q3, q4⟩ := hT3.reads.drop r d2
  have Q3 := Lib.hid (hrd.out w3 _ q3)
  have Q4 := Lib.hid (fun e => hrd.out w3 _ (q4 e))
  have hcm : c2 ≤ 9223372036854775807 := q2
  have hrn : (r : Int) ≤ (n : Int) := by omega
  have hr0 : 0 ≤ (r : Int) := by omega
  clear q3 q4
  clear hM3 hT3 hc3 hcall
  clear hrd
  go_wp2_with fail
  all_goals first | (with_reducible refine Q3.out.mono ?_) | (with_reducible refine (Q4.out ?hq).mono ?_)
  all_goals try (case hq => first | omega | assumption | rfl)
  all_goals
    rintro e w4 ⟨v4, rfl, ho4, hb4⟩
    obtain ⟨a4, c4, rfl⟩ := ho4.reads.form
    have hfin : Hid (NewRows w R (.returned (.slice a4 R.length c4)) w4) := ⟨_, rfl, ho4.mono fun g hg => Nat.le_trans HB3.out.size hg, HB3.out.trans (hb4.mono HB3.out.size)⟩
    clear ho4 hb4
    go_wp2
    go_ret
    exact hfin.out

end Ints
end Go.Proofs.YtimjlcnljefbbaaDoor
