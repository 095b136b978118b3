/- The reduced rows: the program's; a space of them. -/
import Derived.Test.YtimjlcnljefbbaaDoorReduction
import Derived.Test.YtimjlcnljefbbaaDoorClones
import Derived.Test.YtimjlcnljefbbaaDoorMatBox
namespace Go.Proofs.YtimjlcnljefbbaaDoor
open Go.RowKit
namespace Ints

/-- A list of lists of which each is nothing. -/
theorem ownsM_nils {w : World} {base n : Nat} {v : Value} (h : w.ownsRow base 41 1 v n (List.replicate n (.slice none 0 0))) (hn : n ≤ maxLen) (L : List (List Int)) (hl : L.length = n) (he : ∀ i, i < n → lAt L i = []) : OwnsM (base ≤ ·) w v L := by
  have h1 := owns_of_row h hn
  subst hl
  refine ⟨_, h1.1, h1.2, ?_⟩
  refine ⟨by simp, fun i hi => ?_, fun i j _ hj hi1 => absurd (he i (by omega)) hi1⟩
  rw [he i hi, show vAt (List.replicate L.length (Value.slice none 0 0)) i = .slice none 0 0 by simp [vAt, hi]]
  exact ⟨⟨rfl, none, 0, rfl, Nat.le_refl _, Nat.zero_le _, fun h => by simp [ofL] at h⟩, fun g h => absurd rfl h⟩
theorem ownBlock_slice (a : Option Addr) (n c n' c' : Nat) : (Value.slice a n c).ownBlock = (Value.slice a n' c').ownBlock := by cases a <;> rfl
/-- The first rows of a matrix of the call's own. -/
theorem OwnsM.take {S : Nat → Prop} {w : World} {a : Option Addr} {cap cap' : Nat} {L : List (List Int)} {r : Nat} (h : OwnsM S w (.slice a L.length cap) L) (hr : r ≤ L.length) (hc : r ≤ cap') (hc2 : cap' ≤ cap) : OwnsM S w (.slice a r cap') (L.take r) := by
  obtain ⟨rs, h1, h2, h3⟩ := h
  have hl : (L.take r).length = r := by rw [List.length_take]; omega
  have hrs : rs.length = L.length := h3.1
  have hv : ∀ i, i < r → vAt (rs.take r) i = vAt rs i := fun i hi => by unfold vAt; rw [List.getElem?_take, if_pos hi]
  have hL : ∀ i, i < r → lAt (L.take r) i = lAt L i := fun i hi => by unfold lAt; rw [List.getElem?_take, if_pos hi]
  refine ⟨rs.take r, ?_, fun g hx hg => h2 g (fun e => hx (by rw [e]; simp)) ((ownBlock_slice a _ _ _ _).trans hg), by rw [List.length_take, List.length_take, hrs], fun i hi => ?_, fun i j hij hj => ?_⟩
  · obtain ⟨q1, a', c', e, q2, q3, q4⟩ := h1
    simp only [Value.slice.injEq] at e
    obtain ⟨rfl, -, rfl⟩ := e
    rw [hl]
    refine ⟨by rw [List.length_take, hrs]; omega, a, cap', rfl, hc, by omega, fun hp => ?_⟩
    rw [List.length_take, hrs] at hp
    obtain ⟨g, off, cs, rfl, hg, hcell⟩ := q4 (by rw [hrs]; omega)
    refine ⟨g, off, cs, rfl, hg, fun j hj => ?_⟩
    rw [List.length_take, hrs] at hj
    rw [hcell j (by rw [hrs]; omega), List.getElem?_take, if_pos (by omega)]
  · rw [hl] at hi
    rw [hv i hi, hL i hi]
    exact h3.2.1 i (by omega)
  · rw [hl] at hj
    rw [hv i (by omega), hv j hj, hL i (by omega), hL j hj]
    exact h3.2.2 i j hij (by omega)

set_option maxHeartbeats 4000000 in
theorem reduced_any (p : Int) (hg : Fld.goodB p = true) (n c : Nat) (hn : n ≤ 1000) (hc : c ≤ 1000) (v : Value) (M : List (List Int)) (w : World) (hM : ElemsT p n c M) (hv : ReadsM w v M) :
    Calls Tryd.prog 92 #[.int .i64 p, v, .int .i64 c] w (NewRows w (reducedL p c M)) := by
  obtain ⟨h2, h97⟩ := Fld.good_bounds hg
  have hl := hM.1
  have htot : tot M ≤ 1048576 := by
    have h1 := sum_le_mul List.length c M (fun l hl' => by
      obtain ⟨i, hi, rfl⟩ := List.getElem_of_mem hl'
      have := (hM.2 i (by omega)).1
      rw [show lAt M i = M[i] by simp [lAt, hi]] at this
      omega)
    have h3 : M.length * c ≤ 1000 * 1000 := Nat.mul_le_mul (by omega) hc
    unfold tot
    omega
  have hcl := Lib.hid (clones_any v M w hv htot)
  have hok := Lin.red_end hg hM (Lin.elems_nil (p := p) hM.1)
  obtain ⟨ld, hu, hok, _, _⟩ := hok
  have e1 : reducedL p c M = (redM p c M).M.take (redM p c M).r := rfl
  rw [e1]
  have hrr : (redM p c M).r ≤ n := hok.2.2
  have hml : (redM p c M).M.length = n := hok.1.1
  obtain ⟨av, cv, rfl⟩ := hv.form
  have HM := Lib.hid hM
  have HG := Lib.hid hg
  have HL := Lib.hid hl
  have hm1 := Lib.hid (show 24 * n ≤ 281474976710656 by omega)
  have hm2 := Lib.hid (show n ≤ maxLen by unfold maxLen; omega)
  have hnm : n ≤ 9223372036854775807 := by omega
  rw [hl] at hcl ⊢
  clear hv htot hok hu e1 hM hg hl
  go_enter Tryd.func92, Tryd.ntmps92
  go_wp2_with fail
  refine hcl.out.mono ?_
  rintro e w1 ⟨v1, rfl, ho1, hb1⟩
  obtain ⟨a1, c1, rfl⟩ := ho1.reads.form
  rw [HL.out] at ho1 ⊢
  have HO1 := Lib.hid ho1
  have HB1 := Lib.hid hb1
  clear ho1 hb1 hcl
  go_wp2_with (at_make; refine wpList_make_one _ rfl _ _ 22 rfl 41 (.slice none 0 0) 24 Tryd.underlying22 infoS rfl n rfl rfl hm1.out hm2.out ?_; intro w2 hown2 hb2 hs2)
  have hO2 : OwnsM (w1.heap.size ≤ ·) w2 (.slice (some ⟨w1.heap.size, 0, none⟩) n n) (M.map fun _ => []) := ownsM_nils hown2 hm2.out _ (by rw [List.length_map, HL.out]) fun i hi => by
    unfold lAt
    rw [List.getElem?_map]
    rw [List.getElem?_eq_getElem (by rw [HL.out]; exact hi)]
    rfl
  have hO1 := HO1.out.bound.below hb2
  have hcall := Lib.hid (reduction_any (fun g => w.heap.size ≤ g ∧ g < w1.heap.size) (fun g => w1.heap.size ≤ g) (fun g h h' => by omega) p HG.out n c 0 hn hc (.slice a1 n c1) (.slice (some ⟨w1.heap.size, 0, none⟩) n n) M (M.map fun _ => []) w2 HM.out (Lin.elems_nil (p := p) HM.out.1) hO1 hO2)
  have HB2 := Lib.hid (HB1.out.trans (hb2.mono HB1.out.size))
  have HC1 : Hid (n ≤ c1 ∧ c1 ≤ 9223372036854775807) := by
    obtain ⟨rs, ⟨_, a, k, e, q1, q2, _⟩, _⟩ := HO1.out
    simp only [Value.slice.injEq] at e
    unfold maxLen at q2
    exact ⟨by omega, by omega⟩
  have HS1 := Lib.hid HB1.out.size
  clear hown2 hb2 hs2 hO1 hO2
  go_wp2_with fail
  refine hcall.out.mono ?_
  rintro e w3 ⟨rfl, hM3, hT3, hc3⟩
  rw [show redN p ⟨M, M.map fun _ => [], 0⟩ c = redM p c M from rfl] at *
  obtain ⟨r, hr⟩ : ∃ r, (redM p c M).r = r := ⟨_, rfl⟩
  obtain ⟨R, hR⟩ : ∃ R, (redM p c M).M = R := ⟨_, rfl⟩
  rw [hr] at hrr
  rw [hR] at hM3 hml
  have HR1 := Lib.hid hr
  have HR2 := Lib.hid hR
  rw [hr]
  have hfin : ∀ k, r ≤ k → k ≤ c1 → NewRows w (R.take r) (.returned (.slice a1 r k)) w3 := fun k h1 h2 =>
    ⟨_, rfl, ((hml ▸ hM3 : OwnsM _ w3 (.slice a1 R.length c1) R).take (by omega) h1 h2).mono fun g hg => hg.1, HB2.out.trans (hc3.below (by have := HB2.out.size; exact this) fun g hg => by have := HS1.out; rcases hg with hg | hg <;> omega)⟩
  have HF := Lib.hid hfin
  have hc10 := HC1.out
  clear hM3 hT3 hc3 hfin hcall hml hR hr
  go_wp2
  go_ret
  rw [HR1.out, HR2.out]
  exact HF.out r (Nat.le_refl _) (by omega)

end Ints
end Go.Proofs.YtimjlcnljefbbaaDoor
