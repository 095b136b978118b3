/- isReduced: the program's test whether rows are a reduced list; pads that are compared. -/
import Derived.Test.YtimjlcnljefbbaaDoorPad
import Derived.Test.YtimjlcnljefbbaaDoorReduced
import Derived.Test.YtimjlcnljefbbaaDoorPred
import Derived.Test.YtimjlcnljefbbaaDoorSpanF
import Derived.Deep.RegionHeld3
namespace Go.Proofs.YtimjlcnljefbbaaDoor
open Go.RowKit
namespace Ints

theorem all_eq_beq (x y : List Int) (hx : x.length = 48) (hy : y.length = 48) : ((List.range 48).all fun i => x[i]?.getD 0 == y[i]?.getD 0) = (x == y) := by
  rw [Bool.eq_iff_iff, List.all_eq_true, beq_iff_eq]
  constructor
  · intro h
    apply List.ext_getElem (by omega)
    intro i h1 h2
    have := h i (List.mem_range.2 (by omega))
    rw [List.getElem?_eq_getElem h1, List.getElem?_eq_getElem h2] at this
    simpa using this
  · rintro rfl i _
    simp
set_option maxRecDepth 100000 in
theorem plainInt : Tryd.prog.plainKey 3 = true := by kernel_rfl
set_option maxRecDepth 100000 in
theorem cellsInt : Tryd.prog.cellsOf 3 = 1 := by kernel_rfl
theorem eqItems_run (w : World) (x y : List Int) : ∀ is : List Nat, (∀ i ∈ is, i < x.length ∧ i < y.length) →
    (Op.eqItems 9999 3 1 (ofL x).toArray (ofL y).toArray is).run Tryd.prog w = .ok (is.all fun i => x[i]?.getD 0 == y[i]?.getD 0) w
  | [], _ => by simp [Op.eqItems]
  | i :: is, h => by
    obtain ⟨h1, h2⟩ := h i List.mem_cons_self
    have hx : (ofL x).toArray[i * 1]? = some (.int .i64 (x[i]?.getD 0)) := by simp [ofL, h1]
    have hy : (ofL y).toArray[i * 1]? = some (.int .i64 (y[i]?.getD 0)) := by simp [ofL, h2]
    have p1 := run_part_plain (P := Tryd.prog) w plainInt hx
    have p2 := run_part_plain (P := Tryd.prog) w plainInt hy
    have p3 := run_equalIn_int (P := Tryd.prog) (w := w) 9998 3 .i64 .i64 (x[i]?.getD 0) (y[i]?.getD 0) Tryd.underlying3
    have ih := eqItems_run w x y is fun j hj => h j (List.mem_cons_of_mem _ hj)
    simp only [Op.eqItems, Sem.run_bind, p1, p2, p3, Result.andThen_ok, List.all_cons]
    cases hb : (x[i]?.getD 0 == y[i]?.getD 0) with
    | true => simpa [hb] using ih
    | false => simp
set_option maxRecDepth 100000 in
theorem equal_pads (x y : List Int) (hx : x.length = 48) (hy : y.length = 48) (w : World) :
    (Op.equalIn 10000 122 (.agg (ofL x).toArray) (.agg (ofL y).toArray)).run Tryd.prog w = .ok (x == y) w := by
  obtain ⟨i, hi⟩ : ∃ i, Tryd.prog.info? 3 = some i := ⟨_, rfl⟩
  rw [show (10000 : Nat) = 9999 + 1 from rfl, run_equalIn_array w 9999 _ _ Tryd.underlying122 hi, cellsInt, eqItems_run w x y _ (fun i hi => by have := List.mem_range.1 hi; omega), all_eq_beq x y hx hy]
set_option maxRecDepth 100000 in
theorem guardPads : Tryd.prog.eqGuardType Tryd.prog.depth 122 = false := by kernel_rfl
theorem pad_beq {x y : List Int} (h : x.length = y.length) : (padL x == padL y) = (x == y) := by
  rw [Bool.eq_iff_iff, beq_iff_eq, beq_iff_eq]
  constructor
  · intro e
    exact (List.append_inj e h).1
  · rintro rfl; rfl

def redB (p n : Int) (L : List (List Int)) : Bool := decide ((L.length : Int) ≤ n) && rowsB p n L && (reducedL p n.toNat L == L)

set_option maxHeartbeats 4000000 in
set_option maxRecDepth 100000 in
theorem isReduced_any (p : Int) (hg : Fld.goodB p = true) (n : Nat) (hn : n ≤ 24) (v : Value) (L : List (List Int)) (w : World) (hv : ReadsM w v L) :
    Calls Tryd.prog 91 #[.int .i64 p, v, .int .i64 n] w fun e w' => e = .returned (.bool (redB p n L)) ∧ Below w.heap.size w w' := by
  have harv := Lib.hid (fun W (hW : Below w.heap.size w W) => areVectors_any p n v L W (hv.below hW))
  obtain ⟨av, cv, rfl, hm, hcv⟩ := open_readsM hv
  obtain ⟨m, hmm⟩ : ∃ m, L.length = m := ⟨_, rfl⟩
  have HMM := Lib.hid hmm
  by_cases hlen : m ≤ n
  · have hd1 : decide ((m : Int) > (n : Int)) = false := by simp; omega
    have hd2 : ¬ (n : Int) < (m : Int) := by omega
    have hd3 : ¬ n < m := by omega
    obtain ⟨b1, hb1⟩ : ∃ b, rowsB p n L = b := ⟨_, rfl⟩
    rw [hb1] at harv
    cases b1 with
    | false =>
      have e0 : redB p n L = false := by simp [redB, hb1]
      rw [e0]
      rw [hmm] at harv hm ⊢
      clear hv hcv e0 hb1 hmm
      go_enter Tryd.func91, Tryd.ntmps91
      go_wp2_with (go_at_call 79; ((with_reducible refine (harv.out _ (Below.refl _ _)).mono ?_); rintro e w' ⟨rfl, rfl⟩))
      go_ret
      exact ⟨rfl, Below.refl _ _⟩
    | true =>
      have hM := rows_elems hb1 (by omega)
      rw [show ((n : Nat) : Int).toNat = n by omega, hmm] at hM
      have e0 : redB p n L = (reducedL p n L == L) := by simp [redB, hb1, show (L.length : Int) ≤ n by omega]
      rw [e0]
      obtain ⟨hRE, hRl⟩ := reduced_elems hg hM
      have hred := Lib.hid (fun W (hW : Below w.heap.size w W) => reduced_any p hg m n (by omega) (by omega) (.slice av L.length cv) L W hM (hv.below hW))
      obtain ⟨R, hR⟩ : ∃ R, reducedL p n L = R := ⟨_, rfl⟩
      rw [hR] at hred hRE hRl ⊢
      obtain ⟨rr, hrr⟩ : ∃ r, R.length = r := ⟨_, rfl⟩
      rw [hrr] at hRE hRl
      have HRR := Lib.hid hrr
      have HRE := Lib.hid hRE
      have HM := Lib.hid hM
      have HV := Lib.hid hv
      obtain ⟨res, hres⟩ : ∃ r, (R == L) = r := ⟨_, rfl⟩
      rw [hres]
      have HRES := Lib.hid hres
      have hge := equal_pads
      have hgg := guardPads
      rw [hmm] at harv hm hred hcv ⊢
      clear hv hb1 e0 hM hR hRE hrr hres hcv
      go_enter Tryd.func91, Tryd.ntmps91
      go_wp2_with (go_at_call 79; ((with_reducible refine (harv.out _ (Below.refl _ _)).mono ?_); rintro e w' ⟨rfl, rfl⟩))
      refine (hred.out w (Below.refl _ _)).mono ?_
      rintro e w1 ⟨v1, rfl, ho1, hb1⟩
      obtain ⟨a1, c1, e1, hm1, hc1⟩ := open_readsM ho1.reads
      rw [HRR.out] at e1 hm1 hc1
      subst e1
      have HC1 := Lib.hid hc1
      obtain ⟨av', cv', e2, _, hcv⟩ := open_readsM (HV.out.below hb1)
      rw [HMM.out] at e2 hcv
      simp only [Value.slice.injEq] at e2
      obtain ⟨rfl, -, rfl⟩ := e2
      have HCV := Lib.hid hcv
      have HB1 := Lib.hid hb1
      clear ho1 hb1 hc1 hcv
      go_wp2
      go_loopw [25] (fun i wr => ∃ k : Nat, k ≤ rr ∧ i = .int .i64 k ∧ Hid (R.take k = L.take k) ∧ Below w1.heap.size w1 wr) (fun i _ => rr + 1 - (intOf i).toNat)
      case atStart => exact ⟨0, by omega, rfl, show _ = _ by simp, Below.refl _ _⟩
      case round =>
        obtain ⟨k, hk, rfl, heq, hb⟩ := hrel
        by_cases hlt : k < rr
        · obtain ⟨g, off, r, rfl, hg, hcell, hrd⟩ := HC1.out k hlt
          obtain ⟨g2, off2, r2, rfl, hg2, hcell2, hrd2⟩ := HCV.out k (by omega)
          have hx : wr.cell? ⟨g, off + k, none⟩ = some r := (hb.cell hg).trans hcell
          have hx2 : ∀ W, Below wr.heap.size wr W → W.cell? ⟨g2, off2 + k, none⟩ = some r2 := fun W hW => cell_old hW ((hb.cell hg2).trans hcell2)
          have hl1 := (HRE.out.2 k hlt).1
          have hl2 := (HM.out.2 k (by omega)).1
          rw [hl1] at hrd
          rw [hl2] at hrd2
          have hp1 := Lib.hid (fun W (hW : Below wr.heap.size wr W) => pad_any r n (lAt R k) W hn ((hrd.below hb).below hW))
          have hp2 := Lib.hid (fun W (hW : Below wr.heap.size wr W) => pad_any r2 n (lAt L k) W hn ((hrd2.below hb).below hW))
          have hpe : ∀ W, (Op.equalIn 10000 122 (.agg (ofL (padL (lAt R k))).toArray) (.agg (ofL (padL (lAt L k))).toArray)).run Tryd.prog W = .ok (lAt R k == lAt L k) W := fun W => by
            rw [hge _ _ (padL_length _ (by omega)) (padL_length _ (by omega)), pad_beq (by omega)]
          have hta := Lib.hid (take_oneL R k (by rw [HRR.out]; exact hlt))
          have htb := Lib.hid (take_oneL L k (by rw [HMM.out]; omega))
          have hla := Lib.hid (split_at R k (by rw [HRR.out]; exact hlt))
          have hlb := Lib.hid (split_at L k (by rw [HMM.out]; omega))
          obtain ⟨ar, cr, rfl⟩ := hrd.form
          obtain ⟨ar2, cr2, rfl⟩ := hrd2.form
          have hk0 : 0 ≤ (k : Int) := by omega
          have hki : (k : Int) < (rr : Int) := by omega
          have hkm : (k : Int) < (m : Int) := by omega
          have HB := Lib.hid hb
          clear hcell hcell2 hrd hrd2 hl1 hl2 hb
          obtain ⟨x, hxe⟩ : ∃ x, lAt R k = x := ⟨_, rfl⟩
          obtain ⟨y, hye⟩ : ∃ y, lAt L k = y := ⟨_, rfl⟩
          rw [hxe, hye] at hpe
          rw [hxe] at hp1 hta hla
          rw [hye] at hp2 htb hlb
          obtain ⟨px, hpx⟩ : ∃ z, (ofL (padL x)).toArray = z := ⟨_, rfl⟩
          obtain ⟨py, hpy⟩ : ∃ z, (ofL (padL y)).toArray = z := ⟨_, rfl⟩
          rw [hpx] at hp1 hpe
          rw [hpy] at hp2 hpe
          obtain ⟨bb, hbb⟩ : ∃ b, (x == y) = b := ⟨_, rfl⟩
          rw [hbb] at hpe
          clear hxe hye hpx hpy hge
          cases bb with
          | true =>
            obtain rfl : x = y := by simpa using hbb
            have heq2 : Hid (R.take (k + 1) = L.take (k + 1)) := by show _ = _; rw [hta.out, htb.out, heq.out]
            clear hta htb hla hlb heq hbb
            go_upto_region 6 with fail
            go_region_held3 (fun W => Below wr.heap.size wr W)
              (first | ((repeat (first | exact Below.refl _ _ | assumption | apply below_drewB | refine below_step ?_ hb_2 | refine below_step ?_ hb_1)); done))
              (first
                | (go_at_call 111; (with_reducible refine (hp1.out _ (by repeat (first | exact Below.refl _ _ | assumption | apply below_drewB))).mono ?_); rintro e w_1 ⟨rfl, hb_1⟩)
                | (go_at_call 111; (with_reducible refine (hp2.out _ (by repeat (first | exact Below.refl _ _ | assumption | apply below_drewB | refine below_step ?_ hb_1))).mono ?_); rintro e w_2 ⟨rfl, hb_2⟩))
            have hB1 : Below wr.heap.size wr w_1 := below_step (below_drewB (Below.refl _ _)) hb_1
            have H3 := Lib.hid (HB.out.trans ((below_step hB1 hb_2).mono HB.out.size))
            clear hb_1 hb_2 hB1 hp1 hp2 hx2
            go_wp2
            go_roundw
            case rel => exact ⟨k + 1, by omega, by go_num, heq2, H3.out⟩
            case measure => simp [intOf]; omega
          | false =>
            have hxy : x ≠ y := by simpa using hbb
            have hrf : Hid (res = false) := by
              show _ = _
              rw [← HRES.out, beq_eq_false_iff_ne]
              intro he
              obtain ⟨y1, h1⟩ := hla.out
              obtain ⟨y2, h2⟩ := hlb.out
              rw [h1, h2, heq.out] at he
              have := List.append_cancel_left he
              simp at this
              exact hxy this.1
            clear hta htb hla hlb heq hbb hxy
            go_upto_region 6 with fail
            go_region_held3 (fun W => Below wr.heap.size wr W)
              (first | ((repeat (first | exact Below.refl _ _ | assumption | apply below_drewB | refine below_step ?_ hb_2 | refine below_step ?_ hb_1)); done))
              (first
                | (go_at_call 111; (with_reducible refine (hp1.out _ (by repeat (first | exact Below.refl _ _ | assumption | apply below_drewB))).mono ?_); rintro e w_1 ⟨rfl, hb_1⟩)
                | (go_at_call 111; (with_reducible refine (hp2.out _ (by repeat (first | exact Below.refl _ _ | assumption | apply below_drewB | refine below_step ?_ hb_1))).mono ?_); rintro e w_2 ⟨rfl, hb_2⟩))
            have hB1 : Below wr.heap.size wr w_1 := below_step (below_drewB (Below.refl _ _)) hb_1
            have H3 := Lib.hid (HB1.out.trans ((HB.out.trans ((below_step hB1 hb_2).mono HB.out.size)).mono HB1.out.size))
            clear hb_1 hb_2 hB1 hp1 hp2 hx2
            go_wp2
            go_ret
            exact ⟨ret_bool hrf.out.symm, H3.out⟩
        · have hkr : k = rr := by omega
          rw [hkr] at heq hlt ⊢
          clear hkr hk k hge hgg
          have HB := Lib.hid (HB1.out.trans (hb.mono HB1.out.size))
          have hcal := Lib.hid (hred.out wr HB.out)
          have hres : Hid (res = (((rr : Nat) : Int) == (m : Int))) := by
            show _ = _
            rw [← HRES.out, Bool.eq_iff_iff, beq_iff_eq, beq_iff_eq]
            constructor
            · rintro rfl
              have h1 := HRR.out
              have h2 := HMM.out
              omega
            · intro e
              have h1 := heq.out
              rw [List.take_of_length_le (by have := HRR.out; omega), List.take_of_length_le (by have := HMM.out; omega)] at h1
              exact h1
          clear hred heq hb hlt
          go_wp2_with fail
          refine hcal.out.mono ?_
          rintro e w2 ⟨v2, rfl, ho2, hb2⟩
          obtain ⟨a2, c2, rfl⟩ := ho2.reads.form
          rw [HRR.out]
          have H3 := Lib.hid (HB.out.trans (hb2.mono HB.out.size))
          obtain ⟨bx, hbx⟩ : ∃ b, (((rr : Nat) : Int) == (m : Int)) = b := ⟨_, rfl⟩
          rw [hbx] at hres
          clear ho2 hb2 hcal
          go_wp2
          go_ret
          exact ⟨ret_bool hres.out.symm, H3.out⟩
  · have hd1 : decide ((m : Int) > (n : Int)) = true := by simp; omega
    have hd2 : (n : Int) < (m : Int) := by omega
    have hd3 : n < m := by omega
    have e0 : redB p n L = false := by simp [redB, show ¬ (L.length : Int) ≤ n by omega]
    rw [e0]
    rw [hmm] at hm ⊢
    clear hv hcv harv e0 hmm hlen
    go_enter Tryd.func91, Tryd.ntmps91
    go_wp2
    go_ret
    exact ⟨rfl, Below.refl _ _⟩

end Ints
end Go.Proofs.YtimjlcnljefbbaaDoor
