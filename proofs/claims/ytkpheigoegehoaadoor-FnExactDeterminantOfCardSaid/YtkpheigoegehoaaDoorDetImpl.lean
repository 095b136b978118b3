/- The determinant: the program's. -/
import Derived.Test.YtkpheigoegehoaaDoorReduced
import Derived.Test.YtkpheigoegehoaaDoorRedMore
import Derived.Test.YtkpheigoegehoaaDoorRowFn
import Derived.Deep.DeepCutAuto
import Derived.StillTailTactics
import Derived.IntWalk
namespace Go.Proofs.YtkpheigoegehoaaDoor
open Go.RowKit
namespace Ints
open Fld (mod_any inverse_any)

theorem lowN_none {p : Int} {x : List (List Int) × Int} {c : Nat} (h : Lin.lowN p x c = none) : ∀ n, c ≤ n → Lin.lowN p x n = none := by
  intro n hn
  induction n with
  | zero => obtain rfl : c = 0 := by omega
            exact h
  | succ n ih =>
    by_cases e : c = n + 1
    · subst e; exact h
    · show (Lin.lowN p x n).bind _ = none
      rw [ih (by omega)]
      rfl
def detOf (p : Int) (n : Nat) (M : List (List Int)) : Int := match Lin.lowN p (M, 1) n with | some x => x.2 | none => 0

set_option maxHeartbeats 4000000 in
set_option maxRecDepth 100000 in
theorem determinant_any (p : Int) (hg : Fld.goodB p = true) (n : Nat) (hn : n ≤ 1000) (v : Value) (M : List (List Int)) (w : World) (hM : ElemsT p n n M) (hv : ReadsM w v M) :
    Calls Tryd.prog 81 #[.int .i64 p, v] w fun e w' => e = .returned (.int .i64 (detOf p n M)) ∧ Below w.heap.size w w' := by
  obtain ⟨h2, h97⟩ := Fld.good_bounds hg
  have hl := hM.1
  have htot : tot M ≤ 1048576 := by
    have h1 := sum_le_mul List.length n M (fun l hl' => by
      obtain ⟨i, hi, rfl⟩ := List.getElem_of_mem hl'
      have := (hM.2 i (by omega)).1
      rw [show lAt M i = M[i] by simp [lAt, hi]] at this
      omega)
    have h3 : M.length * n ≤ 1000 * 1000 := Nat.mul_le_mul (by omega) hn
    unfold tot
    omega
  have hcl := Lib.hid (clones_any v M w hv htot)
  have hE : ∀ c x, c ≤ n → Lin.lowN p (M, 1) c = some x → ElemsT p n n x.1 ∧ 0 ≤ x.2 ∧ x.2 < p := fun c x hc hx => by
    rcases Lin.low_det hg hM c hc with ⟨y, hy, hy1, _, hy2, _⟩ | ⟨hy, _⟩
    · obtain rfl : y = x := Option.some.inj (hy.symm.trans hx)
      have hb := detN_bounds h2 ⟨M, idT n, 0⟩ c
      exact ⟨hy1, by rw [hy2]; exact hb⟩
    · rw [hy] at hx; cases hx
  have hnone : ∀ c, c ≤ n → Lin.lowN p (M, 1) c = none → detOf p n M = 0 := fun c hc h => by
    unfold detOf
    rw [lowN_none h n hc]
  have hsome : ∀ x, Lin.lowN p (M, 1) n = some x → detOf p n M = x.2 := fun x h => by
    unfold detOf
    rw [h]
  obtain ⟨av, cv, rfl⟩ := hv.form
  have HE := Lib.hid hE
  have HN := Lib.hid hnone
  have HSM := Lib.hid hsome
  have HL := Lib.hid hl
  have HG := Lib.hid hg
  have h00 : Hid (Lin.lowN p (M, 1) 0 = some (M, 1)) := rfl
  rw [hl] at hcl ⊢
  obtain ⟨D, hD⟩ : ∃ D, detOf p n M = D := ⟨_, rfl⟩
  rw [hD] at HN HSM ⊢
  have hp0 : (p == 0) = false := by simp; omega
  have hp1 : ¬ p = 0 := by omega
  clear hM hv hl htot hE hnone hsome hD hg
  go_enter Tryd.func81, Tryd.ntmps81
  go_wp2_with fail
  refine hcl.out.mono ?_
  rintro e w1 ⟨v1, rfl, ho1, hb1⟩
  obtain ⟨aM, cM, rfl⟩ := ho1.reads.form
  rw [HL.out] at ho1 ⊢
  have HO1 := Lib.hid ho1
  have HB1 := Lib.hid hb1
  have hnm : n ≤ 9223372036854775807 := by omega
  clear ho1 hb1 hcl
  go_wp2
  go_loopw [6, 15] (fun dv i wr => ∃ (c : Nat) (x : List (List Int) × Int), c ≤ n ∧ i = .int .i64 c ∧ Hid (Lin.lowN p (M, 1) c = some x) ∧ dv = .int .i64 x.2 ∧ OwnsM (w.heap.size ≤ ·) wr (.slice aM n cM) x.1 ∧ Below w.heap.size w wr) (fun _ i _ => n + 1 - (intOf i).toNat)
  case atStart => exact ⟨0, (M, 1), by omega, rfl, h00, rfl, HO1.out, HB1.out⟩
  case round =>
    obtain ⟨c0, x, hc0, rfl, hx, rfl, hMM, hBB⟩ := hrel
    obtain ⟨hXE, hd0, hdp⟩ := HE.out c0 x hc0 hx.out
    by_cases hlt : c0 < n
    · have hsucc : Lin.lowN p (M, 1) (c0 + 1) = Lin.lowCol p c0 x := by show (Lin.lowN p (M, 1) c0).bind _ = _; rw [hx.out]; rfl
      obtain ⟨X, d⟩ := x
      dsimp only at hXE hd0 hdp hMM ⊢
      have hml := hXE.1
      have HSUCC := Lib.hid hsucc
      have HXE := Lib.hid hXE
      have HMM := Lib.hid hMM
      have HBB := Lib.hid hBB
      have HML := Lib.hid hml
      have hci : (c0 : Int) < (n : Int) := by omega
      have hc00 : 0 ≤ (c0 : Int) := by omega
      clear hsucc hXE hMM hBB hml hx
      go_wp2
      go_loop [8] (fun i => ∃ k : Nat, c0 ≤ k ∧ k ≤ n ∧ i = .int .i64 k ∧ Hid (∀ q, c0 ≤ q → q < k → at2 X q c0 = 0)) (fun i => n + 1 - (intOf i).toNat)
      case atStart => exact ⟨c0, Nat.le_refl _, by omega, rfl, fun q h1 h2 => by omega⟩
      case round =>
        obtain ⟨k, hrk, hkn, rfl, hz⟩ := hrel
        by_cases hk : k < n
        · obtain ⟨g, off, cap, g2, off2, cap2, e, _, hm2', hcell, hy, hz1, hz2, hz3, hz4, hz5⟩ := HMM.out.openAt (i := k) (j := c0) (by rw [HML.out]; exact hk) (by rw [(HXE.out.2 k hk).1]; exact hlt)
          simp only [Value.slice.injEq] at e
          obtain ⟨rfl, -, rfl⟩ := e
          rw [(HXE.out.2 k hk).1] at hm2' hcell
          have hki : (k : Int) < (n : Int) := by omega
          have hk0 : 0 ≤ (k : Int) := by omega
          clear hz1 hz2 hz3 hz4 hz5
          by_cases hv : at2 X k c0 = 0
          · have hz2 : Hid (∀ q, c0 ≤ q → q < k + 1 → at2 X q c0 = 0) := fun q h1 h3 => by
              by_cases e : q = k
              · subst e; exact hv
              · exact hz.out q h1 (by omega)
            rw [hv] at hy
            clear hv
            go_wp2
            go_round
            case rel => exact ⟨k + 1, by omega, by omega, by go_num, hz2⟩
            case measure => simp [intOf]; omega
          · have hvb : (at2 X k c0 == 0) = false := by simpa using hv
            have hseek : seek X c0 c0 = k := seek_at hrk (by rw [HML.out]; exact hk) (fun q h1 h3 => hz.out q h1 h3) hv
            obtain ⟨d1, hd1⟩ : ∃ d1, (if c0 < k then Lin.negI p d else d) = d1 := ⟨_, rfl⟩
            obtain ⟨M1, hM1e⟩ : ∃ M1, swapL X c0 k = M1 := ⟨_, rfl⟩
            have hcol : Lin.lowCol p c0 (X, d) = some (Lin.lowP p (invI p (at2 M1 c0 c0)) c0 M1 M1.length, (d1 * at2 M1 c0 c0) % p) := by
              unfold Lin.lowCol
              simp only
              rw [hseek, if_pos (by rw [HML.out]; exact hk), hM1e, hd1]
            have hE1 := elems_swap HXE.out (i := c0) (j := k) hlt hk
            rw [hM1e] at hE1
            have hpe : at2 M1 c0 c0 = at2 X k c0 := by
              rw [← hM1e, Lin.at2_swap (by rw [HML.out]; exact hlt) (by rw [HML.out]; exact hk)]
              by_cases e : c0 = k
              · rw [if_pos e, e]
              · rw [if_neg e, if_pos rfl]
            have hpn : at2 M1 c0 c0 ≠ 0 := by rw [hpe]; exact hv
            have hpb := (hE1.2 c0 hlt).2 c0 hlt
            have hd1b : 0 ≤ d1 ∧ d1 < p := by
              rw [← hd1]
              split
              · exact ⟨Int.emod_nonneg _ (by omega), Int.emod_lt_of_pos _ (by omega)⟩
              · exact ⟨hd0, hdp⟩
            have HCOL := Lib.hid (HSUCC.out.trans hcol)
            have HE1 := Lib.hid hE1
            have HD1 := Lib.hid hd1
            have HM1E := Lib.hid hM1e
            have hknb : ((k : Int) == (n : Int)) = false := by simp; omega
            clear hseek hcol hv hz hd1 hM1e hE1 hpe
            go_upto_if 41 with fail
            clear hcell hy hm2' hvb
            go_cut [6] (fun dv wq => dv = .int .i64 d1 ∧ OwnsM (w.heap.size ≤ ·) wq (.slice (some ⟨g, off, none⟩) n cM) M1 ∧ Below w.heap.size w wq)
            case first =>
              by_cases hkc : k = c0
              · have hkb : ((k : Int) != (c0 : Int)) = false := by simp; omega
                have hdd : d1 = d := by rw [← HD1.out, if_neg (by omega)]
                have hmm : M1 = X := by rw [← HM1E.out, hkc]; exact swapL_same (by rw [HML.out]; exact hlt)
                clear hkc
                go_wp2
                go_meet
                exact ⟨by rw [hdd], by rw [hmm]; exact HMM.out, HBB.out⟩
              · have hkb : ((k : Int) != (c0 : Int)) = true := by simp; omega
                have hdd : d1 = (-d) % p := by rw [← HD1.out, if_pos (by omega)]; rfl
                obtain ⟨gA, oA, qA, ak, ar, eA, _, hSA, cAk, cAr, fAk, fAr, ⟨xa, xn, xc, rfl⟩, ⟨ya, yn, yc, rfl⟩, hOA⟩ := HMM.out.openSwap (i := k) (j := c0) (by rw [HML.out]; exact hk) (by rw [HML.out]; exact hlt)
                rw [HML.out] at eA
                simp only [Value.slice.injEq, Option.some.injEq, Addr.mk.injEq, and_true] at eA
                obtain ⟨⟨rfl, rfl⟩, -, rfl⟩ := eA
                have hz2 : (wr.setCell ⟨g, off + k, none⟩ (.slice ya yn yc)).cell? ⟨g, off + c0, none⟩ = some (.slice ya yn yc) := by
                  have : ¬ c0 = k := by omega
                  simp [go_sem, cAr]
                have hz3 : (wr.setCell ⟨g, off + k, none⟩ (.slice ya yn yc)).frozen? ⟨g, off + c0, none⟩ = false := by simp [go_sem, fAr]
                have hfin : Hid (OwnsM (w.heap.size ≤ ·) ((wr.setCell ⟨g, off + k, none⟩ (.slice ya yn yc)).setCell ⟨g, off + c0, none⟩ (.slice xa xn xc)) (.slice (some ⟨g, off, none⟩) n cM) M1 ∧ Below w.heap.size w ((wr.setCell ⟨g, off + k, none⟩ (.slice ya yn yc)).setCell ⟨g, off + c0, none⟩ (.slice xa xn xc))) :=
                  ⟨by rw [← HM1E.out, swapL_comm (by rw [HML.out]; exact hlt) (by rw [HML.out]; exact hk)]; exact hOA, (HBB.out.setCell (p := ⟨g, off + k, none⟩) hSA _).setCell (p := ⟨g, off + c0, none⟩) hSA _⟩
                have hmodc := Lib.hid (fun W => mod_any p (-d) h2 h97 W)
                rw [← hdd] at hmodc
                have hwn : IntKind.i64.wrap (-d) = -d := IntWalk.i64_in _ (by omega)
                clear hOA hSA hdd
                go_wp2
                go_region
                all_goals
                  go_wp2_with (go_at_call 128; ((with_reducible refine (hmodc.out _).mono ?_); rintro e w' ⟨rfl, rfl⟩))
                  go_meet
                  exact ⟨rfl, hfin.out.1, hfin.out.2.drew⟩
            case rest =>
              obtain ⟨rfl, hM1, hB1⟩ := hcut
              obtain ⟨w2, hw2⟩ : ∃ W, W = wc := ⟨_, rfl⟩
              rw [← hw2] at hM1 hB1 ⊢
              clear hw2 wc
              obtain ⟨g', off', cap', g3, off3, cap3, e, _, hm3, hcell3, hy3, hq1, hq2, hq3, hq4, hq5⟩ := hM1.openAt (i := c0) (j := c0) (by rw [HE1.out.1]; exact hlt) (by rw [(HE1.out.2 c0 hlt).1]; exact hlt)
              simp only [Value.slice.injEq, Option.some.injEq, Addr.mk.injEq, and_true] at e
              obtain ⟨⟨rfl, rfl⟩, -, rfl⟩ := e
              rw [(HE1.out.2 c0 hlt).1] at hm3 hcell3
              obtain ⟨piv, hpiv⟩ : ∃ x, at2 M1 c0 c0 = x := ⟨_, rfl⟩
              rw [hpiv] at hy3 hpb hpn HCOL
              obtain ⟨iv, hiv⟩ : ∃ x, invI p piv = x := ⟨_, rfl⟩
              rw [hiv] at HCOL
              have hiv0 : 0 ≤ iv := by rw [← hiv]; unfold invI; omega
              have hiv1 : iv < p := by
                rw [← hiv]; unfold invI
                have := Fld.inv_lt (p := p.toNat) (a := piv.toNat) (by omega)
                omega
              have hinv : Hid (∀ W, Calls Tryd.prog 129 #[.int .i64 p, .int .i64 piv] W fun e w' => e = .returned (.int .i64 iv) ∧ W = w') := fun W => by
                have e1 : ((p.toNat : Nat) : Int) = p := by omega
                have e2 : ((piv.toNat : Nat) : Int) = piv := by omega
                have hgn : Fld.goodN p.toNat = true := by rw [← Fld.goodB_nat, e1]; exact HG.out
                have h := inverse_any p.toNat piv.toNat hgn (by omega) (by omega) (by omega) (by omega) W
                rw [e1, e2] at h
                rw [← hiv]
                exact h
              obtain ⟨m0, m1⟩ := Fld.mul_bounds h97 hd1b.1 hd1b.2 hpb.1 hpb.2
              obtain ⟨t, ht⟩ : ∃ t, d1 * piv = t := ⟨_, rfl⟩
              rw [ht] at m0 m1
              have hw1 : IntKind.i64.wrap (d1 * piv) = t := by rw [ht]; exact IntWalk.i64_in _ (by omega)
              obtain ⟨d2, hd2⟩ : ∃ z, t % p = z := ⟨_, rfl⟩
              have hmod : t.tmod p = d2 := by rw [Int.tmod_eq_emod_of_nonneg m0]; exact hd2
              rw [ht, hd2] at HCOL
              have H1 := Lib.hid hM1
              have H2 := Lib.hid hB1
              have hwc : IntKind.i64.wrap ((c0 : Int) + 1) = (c0 : Int) + 1 := IntWalk.i64_in _ (by omega)
              have HPV := Lib.hid hpiv
              clear hM1 hB1 hq1 hq2 hq3 hq4 hq5 ht hd2 hiv hpiv hdp hd0
              go_wp2_with (go_at_call 129; ((with_reducible refine (hinv.out _).mono ?_); rintro e w' ⟨rfl, rfl⟩))
              clear hcell3 hy3
              go_loopw [10] (fun i wr => ∃ q : Nat, c0 + 1 ≤ q ∧ q ≤ n ∧ i = .int .i64 q ∧ OwnsM (w.heap.size ≤ ·) wr (.slice (some ⟨g, off, none⟩) n cM) (Lin.lowP p iv c0 M1 q) ∧ Below w.heap.size w wr) (fun i _ => n + 1 - (intOf i).toNat)
              case atStart => exact ⟨c0 + 1, Nat.le_refl _, by omega, by go_num, by rw [Lin.lowP_zero]; exact H1.out, H2.out⟩
              case round =>
                obtain ⟨q, hcq, hq, rfl, hMq, hBq⟩ := hrel
                by_cases hqn : q < n
                · have hq0 : 0 ≤ (q : Int) := by omega
                  have hqi : (q : Int) < (n : Int) := by omega
                  have hEq := Lin.elems_low (b := iv) (c := c0) (i := q) h2 HE1.out
                  have hLq : lAt (Lin.lowP p iv c0 M1 q) q = lAt M1 q := Lin.lowP_next (by rw [HE1.out.1]; exact hqn)
                  have hLc : lAt (Lin.lowP p iv c0 M1 q) c0 = lAt M1 c0 := Lin.lowP_row (by rw [HE1.out.1]; exact hlt)
                  obtain ⟨gM, oM, qM, ri, rk, eM, _, cMi, cMk, hSM, hoM, hbM, hrM, hdM, hapM, hKM⟩ := hMq.openTwo (i := q) (k := c0) (by rw [hEq.1]; exact hqn) (by rw [hEq.1]; exact hlt) (by omega) (by rw [(hEq.2 q hqn).1, (hEq.2 c0 hlt).1])
                  rw [hEq.1] at eM
                  simp only [Value.slice.injEq, Option.some.injEq, Addr.mk.injEq, and_true] at eM
                  obtain ⟨⟨rfl, rfl⟩, -, rfl⟩ := eM
                  rw [(hEq.2 q hqn).1] at hoM hrM hapM hKM
                  rw [hLq] at hoM hbM
                  rw [hLc] at hrM hdM
                  have hxb := (HE1.out.2 q hqn).2 c0 hlt
                  obtain ⟨_, a4, c4, e4, _, hc4⟩ := open_owns hoM
                  obtain ⟨g4, off4, e5, hg4, hj4⟩ := hc4 (by omega)
                  subst e5
                  subst e4
                  have hy4 := (hj4 c0 hlt).1
                  rw [at2_lAt] at hy4
                  obtain ⟨xv, hxv⟩ : ∃ x, at2 M1 q c0 = x := ⟨_, rfl⟩
                  rw [hxv] at hy4 hxb
                  obtain ⟨n0, n1⟩ := Fld.mul_bounds h97 hxb.1 hxb.2 hiv0 hiv1
                  have hbb : -xv * iv = -(xv * iv) := Int.neg_mul _ _
                  have hcall := Lib.hid (addTimes_any p (-xv * iv) h2 h97 (by rw [hbb]; omega) (by rw [hbb]; omega) (.slice (some ⟨g4, off4, none⟩) n c4) rk n (lAt M1 q) (lAt M1 c0) wr.drew hoM hrM hdM (fun j hj => (HE1.out.2 q hqn).2 j hj) (fun j hj => (HE1.out.2 c0 hlt).2 j hj))
                  have er : (rowT n fun j => ((lAt M1 q)[j]?.getD 0 + -xv * iv * (lAt M1 c0)[j]?.getD 0) % p) = Lin.lowRow p iv c0 M1 q := by
                    rw [Lin.lowRow, lessRow, (HE1.out.2 q hqn).1, hxv, hbb]
                  rw [er] at hcall
                  have hlw : (Lin.lowRow p iv c0 M1 q).length = n := by rw [Lin.lowRow, lessRow_length, (HE1.out.2 q hqn).1]
                  have HLW := Lib.hid hlw
                  have HST := Lib.hid (Lin.lowP_step (p := p) (b := iv) (c := c0) (M := M1) (i := q) (by rw [HE1.out.1]; exact hqn) (by omega))
                  have HKM := Lib.hid hKM
                  have HBM := Lib.hid (hbM g4 (ofL_ne.2 (List.length_pos_iff.1 (by rw [(HE1.out.2 q hqn).1]; omega))) rfl)
                  have HBQ := Lib.hid hBq
                  have hwx : IntKind.i64.wrap (-xv) = -xv := IntWalk.i64_in _ (by omega)
                  have hwb : IntKind.i64.wrap (-xv * iv) = -xv * iv := IntWalk.i64_in _ (by rw [hbb]; omega)
                  obtain ⟨sk, nk, ck, hrk2⟩ : ∃ s m c, rk = .slice s m c := by obtain ⟨s, c, e⟩ := hrM.form; exact ⟨s, _, c, e⟩
                  obtain ⟨bv, hbv⟩ : ∃ b, -xv * iv = b := ⟨_, rfl⟩
                  rw [hbv] at hcall
                  replace hwb := hwb.trans hbv
                  subst hrk2
                  clear hMq hBq hEq hLq hLc hoM hbM hrM hdM hapM hKM hc4 hj4 hg4 hSM er hlw hxv hbb n0 n1 hbv
                  go_wp2
                  go_still_tail 19, (by kernel_rfl)
                  change wpList _ _ _ _ _ wr.drew
                  go_wp2_with fail
                  refine hcall.out.mono ?_
                  rintro e w7 ⟨rfl, ho7, hc7⟩
                  have hch : Chg (fun g' => (Value.slice (some ⟨g4, off4, none⟩) n c4).ownBlock = some g' ∧ 0 < n) wr w7 := (Chg.refl _ wr).drew.trans hc7
                  have hM7 := HKM.out w7 _ HLW.out hch (by rw [HLW.out]; exact ho7)
                  rw [HST.out] at hM7
                  have H3 := Lib.hid hM7
                  have H4 := Lib.hid (HBQ.out.trans (hch.below HBQ.out.size fun g' e => by have h1 := e.1; simp [Value.ownBlock] at h1; have h2 := HBM.out; omega))
                  clear ho7 hc7 hch hM7 hcall
                  go_wp2
                  go_roundw
                  case rel => exact ⟨q + 1, by omega, by omega, by go_num, H3.out, H4.out⟩
                  case measure => simp [intOf]; omega
                · have hqn' : q = n := by omega
                  rw [hqn'] at hMq hqn ⊢
                  have H3 := Lib.hid hMq
                  have H4 := Lib.hid hBq
                  have H5 : Hid (Lin.lowN p (M, 1) (c0 + 1) = some (Lin.lowP p iv c0 M1 n, d2)) := by
                    have := HCOL.out
                    rw [HE1.out.1] at this
                    exact this
                  clear hMq hBq hqn' hq hcq q
                  go_wp2
                  go_roundw
                  case rel => exact ⟨c0 + 1, _, by omega, by go_num, H5, rfl, H3.out, H4.out⟩
                  case measure => simp [intOf]; omega
        · have hkn' : k = n := by omega
          rw [hkn'] at hk hz ⊢
          have hseek : seek X c0 c0 = X.length := seek_end (by rw [HML.out]; omega) fun q h1 h3 => hz.out q h1 (by rw [HML.out] at h3; exact h3)
          have hno : Lin.lowN p (M, 1) (c0 + 1) = none := by
            rw [HSUCC.out]
            unfold Lin.lowCol
            simp only
            rw [hseek, if_neg (by omega)]
          have hD0 := Lib.hid (HN.out (c0 + 1) (by omega) hno)
          clear hseek hno hz
          go_wp2
          go_ret
          exact ⟨by rw [hD0.out]; rfl, HBB.out⟩
    · have hcn : c0 = n := by omega
      rw [hcn] at hx hlt ⊢
      have hD1 := Lib.hid (HSM.out x hx.out)
      have HBB := Lib.hid hBB
      clear hMM hBB hx hcn
      go_wp2
      go_ret
      exact ⟨by rw [hD1.out]; rfl, HBB.out⟩

end Ints
end Go.Proofs.YtkpheigoegehoaaDoor
