/- The reduced rows: the reference's. -/
import Derived.Test.YtimjlcnljefbbaaDoorReduced
import Derived.Test.YtimjlcnljefbbaaDoorRedMore
import Derived.Test.YtimjlcnljefbbaaDoorRowFn
import Derived.Deep.RegionHeld3
import Derived.StillTailTactics
import Derived.Deep.DeepCutAuto
namespace Go.Proofs.YtimjlcnljefbbaaDoor
open Go.RowKit
namespace Ints
open Fld (fdMul_any fdSub_any fdInv_any)

set_option maxHeartbeats 4000000 in
set_option maxRecDepth 100000 in
theorem spReduce_any (p : Int) (hg : Fld.goodB p = true) (n c : Nat) (hn : n ≤ 1000) (hc : c ≤ 1000) (v : Value) (M : List (List Int)) (w : World) (hM : ElemsT p n c M) (hv : ReadsM w v M) :
    Calls Tryd.prog 90 #[.int .i64 p, .int .i64 c, v] w (NewRows w (reducedL p c M)) := by
  obtain ⟨h2, h97⟩ := Fld.good_bounds hg
  obtain ⟨a, cap, rfl, hm, hcM⟩ := open_readsM hv
  have hl := hM.1
  rw [hl] at hm hcM ⊢
  obtain ⟨s0, hs0⟩ : ∃ s, (⟨M, M.map fun _ => [], 0⟩ : Red) = s := ⟨_, rfl⟩
  have hokN : ∀ j, RedOk p n c 0 (redN p s0 j) := fun j => by
    rw [← hs0]
    exact redN_ok h2 ⟨hM, Lin.elems_nil hl, Nat.zero_le _⟩ j
  have hfull : ∀ c0, c0 ≤ c → (redN p s0 c0).r = n → redN p s0 c = redN p s0 c0 := fun c0 hle hr => by
    have h := redN_full (p := p) (s := s0) (j := c0) (by rw [(hokN c0).1.1]; exact hr) (c - c0)
    rwa [show c0 + (c - c0) = c by omega] at h
  have hres : Hid (reducedL p c M = (redN p s0 c).M.take (redN p s0 c).r) := by rw [← hs0]; rfl
  have h00 : Hid (redN p s0 0 = s0) := rfl
  have H0M : Hid (s0.M = M ∧ s0.r = 0) := by rw [← hs0]; exact ⟨rfl, rfl⟩
  rw [hres.out]
  have HCM := Lib.hid hcM
  have HL := Lib.hid hl
  have HM := Lib.hid hM
  have HOK := Lib.hid hokN
  have HFULL := Lib.hid hfull
  have HG := Lib.hid hg
  have hm2 := Lib.hid (show n ≤ maxLen by unfold maxLen; omega)
  clear hv hM hcM hl hokN hfull hs0 hg
  go_enter Tryd.func90, Tryd.ntmps90
  go_wp2
  go_loopw [7, 21] (fun o i wr => ∃ (k : Nat) (rs : List Value) (ov : Value), k ≤ n ∧ i = .int .i64 k ∧ o = ov ∧ wr.ownsRow w.heap.size 41 1 ov k rs ∧ RowsOwn (w.heap.size ≤ ·) wr rs (M.take k) ∧ Below w.heap.size w wr) (fun _ i _ => n + 1 - (intOf i).toNat)
  case atStart => exact ⟨0, [], _, by omega, rfl, rfl, World.ownsRow_nil _ _ _ _, RowsOwn.nil _ _, Below.refl _ _⟩
  case round =>
    obtain ⟨k, rs, ov, hk, rfl, rfl, hown, hrows, hb⟩ := hrel
    by_cases hlt : k < n
    · obtain ⟨g, off, r, rfl, hg, hcell, hrd⟩ := HCM.out k hlt
      have hx : wr.cell? ⟨g, off + k, none⟩ = some r := (hb.cell hg).trans hcell
      have hlen := (HM.out.2 k hlt).1
      rw [hlen] at hrd
      have hcall := Lib.hid (l1Own_any r _ (lAt M k) wr (hrd.below (hb.mono (Nat.le_refl _))) (by omega))
      have HO := Lib.hid hown
      have HR := Lib.hid hrows
      have HB := Lib.hid hb
      have htk := Lib.hid (take_oneL M k (by rw [HL.out]; exact hlt))
      have hsz := Lib.hid hb.size
      have HLEN := Lib.hid hlen
      clear hown hrows hb hcell hrd hlen
      have hk0 : 0 ≤ (k : Int) := by omega
      have hkn : (k : Int) < (n : Int) := by omega
      obtain ⟨W0, hW0⟩ : ∃ W, W = wr := ⟨_, rfl⟩
      rw [← hW0] at HO HR HB hsz hcall hx ⊢
      clear hW0 wr
      go_wp2_with fail
      refine hcall.out.mono ?_
      rintro e w2 ⟨v2, rfl, ho2, hf2, hb2⟩
      rw [HLEN.out] at ho2
      obtain ⟨a2, c2, rfl⟩ := ho2.form
      have hown2 := Lib.hid (ownsRow_below HO.out hb2)
      have ho2' := Lib.hid ho2
      have hf2' := Lib.hid hf2
      have hb2' := Lib.hid hb2
      have hm3 := Lib.hid (show k + 1 ≤ maxLen by have := hm2.out; omega)
      have hm4 := Lib.hid (show (k + 1) * 24 ≤ 140737488355328 by omega)
      have hsz2 := Lib.hid (show w.heap.size ≤ w2.heap.size from Nat.le_trans hsz.out hb2.size)
      clear ho2 hf2 hb2 hx
      go_wp2_with (at_builtin; go_must (refine wpList_append_one _ rfl _ _ 22 rfl w.heap.size 41 (.slice none 0 0) 24 Tryd.underlying22 infoS rfl _ _ _ (.slice a2 c c2) hown2.out rfl rfl rfl hm3.out hm4.out hsz2.out ?_); intro v' w3 hown3 hg3)
      have hpush := push_row HO.out HR.out HB.out (fun g hg => Nat.le_trans hsz.out hg) hsz.out (HLEN.out ▸ ho2'.out) hf2'.out hb2'.out hg3
      rw [← htk.out] at hpush
      have H1 := Lib.hid hown3
      have H2 := Lib.hid hpush.1
      have H3 := Lib.hid hpush.2
      clear hown3 hg3 hpush
      go_wp2
      go_roundw
      case rel => exact ⟨k + 1, _, _, by omega, by go_num, rfl, H1.out, H2.out, H3.out⟩
      case measure => simp [intOf]; omega
    · have hkn : k = n := by omega
      rw [hkn] at hown hrows hlt ⊢
      clear hkn hk k
      have h1 := owns_of_row hown hm2.out
      have hlr := HL.out
      rw [List.take_of_length_le (by omega)] at hrows
      have hO : OwnsM (w.heap.size ≤ ·) wr u7 M := ⟨rs, by rw [HL.out]; exact h1.1, h1.2, hrows⟩
      obtain ⟨aM, cM, hu7⟩ := hO.reads.form
      rw [HL.out] at hu7
      subst hu7
      have hnm : n ≤ cM ∧ cM ≤ 9223372036854775807 := by
        obtain ⟨rs, ⟨_, a, k, e, q1, q2, _⟩, _⟩ := hO
        simp only [Value.slice.injEq] at e
        unfold maxLen at q2
        rw [HL.out] at e
        obtain ⟨_, _, rfl⟩ := e
        rw [HL.out] at q1
        exact ⟨q1, q2⟩
      obtain ⟨hncap, hcm⟩ := hnm
      obtain ⟨w1, hw1⟩ : ∃ W, W = wr := ⟨_, rfl⟩
      rw [← hw1] at hO hb ⊢
      have HO1 := Lib.hid hO
      have HB1 := Lib.hid hb
      clear hw1 wr hown hrows h1 hO hb hlr HCM rs
      go_wp2
      go_loopw [10, 11] (fun r j wr => ∃ (c0 : Nat), c0 ≤ c ∧ j = .int .i64 c0 ∧ r = .int .i64 (redN p s0 c0).r ∧ OwnsM (w.heap.size ≤ ·) wr (.slice aM n cM) (redN p s0 c0).M ∧ Below w.heap.size w wr) (fun _ j _ => c + 1 - (intOf j).toNat)
      case atStart => exact ⟨0, by omega, rfl, by rw [h00.out, H0M.out.2]; rfl, by rw [h00.out, H0M.out.1]; exact HO1.out, HB1.out⟩
      case round =>
        obtain ⟨c0, hc0, rfl, rfl, hMM, hBB⟩ := hrel
        have hok := HOK.out c0
        have hrn := hok.2.2
        have hml := hok.1.1
        by_cases hgo : c0 < c ∧ (redN p s0 c0).r < n
        · obtain ⟨hlt, hrlt⟩ := hgo
          have hsucc : redN p s0 (c0 + 1) = redCol p (redN p s0 c0) c0 := rfl
          generalize redN p s0 c0 = s at *
          have HSUCC := Lib.hid hsucc
          have HOKS := Lib.hid hok
          have HMM := Lib.hid hMM
          have HBB := Lib.hid hBB
          have HML := Lib.hid hml
          have hci : (c0 : Int) < (c : Int) := by omega
          have hri : (s.r : Int) < (n : Int) := by omega
          have hr0 : 0 ≤ (s.r : Int) := by omega
          have hc00 : 0 ≤ (c0 : Int) := by omega
          clear hsucc hok hMM hBB hml
          go_wp2
          go_loop [12] (fun i => ∃ k : Nat, s.r ≤ k ∧ k ≤ n ∧ i = .int .i64 k ∧ Hid (∀ q, s.r ≤ q → q < k → at2 s.M q c0 = 0)) (fun i => n + 1 - (intOf i).toNat)
          case atStart => exact ⟨s.r, Nat.le_refl _, by omega, rfl, fun q h1 h2 => by omega⟩
          case round =>
            obtain ⟨k, hrk, hkn, rfl, hz⟩ := hrel
            by_cases hk : k < n
            · obtain ⟨g, off, cap, g2, off2, cap2, e, _, hm2', hcell, hy, _, _, _, _, _⟩ := HMM.out.openAt (i := k) (j := c0) (by rw [HML.out]; exact hk) (by rw [(HOKS.out.1.2 k hk).1]; exact hlt)
              simp only [Value.slice.injEq] at e
              obtain ⟨rfl, -, rfl⟩ := e
              rw [(HOKS.out.1.2 k hk).1] at hm2' hcell
              have hki : (k : Int) < (n : Int) := by omega
              have hk0 : 0 ≤ (k : Int) := by omega
              by_cases hv : at2 s.M k c0 = 0
              · have hz2 : Hid (∀ q, s.r ≤ q → q < k + 1 → at2 s.M q c0 = 0) := fun q h1 h3 => by
                  by_cases e : q = k
                  · subst e; exact hv
                  · exact hz.out q h1 (by omega)
                rw [hv] at hy
                clear hv
                go_wp2
                go_round
                case rel => exact ⟨k + 1, by omega, by omega, by go_num, hz2⟩
                case measure => simp [intOf]; omega
              · have hvb : (at2 s.M k c0 == 0) = false := by simpa using hv
                have hseek : seek s.M c0 s.r = k := seek_at hrk (by rw [HML.out]; exact hk) (fun q h1 h3 => hz.out q h1 h3) hv
                have hpiv := Lin.pivot_in HOKS.out hlt (by rw [hseek, HML.out]; exact hk)
                rw [hseek] at hpiv
                obtain ⟨hfr, _, _, hp1, hp2⟩ := hpiv
                have hcol : redCol p s c0 = Red.step p s c0 k := by rw [redCol_yes (by rw [hseek, HML.out]; exact hk), hseek]
                have HCOL := Lib.hid hcol
                have HE1 := Lib.hid (elems_swap HOKS.out.1 (i := s.r) (j := k) (by omega) hk)
                have hs1 := Red.step_M p s c0 k
                have hs3 : (Red.step p s c0 k).r = s.r + 1 := rfl
                rw [HML.out] at hs1
                have HS1 := Lib.hid hs1
                have HS3 := Lib.hid hs3
                have hknb : ((k : Int) == (n : Int)) = false := by simp; omega
                clear hseek hcol hv hs1 hs3 hz
                go_upto_region 15 with fail
                clear hcell hy hm2' hvb
                obtain ⟨gA, oA, qA, ar, ak, eA, _, hSA, cAr, cAk, fAr, fAk, ⟨xa, xn, xc, rfl⟩, ⟨ya, yn, yc, rfl⟩, hOA⟩ := HMM.out.openSwap (i := s.r) (j := k) (by rw [HML.out]; exact hrlt) (by rw [HML.out]; exact hk)
                rw [HML.out] at eA
                simp only [Value.slice.injEq, Option.some.injEq, Addr.mk.injEq, and_true] at eA
                obtain ⟨⟨rfl, rfl⟩, -, rfl⟩ := eA
                have f2 : (wr.setCell ⟨g, off + s.r, none⟩ (.slice ya yn yc)).frozen? ⟨g, off + k, none⟩ = false := by simp [go_sem, fAk]
                have k2 : ∃ u, (wr.setCell ⟨g, off + s.r, none⟩ (.slice ya yn yc)).cell? ⟨g, off + k, none⟩ = some u := by
                  by_cases e : s.r = k
                  · exact ⟨.slice ya yn yc, by rw [← e]; simp [go_sem, cAr]⟩
                  · exact ⟨.slice ya yn yc, by simp [go_sem, cAk]⟩
                obtain ⟨u2, k2⟩ := k2
                go_upto_region 18 with fail
                obtain ⟨w2, hw2⟩ : ∃ W, W = ((wr.setCell ⟨g, off + s.r, none⟩ (.slice ya yn yc)).setCell ⟨g, off + k, none⟩ (.slice xa xn xc)) := ⟨_, rfl⟩
                rw [← hw2]
                have hB2 : Below w.heap.size w w2 := by
                  rw [hw2]
                  exact (HBB.out.setCell (p := ⟨g, off + s.r, none⟩) hSA _).setCell (p := ⟨g, off + k, none⟩) hSA _
                obtain ⟨M1, hM1e⟩ : ∃ M1, swapL s.M s.r k = M1 := ⟨_, rfl⟩
                have hM1 : OwnsM (w.heap.size ≤ ·) w2 (.slice (some ⟨g, off, none⟩) n cM) M1 := by rw [hw2, ← hM1e]; exact hOA
                rw [hM1e] at hp1 hp2 HE1 HS1
                clear hOA hw2 k2 f2 cAr cAk fAr fAk hM1e
                obtain ⟨gM, oM, qM, rM, eM, _, cM1, hSM, hoM, hbM, hapM, hKM⟩ := hM1.openRow2 (i := s.r) (by rw [HE1.out.1]; exact hfr)
                rw [HE1.out.1] at eM
                simp only [Value.slice.injEq, Option.some.injEq, Addr.mk.injEq, and_true] at eM
                obtain ⟨⟨rfl, rfl⟩, -, rfl⟩ := eM
                rw [(HE1.out.2 s.r hfr).1] at hoM hapM hKM
                obtain ⟨_, a3, c3, rfl, hm3, hc3⟩ := open_owns hoM
                obtain ⟨g3, off3, rfl, hg3, hj3⟩ := hc3 (by omega)
                have hy3 := (hj3 c0 hlt).1
                rw [at2_lAt] at hy3
                obtain ⟨piv, hpiv⟩ : ∃ x, at2 M1 s.r c0 = x := ⟨_, rfl⟩
                obtain ⟨iv, hiv⟩ : ∃ x, invI p piv = x := ⟨_, rfl⟩
                rw [hpiv] at hy3 hp1 hp2
                have hiv0 : 0 ≤ iv := by rw [← hiv]; unfold invI; omega
                have hiv1 : iv < p := by
                  rw [← hiv]; unfold invI
                  have := Fld.inv_lt (p := p.toNat) (a := piv.toNat) (by omega)
                  omega
                have hinv : Hid (∀ W, Calls Tryd.prog 63 #[.int .i64 p, .int .i64 piv] W fun e w' => e = .returned (.int .i64 iv) ∧ W = w') := fun W => by
                  have e1 : ((p.toNat : Nat) : Int) = p := by omega
                  have e2 : ((piv.toNat : Nat) : Int) = piv := by omega
                  have h := fdInv_any p.toNat piv.toNat (by omega) (by omega) (by omega) W
                  rw [e1, e2] at h
                  rw [← hiv]
                  exact h
                have hs2 : scaleRow p (invI p (at2 M1 s.r c0)) (lAt M1 s.r) = rowT c fun j => (lAt M1 s.r)[j]?.getD 0 * iv % p := by rw [hpiv, hiv, scaleRow, (HE1.out.2 s.r hfr).1]
                obtain ⟨f, hf⟩ : ∃ f : Nat → Int, (fun j : Nat => (lAt M1 s.r)[j]?.getD 0 * iv % p) = f := ⟨_, rfl⟩
                rw [hf] at hs2
                have HF := Lib.hid hf
                have HS2 := Lib.hid hs2
                have HPV := Lib.hid hpiv
                have HKM := Lib.hid hKM
                have HBM := Lib.hid (hbM g3 (ofL_ne.2 (List.length_pos_iff.1 (by rw [(HE1.out.2 s.r hfr).1]; omega))) rfl)
                have hne3 : g3 ≠ g := fun e => hapM (by omega) (by rw [e]; rfl)
                have ho0 : Hid (Owns w2 3 1 (.slice (some ⟨g3, off3, none⟩) c c3) c (ofL (part c 0 f fun j => (lAt M1 s.r)[j]?.getD 0))) := by rw [part_start (f := f) (HE1.out.2 s.r hfr).1] at hoM; exact hoM
                have HB2 := Lib.hid hB2
                have HC1 := Lib.hid cM1
                have HMR := Lib.hid (HE1.out.2 s.r hfr).2
                clear hKM hbM hapM hoM hj3 hc3 hM1 hSM hf hs2 hiv hB2 hpiv
                go_wp2_with (go_at_call 63; ((with_reducible refine (hinv.out _).mono ?_); rintro e w' ⟨rfl, rfl⟩))
                clear hy3
                go_loopw [92] (fun q wr => ∃ j : Nat, j ≤ c ∧ q = .int .i64 j ∧ Owns wr 3 1 (.slice (some ⟨g3, off3, none⟩) c c3) c (ofL (part c j f fun j => (lAt M1 s.r)[j]?.getD 0)) ∧ Chg (fun q => q = g3) w2 wr) (fun q _ => c + 1 - (intOf q).toNat)
                case atStart => exact ⟨0, by omega, rfl, ho0.out, Chg.refl _ _⟩
                case round =>
                  obtain ⟨j, hj, rfl, ho, hch⟩ := hrel
                  have hrow : wr.cell? ⟨g, off + s.r, none⟩ = some (.slice (some ⟨g3, off3, none⟩) c c3) := hch.keep HC1.out (fun e => hne3 e.symm)
                  by_cases hltj : j < c
                  · obtain ⟨_, a4, c4, e, _, hc4⟩ := open_owns ho
                    simp only [Value.slice.injEq] at e
                    obtain ⟨rfl, -, rfl⟩ := e
                    obtain ⟨g4, off4, e4, hg4, hj4⟩ := hc4 (by omega)
                    simp only [Option.some.injEq, Addr.mk.injEq, and_true] at e4
                    obtain ⟨rfl, rfl⟩ := e4
                    have hy := (hj4 j hltj).1
                    have hfrz := (hj4 j hltj).2.1
                    have hst := (hj4 j hltj).2.2 (f j)
                    rw [part_set] at hst
                    rw [part_at hltj] at hy
                    have H1 := Lib.hid hst
                    have H2 := Lib.hid (hch.setCell (p := ⟨g3, off3 + j, none⟩) (fun _ => rfl) (.int .i64 (f j)))
                    have hfk : Hid (f j = (lAt M1 s.r)[j]?.getD 0 * iv % p) := by show _ = _; rw [← HF.out]
                    have hlk := HMR.out j hltj
                    rw [← at2_lAt] at hlk
                    clear ho hch hc4 hj4 hst
                    generalize (lAt M1 s.r)[j]?.getD 0 = x at *
                    obtain ⟨z, hz⟩ : ∃ z, f j = z := ⟨_, rfl⟩
                    rw [hz] at H1 H2 hfk
                    clear hz
                    have hcall := Lib.hid (fun W => fdMul_any p x iv h2 h97 hlk.1 hlk.2 hiv0 hiv1 W)
                    rw [← hfk.out] at hcall
                    clear hfk hlk
                    have hj0 : 0 ≤ (j : Int) := by omega
                    have hjc : (j : Int) < (c : Int) := by omega
                    go_wp2
                    go_region_law (go_simp; (go_at_call 64; ((with_reducible refine (hcall.out _).mono ?_); rintro e w' ⟨rfl, rfl⟩)))
                    all_goals
                      go_wp2
                      go_roundw
                      case rel => exact ⟨j + 1, by omega, by go_num, H1.out, H2.out.drew⟩
                      case measure => simp [intOf]; omega
                  · have hjc : j = c := by omega
                    rw [hjc] at ho hltj ⊢
                    clear hjc hj j
                    rw [part_end] at ho
                    have hM2 := HKM.out wr (rowT c f) (rowT_length _ _) (hch.mono fun q _ e => by rw [e]; exact ⟨rfl, by omega⟩) (by rw [rowT_length]; exact ho)
                    rw [← HS2.out] at hM2
                    obtain ⟨M2, hM2e⟩ : ∃ M2, Red.scaled p s.r c0 M1 M1 = M2 := ⟨_, rfl⟩
                    have HE2 := Lib.hid (elems_scaled h2 (q := c0) (M := M1) HE1.out hfr)
                    rw [show M1.set s.r (scaleRow p (invI p (at2 M1 s.r c0)) (lAt M1 s.r)) = M2 from hM2e] at hM2
                    have HS1' := HS1.out
                    rw [hM2e] at HE2
                    rw [hM2e] at HS1'
                    have HSM := Lib.hid HS1'
                    have hB3 : Below w.heap.size w wr := HB2.out.trans (hch.below HB2.out.size fun q e => by rw [e]; exact HBM.out)
                    have H1 := Lib.hid hM2
                    have H2 := Lib.hid hB3
                    clear ho hch hM2 hM2e hB3 HS1' hrow ho0 HC1 HMR HKM HF hinv hne3
                    obtain ⟨w3, hw3⟩ : ∃ W, W = wr := ⟨_, rfl⟩
                    rw [← hw3] at H1 H2 ⊢
                    clear hw3 wr
                    go_wp2
                    go_loopw [114] (fun i wr => ∃ q : Nat, q ≤ n ∧ i = .int .i64 q ∧ OwnsM (w.heap.size ≤ ·) wr (.slice (some ⟨g, off, none⟩) n cM) (clearP p (Red.col c0 M2) s.r M2 q) ∧ Below w.heap.size w wr) (fun i _ => n + 1 - (intOf i).toNat)
                    case atStart => exact ⟨0, by omega, rfl, by rw [clearP_zero]; exact H1.out, H2.out⟩
                    case round =>
                      obtain ⟨q, hq, rfl, hMq, hBq⟩ := hrel
                      by_cases hqn : q < n
                      · have hq0 : 0 ≤ (q : Int) := by omega
                        have hqi : (q : Int) < (n : Int) := by omega
                        have hEq := elems_clear (i := q) (k := s.r) (X := Red.col c0 M2) h2 HE2.out
                        obtain ⟨g', off', cap', g4, off4, cap4, e, hz0, hm4, hcell4, hy4, hz1, hz2, hz3, hz4, hz5⟩ := hMq.openAt (i := q) (j := c0) (by rw [hEq.1]; exact hqn) (by rw [(hEq.2 q hqn).1]; exact hlt)
                        simp only [Value.slice.injEq, Option.some.injEq, Addr.mk.injEq, and_true] at e
                        obtain ⟨⟨rfl, rfl⟩, -, rfl⟩ := e
                        rw [(hEq.2 q hqn).1] at hm4 hcell4
                        have hval : at2 (clearP p (Red.col c0 M2) s.r M2 q) q c0 = Red.col c0 M2 q := by
                          show (lAt _ q)[c0]?.getD 0 = at2 M2 q c0
                          rw [clearP_next (by rw [HE2.out.1]; exact hqn)]
                          rfl
                        rw [hval] at hy4
                        have hxb := (HE2.out.2 q hqn).2 c0 hlt
                        rw [show at2 M2 q c0 = Red.col c0 M2 q from rfl] at hxb
                        by_cases hskip : q = s.r ∨ Red.col c0 M2 q = 0
                        · have H1 : Hid (OwnsM (w.heap.size ≤ ·) wr (.slice (some ⟨g, off, none⟩) n cM) (clearP p (Red.col c0 M2) s.r M2 (q + 1))) := by rw [clearP_skip (by rw [HE2.out.1]; exact hqn) hskip] at hMq; exact hMq
                          have H3 := Lib.hid hBq
                          clear hMq hBq hEq hval hxb
                          generalize Red.col c0 M2 q = xv at *
                          by_cases hqr : q = s.r
                          · have hqb : ((q : Int) == (s.r : Int)) = true := by simp [hqr]
                            clear hskip hqr
                            go_wp2
                            go_roundw
                            case rel => exact ⟨q + 1, by omega, by go_num, H1.out, H3.out⟩
                            case measure => simp [intOf]; omega
                          · have hqb : ((q : Int) == (s.r : Int)) = false := by simp; omega
                            have hx0 : xv = 0 := by rcases hskip with h | h; exact absurd h hqr; exact h
                            clear hskip hqr
                            subst hx0
                            go_wp2
                            go_roundw
                            case rel => exact ⟨q + 1, by omega, by go_num, H1.out, H3.out⟩
                            case measure => simp [intOf]; omega
                        · have hqr : q ≠ s.r := fun e => hskip (.inl e)
                          have hx : Red.col c0 M2 q ≠ 0 := fun e => hskip (.inr e)
                          have hqb : ((q : Int) == (s.r : Int)) = false := by simp; omega
                          have hxn : (Red.col c0 M2 q == 0) = false := by simpa using hx
                          obtain ⟨gM, oM, qM, ri, rk, eM, _, cMi, cMk, hSM, hoM, hbM, hrM, hdM, hapM, hKM⟩ := hMq.openTwo (i := q) (k := s.r) (by rw [hEq.1]; exact hqn) (by rw [hEq.1]; exact hfr) hqr (by rw [(hEq.2 q hqn).1, (hEq.2 s.r hfr).1])
                          rw [hEq.1] at eM
                          simp only [Value.slice.injEq, Option.some.injEq, Addr.mk.injEq, and_true] at eM
                          obtain ⟨⟨rfl, rfl⟩, -, rfl⟩ := eM
                          rw [(hEq.2 q hqn).1] at hoM hrM hapM hKM
                          have hri2 : ri = .slice (some ⟨g4, off4, none⟩) c cap4 := Option.some.inj (cMi.symm.trans hcell4)
                          subst hri2
                          obtain ⟨hml5, a5, cap5, rfl, hmu, hcu⟩ := open_reads hrM
                          clear hz1 hz2 hz3 hz4 hz5
                          obtain ⟨g5, off5, rfl, hg5, hcells5⟩ := hcu (by omega)
                          have hne45 : g5 ≠ g4 := fun e => hdM g5 (ofL_ne.2 (List.length_pos_iff.1 (by rw [(hEq.2 s.r hfr).1]; omega))) rfl (by rw [e]; rfl)
                          have hne4 : g4 ≠ g := fun e => hapM (by omega) (by rw [e]; rfl)
                          have hB4 := Lib.hid (hbM g4 (ofL_ne.2 (List.length_pos_iff.1 (by rw [(hEq.2 q hqn).1]; omega))) rfl)
                          have hll5 := (hEq.2 q hqn).1
                          have hlb := Lib.hid (hEq.2 q hqn).2
                          have hmb := Lib.hid (hEq.2 s.r hfr).2
                          have HNX := Lib.hid (clear_next (p := p) (X := Red.col c0 M2) (by rw [HE2.out.1]; exact hqn) (by rw [HE2.out.1]; exact hfr) hqr hx)
                          obtain ⟨Mq, hMqe⟩ : ∃ Z, clearP p (Red.col c0 M2) s.r M2 q = Z := ⟨_, rfl⟩
                          obtain ⟨xv, hxv⟩ : ∃ x, Red.col c0 M2 q = x := ⟨_, rfl⟩
                          rw [hMqe, hxv] at HNX
                          rw [hMqe] at hKM hoM hlb hmb hcells5 hll5
                          rw [hxv] at hy4 hxn hxb
                          obtain ⟨fq, hfq⟩ : ∃ f : Nat → Int, (fun j : Nat => ((lAt Mq q)[j]?.getD 0 + -xv * (lAt Mq s.r)[j]?.getD 0) % p) = f := ⟨_, rfl⟩
                          have hle : lessRow p xv (lAt Mq q) (lAt Mq s.r) = rowT c fq := by rw [lessRow, hll5, hfq]
                          rw [hle] at HNX
                          have ho0 : Hid (Owns wr 3 1 (.slice (some ⟨g4, off4, none⟩) c cap4) c (ofL (part c 0 fq fun j => (lAt Mq q)[j]?.getD 0))) := by rw [part_start (f := fq) hll5] at hoM; exact hoM
                          have HKM := Lib.hid hKM
                          have HFQ := Lib.hid hfq
                          have HCS := Lib.hid hcells5
                          have HCI := Lib.hid (And.intro cMi cMk)
                          have HBQ := Lib.hid hBq
                          clear hMq hBq hEq hval hqr hx hskip hKM hbM hapM hoM hrM hdM hSM hfq hle hMqe hxv hcells5 hcu hml5 hll5 cMk cMi
                          obtain ⟨w5, hw5⟩ : ∃ W, W = wr := ⟨_, rfl⟩
                          rw [← hw5] at ho0 HKM HCS HCI HBQ hy4 hcell4 ⊢
                          clear hg5 hw5 wr
                          go_wp2
                          clear hy4 hcell4
                          go_loopw [142] (fun z wr => ∃ j : Nat, j ≤ c ∧ z = .int .i64 j ∧ Owns wr 3 1 (.slice (some ⟨g4, off4, none⟩) c cap4) c (ofL (part c j fq fun j => (lAt Mq q)[j]?.getD 0)) ∧ Chg (fun z => z = g4) w5 wr) (fun z _ => c + 1 - (intOf z).toNat)
                          case atStart => exact ⟨0, by omega, rfl, ho0.out, Chg.refl _ _⟩
                          case round =>
                            obtain ⟨j, hj, rfl, ho, hch⟩ := hrel
                            have hci1 : wr.cell? ⟨g, off + q, none⟩ = some (.slice (some ⟨g4, off4, none⟩) c cap4) := hch.keep HCI.out.1 (fun e => hne4 e.symm)
                            have hck1 : wr.cell? ⟨g, off + s.r, none⟩ = some (.slice (some ⟨g5, off5, none⟩) c cap5) := hch.keep HCI.out.2 (fun e => hne4 e.symm)
                            by_cases hltj : j < c
                            · have hu : wr.cell? ⟨g5, off5 + j, none⟩ = some (.int .i64 ((lAt Mq s.r)[j]?.getD 0)) := hch.keep (HCS.out j hltj) hne45
                              obtain ⟨_, a6, c6, e, _, hc6⟩ := open_owns ho
                              simp only [Value.slice.injEq] at e
                              obtain ⟨rfl, -, rfl⟩ := e
                              obtain ⟨g6, off6, e6, hg6, hj6⟩ := hc6 (by omega)
                              simp only [Option.some.injEq, Addr.mk.injEq, and_true] at e6
                              obtain ⟨rfl, rfl⟩ := e6
                              have hy := (hj6 j hltj).1
                              have hfrz := (hj6 j hltj).2.1
                              have hst := (hj6 j hltj).2.2 (fq j)
                              rw [part_set] at hst
                              rw [part_at hltj] at hy
                              have H1 := Lib.hid hst
                              have H2 := Lib.hid (hch.setCell (p := ⟨g4, off4 + j, none⟩) (fun _ => rfl) (.int .i64 (fq j)))
                              have hfk : Hid (fq j = ((lAt Mq q)[j]?.getD 0 + -xv * (lAt Mq s.r)[j]?.getD 0) % p) := by show _ = _; rw [← HFQ.out]
                              have hlk := hlb.out j hltj
                              have hmk := hmb.out j hltj
                              rw [← at2_lAt] at hlk hmk
                              clear ho hch hc6 hj6 hst
                              generalize (lAt Mq q)[j]?.getD 0 = x at *
                              generalize (lAt Mq s.r)[j]?.getD 0 = y at *
                              obtain ⟨z, hz⟩ : ∃ z, fq j = z := ⟨_, rfl⟩
                              rw [hz] at H1 H2 hfk
                              clear hz
                              obtain ⟨t, ht⟩ : ∃ t, xv * y % p = t := ⟨_, rfl⟩
                              have ht0 : 0 ≤ t := by rw [← ht]; exact Int.emod_nonneg _ (by omega)
                              have ht1 : t < p := by rw [← ht]; exact Int.emod_lt_of_pos _ (by omega)
                              have hc1 := Lib.hid (fun W => fdMul_any p xv y h2 h97 hxb.1 hxb.2 hmk.1 hmk.2 W)
                              have hc2 := Lib.hid (fun W => fdSub_any p x t h2 h97 hlk.1 hlk.2 ht0 ht1 W)
                              rw [ht] at hc1
                              rw [← ht, less_mod, ← hfk.out, ht] at hc2
                              have hd1 := Lib.hid (fun W => (hc1.out W).mono fun e w' h => And.intro h.1 h.2.symm)
                              have hd2 := Lib.hid (fun W => (hc2.out W).mono fun e w' h => And.intro h.1 h.2.symm)
                              clear hfk ht hlk hmk ht0 ht1 hc1 hc2
                              have hj0 : 0 ≤ (j : Int) := by omega
                              have hjc : (j : Int) < (c : Int) := by omega
                              go_wp2
                              go_still_tail 25, (by kernel_rfl)
                              still_call (hd1.out _)
                              repeat still_step
                              still_call (hd2.out _)
                              repeat still_step
                              refine wpStill_nil ?_
                              change wpList _ _ _ _ _ wr.drew
                              go_wp2
                              go_roundw
                              case rel => exact ⟨j + 1, by omega, by go_num, H1.out, H2.out.drew⟩
                              case measure => simp [intOf]; omega
                            · have hjc : j = c := by omega
                              rw [hjc] at ho hltj ⊢
                              clear hjc hj j
                              rw [part_end] at ho
                              have hM5 := HKM.out wr (rowT c fq) (rowT_length _ _) (hch.mono fun q _ e => by rw [e]; exact ⟨rfl, by omega⟩) (by rw [rowT_length]; exact ho)
                              rw [HNX.out] at hM5
                              have H1 := Lib.hid hM5
                              have H3 := Lib.hid (HBQ.out.trans (hch.below HBQ.out.size fun q e => by rw [e]; exact hB4.out))
                              clear ho hch hM5 hci1 hck1
                              go_wp2
                              go_roundw
                              case rel => exact ⟨q + 1, by omega, by go_num, H1.out, H3.out⟩
                              case measure => simp [intOf]; omega
                      · have hqn' : q = n := by omega
                        rw [hqn'] at hMq hqn ⊢
                        clear hqn' hq q
                        rw [← HSM.out] at hMq
                        have hnx : redN p s0 (c0 + 1) = Red.step p s c0 k := by rw [HSUCC.out, HCOL.out]
                        have H0 := Lib.hid hnx
                        have H1 := Lib.hid hMq
                        have H3 := Lib.hid hBq
                        clear hMq hBq hnx
                        go_wp2
                        go_roundw
                        case rel => exact ⟨c0 + 1, by omega, by go_num, by rw [H0.out, HS3.out]; go_num, by rw [H0.out]; exact H1.out, H3.out⟩
                        case measure => simp [intOf]; omega
            · have hkn' : k = n := by omega
              rw [hkn'] at hk hz ⊢
              have hseek : seek s.M c0 s.r = s.M.length := seek_end (by rw [HML.out]; omega) fun q h1 h3 => hz.out q h1 (by rw [HML.out] at h3; exact h3)
              have hsame : redN p s0 (c0 + 1) = s := by rw [HSUCC.out, redCol_no hseek]
              have HSAME := Lib.hid hsame
              clear hseek hsame hz hkn' hkn hrk k
              go_wp2
              go_roundw
              case rel => exact ⟨c0 + 1, by omega, by go_num, by rw [HSAME.out], by rw [HSAME.out]; exact HMM.out, HBB.out⟩
              case measure => simp [intOf]; omega
        · have hend : redN p s0 c = redN p s0 c0 := by
            by_cases hlt : c0 < c
            · exact HFULL.out c0 hc0 (by omega)
            · rw [show c0 = c by omega]
          have hgob : (decide ((c0 : Int) < (c : Int)) && decide (((redN p s0 c0).r : Int) < (n : Int))) = false := by
            by_cases hlt : c0 < c
            · have : ¬ (redN p s0 c0).r < n := fun e => hgo ⟨hlt, e⟩
              simp; omega
            · simp; omega
          have HEND := Lib.hid hend
          obtain ⟨s, hs⟩ : ∃ s, redN p s0 c0 = s := ⟨_, rfl⟩
          rw [hs] at hMM hrn hml hgo ⊢
          have HSS := Lib.hid hs
          have hfin : ∀ k, s.r ≤ k → k ≤ cM → Hid (NewRows w (s.M.take s.r) (.returned (.slice aM s.r k)) wr) := fun k h1 h2 =>
            ⟨_, rfl, ((hml ▸ hMM : OwnsM _ wr (.slice aM s.M.length cM) s.M).take (by omega) h1 h2), hBB⟩
          have HFIN := Lib.hid hfin
          have hr1 : s.r ≤ cM := by omega
          have hr2 : s.r ≤ 9223372036854775807 := by omega
          rw [hend, hs]
          clear hMM hBB hok hend hs hfin hml hgob
          by_cases hlt : c0 < c
          · have hrn2 : s.r = n := by omega
            have hb1 : (c0 : Int) < (c : Int) := by omega
            have hb2 : decide (s.r < n) = false := by simp; omega
            have hb3 : ¬ (s.r : Int) < (n : Int) := by omega
            have hb4 : ¬ s.r < n := by omega
            clear hgo hrn2 hlt
            go_wp2
            go_ret
            first | exact (HFIN.out cM hr1 (Nat.le_refl _)).out | (rw [HEND.out, HSS.out]; exact (HFIN.out cM hr1 (Nat.le_refl _)).out)
          · have hb1 : decide (c0 < c) = false := by simp; omega
            have hb3 : ¬ (c0 : Int) < (c : Int) := by omega
            have hb4 : ¬ c0 < c := by omega
            clear hgo hlt
            go_wp2
            go_ret
            first | exact (HFIN.out cM hr1 (Nat.le_refl _)).out | (rw [HEND.out, HSS.out]; exact (HFIN.out cM hr1 (Nat.le_refl _)).out)

end Ints
end Go.Proofs.YtimjlcnljefbbaaDoor
