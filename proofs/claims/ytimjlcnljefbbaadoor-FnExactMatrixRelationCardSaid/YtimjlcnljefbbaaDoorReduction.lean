/- Row reduction: the program's. -/
import Derived.Test.YtimjlcnljefbbaaDoorStep
import Derived.Test.YtimjlcnljefbbaaDoorRedMore
namespace Go.Proofs.YtimjlcnljefbbaaDoor
open Go.RowKit
namespace Ints

set_option maxHeartbeats 8000000 in
set_option maxRecDepth 100000 in
theorem reduction_any (S S' : Nat → Prop) (hSS : ∀ g, S g → ¬ S' g) (p : Int) (hg : Fld.goodB p = true) (n c d : Nat) (hn : n ≤ 1000) (hc : c ≤ 1000) (vA vT : Value) (M T : List (List Int)) (w : World) (hME : ElemsT p n c M) (hTE : ElemsT p n d T) (hM : OwnsM S w vA M) (hT : OwnsM S' w vT T) :
    Calls Tryd.prog 52 #[.int .i64 p, vA, .int .i64 c, vT] w fun e w' => e = .returned (.int .i64 (redN p ⟨M, T, 0⟩ c).r) ∧ OwnsM S w' vA (redN p ⟨M, T, 0⟩ c).M ∧ OwnsM S' w' vT (redN p ⟨M, T, 0⟩ c).T ∧ Chg (fun g => S g ∨ S' g) w w' := by
  obtain ⟨h2, h97⟩ := Fld.good_bounds hg
  obtain ⟨aA, cA, rfl⟩ := hM.reads.form
  obtain ⟨aT, cT, rfl⟩ := hT.reads.form
  have hl1 := hME.1
  have hl2 := hTE.1
  rw [hl1] at hM ⊢
  rw [hl2] at hT ⊢
  obtain ⟨w0, hw0⟩ : ∃ W, W = (((w.alloc (.cells #[.int .i64 p] 3)).alloc (.cells #[.slice aA n cA] 22)).alloc (.cells #[.slice aT n cT] 22)) := ⟨_, rfl⟩
  have hb : Below w.heap.size w w0 := by rw [hw0]; exact (((Below.refl w.heap.size w).alloc (by simp) _).alloc (by simp) _).alloc (by simp; omega) _
  obtain ⟨SB, hSB⟩ : ∃ SB : Nat → Prop, (fun g => S g ∧ g < w.heap.size) = SB := ⟨_, rfl⟩
  obtain ⟨SB', hSB'⟩ : ∃ SB : Nat → Prop, (fun g => S' g ∧ g < w.heap.size) = SB := ⟨_, rfl⟩
  have hMB := hM.bound.below hb
  have hTB := hT.bound.below hb
  rw [hSB] at hMB
  rw [hSB'] at hTB
  have hlow : ∀ g, SB g → g < w.heap.size := fun g h => by rw [← hSB] at h; exact h.2
  have hlow' : ∀ g, SB' g → g < w.heap.size := fun g h => by rw [← hSB'] at h; exact h.2
  have hdis : ∀ g, SB g → ¬ SB' g := fun g h h' => by rw [← hSB] at h; rw [← hSB'] at h'; exact hSS g h.1 h'.1
  have hup : ∀ g, SB g ∨ SB' g → S g ∨ S' g := fun g h => by rw [← hSB, ← hSB'] at h; rcases h with h | h; exact .inl h.1; exact .inr h.1
  have hupS : ∀ g, SB g → S g := fun g h => by rw [← hSB] at h; exact h.1
  have hupS' : ∀ g, SB' g → S' g := fun g h => by rw [← hSB'] at h; exact h.1
  have hheld : Held SB SB' p (.slice aA n cA) (.slice aT n cT) w.heap.size (w.heap.size + 1) (w.heap.size + 2) w0 :=
    ⟨by rw [hw0]; simp [go_sem], by rw [hw0]; simp [go_sem], by rw [hw0]; simp [go_sem], ⟨fun h => Nat.lt_irrefl _ (hlow _ h), fun h => Nat.lt_irrefl _ (hlow' _ h)⟩, ⟨fun h => by have := hlow _ h; omega, fun h => by have := hlow' _ h; omega⟩, ⟨fun h => by have := hlow _ h; omega, fun h => by have := hlow' _ h; omega⟩⟩
  obtain ⟨s0, hs0⟩ : ∃ s, (⟨M, T, 0⟩ : Red) = s := ⟨_, rfl⟩
  have hok0 : RedOk p n c d s0 := by rw [← hs0]; exact ⟨hME, hTE, Nat.zero_le _⟩
  have hokN := redN_ok h2 hok0
  have hr0 : s0.r = 0 := by rw [← hs0]
  have hM0 : s0.M = M := by rw [← hs0]
  have hT0 : s0.T = T := by rw [← hs0]
  rw [hs0]
  rw [← hM0] at hMB
  rw [← hT0] at hTB
  have HMB := Lib.hid hMB
  have HTB := Lib.hid hTB
  have HH := Lib.hid hheld
  have HOK := Lib.hid hokN
  have HR0 := Lib.hid hr0
  have HDIS := Lib.hid hdis
  have HUP := Lib.hid hup
  have HUPS := Lib.hid (And.intro hupS hupS')
  have HB := Lib.hid hb
  have HW := Lib.hid hw0
  have HG := Lib.hid hg
  clear hSS hg hME hTE hM hT hl1 hl2 hw0 hb hSB hSB' hMB hTB hlow hlow' hdis hup hupS hupS' hheld hs0 hok0 hokN hr0 hM0 hT0
  go_enter Tryd.func52, Tryd.ntmps52
  go_wp2
  rw [← HW.out]
  go_loopw [9, 11] (fun r j wr => ∃ (c0 : Nat), c0 ≤ c ∧ j = .int .i64 c0 ∧ r = .int .i64 (redN p s0 c0).r ∧ OwnsM SB wr (.slice aA n cA) (redN p s0 c0).M ∧ OwnsM SB' wr (.slice aT n cT) (redN p s0 c0).T ∧ Chg (fun g => SB g ∨ SB' g) w0 wr) (fun _ j _ => c + 1 - (intOf j).toNat)
  case atStart => exact ⟨0, by omega, rfl, by show _ = Value.int .i64 ((redN p s0 0).r : Int); rw [show redN p s0 0 = s0 from rfl, HR0.out]; rfl, HMB.out, HTB.out, Chg.refl _ _⟩
  case round =>
    obtain ⟨c0, hc0, rfl, rfl, hMM, hTT, hch⟩ := hrel
    have hok := HOK.out c0
    have hheld := HH.out.chg hch
    have x1 := hheld.2.1
    have hrn := hok.2.2
    have hml := hok.1.1
    by_cases hlt : c0 < c
    · by_cases hfull : (redN p s0 c0).r < n
      · have hsucc : redN p s0 (c0 + 1) = redCol p (redN p s0 c0) c0 := rfl
        generalize redN p s0 c0 = s at *
        have HSUCC := Lib.hid hsucc
        have HOKS := Lib.hid hok
        have HMM := Lib.hid hMM
        have HTT := Lib.hid hTT
        have HCH := Lib.hid hch
        have HHELD := Lib.hid hheld
        have HML := Lib.hid hml
        have hci : (c0 : Int) < (c : Int) := by omega
        have hri : (s.r : Int) < (n : Int) := by omega
        clear hsucc hok hMM hTT hch hheld hml
        go_wp2
        go_loop [12] (fun i => ∃ k : Nat, s.r ≤ k ∧ k ≤ n ∧ i = .int .i64 k ∧ Hid (∀ q, s.r ≤ q → q < k → at2 s.M q c0 = 0)) (fun i => n + 1 - (intOf i).toNat)
        case atStart => exact ⟨s.r, Nat.le_refl _, by omega, rfl, fun q h1 h2 => by omega⟩
        case round =>
          obtain ⟨k, hrk, hkn, rfl, hz⟩ := hrel
          by_cases hk : k < n
          · obtain ⟨g, off, cap, g2, off2, cap2, e, _, hm2, hcell, hy, _, _, _, _, _⟩ := HMM.out.openAt (i := k) (j := c0) (by rw [HML.out]; exact hk) (by rw [(HOKS.out.1.2 k hk).1]; exact hlt)
            simp only [Value.slice.injEq] at e
            obtain ⟨rfl, -, rfl⟩ := e
            rw [(HOKS.out.1.2 k hk).1] at hm2 hcell
            have hki : (k : Int) < (n : Int) := by omega
            have hk0 : 0 ≤ (k : Int) := by omega
            have hc00 : 0 ≤ (c0 : Int) := by omega
            by_cases hv : at2 s.M k c0 = 0
            · have hz2 : Hid (∀ q, s.r ≤ q → q < k + 1 → at2 s.M q c0 = 0) := fun q h1 h3 => by
                by_cases e : q = k
                · subst e; exact hv
                · exact hz.out q h1 (by omega)
              rw [hv] at hy
              clear hv
              go_wp2
              go_round
              case rel => exact ⟨k + 1, by omega, by omega, by go_num, hz2⟩
              case measure => simp [intOf]; omega
            · have hvb : (at2 s.M k c0 == 0) = false := by simpa using hv
              have hseek : seek s.M c0 s.r = k := seek_at hrk (by rw [HML.out]; exact hk) (fun q h1 h3 => hz.out q h1 h3) hv
              have hpiv := Lin.pivot_in HOKS.out hlt (by rw [hseek, HML.out]; exact hk)
              rw [hseek] at hpiv
              obtain ⟨_, _, _, hp1, hp2⟩ := hpiv
              have hcall1 := Lib.hid (stepSwap_any SB SB' HDIS.out p s.r k _ _ s.M s.T w.heap.size (w.heap.size + 1) (w.heap.size + 2) wr (by rw [HML.out]; omega) (by rw [HML.out]; exact hk) (by rw [HML.out, HOKS.out.2.1.1]) HMM.out HTT.out HHELD.out)
              have hred : redCol p s c0 = Red.step p s c0 k := by rw [redCol_yes (by rw [hseek, HML.out]; exact hk), hseek]
              have HRED := Lib.hid hred
              have HE1 := Lib.hid (elems_swap HOKS.out.1 (i := s.r) (j := k) (by omega) hk)
              have HE1T := Lib.hid (elems_swap HOKS.out.2.1 (i := s.r) (j := k) (by omega) hk)
              have hs1 := Red.step_M p s c0 k
              have hs2 := Red.step_T p s c0 k
              have hs3 : (Red.step p s c0 k).r = s.r + 1 := rfl
              rw [HML.out] at hs1
              rw [HOKS.out.2.1.1] at hs2
              obtain ⟨M1, hM1⟩ : ∃ M1, swapL s.M s.r k = M1 := ⟨_, rfl⟩
              obtain ⟨T1, hT1⟩ : ∃ T1, swapL s.T s.r k = T1 := ⟨_, rfl⟩
              rw [hM1] at hp1 hp2 hcall1 HE1 hs1 hs2
              rw [hT1] at hcall1 HE1T hs2
              have HS1 := Lib.hid hs1
              have HS2 := Lib.hid hs2
              have HS3 := Lib.hid hs3
              clear hseek hred hv hs1 hs2 hs3 hM1 hT1 hz
              go_wp2_with fail
              refine hcall1.out.mono ?_
              rintro e w1 ⟨rfl, hM1, hT1, hc1⟩
              have hheld1 := HHELD.out.chg hc1
              have x2 := hheld1.2.1
              obtain ⟨g', off', cap', g3, off3, cap3, e, _, hm3, hcell3, hy3, _, _, _, _, _⟩ := hM1.openAt (i := s.r) (j := c0) (by rw [HE1.out.1]; exact hfull) (by rw [(HE1.out.2 s.r hfull).1]; exact hlt)
              simp only [Value.slice.injEq, Option.some.injEq, Addr.mk.injEq, and_true] at e
              obtain ⟨⟨rfl, rfl⟩, -, rfl⟩ := e
              rw [(HE1.out.2 s.r hfull).1] at hm3 hcell3
              have hcall2 := Lib.hid (stepDivide_any SB SB' HDIS.out p s.r (at2 M1 s.r c0) _ _ M1 T1 (Red.scaled p s.r c0 M1 M1) (Red.scaled p s.r c0 M1 T1) w.heap.size (w.heap.size + 1) (w.heap.size + 2) w1
                (fun S0 W h => applyDivide_any S0 p _ HG.out hp1 hp2 s.r c _ M1 W (by rw [HE1.out.1]; exact hfull) (HE1.out.2 s.r hfull).1 (HE1.out.2 s.r hfull).2 h)
                (fun S0 W h => applyDivide_any S0 p _ HG.out hp1 hp2 s.r d _ T1 W (by rw [HE1T.out.1]; exact hfull) (HE1T.out.2 s.r hfull).1 (HE1T.out.2 s.r hfull).2 h) hM1 hT1 hheld1)
              have HC1 := Lib.hid (HCH.out.trans hc1)
              have HHELD1 := Lib.hid hheld1
              have HE2 := Lib.hid (elems_scaled h2 (q := c0) (M := M1) HE1.out hfull)
              have HE2T := Lib.hid (elems_scaled h2 (q := c0) (M := M1) HE1T.out hfull)
              clear hM1 hT1 hc1 hheld1 x1 hcell hy hm2 hvb hcall1
              generalize at2 M1 s.r c0 = piv at *
              generalize Red.scaled p s.r c0 M1 M1 = M2 at *
              generalize Red.scaled p s.r c0 M1 T1 = T2 at *
              go_wp2_with fail
              refine hcall2.out.mono ?_
              rintro e w2 ⟨rfl, hM2, hT2, hc2⟩
              have hheld2 := HHELD1.out.chg hc2
              have x3 := hheld2.2.1
              have HM2 := Lib.hid hM2
              have HT2 := Lib.hid hT2
              have HC2 := Lib.hid (HC1.out.trans hc2)
              have HHELD2 := Lib.hid hheld2
              clear hM2 hT2 hc2 hheld2 x2 hcell3 hy3 hcall2 hm3
              go_wp2
              go_loopw [65] (fun i wr => ∃ q : Nat, q ≤ n ∧ i = .int .i64 q ∧ OwnsM SB wr (.slice (some ⟨g, off, none⟩) n cA) (clearP p (Red.col c0 M2) s.r M2 q) ∧ OwnsM SB' wr (.slice aT n cT) (clearP p (Red.col c0 M2) s.r T2 q) ∧ Chg (fun g => SB g ∨ SB' g) w0 wr) (fun i _ => n + 1 - (intOf i).toNat)
              case atStart => exact ⟨0, by omega, rfl, by rw [clearP_zero]; exact HM2.out, by rw [clearP_zero]; exact HT2.out, HC2.out⟩
              case round =>
                obtain ⟨q, hq, rfl, hMq, hTq, hcq⟩ := hrel
                have hheldq := HH.out.chg hcq
                have x4 := hheldq.2.1
                by_cases hqn : q < n
                · have hq0 : 0 ≤ (q : Int) := by omega
                  have hqi : (q : Int) < (n : Int) := by omega
                  by_cases hqr : q = s.r
                  · have hqb : ((q : Int) != (s.r : Int)) = false := by simp [hqr]
                    have H1 : Hid (OwnsM SB wr (.slice (some ⟨g, off, none⟩) n cA) (clearP p (Red.col c0 M2) s.r M2 (q + 1))) := by rw [clearP_skip (by rw [HE2.out.1]; exact hqn) (.inl hqr)] at hMq; exact hMq
                    have H2 : Hid (OwnsM SB' wr (.slice aT n cT) (clearP p (Red.col c0 M2) s.r T2 (q + 1))) := by rw [clearP_skip (by rw [HE2T.out.1]; exact hqn) (.inl hqr)] at hTq; exact hTq
                    have H3 := Lib.hid hcq
                    clear hMq hTq hcq hheldq hqr
                    go_wp2
                    go_roundw
                    case rel => exact ⟨q + 1, by omega, by go_num, H1.out, H2.out, H3.out⟩
                    case measure => simp [intOf]; omega
                  · have hqb : ((q : Int) != (s.r : Int)) = true := by simp; omega
                    have hEq := elems_clear (i := q) (k := s.r) (X := Red.col c0 M2) h2 HE2.out
                    have hEqT := elems_clear (i := q) (k := s.r) (X := Red.col c0 M2) h2 HE2T.out
                    obtain ⟨g', off', cap', g4, off4, cap4, e, _, hm4, hcell4, hy4, _, _, _, _, _⟩ := hMq.openAt (i := q) (j := c0) (by rw [hEq.1]; exact hqn) (by rw [(hEq.2 q hqn).1]; exact hlt)
                    simp only [Value.slice.injEq, Option.some.injEq, Addr.mk.injEq, and_true] at e
                    obtain ⟨⟨rfl, rfl⟩, -, rfl⟩ := e
                    rw [(hEq.2 q hqn).1] at hm4 hcell4
                    have hval : at2 (clearP p (Red.col c0 M2) s.r M2 q) q c0 = Red.col c0 M2 q := by
                      show (lAt _ q)[c0]?.getD 0 = at2 M2 q c0
                      rw [clearP_next (by rw [HE2.out.1]; exact hqn)]
                      rfl
                    rw [hval] at hy4
                    have hxb := (HE2.out.2 q hqn).2 c0 hlt
                    rw [show at2 M2 q c0 = Red.col c0 M2 q from rfl] at hxb
                    by_cases hx : Red.col c0 M2 q = 0
                    · have H1 : Hid (OwnsM SB wr (.slice (some ⟨g, off, none⟩) n cA) (clearP p (Red.col c0 M2) s.r M2 (q + 1))) := by rw [clearP_skip (by rw [HE2.out.1]; exact hqn) (.inr hx)] at hMq; exact hMq
                      have H2 : Hid (OwnsM SB' wr (.slice aT n cT) (clearP p (Red.col c0 M2) s.r T2 (q + 1))) := by rw [clearP_skip (by rw [HE2T.out.1]; exact hqn) (.inr hx)] at hTq; exact hTq
                      have H3 := Lib.hid hcq
                      rw [hx] at hy4
                      clear hMq hTq hcq hheldq hqr hEq hEqT hx hxb hval
                      go_wp2
                      go_roundw
                      case rel => exact ⟨q + 1, by omega, by go_num, H1.out, H2.out, H3.out⟩
                      case measure => simp [intOf]; omega
                    · have hxn : (Red.col c0 M2 q != 0) = true := by simpa using hx
                      have hcall3 := Lib.hid (stepSubtract_any SB SB' HDIS.out p q s.r (Red.col c0 M2 q) _ _ _ _ _ _ w.heap.size (w.heap.size + 1) (w.heap.size + 2) wr
                        (fun S0 W h => applySubtract_any S0 p _ h2 h97 hxb.1 hxb.2 q s.r c _ (clearP p (Red.col c0 M2) s.r M2 q) W (by rw [hEq.1]; exact hqn) (by rw [hEq.1]; exact hfull) hqr (hEq.2 q hqn).1 (hEq.2 s.r hfull).1 (hEq.2 q hqn).2 (hEq.2 s.r hfull).2 h)
                        (fun S0 W h => applySubtract_any S0 p _ h2 h97 hxb.1 hxb.2 q s.r d _ (clearP p (Red.col c0 M2) s.r T2 q) W (by rw [hEqT.1]; exact hqn) (by rw [hEqT.1]; exact hfull) hqr (hEqT.2 q hqn).1 (hEqT.2 s.r hfull).1 (hEqT.2 q hqn).2 (hEqT.2 s.r hfull).2 h) hMq hTq hheldq)
                      rw [clear_next (by rw [HE2.out.1]; exact hqn) (by rw [HE2.out.1]; exact hfull) hqr hx, clear_next (by rw [HE2T.out.1]; exact hqn) (by rw [HE2T.out.1]; exact hfull) hqr hx] at hcall3
                      have HCQ := Lib.hid hcq
                      clear hMq hTq hcq hheldq hEq hEqT hval hqr hx
                      generalize Red.col c0 M2 q = xv at *
                      go_wp2_with fail
                      refine hcall3.out.mono ?_
                      rintro e w5 ⟨rfl, hM5, hT5, hc5⟩
                      have H1 := Lib.hid hM5
                      have H2 := Lib.hid hT5
                      have H3 := Lib.hid (HCQ.out.trans hc5)
                      clear hM5 hT5 hc5 hcell4 hy4 x4 hcall3
                      go_wp2
                      go_roundw
                      case rel => exact ⟨q + 1, by omega, by go_num, H1.out, H2.out, H3.out⟩
                      case measure => simp [intOf]; omega
                · obtain rfl : q = n := by omega
                  rw [← HS1.out, ← HRED.out, ← HSUCC.out] at hMq
                  rw [← HS2.out, ← HRED.out, ← HSUCC.out] at hTq
                  have hr3 : (redN p s0 (c0 + 1)).r = s.r + 1 := by rw [HSUCC.out, HRED.out, HS3.out]
                  have HR3 := Lib.hid hr3
                  have H1 := Lib.hid hMq
                  have H2 := Lib.hid hTq
                  have H3 := Lib.hid hcq
                  clear hMq hTq hcq hheldq hr3
                  go_wp2
                  go_roundw
                  case rel => exact ⟨c0 + 1, by omega, by go_num, by rw [HR3.out]; go_num, H1.out, H2.out, H3.out⟩
                  case measure => simp [intOf]; omega
          · obtain rfl : k = n := by omega
            have hseek : seek s.M c0 s.r = s.M.length := seek_end (by rw [HML.out]; omega) fun q h1 h3 => hz.out q h1 (by rw [HML.out] at h3; exact h3)
            have hsame : redN p s0 (c0 + 1) = s := by rw [HSUCC.out, redCol_no hseek]
            have HSAME := Lib.hid hsame
            clear hseek hsame hz
            go_wp2
            go_roundw
            case rel => exact ⟨c0 + 1, by omega, by go_num, by rw [HSAME.out], by rw [HSAME.out]; exact HMM.out, by rw [HSAME.out]; exact HTT.out, HCH.out⟩
            case measure => simp [intOf]; omega
      · have hend : redN p s0 c = redN p s0 c0 := by
          have := redN_full (p := p) (s := s0) (j := c0) (by rw [hml]; omega) (c - c0)
          rw [show c0 + (c - c0) = c by omega] at this
          exact this
        have hfin : Hid (OwnsM S wr (.slice aA n cA) (redN p s0 c).M ∧ OwnsM S' wr (.slice aT n cT) (redN p s0 c).T ∧ Chg (fun g => S g ∨ S' g) w wr) := by
          rw [hend]
          exact ⟨hMM.mono HUPS.out.1, hTT.mono HUPS.out.2, (Below.chg HB.out _).trans_new (T := fun g => S g ∨ S' g) (hch.mono fun g _ h => HUP.out g h) fun _ _ h => h⟩
        have HEND : Hid ((redN p s0 c).r = (redN p s0 c0).r) := by show _ = _; rw [hend]
        clear hMM hTT hch hheld hok hml hend
        generalize (redN p s0 c0).r = r0 at *
        have hci : (c0 : Int) < (c : Int) := by omega
        have hrf : decide ((r0 : Int) < (n : Int)) = false := by simp; omega
        go_wp2
        go_ret
        exact ⟨ret_int (by have := HEND.out; omega), hfin.out⟩
    · obtain rfl : c0 = c := by omega
      have hfin : Hid (OwnsM S wr (.slice aA n cA) (redN p s0 c0).M ∧ OwnsM S' wr (.slice aT n cT) (redN p s0 c0).T ∧ Chg (fun g => S g ∨ S' g) w wr) :=
        ⟨hMM.mono HUPS.out.1, hTT.mono HUPS.out.2, (Below.chg HB.out _).trans_new (T := fun g => S g ∨ S' g) (hch.mono fun g _ h => HUP.out g h) fun _ _ h => h⟩
      clear hMM hTT hch hheld hok hml
      go_wp2
      go_ret
      exact ⟨rfl, hfin.out⟩

end Ints
end Go.Proofs.YtimjlcnljefbbaaDoor
