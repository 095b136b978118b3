/- The null space: the reference's. -/
import Derived.Test.YtimjlcnljefbbaaDoorSpReduce
import Derived.Test.YtimjlcnljefbbaaDoorClones
import Derived.StillTailTactics
namespace Go.Proofs.YtimjlcnljefbbaaDoor
open Go.RowKit
namespace Ints
open Fld (fdNeg_any)

set_option maxHeartbeats 1000000 in
theorem spLead_any (v : Value) (n : Nat) (l : List Int) (w : World) (h : Reads w 1 v n (ofL l)) :
    Calls Tryd.prog 94 #[v] w fun e w' => e = .returned (.int .i64 (Lin.leadOf l)) ∧ w = w' := by
  obtain ⟨hl, a, cap, rfl, hm, hc⟩ := open_reads h
  have HL := Lib.hid hl
  have HC := Lib.hid hc
  have hend := Lib.hid (fun (h : ∀ j, j < n → l[j]?.getD 0 = 0) => (Lin.leadOf_end (l := l) (by rw [hl]; exact h)).trans hl)
  have hat := Lib.hid (fun k h1 h2 => Lin.leadOf_at (l := l) (k := k) h1 h2)
  clear h hl hc
  go_enter Tryd.func94, Tryd.ntmps94
  go_wp2
  go_loop [3] (fun i => ∃ k : Nat, k ≤ n ∧ i = .int .i64 k ∧ Hid (∀ q, q < k → l[q]?.getD 0 = 0)) (fun i => n + 1 - (intOf i).toNat)
  case atStart => exact ⟨0, by omega, rfl, fun q h => by omega⟩
  case round =>
    obtain ⟨k, hk, rfl, hz⟩ := hrel
    by_cases hlt : k < n
    · obtain ⟨g, off, rfl, hg, hcell⟩ := HC.out (by omega)
      have hy := hcell k hlt
      have hk0 : 0 ≤ (k : Int) := by omega
      have hki : (k : Int) < (n : Int) := by omega
      clear hcell
      by_cases hx : l[k]?.getD 0 = 0
      · have hz2 : Hid (∀ q, q < k + 1 → l[q]?.getD 0 = 0) := fun q hq => by
          by_cases e : q = k
          · subst e; exact hx
          · exact hz.out q (by omega)
        rw [hx] at hy
        clear hx hz
        go_wp2
        go_round
        case rel => exact ⟨k + 1, by omega, by go_num, hz2⟩
        case measure => simp [intOf]; omega
      · have hlead : Hid (Lin.leadOf l = k) := hat.out k (fun q hq => hz.out q hq) hx
        have hxb : (l[k]?.getD 0 == 0) = false := by simpa using hx
        clear hz hx
        generalize l[k]?.getD 0 = x at *
        go_wp2
        go_ret
        rw [hlead.out]
        exact ⟨rfl, rfl⟩
    · have hkn : k = n := by omega
      have hlead : Hid (Lin.leadOf l = k) := by rw [hkn]; exact hend.out (fun q hq => hz.out q (by omega))
      have hb1 : ¬ (k : Int) < (n : Int) := by omega
      have hb2 : ¬ k < n := by omega
      have hb3 : decide (k < n) = false := by simp; omega
      clear hz hkn
      go_wp2
      go_ret
      rw [hlead.out]
      exact ⟨rfl, rfl⟩

theorem neg_same (p a : Int) : (p - a) % p = (-a) % p := by rw [show p - a = -a + p * 1 by omega, Int.add_mul_emod_self_left]

set_option maxHeartbeats 4000000 in
set_option maxRecDepth 100000 in
theorem spNull_any (p : Int) (hg : Fld.goodB p = true) (m n : Nat) (hm : m ≤ 1000) (hn : n ≤ 1000) (v : Value) (L : List (List Int)) (w : World) (hL : ElemsT p m n L) (hv : ReadsM w v L) :
    Calls Tryd.prog 61 #[.int .i64 p, .int .i64 n, v] w (NewRows w (Lin.nullL p n L)) := by
  obtain ⟨h2, h97⟩ := Fld.good_bounds hg
  have hcall := Lib.hid (spReduce_any p hg m n hm hn v L w hL hv)
  obtain ⟨ld, hR, hRE, hRl, _⟩ := Lin.reduced_spec hg hL
  have hnE := Lin.nullUpto_elems (p := p) h2 hR
  have hlen := fun j (hj : j ≤ n) => (Lin.nullUpto_rows (p := p) hR j hj).2.2
  have hlead : ∀ i, i < (reducedL p n L).length → Lin.leadOf (lAt (reducedL p n L) i) < n := fun i hi => by rw [Lin.lead_ref hR hi]; exact hR.lt i hi
  have hfinal := Lib.hid (fun (W : World) (u : Value) (h : ReadsM W u (Lin.nullUpto p n (reducedL p n L) n)) => spReduce_any p hg _ n (Nat.le_trans (hlen n (Nat.le_refl n)) hn) hn u _ W hnE h)
  rw [show Lin.nullL p n L = reducedL p n (Lin.nullUpto p n (reducedL p n L) n) from rfl]
  obtain ⟨Z, hZ⟩ : ∃ Z, reducedL p n (Lin.nullUpto p n (reducedL p n L) n) = Z := ⟨_, rfl⟩
  rw [hZ] at hfinal ⊢
  obtain ⟨R, hRR⟩ : ∃ R, reducedL p n L = R := ⟨_, rfl⟩
  rw [hRR] at hcall hRE hlen hlead hfinal hRl
  obtain ⟨rr, hrr⟩ : ∃ r, R.length = r := ⟨_, rfl⟩
  rw [hrr] at hRE hlead hRl
  have HRR := Lib.hid hrr
  have HRE := Lib.hid hRE
  have HLEN := Lib.hid hlen
  have HLD := Lib.hid hlead
  have hmb := Lib.hid (show 8 * n ≤ 281474976710656 by omega)
  have hm2 := Lib.hid (show n ≤ maxLen by unfold maxLen; omega)
  have hnm : n ≤ 9223372036854775807 := by omega
  obtain ⟨av, cv, rfl⟩ := hv.form
  clear hg hL hv hR hRE hlen hlead hnE hRR hrr hZ
  go_enter Tryd.func61, Tryd.ntmps61
  go_wp2_with fail
  refine hcall.out.mono ?_
  rintro e w1 ⟨v1, rfl, ho1, hb1⟩
  obtain ⟨a1, c1, e1, hm1, hc1⟩ := open_readsM ho1.reads
  rw [HRR.out] at e1 hm1 hc1
  subst e1
  have HC1 := Lib.hid hc1
  have HB1 := Lib.hid hb1
  clear ho1 hb1 hc1 hcall
  go_wp2_with (at_make; refine wpList_make_one _ rfl _ _ 41 rfl 3 (.int .i64 0) 8 Tryd.underlying41 infoI rfl n rfl rfl hmb.out hm2.out ?_; intro w2 hown2 hb2 hs2)
  have ho2 := owns_of_row hown2 hm2.out
  rw [← ofL_replicate] at ho2
  have HO2 := Lib.hid ho2.1
  have HB2 := Lib.hid hb2
  clear hown2 ho2 hb2
  go_wp2
  go_loopw [25] (fun i wr => ∃ k : Nat, k ≤ n ∧ i = .int .i64 k ∧ Owns wr 3 1 (.slice (some ⟨w1.heap.size, 0, none⟩) n n) n (ofL (part n k (fun _ => -1) fun _ => 0)) ∧ Chg (fun g => g = w1.heap.size) w2 wr) (fun i _ => n + 1 - (intOf i).toNat)
  case atStart => exact ⟨0, by omega, rfl, by rw [part_zero]; exact HO2.out, Chg.refl _ _⟩
  case round =>
    obtain ⟨k, hk, rfl, ho, hch⟩ := hrel
    by_cases hlt : k < n
    · obtain ⟨_, a4, c4, e, _, hc4⟩ := open_owns ho
      simp only [Value.slice.injEq] at e
      obtain ⟨rfl, -, rfl⟩ := e
      obtain ⟨g4, off4, e4, hg4, hj4⟩ := hc4 (by omega)
      simp only [Option.some.injEq, Addr.mk.injEq, and_true] at e4
      obtain ⟨rfl, rfl⟩ := e4
      have hy := (hj4 k hlt).1
      have hfrz := (hj4 k hlt).2.1
      have hst := (hj4 k hlt).2.2 (-1)
      rw [part_set (f := fun _ => -1)] at hst
      rw [part_at hlt] at hy
      have H1 := Lib.hid hst
      have H2 := Lib.hid (hch.setCell (p := ⟨w1.heap.size, 0 + k, none⟩) (fun _ => rfl) (.int .i64 (-1)))
      have hk0 : 0 ≤ (k : Int) := by omega
      have hkn : (k : Int) < (n : Int) := by omega
      clear ho hch hc4 hj4 hst
      rw [Nat.zero_add] at hy hfrz H1 H2
      go_wp2
      go_roundw
      case rel => exact ⟨k + 1, by omega, by go_num, H1.out, H2.out⟩
      case measure => simp [intOf]; omega
    · have hkn : k = n := by omega
      rw [hkn] at ho hlt ⊢
      clear hkn hk k
      rw [part_end] at ho
      have HO3 : Hid (Owns wr 3 1 (.slice (some ⟨w1.heap.size, 0, none⟩) n n) n (ofL (Lin.leadArr n R 0))) := ho
      have HB3 := Lib.hid (HB2.out.trans (hch.below HB2.out.size fun g e => by omega))
      obtain ⟨w3, hw3⟩ : ∃ W, W = wr := ⟨_, rfl⟩
      rw [← hw3] at HO3 HB3 ⊢
      clear ho hch hw3 wr HO2 HB2
      go_wp2
      go_loopw [34] (fun i wr => ∃ k : Nat, k ≤ rr ∧ i = .int .i64 k ∧ Owns wr 3 1 (.slice (some ⟨w1.heap.size, 0, none⟩) n n) n (ofL (Lin.leadArr n R k)) ∧ Below w1.heap.size w1 wr) (fun i _ => rr + 1 - (intOf i).toNat)
      case atStart => exact ⟨0, by omega, rfl, HO3.out, HB3.out⟩
      case round =>
        obtain ⟨k, hk, rfl, ho, hb⟩ := hrel
        by_cases hlt2 : k < rr
        · obtain ⟨g, off, r, rfl, hg, hcell, hrd⟩ := HC1.out k hlt2
          have hx : wr.cell? ⟨g, off + k, none⟩ = some r := (hb.cell hg).trans hcell
          have hcl := Lib.hid (spLead_any r _ (lAt R k) wr (hrd.below (hb.mono (Nat.le_refl _))))
          obtain ⟨ar, cr, rfl⟩ := hrd.form
          have hq := HLD.out k hlt2
          obtain ⟨_, a4, c4, e, _, hc4⟩ := open_owns ho
          simp only [Value.slice.injEq] at e
          obtain ⟨rfl, -, rfl⟩ := e
          obtain ⟨g4, off4, e4, hg4, hj4⟩ := hc4 (by omega)
          simp only [Option.some.injEq, Addr.mk.injEq, and_true] at e4
          obtain ⟨rfl, rfl⟩ := e4
          have hy := (hj4 _ hq).1
          have hfrz := (hj4 _ hq).2.1
          have hst := (hj4 _ hq).2.2 (k : Int)
          rw [show (Lin.leadArr n R k).set (Lin.leadOf (lAt R k)) (k : Int) = Lin.leadArr n R (k + 1) from rfl] at hst
          rw [Nat.zero_add] at hy hfrz hst
          obtain ⟨q, hqe⟩ : ∃ q, Lin.leadOf (lAt R k) = q := ⟨_, rfl⟩
          rw [hqe] at hy hfrz hst hcl hq
          have H1 := Lib.hid hst
          have H2 := Lib.hid (hb.setCell (p := ⟨w1.heap.size, q, none⟩) (Nat.le_refl _) (.int .i64 (k : Int)))
          have hk0 : 0 ≤ (k : Int) := by omega
          have hkn : (k : Int) < (rr : Int) := by omega
          have hq0 : 0 ≤ (q : Int) := by omega
          have hqn : (q : Int) < (n : Int) := by omega
          clear ho hb hc4 hj4 hst hrd hcell hqe
          generalize (lAt R k).length = lk at *
          generalize (Lin.leadArr n R k)[q]?.getD 0 = y at *
          go_wp2_with (go_at_call 94; ((with_reducible refine (hcl.out).mono ?_); rintro e w' ⟨rfl, rfl⟩))
          go_roundw
          case rel => exact ⟨k + 1, by omega, by go_num, H1.out, H2.out⟩
          case measure => simp [intOf]; omega
        · have hkr : k = rr := by omega
          rw [hkr] at ho hlt2 ⊢
          clear hkr hk k
          obtain ⟨w4, hw4⟩ : ∃ W, W = wr := ⟨_, rfl⟩
          rw [← hw4] at ho hb ⊢
          have HO4 := Lib.hid ho
          have HB4 := Lib.hid hb
          clear ho hb hw4 wr HO3 HB3
          go_wp2
          go_loopw [12, 13] (fun o jv wr => ∃ (j : Nat) (rs : List Value) (ov : Value), j ≤ n ∧ jv = .int .i64 j ∧ o = ov ∧ wr.ownsRow w4.heap.size 41 1 ov (Lin.nullUpto p n R j).length rs ∧ RowsOwn (w4.heap.size ≤ ·) wr rs (Lin.nullUpto p n R j) ∧ Below w4.heap.size w4 wr) (fun _ jv _ => n + 1 - (intOf jv).toNat)
          case atStart => exact ⟨0, [], _, by omega, rfl, rfl, World.ownsRow_nil _ _ _ _, RowsOwn.nil _ _, Below.refl _ _⟩
          case round =>
            obtain ⟨j, rs, ov, hj, rfl, rfl, hown, hrows, hb⟩ := hrel
            by_cases hltj : j < n
            · have hLA := HO4.out.below (hb.mono (Nat.le_refl _))
              obtain ⟨_, a4, c4, e, _, hc4⟩ := open_owns hLA
              simp only [Value.slice.injEq] at e
              obtain ⟨rfl, -, rfl⟩ := e
              obtain ⟨g4, off4, e4, hg4, hj4⟩ := hc4 (by omega)
              simp only [Option.some.injEq, Addr.mk.injEq, and_true] at e4
              obtain ⟨rfl, rfl⟩ := e4
              have hy := (hj4 j hltj).1
              rw [Nat.zero_add] at hy
              have hsucc : Lin.nullUpto p n R (j + 1) = if 0 ≤ (Lin.leadArr n R R.length)[j]?.getD 0 then Lin.nullUpto p n R j else Lin.nullUpto p n R j ++ [Lin.freeFill p n R j R.length] := rfl
              rw [HRR.out] at hsucc
              have hj0 : 0 ≤ (j : Int) := by omega
              have hjn : (j : Int) < (n : Int) := by omega
              obtain ⟨x, hx⟩ : ∃ x, (Lin.leadArr n R rr)[j]?.getD 0 = x := ⟨_, rfl⟩
              rw [hx] at hy hsucc
              clear hc4 hj4 hLA hx
              by_cases hx0 : 0 ≤ x
              · rw [if_pos hx0] at hsucc
                have hxb : decide (x ≥ 0) = true := by simpa using hx0
                have H1 : Hid (wr.ownsRow w4.heap.size 41 1 u12 (Lin.nullUpto p n R (j + 1)).length rs) := by rw [hsucc]; exact hown
                have H2 : Hid (RowsOwn (w4.heap.size ≤ ·) wr rs (Lin.nullUpto p n R (j + 1))) := by rw [hsucc]; exact hrows
                have H3 := Lib.hid hb
                clear hown hrows hb hsucc
                go_wp2
                go_roundw
                case rel => exact ⟨j + 1, _, _, by omega, by go_num, rfl, H1.out, H2.out, H3.out⟩
                case measure => simp [intOf]; omega
              · rw [if_neg hx0] at hsucc
                have hxb : decide (x ≥ 0) = false := by simp; omega
                have hxl : x < 0 := by omega
                have HO := Lib.hid hown
                have HR := Lib.hid hrows
                have HB := Lib.hid hb
                have HSUC := Lib.hid hsucc
                have hsz := Lib.hid hb.size
                clear hown hrows hb hsucc
                obtain ⟨W0, hW0⟩ : ∃ W, W = wr := ⟨_, rfl⟩
                rw [← hW0] at HO HR HB hsz hy ⊢
                clear hg4 hW0 wr
                go_upto_region 19 with (at_make; refine wpList_make_one _ rfl _ _ 41 rfl 3 (.int .i64 0) 8 Tryd.underlying41 infoI rfl n rfl rfl hmb.out hm2.out ?_; intro w5 hown5 hb5 hs5)
                have hy5 : w5.cell? ⟨W0.heap.size, j, none⟩ = some (.int .i64 0) := by rw [hown5.cellAt j (by omega), List.getElem?_replicate]; simp [hltj]
                have hf5 : w5.frozen? ⟨W0.heap.size, j, none⟩ = false := hown5.frozenAt j
                have ho5 := owns_of_row hown5 hm2.out
                rw [← ofL_replicate] at ho5
                obtain ⟨_, a6, c6, e, _, hc6⟩ := open_owns ho5.1
                simp only [Value.slice.injEq] at e
                obtain ⟨rfl, -, rfl⟩ := e
                obtain ⟨g6, off6, e6, hg6, hj6⟩ := hc6 (by omega)
                simp only [Option.some.injEq, Addr.mk.injEq, and_true] at e6
                obtain ⟨rfl, rfl⟩ := e6
                have hst6 := (hj6 j hltj).2.2 1
                rw [Nat.zero_add] at hst6
                obtain ⟨w6, hw6⟩ : ∃ W, W = w5.setCell ⟨W0.heap.size, j, none⟩ (.int .i64 1) := ⟨_, rfl⟩
                have HO6 : Hid (Owns w6 3 1 (.slice (some ⟨W0.heap.size, 0, none⟩) n n) n (ofL (Lin.freeFill p n R j 0))) := by rw [hw6]; exact hst6
                have HB6 : Hid (Below W0.heap.size W0 w6) := by rw [hw6]; exact hb5.setCell (p := ⟨W0.heap.size, j, none⟩) (Nat.le_refl _) _
                have HW6 := Lib.hid hw6
                clear hw6 hst6 hj6 hg6 hc6 ho5 hown5 hb5 hs5
                go_wp2
                rw [← HW6.out]
                clear HW6 hy5 hf5 w5
                go_loopw [62] (fun i wr => ∃ k : Nat, k ≤ rr ∧ i = .int .i64 k ∧ Owns wr 3 1 (.slice (some ⟨W0.heap.size, 0, none⟩) n n) n (ofL (Lin.freeFill p n R j k)) ∧ Below W0.heap.size W0 wr) (fun i _ => rr + 1 - (intOf i).toNat)
                case atStart => exact ⟨0, by omega, rfl, HO6.out, HB6.out⟩
                case round =>
                  obtain ⟨k, hk, rfl, ho, hb⟩ := hrel
                  by_cases hlt2 : k < rr
                  · have hball : Below w1.heap.size w1 wr := (HB4.out.trans (HB.out.mono HB4.out.size)).trans (hb.mono (Nat.le_trans HB4.out.size hsz.out))
                    obtain ⟨g, off, r, rfl, hg, hcell, hrd⟩ := HC1.out k hlt2
                    have hx : wr.cell? ⟨g, off + k, none⟩ = some r := (hball.cell hg).trans hcell
                    have hrd2 := hrd.below hball
                    have hlr := HRE.out.2 k hlt2
                    rw [hlr.1] at hrd2
                    have hcl := Lib.hid ((spLead_any r n (lAt R k) wr.drew (hrd2.below ((Below.refl _ _).drew))).mono fun e w' h => And.intro h.1 h.2.symm)
                    obtain ⟨hl3, ar, cr, rfl, hmr, hcr⟩ := open_reads hrd2
                    obtain ⟨gr, offr, rfl, hgr, hcellr⟩ := hcr (by omega)
                    have hu : wr.cell? ⟨gr, offr + j, none⟩ = some (.int .i64 (at2 R k j)) := hcellr j hltj
                    have hub := hlr.2 j hltj
                    have hq := HLD.out k hlt2
                    obtain ⟨_, a4, c4, e, _, hc4⟩ := open_owns ho
                    simp only [Value.slice.injEq] at e
                    obtain ⟨rfl, -, rfl⟩ := e
                    obtain ⟨g4, off4, e4, hg4, hj4⟩ := hc4 (by omega)
                    simp only [Option.some.injEq, Addr.mk.injEq, and_true] at e4
                    obtain ⟨rfl, rfl⟩ := e4
                    have hyy := (hj4 _ hq).1
                    have hfrz := (hj4 _ hq).2.1
                    have hst := (hj4 _ hq).2.2 ((-(at2 R k j)) % p)
                    rw [show (Lin.freeFill p n R j k).set (Lin.leadOf (lAt R k)) ((-(at2 R k j)) % p) = Lin.freeFill p n R j (k + 1) from rfl] at hst
                    rw [Nat.zero_add] at hyy hfrz hst
                    obtain ⟨q, hqe⟩ : ∃ q, Lin.leadOf (lAt R k) = q := ⟨_, rfl⟩
                    rw [hqe] at hyy hfrz hst hcl hq
                    generalize at2 R k j = xr at *
                    obtain ⟨z, hz⟩ : ∃ z, (-xr) % p = z := ⟨_, rfl⟩
                    have hneg := Lib.hid (fun W => (fdNeg_any p xr h2 h97 hub.1 hub.2 W).mono fun e w' h => And.intro h.1 h.2.symm)
                    rw [neg_same, hz] at hneg
                    rw [hz] at hst
                    have H1 := Lib.hid hst
                    have H2 := Lib.hid (hb.setCell (p := ⟨W0.heap.size, q, none⟩) (Nat.le_refl _) (.int .i64 z))
                    have hk0 : 0 ≤ (k : Int) := by omega
                    have hkn : (k : Int) < (rr : Int) := by omega
                    have hq0 : 0 ≤ (q : Int) := by omega
                    have hqn : (q : Int) < (n : Int) := by omega
                    clear ho hb hc4 hj4 hst hrd hrd2 hcell hqe hcellr hcr hl3 hlr hub hz hball hgr
                    generalize (Lin.freeFill p n R j k)[q]?.getD 0 = yy at *
                    go_wp2
                    go_still_tail 13, (by kernel_rfl)
                    still_call hcl.out
                    repeat still_step
                    still_call (hneg.out _)
                    repeat still_step
                    refine wpStill_nil ?_
                    change wpList _ _ _ _ _ wr.drew
                    go_wp2
                    go_roundw
                    case rel => exact ⟨k + 1, by omega, by go_num, H1.out, H2.out.drew⟩
                    case measure => simp [intOf]; omega
                  · have hkr : k = rr := by omega
                    rw [hkr] at ho hlt2 ⊢
                    clear hkr hk k
                    obtain ⟨w7, hw7⟩ : ∃ W, W = wr := ⟨_, rfl⟩
                    rw [← hw7] at ho hb ⊢
                    have hown7 := Lib.hid (ownsRow_below HO.out hb)
                    have hl1 := HLEN.out (j + 1) (by omega)
                    have hsu := HSUC.out
                    have hlj : (Lin.nullUpto p n R (j + 1)).length = (Lin.nullUpto p n R j).length + 1 := by rw [hsu]; simp
                    have hm3 := Lib.hid (show (Lin.nullUpto p n R j).length + 1 ≤ maxLen by have := hm2.out; omega)
                    have hm4 := Lib.hid (show ((Lin.nullUpto p n R j).length + 1) * 24 ≤ 140737488355328 by omega)
                    have hsz2 := Lib.hid (show w4.heap.size ≤ w7.heap.size from Nat.le_trans hsz.out hb.size)
                    have hfl : (Lin.freeFill p n R j rr).length = n := Lin.freeFill_length p n R j rr
                    have HO7 := Lib.hid ho
                    have HB7 := Lib.hid hb
                    have HSU := Lib.hid hsu
                    have HLJ := Lib.hid hlj
                    have HFL := Lib.hid hfl
                    clear ho hb hw7 wr hsu hlj hl1 hfl HO6 HB6
                    go_wp2_with (at_builtin; go_must (refine wpList_append_one _ rfl _ _ 22 rfl w4.heap.size 41 (.slice none 0 0) 24 Tryd.underlying22 infoS rfl _ _ _ (.slice (some ⟨W0.heap.size, 0, none⟩) n n) hown7.out rfl rfl rfl hm3.out hm4.out hsz2.out ?_); intro v' w8 hown8 hg8)
                    have hpush := push_row (l := Lin.freeFill p n R j rr) HO.out HR.out HB.out (fun g hg => Nat.le_trans hsz.out hg) hsz.out (by rw [HFL.out]; exact HO7.out) (fun g _ hg => by simp [Value.ownBlock] at hg; omega) HB7.out hg8
                    rw [← HSU.out] at hpush
                    rw [← HLJ.out] at hown8
                    have H1 := Lib.hid hown8
                    have H2 := Lib.hid hpush.1
                    have H3 := Lib.hid hpush.2
                    clear hown8 hg8 hpush
                    go_wp2
                    go_roundw
                    case rel => exact ⟨j + 1, _, _, by omega, by go_num, rfl, H1.out, H2.out, H3.out⟩
                    case measure => simp [intOf]; omega
            · have hjn : j = n := by omega
              rw [hjn] at hown hrows hltj ⊢
              clear hjn hj j
              have hl1 := HLEN.out n (Nat.le_refl n)
              have h1 := owns_of_row hown (Nat.le_trans hl1 hm2.out)
              have hO : OwnsM (w4.heap.size ≤ ·) wr u12 (Lin.nullUpto p n R n) := ⟨rs, h1.1, h1.2, hrows⟩
              obtain ⟨ao, co, hu⟩ := hO.reads.form
              have hcal := Lib.hid (hfinal.out wr u12 hO.reads)
              have HBB := Lib.hid (HB1.out.trans ((HB4.out.trans (hb.mono HB4.out.size)).mono HB1.out.size))
              rw [hu] at hcal
              subst hu
              generalize (Lin.nullUpto p n R n).length = len at *
              clear hown hrows hb h1 hO hfinal
              go_wp2_with fail
              refine hcal.out.mono ?_
              rintro e w9 ⟨v9, rfl, ho9, hb9⟩
              obtain ⟨a9, c9, rfl⟩ := ho9.reads.form
              have hfin : Hid (NewRows w Z (.returned (.slice a9 Z.length c9)) w9) := ⟨_, rfl, ho9.mono fun g hg => Nat.le_trans HBB.out.size hg, HBB.out.trans (hb9.mono HBB.out.size)⟩
              clear ho9 hb9
              go_wp2
              go_ret
              exact hfin.out

end Ints
end Go.Proofs.YtimjlcnljefbbaaDoor
