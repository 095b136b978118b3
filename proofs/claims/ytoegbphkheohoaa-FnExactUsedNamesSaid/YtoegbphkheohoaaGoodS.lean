/- A term's type and a valid library: the reference. -/
import Derived.Test.YtoegbphkheohoaaScanF
import Derived.Test.YtoegbphkheohoaaGoodP
import Derived.Test.YtoegbphkheohoaaFind
import Derived.OwnWalk
namespace Go.Proofs.Ytoegbphkheohoaa
open Go.RowKit
namespace Ints
open Fld (inR l1In_any)

/-- A type, or nothing, as the functions return it. -/
def typP (o : Option (Int × Int)) : Int × Int := o.getD (0, 0)
theorem typ_eq (o : Option (Int × Int)) (a b : Int) : (o == some (a, b)) = (o.isSome && ((typP o).1 == a && (typP o).2 == b)) := by
  cases o with
  | none => rfl
  | some p => obtain ⟨x, y⟩ := p; rfl

set_option maxRecDepth 100000 in
set_option maxHeartbeats 2000000 in
theorem lbType_any (vd vn : Value) (ds : List DefL) (ns : List NodeL) (hbd : bndD ds) (w : World) (hd : ReadsD w vd ds) (h : ReadsN w vn ns) :
    Calls Try.prog 54 #[vd, .agg #[vn]] w fun e w' => e = .returned (.tuple #[.int .i64 (typP (typeOf ds ns)).1, .int .i64 (typP (typeOf ds ns)).2, .bool (typeOf ds ns).isSome]) ∧ Below w.heap.size w w' := by
  obtain ⟨W1, hW1⟩ : ∃ W, W = w.alloc (.cells #[vn] 35) := ⟨_, rfl⟩
  have hB := Lib.hid (show Below w.heap.size w W1 by rw [hW1]; exact below_alloc (Below.refl _ _))
  have hs := Lib.hid (lbScan_any vd vn ds ns hbd W1 (hd.below hB.out) (h.below hB.out))
  have HST := Lib.hid (scan_type hbd ns)
  have hx0 : W1.cell? ⟨w.heap.size, 0, none⟩ = some vn := by rw [hW1]; simp [go_sem]
  obtain ⟨a, cap, rfl⟩ := h.form
  obtain ⟨ad, capd, rfl⟩ := hd.form
  obtain ⟨n, hn⟩ : ∃ n, ns.length = n := ⟨_, rfl⟩
  obtain ⟨ok, hok⟩ : ∃ b, scanB ds ns = b := ⟨_, rfl⟩
  have hl : ok = true → 1 ≤ n ∧ n ≤ 400 := by
    intro h0
    rw [h0] at hok
    unfold scanB at hok
    rw [Bool.and_eq_true, decide_eq_true_eq, hn] at hok
    exact hok.1
  obtain ⟨o, ho⟩ : ∃ o, typeOf ds ns = o := ⟨_, rfl⟩
  rw [ho, hok, hn] at HST
  rw [hok, hn] at hs
  rw [hn] at hx0 hW1
  rw [ho, hn]
  have HW := Lib.hid hW1
  clear h hd hn hok ho hW1
  cases ok with
  | false =>
    have hon : o = none := by
      rcases HST.out with h | ⟨tr, p, h, -⟩
      · exact h.2
      · cases h
    subst hon
    clear hl hx0 HST
    go_enter Try.func54, Try.ntmps54
    go_wp2_with fail
    rw [← HW.out]
    refine hs.out.mono ?_
    rintro e w1 ⟨a1, n1, c1, a2, n2, c2, a3, n3, c3, rfl, -, hb⟩
    have HB1 := Lib.hid (below_step hB.out hb)
    clear hb
    go_wp2
    go_ret3
    exact ⟨rfl, below_alloc HB1.out⟩
  | true =>
    obtain ⟨q, rfl⟩ : ∃ q, n = q + 1 := ⟨n - 1, by have := hl rfl; omega⟩
    have hq : q + 1 ≤ 400 := (hl rfl).2
    obtain ⟨tr, p, hrun, rfl, hlen, hwi⟩ : ∃ tr p, runS ds ns = some tr ∧ o = some p ∧ tr.length = q + 1 ∧ wiAt tr q = p := by
      rcases HST.out with h | ⟨tr, p, -, h1, h2, h3, -, h5⟩
      · cases h.1
      · exact ⟨tr, p, h1, h2, h3, h5⟩
    have hw1 : IntKind.i64.wrap ((q : Int) + 1 - 1) = (q : Int) := by rw [show (q : Int) + 1 - 1 = (q : Int) by omega]; exact IntWalk.i64_in _ (by omega)
    have hw2 : IntKind.i64.wrap (q : Int) = (q : Int) := IntWalk.i64_in _ (by omega)
    have hq0 : 0 ≤ (q : Int) := by omega
    have hql : (q : Int) < (q : Int) + 1 := by omega
    have HRUN := Lib.hid (And.intro hrun (And.intro hlen hwi))
    clear hl HST hrun hlen hwi
    go_enter Try.func54, Try.ntmps54
    go_wp2_with fail
    rw [← HW.out]
    refine hs.out.mono ?_
    rintro e w1 ⟨a1, n1, c1, a2, n2, c2, a3, n3, c3, rfl, hr, hb⟩
    obtain ⟨tr', e', -, h2, h3⟩ := hr rfl
    rw [HRUN.out.1] at e'
    cases e'
    have hz0 := cell_old hb hx0
    obtain ⟨l2, _, _, e2, -, hc2⟩ := open_reads h2
    obtain ⟨l3, _, _, e3, -, hc3⟩ := open_reads h3
    simp only [Value.slice.injEq] at e2 e3
    obtain ⟨rfl, rfl, rfl⟩ := e2
    obtain ⟨rfl, rfl, rfl⟩ := e3
    rw [HRUN.out.2.1] at hc2 hc3 ⊢
    obtain ⟨g2, o2, rfl, hg2, hc2⟩ := hc2 (by omega)
    obtain ⟨g3, o3, rfl, hg3, hc3⟩ := hc3 (by omega)
    have u2 := hc2 q (by omega)
    have u3 := hc3 q (by omega)
    rw [inL_at, HRUN.out.2.2] at u2
    rw [ouL_at, HRUN.out.2.2] at u3
    have HB1 := Lib.hid (below_step hB.out hb)
    have hkp : Below w1.heap.size w1 (w1.alloc (.cells #[.slice a1 n1 c1, .slice (some ⟨g2, o2, none⟩) (q + 1) c2, .slice (some ⟨g3, o3, none⟩) (q + 1) c3] 67)) := below_alloc (Below.refl _ _)
    replace hz0 := cell_old hkp hz0
    replace u2 := cell_old hkp u2
    replace u3 := cell_old hkp u3
    clear hkp hb hr h2 h3 l2 l3 hc2 hc3 hx0 hg2 hg3
    go_wp2
    go_quiet (fail)
    go_wp2
    go_ret3
    exact ⟨rfl, Below.drewN' (below_alloc HB1.out) _⟩

theorem defB_name {ds : List DefL} {k : Nat} (h : nameB (dAt ds k).name = false) : defB ds k = false := by
  unfold defB
  rw [h]
  rfl
theorem defB_eq {ds : List DefL} {k : Nat} (h : nameB (dAt ds k).name = true) : defB ds k = ((findD (ds.take k) (dAt ds k).name).isNone && (typeOf (ds.take k) (dAt ds k).body == some ((dAt ds k).inp, (dAt ds k).out))) := by
  unfold defB
  rw [h]
  rfl

set_option maxRecDepth 100000 in
set_option maxHeartbeats 4000000 in
theorem lbGood_any (v : Value) (ds : List DefL) (w : World) (h : ReadsD w v ds) : Calls Try.prog 41 #[v] w fun e w' => e = .returned (.bool (libB ds)) ∧ Below w.heap.size w w' := by
  obtain ⟨a, cap, rfl, hm, hc⟩ := open_readsD h
  obtain ⟨n, hn⟩ : ∃ n, ds.length = n := ⟨_, rfl⟩
  have HTK := Lib.hid (show ∀ W, Below w.heap.size w W → ∀ k, k ≤ n → k ≤ cap ∧ ReadsD W (.slice a k cap) (ds.take k) from fun W hW k hk => (reads_take (h.below hW) (by omega)).2)
  have HN := Lib.hid hn
  have HC := Lib.hid hc
  obtain ⟨r, hr⟩ : ∃ r, libB ds = r := ⟨_, rfl⟩
  have HR := Lib.hid hr
  rw [hr]
  rw [hn] at hm ⊢
  clear h hc hn hr
  by_cases h12 : n ≤ 12
  · have d12 : decide ((12 : Int) < (n : Int)) = false := by simp; omega
    have hno := Lib.hid (fun k (hk : k < n) (h : defB ds k = false) => HR.out.symm.trans (libB_no (ds := ds) (k := k) (by rw [HN.out]; exact hk) h))
    go_enter Try.func41, Try.ntmps41
    go_wp2
    go_loopw [13] (fun i wr => ∃ k : Nat, k ≤ n ∧ i = .int .i64 k ∧ Hid ((∀ j, j < k → defB ds j = true) ∧ Below w.heap.size w wr)) (fun i _ => n + 1 - (intOf i).toNat)
    case atStart => exact ⟨0, by omega, rfl, Lib.hid ⟨fun j hj => by omega, Below.refl _ _⟩⟩
    case round =>
      obtain ⟨k, hk, rfl, H⟩ := hrel
      by_cases hlt : k < n
      · obtain ⟨g, off, a1, c1, rfl, hg, hE⟩ := HC.out k (by rw [HN.out]; exact hlt)
        obtain ⟨x0, x1, x2, x3, hbody⟩ := hE.below H.out.2
        have hk0 : 0 ≤ (k : Int) := by omega
        have hkn : (k : Int) < (n : Int) := by omega
        have hkn' : (k : Int) ≤ (n : Int) := by omega
        obtain ⟨hkc, hrd⟩ := HTK.out wr H.out.2 k hk
        have hkc' : (k : Int) ≤ (cap : Int) := by omega
        obtain ⟨W1, hW1⟩ : ∃ W, W = wr.alloc (.cells #[.string (dAt ds k).name, .int .i64 (dAt ds k).inp, .int .i64 (dAt ds k).out, .slice a1 (dAt ds k).body.length c1] 55) := ⟨_, rfl⟩
        have HBW := Lib.hid (show Below wr.heap.size wr W1 by rw [hW1]; exact below_alloc (Below.refl _ _))
        have hnm := Lib.hid (fun W => lbName_any (dAt ds k).name W)
        have hfd := Lib.hid (fun W (hW : Below W1.heap.size W1 W) => lbFind_any _ (ds.take k) (dAt ds k).name W ((hrd.below HBW.out).below hW))
        have hpre := prefix_good (ds := ds) k (by rw [HN.out]; exact hk) H.out.1
        have hty := Lib.hid (fun W (hW : Below W1.heap.size W1 W) => lbType_any _ _ (ds.take k) (dAt ds k).body hpre.1 W ((hrd.below HBW.out).below hW) ((hbody.below HBW.out).below hW))
        have z0 : W1.cell? ⟨wr.heap.size, 0, none⟩ = some (.string (dAt ds k).name) := by rw [hW1]; simp [go_sem]
        have z1 : W1.cell? ⟨wr.heap.size, 1, none⟩ = some (.int .i64 (dAt ds k).inp) := by rw [hW1]; simp [go_sem]
        have z2 : W1.cell? ⟨wr.heap.size, 2, none⟩ = some (.int .i64 (dAt ds k).out) := by rw [hW1]; simp [go_sem]
        have z3 : W1.cell? ⟨wr.heap.size, 3, none⟩ = some (.slice a1 (dAt ds k).body.length c1) := by rw [hW1]; simp [go_sem]
        have hstep := Lib.hid (fun (h : defB ds k = true) (j : Nat) (hj : j < k + 1) => show defB ds j = true from by
          by_cases hjk : j < k
          · exact H.out.1 j hjk
          · obtain rfl : j = k := by omega
            exact h)
        have hnok := Lib.hid (hno.out k hlt)
        have hdn := Lib.hid (defB_name (ds := ds) (k := k))
        have hde := Lib.hid (defB_eq (ds := ds) (k := k))
        have HBR := Lib.hid (below_step H.out.2 HBW.out)
        obtain ⟨b, hb⟩ : ∃ b, defB ds k = b := ⟨_, rfl⟩
        rw [hb] at hstep hnok hdn hde
        obtain ⟨nb, hnb⟩ : ∃ b, nameB (dAt ds k).name = b := ⟨_, rfl⟩
        rw [hnb] at hnm hdn hde
        obtain ⟨fd, hfd2⟩ : ∃ o, findD (ds.take k) (dAt ds k).name = o := ⟨_, rfl⟩
        rw [hfd2] at hfd hde
        rw [typ_eq] at hde
        obtain ⟨tp, htp⟩ : ∃ o, typeOf (ds.take k) (dAt ds k).body = o := ⟨_, rfl⟩
        rw [htp] at hty hde
        obtain ⟨px, hpx⟩ : ∃ o, (typP tp).1 = o := ⟨_, rfl⟩
        obtain ⟨py, hpy⟩ : ∃ o, (typP tp).2 = o := ⟨_, rfl⟩
        obtain ⟨tb, htb⟩ : ∃ o, tp.isSome = o := ⟨_, rfl⟩
        rw [hpx, hpy, htb] at hty hde
        obtain ⟨jv, hjv⟩ : ∃ o, idxI fd = o := ⟨_, rfl⟩
        rw [hjv] at hfd
        obtain ⟨s, hs⟩ : ∃ s, (dAt ds k).name = s := ⟨_, rfl⟩
        obtain ⟨pi, hpi⟩ : ∃ s, (dAt ds k).inp = s := ⟨_, rfl⟩
        obtain ⟨po, hpo⟩ : ∃ s, (dAt ds k).out = s := ⟨_, rfl⟩
        obtain ⟨bl, hbl⟩ : ∃ s, (dAt ds k).body.length = s := ⟨_, rfl⟩
        rw [hs] at x0 z0 hW1 hnm hfd
        rw [hpi] at x1 z1 hW1 hde
        rw [hpo] at x2 z2 hW1 hde
        rw [hbl] at x3 z3 hW1 hty
        have HW1 := Lib.hid hW1
        have Z0 : ∀ W, Below W1.heap.size W1 W → W.cell? ⟨wr.heap.size, 0, none⟩ = some (.string s) := fun W hW => cell_old hW z0
        have Z1 : ∀ W, Below W1.heap.size W1 W → W.cell? ⟨wr.heap.size, 1, none⟩ = some (.int .i64 pi) := fun W hW => cell_old hW z1
        have Z2 : ∀ W, Below W1.heap.size W1 W → W.cell? ⟨wr.heap.size, 2, none⟩ = some (.int .i64 po) := fun W hW => cell_old hW z2
        have Z3 : ∀ W, Below W1.heap.size W1 W → W.cell? ⟨wr.heap.size, 3, none⟩ = some (.slice a1 bl c1) := fun W hW => cell_old hW z3
        clear hE hb hnb hfd2 htp hpx hpy htb hs hpi hpo hbl hW1 hrd hbody hpre hg z0 z1 z2 z3
        cases nb with
        | false =>
          have hrf := Lib.hid (hnok.out (hdn.out rfl))
          go_upto_region 6 with fail
          rw [← HW1.out]
          have z0 := Z0 W1 (Below.refl _ _)
          first | (go_region_with (first | (go_at_call 53; (with_reducible refine (hnm.out _).mono ?_); rintro e w_1 ⟨rfl, hb_1⟩) | fail "no arm")) | fail "region"
          all_goals
            have HF := Lib.hid (below_step HBR.out (show Below W1.heap.size W1 w_1 by ((repeat (first | exact Below.refl _ _ | assumption | apply below_alloc | refine Below.drew ?_ | refine below_step ?_ hb_1)); done)))
            clear hb_1
            go_wp2
            go_ret
            exact ⟨ret_bool hrf.out.symm, HF.out⟩
        | true =>
          go_upto_region 6 with fail
          rw [← HW1.out]
          cases fd with
          | some j =>
            have hj : jv = (j : Int) := hjv.symm
            have dj : decide (0 ≤ (j : Int)) = true := by simp
            have hrf := Lib.hid (hnok.out (by rw [hde.out rfl]; rfl))
            rw [hj] at hfd
            clear hjv hj
            go_region_held3 (fun W => Below W1.heap.size W1 W)
              (first | ((repeat (first | exact Below.refl _ _ | assumption | apply below_alloc | refine Below.drew ?_ | refine below_step ?_ hb_2 | refine below_step ?_ hb_1)); done))
              (first
                | (go_at_call 53; (with_reducible refine (hnm.out _).mono ?_); rintro e w_1 ⟨rfl, hb_1⟩)
                | (go_at_call 33; (with_reducible refine (hfd.out _ (by repeat (first | exact Below.refl _ _ | assumption | apply below_alloc | refine Below.drew ?_ | refine below_step ?_ hb_1))).mono ?_); rintro e w_2 ⟨rfl, hb_2⟩))
            all_goals
              have HF := Lib.hid (below_step HBR.out (show Below W1.heap.size W1 w_2 by ((repeat (first | exact Below.refl _ _ | assumption | apply below_alloc | refine Below.drew ?_ | refine below_step ?_ hb_2 | refine below_step ?_ hb_1)); done)))
              clear hb_1 hb_2
              go_wp2
              go_ret
              exact ⟨ret_bool hrf.out.symm, HF.out⟩
          | none =>
            have hj : jv = -1 := hjv.symm
            have dj : decide (0 ≤ (-1 : Int)) = false := rfl
            rw [hj] at hfd
            have hdf : Hid (b = (tb && (px == pi && py == po))) := by
              show _ = _
              rw [hde.out rfl]
              rfl
            clear hjv hj hde hdn
            go_region_held3 (fun W => Below W1.heap.size W1 W)
              (first | ((repeat (first | exact Below.refl _ _ | assumption | apply below_alloc | refine Below.drew ?_ | refine below_step ?_ hb_2 | refine below_step ?_ hb_1)); done))
              (first
                | (go_at_call 53; (with_reducible refine (hnm.out _).mono ?_); rintro e w_1 ⟨rfl, hb_1⟩)
                | (go_at_call 33; (with_reducible refine (hfd.out _ (by repeat (first | exact Below.refl _ _ | assumption | apply below_alloc | refine Below.drew ?_ | refine below_step ?_ hb_1))).mono ?_); rintro e w_2 ⟨rfl, hb_2⟩))
            have HB2 := Lib.hid (show Below W1.heap.size W1 w_2 by ((repeat (first | exact Below.refl _ _ | assumption | apply below_alloc | refine Below.drew ?_ | refine below_step ?_ hb_2 | refine below_step ?_ hb_1)); done))
            have hb2 := HB2.out
            clear hb_1 hb_2 hnm hfd
            go_upto_region 8 with fail
            go_region_held3 (fun W => Below W1.heap.size W1 W)
              (first | ((repeat (first | exact Below.refl _ _ | assumption | apply below_alloc | refine Below.drew ?_ | refine below_step ?_ hb_3)); done))
              (first | (go_at_call 54; (with_reducible refine (hty.out _ (by repeat (first | exact Below.refl _ _ | assumption | apply below_alloc | refine Below.drew ?_))).mono ?_); rintro e w_3 ⟨rfl, hb_3⟩))
            have HB3 := Lib.hid (show Below W1.heap.size W1 w_3 by ((repeat (first | exact Below.refl _ _ | assumption | apply below_alloc | refine Below.drew ?_ | refine below_step ?_ hb_3)); done))
            have y1 := Z1 _ HB3.out
            have y2 := Z2 _ HB3.out
            have HF := Lib.hid (below_step HBR.out HB3.out)
            clear hb_3 hb2 hty Z0 Z1 Z2 Z3 x0 x1 x2 x3
            cases tb with
            | false =>
              have hrf := Lib.hid (hnok.out hdf.out)
              go_wp2
              go_ret
              exact ⟨ret_bool hrf.out.symm, HF.out⟩
            | true =>
              by_cases hx : px = pi
              · have bx : (px != pi) = false := by simp [hx]
                by_cases hy : py = po
                · have by' : (py != po) = false := by simp [hy]
                  have hnx := Lib.hid (hstep.out (by rw [hdf.out]; simp [hx, hy]))
                  clear hx hy
                  go_wp2
                  go_roundw
                  case rel => exact ⟨k + 1, by omega, by go_num, Lib.hid ⟨hnx.out, HF.out⟩⟩
                  case measure => simp [intOf]; omega
                · have by' : (py != po) = true := by simp [hy]
                  have hrf := Lib.hid (hnok.out (by rw [hdf.out]; simp [hy]))
                  clear hx hy
                  go_wp2
                  go_ret
                  exact ⟨ret_bool hrf.out.symm, HF.out⟩
              · have bx : (px != pi) = true := by simp [hx]
                have hrf := Lib.hid (hnok.out (by rw [hdf.out]; simp [hx]))
                clear hx
                go_wp2
                go_ret
                exact ⟨ret_bool hrf.out.symm, HF.out⟩
      · obtain rfl : k = n := by omega
        have hrt : Hid (r = true) := by
          show _ = _
          rw [← HR.out]
          exact libB_yes (by rw [HN.out]; exact h12) fun j hj => H.out.1 j (by rw [← HN.out]; exact hj)
        have HF := Lib.hid H.out.2
        go_wp2
        go_ret
        exact ⟨ret_bool hrt.out.symm, HF.out⟩
  · have d12 : decide ((12 : Int) < (n : Int)) = true := by simp; omega
    have hrf : Hid (r = false) := by
      show _ = _
      rw [← HR.out]
      exact libB_long (by rw [HN.out]; exact h12)
    go_enter Try.func41, Try.ntmps41
    go_wp2
    go_ret
    exact ⟨ret_bool hrf.out.symm, Below.refl _ _⟩

end Ints
end Go.Proofs.Ytoegbphkheohoaa
