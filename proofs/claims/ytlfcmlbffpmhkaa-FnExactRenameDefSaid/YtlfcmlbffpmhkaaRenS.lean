/- A library in which a definition has another name: the reference. -/
import Derived.Test.YtlfcmlbffpmhkaaRenD
namespace Go.Proofs.Ytlfcmlbffpmhkaa
open Go.RowKit
namespace Ints

set_option maxRecDepth 100000 in
set_option maxHeartbeats 8000000 in
theorem specRN_any (vd : Value) (ds : List DefL) (s t : ByteArray) (hbd : totD ds ≤ 1048576) (_hs : s.size ≤ 1048576) (ht : t.size ≤ 1048576) (w : World) (hd : ReadsD w vd ds) :
    Calls Try.prog 38 #[vd, .string s, .string t] w (LibOut w (renB ds s t) (renR ds s t)) := by
  have htot : totD (ds.map (renD s t)) ≤ 10000000000000 := by
    have h1 := renD_tot s t ds
    have h2 : totD ds * t.size ≤ 1048576 * 1048576 := Nat.mul_le_mul hbd ht
    omega
  have HG := Lib.hid (fun W (hW : Below w.heap.size w W) => lbGood_any vd ds W (hd.below hW))
  have HF := Lib.hid (fun W (hW : Below w.heap.size w W) => lbFind_any vd ds s W (hd.below hW))
  have HCP := Lib.hid (fun W (hW : Below w.heap.size w W) => lbOwn_any vd ds W (hd.below hW) (by omega))
  have HV := Lib.hid (fun v W hv => lbIf_any v (ds.map (renD s t)) W hv)
  obtain ⟨ad, cd, rfl⟩ := hd.form
  obtain ⟨n, hn⟩ : ∃ n, ds.length = n := ⟨_, rfl⟩
  have HN := Lib.hid hn
  have hn12 : libB ds = true → n ≤ 12 := fun e => by rw [← hn]; exact (libB_all e).1
  rw [hn] at HG HF HCP ⊢
  unfold renB renR
  clear hd hbd ht htot hn
  cases hl : libB ds with
  | false =>
    rw [hl] at HG
    clear hl hn12
    rw [Bool.false_and, Bool.false_and, if_neg (fun h => by cases h.1)]
    go_enter Try.func38, Try.ntmps38
    go_wp2_with fail
    refine (HG.out w (Below.refl _ _)).mono ?_
    rintro e w1 ⟨rfl, hb1⟩
    have HB1 := Lib.hid hb1
    clear hb1
    go_wp2
    go_ret2
    exact ⟨_, rfl, ownsD_nil _ _, HB1.out⟩
  | true =>
    rw [hl] at HG
    have hn12 := hn12 hl
    clear hl
    cases hfd : findD ds s with
    | none =>
      rw [hfd] at HF
      have hix : idxI none = -1 := rfl
      rw [hix] at HF
      clear hfd hix
      rw [show (none : Option Nat).isSome = false from rfl, Bool.and_false, Bool.false_and, if_neg (fun h => by cases h.2)]
      go_enter Try.func38, Try.ntmps38
      go_wp2_with fail
      refine (HG.out w (Below.refl _ _)).mono ?_
      rintro e w1 ⟨rfl, hb1⟩
      have HB1 := Lib.hid hb1
      clear hb1
      go_wp2_with fail
      refine (HF.out w1 HB1.out).mono ?_
      rintro e w2 ⟨rfl, hb2⟩
      have HB2 := Lib.hid (below_step HB1.out hb2)
      clear hb2
      go_wp2
      go_ret2
      exact ⟨_, rfl, ownsD_nil _ _, HB2.out⟩
    | some ix =>
      rw [hfd] at HF
      have hix : idxI (some ix) = (ix : Int) := rfl
      rw [hix] at HF
      have hilt : decide ((ix : Int) < 0) = false := by simp
      clear hfd hix
      rw [show (some ix).isSome = true from rfl, Bool.and_true, Bool.true_and, if_pos ⟨rfl, rfl⟩]
      obtain ⟨D, hD⟩ : ∃ D, ds.map (renD s t) = D := ⟨_, rfl⟩
      have HD := Lib.hid hD
      rw [hD] at HV ⊢
      clear hD
      go_enter Try.func38, Try.ntmps38
      go_wp2_with fail
      refine (HG.out w (Below.refl _ _)).mono ?_
      rintro e w1 ⟨rfl, hb1⟩
      have HB1 := Lib.hid hb1
      clear hb1
      go_wp2_with fail
      refine (HF.out w1 HB1.out).mono ?_
      rintro e w2 ⟨rfl, hb2⟩
      have HB2 := Lib.hid (below_step HB1.out hb2)
      clear hb2
      go_wp2_with fail
      refine (HCP.out w2 HB2.out).mono ?_
      rintro e w3 ⟨v3, Bs, rfl, hown3, hbo3, hb3⟩
      have hod3 := ownsD_row hown3 rfl (by rw [HN.out]; unfold maxLen; omega) hbo3 (fun _ h => h)
      obtain ⟨a3, c3, rfl⟩ := hod3.reads.form
      have hnl := HN.out
      rw [hnl] at hod3 ⊢
      have HO3 := Lib.hid (hod3.mono (T := (w.heap.size ≤ ·)) fun g hg => Nat.le_trans HB2.out.size hg)
      have HB3 := Lib.hid (below_step HB2.out hb3)
      clear hod3 hown3 hbo3 hb3 hnl
      go_wp2
      go_loopw [24] (fun i wr => ∃ k : Nat, k ≤ n ∧ i = .int .i64 k ∧ Hid (OwnsD (w.heap.size ≤ ·) wr (.slice a3 n c3) (halfRD s t ds k) ∧ Below w.heap.size w wr)) (fun i _ => n + 1 - (intOf i).toNat)
      case atStart => exact ⟨0, by omega, rfl, Lib.hid ⟨by rw [halfRD_zero]; exact HO3.out, HB3.out⟩⟩
      case round =>
        obtain ⟨k, hk, rfl, H⟩ := hrel
        rename World => wo
        by_cases hlt : k < n
        · have hlen : (halfRD s t ds k).length = n := by rw [halfRD_length]; exact HN.out
          have hat := halfRD_at s t ds k (by rw [HN.out]; exact hlt)
          obtain ⟨g, off, cap', cs, B, e, -, hS, hg, c0, c1, c2, c3', hbd, hbg, hK⟩ := H.out.1.openAt (j := k) (by rw [hlen]; exact hlt)
          simp only [Value.slice.injEq, hlen, true_and] at e
          obtain ⟨rfl, rfl⟩ := e
          rw [hat] at c0 c1 c2 hbd hbg hK
          have hnx := halfRD_succ s t ds k (by rw [HN.out]; exact hlt)
          obtain ⟨d, hdd⟩ : ∃ d, dAt ds k = d := ⟨_, rfl⟩
          rw [hdd] at c0 c1 c2 hbd hbg hK hnx
          obtain ⟨nm, inp, out, body⟩ := d
          dsimp only at c0 c1 c2 hbd hbg hK
          have hren : renD s t ⟨nm, inp, out, body⟩ = ⟨renS s t nm, inp, out, body.map (renN s t)⟩ := rfl
          rw [hren] at hnx
          obtain ⟨m, hm⟩ : ∃ m, body.length = m := ⟨_, rfl⟩
          obtain ⟨kb, jb, rfl⟩ := hbd.reads.form
          have hmb := (open_readsN hbd.reads)
          obtain ⟨_, _, _, hmm, _⟩ := hmb
          have HK := Lib.hid (fun w' h1 h2 h3 => hK w' ⟨renS s t nm, inp, out, body.map (renN s t)⟩ (by simp) h1 h2 h3)
          rw [hnx] at HK
          dsimp only at HK
          have hbdo : OwnsN (fun g' => (w.heap.size ≤ g') ∧ ((Value.slice kb body.length jb).ownBlock = some g' ∧ body ≠ [])) wo (.slice kb body.length jb) body := ⟨hbd.1, fun g' hx hg' => ⟨hbd.2 g' hx hg', hg', ofN_ne.1 hx⟩⟩
          have HSg := Lib.hid hS
          have y3 : wo.cell? ⟨g, off + k * 4 + 3, none⟩ = some (.slice kb body.length jb) := (Go.Joins.cell_of_block hg _).trans c3'
          have y0 : wo.cell? ⟨g, off + k * 4, none⟩ = some (.string nm) := (Go.Joins.cell_of_block hg _).trans c0
          have f0 : wo.frozen? ⟨g, off + k * 4, none⟩ = false := Go.Joins.unfrozen_of_block hg _
          obtain ⟨nm2, hnm2⟩ : ∃ x, renS s t nm = x := ⟨_, rfl⟩
          rw [hnm2] at HK
          have hsame1 : ∀ cs' : Array Value, cs' = cs.setIfInBounds (off + k * 4) (.string nm2) → (cs'.setIfInBounds (off + k * 4 + 1) (.int .i64 inp)).setIfInBounds (off + k * 4 + 2) (.int .i64 out) = cs' := by
            intro cs' e
            subst e
            rw [set_same (i := off + k * 4 + 1) (by rw [Array.getElem?_setIfInBounds_ne (by omega)]; exact c1), set_same (i := off + k * 4 + 2) (by rw [Array.getElem?_setIfInBounds_ne (by omega)]; exact c2)]
          obtain ⟨w0, hw0⟩ : ∃ W, W = wo.setCell ⟨g, off + k * 4, none⟩ (.string nm2) := ⟨_, rfl⟩
          obtain ⟨cs2, hcs2⟩ : ∃ c, c = cs.setIfInBounds (off + k * 4) (.string nm2) := ⟨_, rfl⟩
          have hg0 : w0.heap[g]? = some (.cells cs2 56 (0, 0)) := by
            rw [hw0, hcs2]
            exact Go.Joins.block_setCell (g := g) (i := off + k * 4) hg _
          have hc0 : Chg (fun g' => g' = g) wo w0 := by rw [hw0]; exact (Chg.refl (fun g' => g' = g) wo).setCell (p := ⟨g, off + k * 4, none⟩) (fun _ => rfl) _
          rw [← hcs2, hsame1 cs2 hcs2] at HK
          have hb0 := hbdo.chg hc0 (fun g' h1 h2 => hbg g' h1.2.1 h1.2.2 h2)
          have hc3 : cs2[off + k * 4 + 3]? = some (.slice kb body.length jb) := by rw [hcs2, Array.getElem?_setIfInBounds_ne (by omega)]; exact c3'
          rw [hm] at hbg HK hb0 y3 hc3 hmm
          have HMM := Lib.hid hm
          have HBG := Lib.hid hbg
          have HG0 := Lib.hid hg0
          have HC0 := Lib.hid hc0
          have HB0 := Lib.hid hb0
          have HC3 := Lib.hid hc3
          have HBW := Lib.hid H.out.2
          have hk0 : 0 ≤ (k : Int) := by omega
          have hkn : (k : Int) < (n : Int) := by omega
          have hmi : (m : Int) ≤ 9223372036854775807 := by omega
          have heq : Hid (nm2 = if (nm.toList == s.toList) = true then t else nm) := by
            show _ = _
            rw [← hnm2]
            unfold renS
            by_cases he : nm.toList = s.toList
            · rw [if_pos he, if_pos (by simpa using he)]
            · rw [if_neg he, if_neg (by simpa using he)]
          have HW0 := Lib.hid hw0
          have hstay : Hid (nm2 = nm → wo = w0) := fun e => by
            rw [HW0.out, e]
            exact (set_cell_same hg c0).symm
          clear hK hnx hg c0 c1 c2 c3' hat hlen hbd hbg hbdo hS hren hnm2 hsame1 hcs2 hg0 hc0 hb0 hc3 hw0 hm hmm H hdd
          have hinner : ∀ (Q : Prop), True := fun _ => trivial
          clear hinner
          cases he : (nm.toList == s.toList) with
          | true =>
            have e2 := heq.out
            rw [he, if_pos rfl] at e2
            have e3 := e2.symm
            subst e3
            go_wp2
            rw [← HW0.out]

            go_loopw [46] (fun i wr => ∃ j : Nat, j ≤ m ∧ i = .int .i64 j ∧ Hid (wr.heap[g]? = some (.cells cs2 56 (0, 0)) ∧ OwnsN (fun g' => (w.heap.size ≤ g') ∧ ((Value.slice kb m jb).ownBlock = some g' ∧ body ≠ [])) wr (.slice kb m jb) (halfRN s t body j) ∧ Chg (fun g' => g' = g ∨ ((Value.slice kb m jb).ownBlock = some g' ∧ body ≠ [])) wo wr ∧ Below w.heap.size w wr)) (fun i _ => m + 1 - (intOf i).toNat)
            case atStart =>
              refine ⟨0, by omega, rfl, Lib.hid ⟨HG0.out, by rw [halfRN_zero]; exact HB0.out, HC0.out.mono fun _ _ h => .inl h, HBW.out.trans (HC0.out.below HBW.out.size fun g' h => by rw [h]; exact HSg.out)⟩⟩
            case round =>
              obtain ⟨j, hj, rfl, Hi⟩ := hrel
              have z3 : wr.cell? ⟨g, off + k * 4 + 3, none⟩ = some (.slice kb m jb) := (Go.Joins.cell_of_block Hi.out.1 _).trans HC3.out
              by_cases hjt : j < m
              · have hln : (halfRN s t body j).length = m := by rw [halfRN_length]; exact HMM.out
                have hnt := halfRN_at s t body j (by rw [HMM.out]; exact hjt)
                obtain ⟨gB, oB, cB, csB, e, -, hSB, hgB, q0, q1, q2, hKB⟩ := Hi.out.2.1.openAt (j := j) (by rw [hln]; exact hjt)
                simp only [Value.slice.injEq, hln, true_and] at e
                obtain ⟨rfl, rfl⟩ := e
                rw [hnt] at q0 q1 q2
                have hsu := halfRN_succ s t body j (by rw [HMM.out]; exact hjt)
                have hsm := halfRN_same s t body j (by rw [HMM.out]; exact hjt)
                obtain ⟨nd, hnd⟩ : ∃ x, nAt body j = x := ⟨_, rfl⟩
                rw [hnd] at q0 q1 q2 hsu hsm
                obtain ⟨kd, vl, s2⟩ := nd
                dsimp only at q0 q1 q2
                have r0 : wr.cell? ⟨gB, oB + j * 3, none⟩ = some (.int .i64 kd) := (Go.Joins.cell_of_block hgB _).trans q0
                have r1 : wr.cell? ⟨gB, oB + j * 3 + 1, none⟩ = some (.int .i64 vl) := (Go.Joins.cell_of_block hgB _).trans q1
                have r2 : wr.cell? ⟨gB, oB + j * 3 + 2, none⟩ = some (.string s2) := (Go.Joins.cell_of_block hgB _).trans q2
                have p2 : wr.frozen? ⟨gB, oB + j * 3 + 2, none⟩ = false := Go.Joins.unfrozen_of_block hgB _
                obtain ⟨W5, hW5⟩ : ∃ W, W = wr := ⟨_, rfl⟩
                have hb5 : Below wr.heap.size wr W5 := by rw [hW5]; exact Below.refl _ _
                have hj0 : 0 ≤ (j : Int) := by omega
                have hjm : (j : Int) < (m : Int) := by omega
                have hgG : gB ≠ g := fun e => HBG.out gB hSB.2.1 hSB.2.2 e
                have HCG := Lib.hid Hi.out.2.2.1
                have HIB := Lib.hid (below_step Hi.out.2.2.2 hb5)
                have HHG := Lib.hid (block_old Hi.out.1 hb5)
                have HCW := Lib.hid (Hi.out.2.2.1.trans (Below.chg hb5 _))
                have HSAME : Hid (renN s t ⟨kd, vl, s2⟩ = ⟨kd, vl, s2⟩ → OwnsN (fun g' => (w.heap.size ≤ g') ∧ ((Value.slice (some ⟨gB, oB, none⟩) m jb).ownBlock = some g' ∧ body ≠ [])) W5 (.slice (some ⟨gB, oB, none⟩) m jb) (halfRN s t body (j + 1))) := fun e => by
                  rw [hsm e]
                  exact Hi.out.2.1.below hb5
                have HTURN : Hid (renN s t ⟨kd, vl, s2⟩ = ⟨kd, vl, t⟩ → OwnsN (fun g' => (w.heap.size ≤ g') ∧ ((Value.slice (some ⟨gB, oB, none⟩) m jb).ownBlock = some g' ∧ body ≠ [])) (W5.setCell ⟨gB, oB + j * 3 + 2, none⟩ (.string t)) (.slice (some ⟨gB, oB, none⟩) m jb) (halfRN s t body (j + 1)) ∧ (W5.setCell ⟨gB, oB + j * 3 + 2, none⟩ (.string t)).heap[g]? = some (.cells cs2 56 (0, 0)) ∧ Chg (fun g' => g' = g ∨ ((Value.slice (some ⟨gB, oB, none⟩) m jb).ownBlock = some g' ∧ body ≠ [])) wo (W5.setCell ⟨gB, oB + j * 3 + 2, none⟩ (.string t)) ∧ Below w.heap.size w (W5.setCell ⟨gB, oB + j * 3 + 2, none⟩ (.string t))) := fun e => by
                  have hst : (W5.setCell ⟨gB, oB + j * 3 + 2, none⟩ (.string t)).heap[gB]? = some (.cells (csB.setIfInBounds (oB + j * 3 + 2) (.string t)) 69 (0, 0)) := Go.Joins.block_setCell (g := gB) (i := oB + j * 3 + 2) (block_old hgB hb5) _
                  have hc5 := Chg.set1 W5 ⟨gB, oB + j * 3 + 2, none⟩ (.string t)
                  refine ⟨?_, ?_, ?_, ?_⟩
                  · rw [← hsu, e]
                    refine hKB _ ⟨kd, vl, t⟩ ?_
                    dsimp only
                    rw [set_same q0, set_same q1]
                    exact hst
                  · exact (hc5.block g (Array.getElem?_eq_some_iff.1 HHG.out).1 (fun e => hgG e.symm)).trans HHG.out
                  · exact HCW.out.trans (hc5.mono fun g' _ h => .inr (by simp only at h; rw [h]; exact hSB.2))
                  · exact HIB.out.trans (hc5.below HIB.out.size fun g' h => by simp only at h; rw [h]; exact hSB.1)
                have HR := Lib.hid (show (kd = 17 ∧ s2.toList = s.toList → renN s t ⟨kd, vl, s2⟩ = ⟨kd, vl, t⟩) ∧ (¬ (kd = 17 ∧ s2.toList = s.toList) → renN s t ⟨kd, vl, s2⟩ = ⟨kd, vl, s2⟩) from ⟨fun h => by unfold renN; rw [if_pos h], fun h => by unfold renN; rw [if_neg h]⟩)
                have HW5 := Lib.hid hW5
                clear hSB hgB q0 q1 q2 hKB hsu hsm hnd hln hnt hgG hb5 hW5 Hi
                by_cases h17 : kd = 17
                · subst h17
                  cases hes : (s2.toList == s.toList) with
                  | true =>
                    have hfin := Lib.hid (HTURN.out (HR.out.1 ⟨rfl, by simpa using hes⟩))
                    rw [HW5.out] at hfin
                    go_wp2
                    go_roundw
                    case rel => exact ⟨j + 1, by omega, by go_num, Lib.hid ⟨hfin.out.2.1, hfin.out.1, hfin.out.2.2.1, hfin.out.2.2.2⟩⟩
                    case measure => simp [intOf]; omega
                  | false =>
                    have hfin := Lib.hid (HSAME.out (HR.out.2 (fun h => by have := h.2; simp [this] at hes)))
                    rw [HW5.out] at hfin HHG HCW HIB
                    go_wp2
                    go_roundw
                    case rel => exact ⟨j + 1, by omega, by go_num, Lib.hid ⟨HHG.out, hfin.out, HCW.out, HIB.out⟩⟩
                    case measure => simp [intOf]; omega
                · have b17 : (kd == 17) = false := by simpa using h17
                  have hfin := Lib.hid (HSAME.out (HR.out.2 (fun h => h17 h.1)))
                  rw [HW5.out] at hfin HHG HCW HIB
                  clear h17
                  go_wp2
                  go_roundw
                  case rel => exact ⟨j + 1, by omega, by go_num, Lib.hid ⟨HHG.out, hfin.out, HCW.out, HIB.out⟩⟩
                  case measure => simp [intOf]; omega
              · obtain rfl : j = m := by omega
                have hnx : Hid (OwnsD (w.heap.size ≤ ·) wr (.slice (some ⟨g, off, none⟩) n c3) (halfRD s t ds (k + 1)) ∧ Below w.heap.size w wr) := by
                  have h5 := HMM.out
                  have h1 := Hi.out.2.1
                  rw [← h5, halfRN_all, h5] at h1
                  exact Lib.hid ⟨HK.out wr Hi.out.1 ⟨h1.1, fun g' hx hg' => (h1.2 g' hx hg').1⟩ Hi.out.2.2.1, Hi.out.2.2.2⟩
                go_wp2
                go_roundw
                case rel => exact ⟨k + 1, by omega, by go_num, hnx⟩
                case measure => simp [intOf]; omega
          | false =>
            have e2 := heq.out
            rw [he, if_neg (by decide)] at e2
            have hww := hstay.out e2
            rw [hww] at y0 y3 f0
            rw [hww] at HK HC0 HBW
            rw [hww]
            clear HW0 hstay
            obtain ⟨wo, hwp⟩ : ∃ W, W = w0 := ⟨_, rfl⟩
            rw [← hwp] at y0 y3 f0 HK HC0 HBW HG0 HB0 ⊢
            clear hwp hww
            go_wp2
            go_loopw [46] (fun i wr => ∃ j : Nat, j ≤ m ∧ i = .int .i64 j ∧ Hid (wr.heap[g]? = some (.cells cs2 56 (0, 0)) ∧ OwnsN (fun g' => (w.heap.size ≤ g') ∧ ((Value.slice kb m jb).ownBlock = some g' ∧ body ≠ [])) wr (.slice kb m jb) (halfRN s t body j) ∧ Chg (fun g' => g' = g ∨ ((Value.slice kb m jb).ownBlock = some g' ∧ body ≠ [])) wo wr ∧ Below w.heap.size w wr)) (fun i _ => m + 1 - (intOf i).toNat)
            case atStart =>
              refine ⟨0, by omega, rfl, Lib.hid ⟨HG0.out, by rw [halfRN_zero]; exact HB0.out, HC0.out.mono fun _ _ h => .inl h, HBW.out.trans (HC0.out.below HBW.out.size fun g' h => by rw [h]; exact HSg.out)⟩⟩
            case round =>
              obtain ⟨j, hj, rfl, Hi⟩ := hrel
              have z3 : wr.cell? ⟨g, off + k * 4 + 3, none⟩ = some (.slice kb m jb) := (Go.Joins.cell_of_block Hi.out.1 _).trans HC3.out
              by_cases hjt : j < m
              · have hln : (halfRN s t body j).length = m := by rw [halfRN_length]; exact HMM.out
                have hnt := halfRN_at s t body j (by rw [HMM.out]; exact hjt)
                obtain ⟨gB, oB, cB, csB, e, -, hSB, hgB, q0, q1, q2, hKB⟩ := Hi.out.2.1.openAt (j := j) (by rw [hln]; exact hjt)
                simp only [Value.slice.injEq, hln, true_and] at e
                obtain ⟨rfl, rfl⟩ := e
                rw [hnt] at q0 q1 q2
                have hsu := halfRN_succ s t body j (by rw [HMM.out]; exact hjt)
                have hsm := halfRN_same s t body j (by rw [HMM.out]; exact hjt)
                obtain ⟨nd, hnd⟩ : ∃ x, nAt body j = x := ⟨_, rfl⟩
                rw [hnd] at q0 q1 q2 hsu hsm
                obtain ⟨kd, vl, s2⟩ := nd
                dsimp only at q0 q1 q2
                have r0 : wr.cell? ⟨gB, oB + j * 3, none⟩ = some (.int .i64 kd) := (Go.Joins.cell_of_block hgB _).trans q0
                have r1 : wr.cell? ⟨gB, oB + j * 3 + 1, none⟩ = some (.int .i64 vl) := (Go.Joins.cell_of_block hgB _).trans q1
                have r2 : wr.cell? ⟨gB, oB + j * 3 + 2, none⟩ = some (.string s2) := (Go.Joins.cell_of_block hgB _).trans q2
                have p2 : wr.frozen? ⟨gB, oB + j * 3 + 2, none⟩ = false := Go.Joins.unfrozen_of_block hgB _
                obtain ⟨W5, hW5⟩ : ∃ W, W = wr := ⟨_, rfl⟩
                have hb5 : Below wr.heap.size wr W5 := by rw [hW5]; exact Below.refl _ _
                have hj0 : 0 ≤ (j : Int) := by omega
                have hjm : (j : Int) < (m : Int) := by omega
                have hgG : gB ≠ g := fun e => HBG.out gB hSB.2.1 hSB.2.2 e
                have HCG := Lib.hid Hi.out.2.2.1
                have HIB := Lib.hid (below_step Hi.out.2.2.2 hb5)
                have HHG := Lib.hid (block_old Hi.out.1 hb5)
                have HCW := Lib.hid (Hi.out.2.2.1.trans (Below.chg hb5 _))
                have HSAME : Hid (renN s t ⟨kd, vl, s2⟩ = ⟨kd, vl, s2⟩ → OwnsN (fun g' => (w.heap.size ≤ g') ∧ ((Value.slice (some ⟨gB, oB, none⟩) m jb).ownBlock = some g' ∧ body ≠ [])) W5 (.slice (some ⟨gB, oB, none⟩) m jb) (halfRN s t body (j + 1))) := fun e => by
                  rw [hsm e]
                  exact Hi.out.2.1.below hb5
                have HTURN : Hid (renN s t ⟨kd, vl, s2⟩ = ⟨kd, vl, t⟩ → OwnsN (fun g' => (w.heap.size ≤ g') ∧ ((Value.slice (some ⟨gB, oB, none⟩) m jb).ownBlock = some g' ∧ body ≠ [])) (W5.setCell ⟨gB, oB + j * 3 + 2, none⟩ (.string t)) (.slice (some ⟨gB, oB, none⟩) m jb) (halfRN s t body (j + 1)) ∧ (W5.setCell ⟨gB, oB + j * 3 + 2, none⟩ (.string t)).heap[g]? = some (.cells cs2 56 (0, 0)) ∧ Chg (fun g' => g' = g ∨ ((Value.slice (some ⟨gB, oB, none⟩) m jb).ownBlock = some g' ∧ body ≠ [])) wo (W5.setCell ⟨gB, oB + j * 3 + 2, none⟩ (.string t)) ∧ Below w.heap.size w (W5.setCell ⟨gB, oB + j * 3 + 2, none⟩ (.string t))) := fun e => by
                  have hst : (W5.setCell ⟨gB, oB + j * 3 + 2, none⟩ (.string t)).heap[gB]? = some (.cells (csB.setIfInBounds (oB + j * 3 + 2) (.string t)) 69 (0, 0)) := Go.Joins.block_setCell (g := gB) (i := oB + j * 3 + 2) (block_old hgB hb5) _
                  have hc5 := Chg.set1 W5 ⟨gB, oB + j * 3 + 2, none⟩ (.string t)
                  refine ⟨?_, ?_, ?_, ?_⟩
                  · rw [← hsu, e]
                    refine hKB _ ⟨kd, vl, t⟩ ?_
                    dsimp only
                    rw [set_same q0, set_same q1]
                    exact hst
                  · exact (hc5.block g (Array.getElem?_eq_some_iff.1 HHG.out).1 (fun e => hgG e.symm)).trans HHG.out
                  · exact HCW.out.trans (hc5.mono fun g' _ h => .inr (by simp only at h; rw [h]; exact hSB.2))
                  · exact HIB.out.trans (hc5.below HIB.out.size fun g' h => by simp only at h; rw [h]; exact hSB.1)
                have HR := Lib.hid (show (kd = 17 ∧ s2.toList = s.toList → renN s t ⟨kd, vl, s2⟩ = ⟨kd, vl, t⟩) ∧ (¬ (kd = 17 ∧ s2.toList = s.toList) → renN s t ⟨kd, vl, s2⟩ = ⟨kd, vl, s2⟩) from ⟨fun h => by unfold renN; rw [if_pos h], fun h => by unfold renN; rw [if_neg h]⟩)
                have HW5 := Lib.hid hW5
                clear hSB hgB q0 q1 q2 hKB hsu hsm hnd hln hnt hgG hb5 hW5 Hi
                by_cases h17 : kd = 17
                · subst h17
                  cases hes : (s2.toList == s.toList) with
                  | true =>
                    have hfin := Lib.hid (HTURN.out (HR.out.1 ⟨rfl, by simpa using hes⟩))
                    rw [HW5.out] at hfin
                    go_wp2
                    go_roundw
                    case rel => exact ⟨j + 1, by omega, by go_num, Lib.hid ⟨hfin.out.2.1, hfin.out.1, hfin.out.2.2.1, hfin.out.2.2.2⟩⟩
                    case measure => simp [intOf]; omega
                  | false =>
                    have hfin := Lib.hid (HSAME.out (HR.out.2 (fun h => by have := h.2; simp [this] at hes)))
                    rw [HW5.out] at hfin HHG HCW HIB
                    go_wp2
                    go_roundw
                    case rel => exact ⟨j + 1, by omega, by go_num, Lib.hid ⟨HHG.out, hfin.out, HCW.out, HIB.out⟩⟩
                    case measure => simp [intOf]; omega
                · have b17 : (kd == 17) = false := by simpa using h17
                  have hfin := Lib.hid (HSAME.out (HR.out.2 (fun h => h17 h.1)))
                  rw [HW5.out] at hfin HHG HCW HIB
                  clear h17
                  go_wp2
                  go_roundw
                  case rel => exact ⟨j + 1, by omega, by go_num, Lib.hid ⟨HHG.out, hfin.out, HCW.out, HIB.out⟩⟩
                  case measure => simp [intOf]; omega
              · obtain rfl : j = m := by omega
                have hnx : Hid (OwnsD (w.heap.size ≤ ·) wr (.slice (some ⟨g, off, none⟩) n c3) (halfRD s t ds (k + 1)) ∧ Below w.heap.size w wr) := by
                  have h5 := HMM.out
                  have h1 := Hi.out.2.1
                  rw [← h5, halfRN_all, h5] at h1
                  exact Lib.hid ⟨HK.out wr Hi.out.1 ⟨h1.1, fun g' hx hg' => (h1.2 g' hx hg').1⟩ Hi.out.2.2.1, Hi.out.2.2.2⟩
                go_wp2
                go_roundw
                case rel => exact ⟨k + 1, by omega, by go_num, hnx⟩
                case measure => simp [intOf]; omega
        · obtain rfl : k = n := by omega
          have hfin : Hid (OwnsD (w.heap.size ≤ ·) wo (.slice a3 k c3) D ∧ Below w.heap.size w wo) := by
            have h5 := HN.out
            have h1 := H.out.1
            rw [← h5, halfRD_all, HD.out, h5] at h1
            exact Lib.hid ⟨h1, H.out.2⟩
          have hcall := Lib.hid (HV.out _ wo hfin.out.1.reads)
          go_wp2_with fail
          refine hcall.out.mono ?_
          rintro e w5 ⟨v5, rfl, hv5, hb5⟩
          have hlast : Hid (LibOut w (libB D) (libO D) (.returned (.tuple #[v5, .bool (libB D)])) w5) := by
            have q := libO_own (hfin.out.1.below hb5)
            rw [← hv5] at q
            exact Lib.hid ⟨v5, rfl, q, below_step hfin.out.2 hb5⟩
          clear hv5 hb5
          go_wp2
          go_ret2
          exact hlast.out

end Ints
end Go.Proofs.Ytlfcmlbffpmhkaa
