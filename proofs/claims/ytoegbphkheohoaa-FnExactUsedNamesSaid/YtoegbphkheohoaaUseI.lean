/- The names that a term needs: the program. -/
import Derived.Test.YtoegbphkheohoaaUseS
import Derived.Test.YtoegbphkheohoaaTypeInF
import Derived.Test.YtoegbphkheohoaaTreeP
import Derived.Test.YtoegbphkheohoaaCopy
namespace Go.Proofs.Ytoegbphkheohoaa
open Go.RowKit Go.ChangeMaps Go.WideMaps
namespace Ints

def boolRead : Value → Option (DataW Unit × List MemPlace)
  | .bool a => some (.lit (.bool a), [])
  | _ => none
/-- map[string]bool -/
def boolE : Elem Bool where
  t := 58
  e := 4
  read := boolRead
  dat := fun p => .lit (.bool p)
  val := fun p => .bool p
  z := false
  ht := Try.underlying58
  hz := fun w => by kernel_rfl
  good := fun _ => True
  hgz := trivial
  hread := fun a _ => rfl
  hinv := fun v a ps h => by
    unfold boolRead at h
    split at h
    · simp only [Option.some.injEq, Prod.mk.injEq, DataW.lit.injEq, Lit.bool.injEq] at h
      rw [h.1]
    · cases h

/-- What collectNames leaves. -/
def ColOut (ds : List DefL) (K : Nat) (ns : List NodeL) (look : List UInt8 → Option Bool) (b : Nat) (w : World) (e : Ending) (w' : World) : Prop :=
  e = .returned (.tuple #[]) ∧ ∃ m l, MapOf boolE w' b m l ∧ m ≤ cntU ds l ∧ ColU ds K ns look ns.length l ∧ Chg (fun g => g = b) w w'

set_option maxRecDepth 100000 in
set_option maxHeartbeats 4000000 in
theorem collect_any (vd : Value) (ds : List DefL) (hl : libB ds = true) (c : World) (hd : ReadsD c vd ds) (b : Nat) (hcb : c.heap.size ≤ b) : ∀ K : Nat, K ≤ ds.length →
    ∀ (vn : Value) (ns : List NodeL) (w : World) (look : List UInt8 → Option Bool) (m : Nat), ReadsN c vn ns → (∀ j, j < ns.length → (nAt ns j).kind = 17 → ∃ i, findD ds (nAt ns j).name = some i ∧ i < K) →
    Below c.heap.size c w → MapOf boolE w b m look → m ≤ cntU ds look → CloU ds K look → Calls Try.prog 28 #[vd, vn, .map (some b)] w (ColOut ds K ns look b w) := by
  intro K
  induction K using Nat.strongRecOn with
  | ind K ih =>
  intro hK vn ns w look m h hnm hbw hM hm hclo
  have HIH := Lib.hid ih
  have HF := Lib.hid (fun s W (hW : Below c.heap.size c W) => indexOf_any vd ds s W (hd.below hW))
  obtain ⟨ad, cd, rfl, hmd, hc⟩ := open_readsD hd
  obtain ⟨an, cn, rfl, hmn, hcn⟩ := open_readsN h
  have HC := Lib.hid hc
  have HCN := Lib.hid hcn
  have HNM := Lib.hid hnm
  have HBW := Lib.hid hbw
  have HK := Lib.hid hK
  have HCB := Lib.hid hcb
  have HLB := Lib.hid hl
  have h12 := (libB_all hl).1
  obtain ⟨n, hn⟩ : ∃ n, ds.length = n := ⟨_, rfl⟩
  have HN := Lib.hid hn
  obtain ⟨ln, hln⟩ : ∃ n, ns.length = n := ⟨_, rfl⟩
  have HLN := Lib.hid hln
  have HST : Hid (MapOf boolE w b m look ∧ m ≤ cntU ds look ∧ ColU ds K ns look 0 look ∧ Chg (fun g => g = b) w w) := Lib.hid ⟨hM, hm, ColU.start hclo, Chg.refl _ _⟩
  rw [hn] at hmd HF HIH h12 ⊢
  rw [hln] at hmn ⊢
  clear hd h hc hcn hn hln hl hnm hbw hcb hM hm hclo ih hK
  go_enter Try.func28, Try.ntmps28
  go_wp2
  go_loopw [10] (fun i wr => ∃ (k m : Nat) (l : List UInt8 → Option Bool), k ≤ ln ∧ i = .int .i64 k ∧ Hid (MapOf boolE wr b m l ∧ m ≤ cntU ds l ∧ ColU ds K ns look k l ∧ Chg (fun g => g = b) w wr)) (fun i _ => ln + 1 - (intOf i).toNat)
  case atStart => exact ⟨0, m, look, by omega, rfl, HST⟩
  case round =>
    obtain ⟨k, m, l, hk, rfl, H⟩ := hrel
    by_cases hlt : k < ln
    · obtain ⟨gg, on, rfl, hgg, hEn⟩ := HCN.out k (by rw [HLN.out]; exact hlt)
      have HBR := Lib.hid (HBW.out.trans (H.out.2.2.2.below HBW.out.size (fun g hg => by have := HCB.out; omega)))
      obtain ⟨y0, y1, y2⟩ := hEn.below HBR.out
      have hk0 : 0 ≤ (k : Int) := by omega
      have hkl : (k : Int) < (ln : Int) := by omega
      have hnm := HNM.out k (by rw [HLN.out]; exact hlt)
      have HCU := Lib.hid H.out.2.2.1
      have HMC := Lib.hid H.out.2.1
      have HSK := Lib.hid (fun (h17 : (nAt ns k).kind ≠ 17) => H.out.2.2.1.skip h17)
      have HKN := Lib.hid (fun i (hi : findD ds (nAt ns k).name = some i) hm => H.out.2.2.1.known hi hm)
      have HCL := Lib.hid (fun i (h17 : (nAt ns k).kind = 17) (hi : findD ds (nAt ns k).name = some i) hiK l2 h2 => ColU.call (l2 := l2) HLB.out HK.out H.out.2.2.1 h17 hi hiK h2)
      obtain ⟨nd, hnd⟩ : ∃ x, nAt ns k = x := ⟨_, rfl⟩
      rw [hnd] at y0 y1 y2 hnm HSK HKN HCL
      obtain ⟨kd, vl, s2⟩ := nd
      dsimp only at y0 y1 y2 hnm HSK HKN HCL
      obtain ⟨W1, hW1⟩ : ∃ W, W = wr.alloc (.cells #[.int .i64 kd, .int .i64 vl, .string s2] 71) := ⟨_, rfl⟩
      have hb1 : Below wr.heap.size wr W1 := by rw [hW1]; exact below_alloc (Below.refl _ _)
      have HBW1 := Lib.hid (below_step HBR.out hb1)
      have HM1 := Lib.hid (H.out.1.below hb1)
      have HCH := Lib.hid (H.out.2.2.2.trans (Below.chg hb1 _))
      have HBLT := Lib.hid H.out.1.lt
      have HW1 := Lib.hid hW1
      have z0 : W1.cell? ⟨wr.heap.size, 0, none⟩ = some (.int .i64 kd) := by rw [hW1]; simp [go_sem]
      have z2 : W1.cell? ⟨wr.heap.size, 2, none⟩ = some (.string s2) := by rw [hW1]; simp [go_sem]
      have HZ2 := Lib.hid z2
      clear hEn hgg hnd hb1 H z0 z2
      by_cases h17 : kd = 17
      · subst h17
        obtain ⟨i, hi, hiK⟩ := hnm rfl
        have hsz := Lib.hid (show s2.size ≤ maxLen by have := def_small HLB.out hi; unfold maxLen; omega)
        have hin : i < n := by rw [← HN.out]; exact findD_lt hi
        have hnmi : (dAt ds i).name = s2 := findD_name hi
        have hget := HM1.out.get s2 hsz.out
        have hmk : (l s2.toList).getD boolE.z = mkL ds l i := by unfold mkL; rw [hnmi]; rfl
        rw [hmk] at hget
        obtain ⟨q, hq⟩ : ∃ q, mkL ds l i = q := ⟨_, rfl⟩
        rw [hq] at hget
        have hget2 : (Instr.lookup 58 (.map (some b)) (.string s2) false).run Try.prog (wr.alloc (.cells #[.int .i64 17, .int .i64 vl, .string s2] 71)) = .ok (.bool q) (wr.alloc (.cells #[.int .i64 17, .int .i64 vl, .string s2] 71)) := by
          rw [← hW1]; exact hget
        clear hmk hget
        cases q with
        | true =>
          have hnx : Hid (MapOf boolE W1 b m l ∧ m ≤ cntU ds l ∧ ColU ds K ns look (k + 1) l ∧ Chg (fun g => g = b) w W1) := Lib.hid ⟨HM1.out, HMC.out, HKN.out i hi hq, HCH.out⟩
          clear hi hiK hnm hnmi hq hW1 HSK HKN HCL
          go_wp2
          rw [← HW1.out]
          go_roundw
          case rel => exact ⟨k + 1, m, l, by omega, by go_num, hnx⟩
          case measure => simp [intOf]; omega
        | false =>
          have hcl2 := cntU_le ds l
          obtain ⟨w3, hrun, hM3, hch3⟩ := HM1.out.put s2 hsz.out (by have := HMC.out; have := HN.out; unfold maxLen; omega) true trivial
          have hrun2 : (Instr.mapUpdate 58 (.map (some b)) (.string s2) (.bool true)).run Try.prog (wr.alloc (.cells #[.int .i64 17, .int .i64 vl, .string s2] 71)) = .ok () w3 := by
            rw [← hW1]; exact hrun
          have x3b := hch3.keep HZ2.out (by have := HBLT.out; simp only; omega)
          have HB3 := Lib.hid (HBW1.out.trans (hch3.below HBW1.out.size (fun g hg => by have := HCB.out; omega)))
          have hfi := Lib.hid (fun W hW => HF.out s2 W hW)
          rw [hi] at hfi
          have hix : idxI (some i) = (i : Int) := rfl
          rw [hix] at hfi
          have hi0 : 0 ≤ (i : Int) := by omega
          have hil : (i : Int) < (n : Int) := by omega
          obtain ⟨g, off, a1, c1, rfl, hg, hE⟩ := HC.out i (by rw [HN.out]; exact hin)
          obtain ⟨-, -, -, x3w, hbody⟩ := hE
          have HX3 := Lib.hid x3w
          have hcnt : m + 1 ≤ cntU ds (putL l s2.toList true) := by
            have h1 := cntU_put HLB.out l (i := i) (by rw [HN.out]; exact hin) hq
            rw [hnmi] at h1
            have h2 := HMC.out
            omega
          have HREC := Lib.hid (fun W (h1 : Below c.heap.size c W) (h2 : MapOf boolE W b (m + 1) (putL l s2.toList true)) => HIH.out i hiK (by omega) _ (dAt ds i).body W (putL l s2.toList true) (m + 1) hbody
            (fun j hj h17 => body_named HLB.out (by rw [HN.out]; exact hin) j hj h17) h1 h2 hcnt (by
              have h3 := CloU.put HLB.out HK.out HCU.out.clo hiK
              rw [hnmi] at h3
              exact h3))
          have HCL2 := Lib.hid (fun l2 h2 => HCL.out i rfl hi hiK l2 h2)
          rw [hnmi] at HCL2
          have HCH3 := Lib.hid (HCH.out.trans hch3)
          have HM3 := Lib.hid hM3
          obtain ⟨bl, hbl⟩ : ∃ x, (dAt ds i).body.length = x := ⟨_, rfl⟩
          have HBL := Lib.hid hbl
          rw [hbl] at HX3 HREC
          clear hi hiK hnm hnmi hq hW1 HSK HKN HCL hch3 hrun hM3 hix x3w hbody hcnt hbl hg hcl2
          go_wp2_with fail
          refine (hfi.out _ HB3.out).mono ?_
          rintro e w4 ⟨rfl, hb4⟩
          have HB4 := Lib.hid (below_step HB3.out hb4)
          have x3 := cell_old HB4.out HX3.out
          have HM4 := Lib.hid (HM3.out.below hb4)
          have HCH4 := Lib.hid (HCH3.out.trans (Below.chg hb4 _))
          clear hb4 x3b
          go_wp2_with fail
          refine (HREC.out _ HB4.out HM4.out).mono ?_
          rintro e w5 ⟨rfl, m5, l5, hM5, hm5, hC5, hch5⟩
          have hnx : Hid (MapOf boolE w5 b m5 l5 ∧ m5 ≤ cntU ds l5 ∧ ColU ds K ns look (k + 1) l5 ∧ Chg (fun g => g = b) w w5) := Lib.hid ⟨hM5, hm5, HCL2.out l5 hC5, HCH4.out.trans hch5⟩
          clear hM5 hm5 hC5 hch5 x3
          go_wp2
          go_roundw
          case rel => exact ⟨k + 1, m5, l5, by omega, by go_num, hnx⟩
          case measure => simp [intOf]; omega
      · have b17 : (kd == 17) = false := by simpa using h17
        have hnx : Hid (MapOf boolE W1 b m l ∧ m ≤ cntU ds l ∧ ColU ds K ns look (k + 1) l ∧ Chg (fun g => g = b) w W1) := Lib.hid ⟨HM1.out, HMC.out, HSK.out h17, HCH.out⟩
        clear h17 hnm hW1 HSK HKN HCL
        go_wp2
        rw [← HW1.out]
        go_roundw
        case rel => exact ⟨k + 1, m, l, by omega, by go_num, hnx⟩
        case measure => simp [intOf]; omega
    · obtain rfl : k = ln := by omega
      have hfin : Hid (∃ m l, MapOf boolE wr b m l ∧ m ≤ cntU ds l ∧ ColU ds K ns look ns.length l ∧ Chg (fun g => g = b) w wr) := by
        rw [HLN.out]
        exact Lib.hid ⟨m, l, H.out⟩
      clear H
      go_wp2
      go_end0
      exact ⟨rfl, hfin.out⟩

set_option maxRecDepth 100000 in
set_option maxHeartbeats 4000000 in
theorem implUN_any (vd vn : Value) (ds : List DefL) (ns : List NodeL) (f : Nat → Bool) (hf : ∀ i, f i = true ↔ Need ds ns i) (hbd : totD ds ≤ 1048576) (hbn : totN ns ≤ 1048576) (w : World) (hd : ReadsD w vd ds) (h : ReadsN w vn ns) :
    Calls Try.prog 10 #[vd, .agg #[vn]] w (WordsOut w (typI ds ns).isSome (unR ds ns f)) := by
  obtain ⟨w0, hw0⟩ : ∃ W, W = w.alloc (.cells #[vn] 35) := ⟨_, rfl⟩
  have hB : Below w.heap.size w w0 := by rw [hw0]; exact below_alloc (Below.refl _ _)
  have HT := Lib.hid (isTermIn_any vd vn ds ns (by omega) (by omega) w0 (hd.below hB) (h.below hB))
  have HU := Lib.hid (fun p (hp : typI ds ns = some p) (c : World) (hc : Below w.heap.size w c) b (hcb : c.heap.size ≤ b) W look m => collect_any vd ds (typI_lib hp).1 c (hd.below hc) b hcb ds.length (Nat.le_refl _) vn ns W look m (h.below hc) (fun j hj h17 => by
    obtain ⟨i, hi⟩ := typeOf_named (typI_lib hp).2 j hj h17
    exact ⟨i, hi, findD_lt hi⟩))
  have H12 := Lib.hid (fun p (hp : typI ds ns = some p) => (libB_all (typI_lib hp).1).1)
  have HSM := Lib.hid (fun p (hp : typI ds ns = some p) k (hk : k < ds.length) => name_small (defB_parts ((libB_all (typI_lib hp).1).2.1 k hk)).1)
  have hx0 : w0.cell? ⟨w.heap.size, 0, none⟩ = some vn := by rw [hw0]; simp [go_sem]
  obtain ⟨ad, cd, rfl, hm, hc⟩ := open_readsD hd
  obtain ⟨an, cn, rfl⟩ := h.form
  have HB := Lib.hid hB
  have HW := Lib.hid hw0
  have HC := Lib.hid hc
  have HX := Lib.hid hx0
  have HFN := Lib.hid hf
  obtain ⟨n, hn⟩ : ∃ n, ds.length = n := ⟨_, rfl⟩
  have HN := Lib.hid hn
  unfold unR
  rw [hn] at hm HU HT H12 HSM ⊢
  clear hd h hw0 hB hc hn hx0 hf hbd hbn
  cases htp : typI ds ns with
  | none =>
    rw [htp] at HT
    clear htp HU H12 HSM
    go_enter Try.func10, Try.ntmps10
    go_wp2_with fail
    rw [← HW.out]
    refine HT.out.mono ?_
    rintro e w1 ⟨rfl, hb1⟩
    have HB1 := Lib.hid (below_step HB.out hb1)
    clear hb1
    go_wp2
    go_ret2
    exact ⟨_, rfl, ownsT_nil _ _, HB1.out⟩
  | some p =>
    have hU := Lib.hid (HU.out p htp)
    have h12 := H12.out p htp
    have HS8 := Lib.hid (HSM.out p htp)
    rw [htp] at HT
    rw [if_pos (show (some p).isSome = true from rfl)]
    have hmm := @run_makeMap Try.prog
    clear htp HU H12 HSM
    go_enter Try.func10, Try.ntmps10
    go_wp2_with fail
    rw [← HW.out]
    refine HT.out.mono ?_
    rintro e w1 ⟨rfl, hb1⟩
    have x1 := cell_old hb1 HX.out
    have HB1 := Lib.hid (below_step HB.out hb1)
    obtain ⟨W1, hW1⟩ : ∃ W, W = w1.alloc (.map #[] 0) := ⟨_, rfl⟩
    have hbm : Below w1.heap.size w1 W1 := by rw [hW1]; exact below_alloc (Below.refl _ _)
    have HM0 := Lib.hid (MapOf.made boolE w1)
    rw [← hW1] at HM0
    have HCOL := Lib.hid (hU.out w1 HB1.out w1.heap.size (Nat.le_refl _) W1 (fun _ => none) 0 hbm HM0.out (Nat.zero_le _) (fun i _ h => by cases h))
    have HBM := Lib.hid hbm
    have HW1 := Lib.hid hW1
    have x1b := cell_old hbm x1
    rw [hW1] at x1b
    clear hb1 hbm hW1 hU x1
    go_wp2_with fail
    rw [← HW1.out]
    refine HCOL.out.mono ?_
    rintro e w2 ⟨rfl, m, l, hM, hm2, hC, hch⟩
    have HB2 := Lib.hid (below_step HB1.out (HBM.out.trans (hch.below HBM.out.size (fun g hg => by omega))))
    have HM := Lib.hid hM
    rw [← HN.out] at hC
    have HFL := Lib.hid (fun i (hi : i < n) => show mkL ds l i = f i from by
      rw [Bool.eq_iff_iff]
      exact (hC.all (by rw [HN.out]; exact hi)).trans (HFN.out i).symm)
    have HOWN := Lib.hid (own_lit 9 1 (W := w2) rfl)
    have HBL := Lib.hid (show Below w2.heap.size w2 (w2.alloc (.cells #[] 9)) from below_alloc (Below.refl _ _))
    clear hM hm2 hC hch x1b
    go_wp2
    go_loopw [23, 7] (fun i o wr => ∃ (k : Nat) (ov : Value), k ≤ n ∧ i = .int .i64 k ∧ ov = o ∧ Hid (wr.ownsRow w2.heap.size 9 1 ov (namesF ds f k).length (ofT (namesF ds f k)) ∧ Below w2.heap.size w2 wr)) (fun i _ _ => n + 1 - (intOf i).toNat)
    case atStart => exact ⟨0, _, by omega, rfl, rfl, Lib.hid ⟨HOWN.out, HBL.out⟩⟩
    case round =>
      obtain ⟨k, ov, hk, rfl, rfl, H⟩ := hrel
      by_cases hlt : k < n
      · obtain ⟨g, off, a1, c1, rfl, hg, hE⟩ := HC.out k (by rw [HN.out]; exact hlt)
        obtain ⟨x0, x1, x2, x3, -⟩ := hE.below (below_step HB2.out H.out.2)
        have hk0 : 0 ≤ (k : Int) := by omega
        have hkn : (k : Int) < (n : Int) := by omega
        have hs8 := HS8.out k hlt
        have hyes := namesF_yes ds (f := f) (k := k)
        have hno := namesF_no ds (f := f) (k := k)
        have hlen := namesF_len ds f k
        have hfk := HFL.out k hlt
        unfold mkL at hfk
        obtain ⟨s, hs⟩ : ∃ s, (dAt ds k).name = s := ⟨_, rfl⟩
        obtain ⟨di, hdi⟩ : ∃ s, (dAt ds k).inp = s := ⟨_, rfl⟩
        obtain ⟨do_, hdo⟩ : ∃ s, (dAt ds k).out = s := ⟨_, rfl⟩
        obtain ⟨bl, hbl⟩ : ∃ s, (dAt ds k).body.length = s := ⟨_, rfl⟩
        rw [hs] at x0 hyes hs8 hfk
        rw [hdi] at x1
        rw [hdo] at x2
        rw [hbl] at x3
        obtain ⟨q, hq⟩ : ∃ q, f k = q := ⟨_, rfl⟩
        rw [hq] at hfk hyes hno
        obtain ⟨W3, hW3⟩ : ∃ W, W = wr.alloc (.cells #[.string s, .int .i64 di, .int .i64 do_, .slice a1 bl c1] 55) := ⟨_, rfl⟩
        have hb3 : Below wr.heap.size wr W3 := by rw [hW3]; exact below_alloc (Below.refl _ _)
        have hget := (HM.out.below (below_step H.out.2 hb3)).get s (by unfold maxLen; omega)
        have hget2 : (Instr.lookup 58 (.map (some w1.heap.size)) (.string s) false).run Try.prog (wr.alloc (.cells #[.string s, .int .i64 di, .int .i64 do_, .slice a1 bl c1] 55)) = .ok (.bool q) (wr.alloc (.cells #[.string s, .int .i64 di, .int .i64 do_, .slice a1 bl c1] 55)) := by
          have e : boolE.val ((l s.toList).getD boolE.z) = .bool q := congrArg Value.bool hfk
          rw [e] at hget
          rw [← hW3]
          exact hget
        have HO := Lib.hid (ownsRow_below H.out.1 hb3)
        have HBR := Lib.hid (below_step H.out.2 hb3)
        have HW3 := Lib.hid hW3
        clear hget hfk hs hdi hdo hbl hE hg hb3 hW3 hs8 H
        cases q with
        | false =>
          have hnx : Hid (W3.ownsRow w2.heap.size 9 1 ov (namesF ds f (k + 1)).length (ofT (namesF ds f (k + 1))) ∧ Below w2.heap.size w2 W3) := by
            rw [hno rfl]; exact Lib.hid ⟨HO.out, HBR.out⟩
          clear hq hno hyes HO
          go_wp2
          rw [← HW3.out]
          go_roundw
          case rel => exact ⟨k + 1, _, by omega, by go_num, rfl, hnx⟩
          case measure => simp [intOf]; omega
        | true =>
          obtain ⟨L, hL⟩ : ∃ L, namesF ds f k = L := ⟨_, rfl⟩
          have HYES := Lib.hid (hyes rfl)
          rw [hL] at HO HYES hlen
          have hm3 := Lib.hid (show L.length + 1 ≤ maxLen by unfold maxLen; omega)
          have hm4 := Lib.hid (show (L.length + 1) * 16 ≤ 140737488355328 by omega)
          have hsz := Lib.hid (show w2.heap.size ≤ W3.heap.size from HBR.out.size)
          obtain ⟨a6, c6, rfl⟩ := ownsRow_form' HO.out
          have HOx := HO
          have hszx := hsz
          rw [HW3.out] at HOx hszx
          clear hq hno hyes hL hlen
          go_wp2_with (first | (refine wpList_append_many (by rfl) _ _ 28 (by rfl) w2.heap.size 9 (.string ByteArray.empty) 1 16 Try.underlying28 infoStr rfl (by decide) _ _ _ #[.string s] rfl HOx.out (by rfl) (by first | rfl | (simp; rfl)) (by intro u hu; simp at hu; rcases hu with rfl; rfl) hm3.out hm4.out hszx.out ?_; intro v4 w4 hown4 hg4; rw [← HW3.out] at hg4; obtain ⟨a4, c4, rfl⟩ := ownsRow_form' hown4))
          have hnx : Hid (w4.ownsRow w2.heap.size 9 1 (.slice a4 (L.length + 1) c4) (namesF ds f (k + 1)).length (ofT (namesF ds f (k + 1))) ∧ Below w2.heap.size w2 w4) := by
            refine Lib.hid ⟨?_, Below.grownRow HBR.out HO.out hg4 hsz.out⟩
            rw [HYES.out, List.length_append, List.length_singleton]
            simpa [ofT] using hown4
          clear hown4 hg4
          go_wp2
          go_roundw
          case rel => exact ⟨k + 1, _, by omega, by go_num, rfl, hnx⟩
          case measure => simp [intOf]; omega
      · obtain rfl : k = n := by omega
        have hlen := namesF_len ds f k
        have hfin := Lib.hid (And.intro ((ownsT_row H.out.1 rfl (by unfold maxLen; omega)).mono fun g hg => Nat.le_trans HB2.out.size hg) (below_step HB2.out H.out.2))
        clear H hlen
        go_wp2
        go_ret2
        exact ⟨_, rfl, hfin.out.1, hfin.out.2⟩

theorem unR_ctr (ds : List DefL) (ns : List NodeL) (f : Nat → Bool) : (1 : Int) + (sumT (unR ds ns f) : Int) ≤ 1000000000 := by
  have h := unR_len ds ns f
  unfold sumT
  omega

end Ints
end Go.Proofs.Ytoegbphkheohoaa
