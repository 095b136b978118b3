/- SeparatorOf, both. (Printed by wip/gen_sep.py.) -/
import Derived.Test.YtimjlcnljefbbaaDoorDot
import Derived.Test.YtimjlcnljefbbaaDoorApply
import Derived.Test.YtimjlcnljefbbaaDoorOrthF
import Derived.Test.YtimjlcnljefbbaaDoorSpaceF
import Derived.Test.YtimjlcnljefbbaaDoorLawS
import Derived.Test.YtimjlcnljefbbaaDoorPred
import Derived.IntWalk
namespace Go.Proofs.YtimjlcnljefbbaaDoor
open Go.RowKit
namespace Ints
open Fld (fdMul_any fdInv_any)

/-- A list in new memory, and whether there is one. -/
def OptInts (w : World) (b : Bool) (l : List Int) (e : Ending) (w' : World) : Prop :=
  ∃ v, e = .returned (.tuple #[v, .bool b]) ∧ OwnsI (w.heap.size ≤ ·) w' v l ∧ Below w.heap.size w w'
theorem optInts_none {w w' : World} (h : Below w.heap.size w w') : OptInts w false [] (.returned (.tuple #[.slice none 0 0, .bool false])) w' := ⟨_, rfl, ownsI_nil _ _, h⟩

def fitSep (p c : Int) (L : List (List Int)) (v : List Int) : Bool := spB p c L && vecB p c v
theorem fitSep_parts {p c : Int} {L : List (List Int)} {v : List Int} (h : fitSep p c L v = true) : ∃ n : Nat, c = n ∧ n ≤ 24 ∧ L.length ≤ n ∧ Fld.goodB p = true ∧ ElemsT p L.length n L ∧ v.length = n ∧ ∀ i, i < n → 0 ≤ v[i]?.getD 0 ∧ v[i]?.getD 0 < p := by
  simp only [fitSep, Bool.and_eq_true] at h
  obtain ⟨h1, h2⟩ := h
  obtain ⟨n, e1, hn, hl, hg, hA, _⟩ := spB_parts h1
  simp only [vecB, Bool.and_eq_true, decide_eq_true_eq] at h2
  refine ⟨n, e1, hn, hl, hg, hA, by omega, fun i hi => ?_⟩
  have hil : i < v.length := by omega
  have h3 := List.all_eq_true.1 h2.2 (v[i]) (List.getElem_mem hil)
  rw [List.getElem?_eq_getElem hil]
  unfold Fld.inB at h3
  simp only [Bool.and_eq_true, decide_eq_true_eq] at h3
  exact h3
/-- The first row whose product with v is not 0. -/
def sepFind (p : Int) (n : Nat) (R : List (List Int)) (v : List Int) : Option Nat := (List.range R.length).find? fun k => Lin.dotN p (lAt R k) v n != 0
def sepB (p c : Int) (L : List (List Int)) (v : List Int) : Bool := fitSep p c L v && (sepFind p c.toNat (Lin.nullL p c.toNat L) v).isSome
def sepOut (p c : Int) (L : List (List Int)) (v : List Int) : List Int :=
  if fitSep p c L v then (match sepFind p c.toNat (Lin.nullL p c.toNat L) v with
    | some k => scaleRow p (invI p (Lin.dotN p (lAt (Lin.nullL p c.toNat L) k) v c.toNat)) (lAt (Lin.nullL p c.toNat L) k)
    | none => []) else []
theorem sep_unfit {p c : Int} {L : List (List Int)} {v : List Int} (h : fitSep p c L v = false) : sepB p c L v = false ∧ sepOut p c L v = [] := by simp [sepB, sepOut, h]
theorem sep_some {p : Int} {n k : Nat} {L : List (List Int)} {v : List Int} (h : fitSep p n L v = true) (hk : k < (Lin.nullL p n L).length) (hz : ∀ j, j < k → Lin.dotN p (lAt (Lin.nullL p n L) j) v n = 0) (hx : Lin.dotN p (lAt (Lin.nullL p n L) k) v n ≠ 0) :
    sepB p n L v = true ∧ sepOut p n L v = scaleRow p (invI p (Lin.dotN p (lAt (Lin.nullL p n L) k) v n)) (lAt (Lin.nullL p n L) k) := by
  have hf : sepFind p n (Lin.nullL p n L) v = some k := by
    unfold sepFind
    rw [List.find?_range_eq_some]
    exact ⟨by simpa using hx, by simpa using hk, fun j hj => by simpa using hz j hj⟩
  simp [sepB, sepOut, h, hf]
theorem sep_none {p : Int} {n : Nat} {L : List (List Int)} {v : List Int} (hz : ∀ j, j < (Lin.nullL p n L).length → Lin.dotN p (lAt (Lin.nullL p n L) j) v n = 0) :
    sepB p n L v = false ∧ sepOut p n L v = [] := by
  have hf : sepFind p n (Lin.nullL p n L) v = none := by
    unfold sepFind
    rw [List.find?_eq_none]
    intro j hj
    simpa using hz j (by simpa using hj)
  simp [sepB, sepOut, hf]
theorem sepOut_ctr (p c : Int) (L : List (List Int)) (v : List Int) : (1 : Int) + (sumI (sepOut p c L v) : Int) ≤ 1000000000 := by
  unfold sepOut
  split
  · rename_i h
    obtain ⟨n, rfl, hn, hl, hg, hA, hv⟩ := fitSep_parts h
    simp only [Int.toNat_natCast]
    split
    · rename_i k hk
      obtain ⟨_, h1, h2, _⟩ := Lin.null_facts hg hA
      have hkl := List.mem_of_find?_eq_some hk
      simp only [List.mem_range] at hkl
      have hlen := (h1.2 k hkl).1
      unfold sumI
      rw [scaleRow, rowT_length, hlen]
      omega
    · simp [sumI]
  · simp [sumI]
theorem scale_succ (p b : Int) (l : List Int) (k : Nat) (h : k < l.length) : ofL ((scaleRow p b l).take (k + 1)) = ofL ((scaleRow p b l).take k) ++ [.int .i64 ((l[k]?.getD 0 * b) % p)] := by
  rw [ofL_take_succ _ k (by rw [scaleRow_length]; exact h)]
  unfold scaleRow
  rw [rowT_at h]
theorem inv_bounds {p b : Int} (h2 : 2 ≤ p) : 0 ≤ invI p b ∧ invI p b < p := by
  constructor
  · unfold invI; omega
  · unfold invI
    have := Fld.inv_lt (p := p.toNat) (a := b.toNat) (by omega)
    omega

set_option maxHeartbeats 4000000 in
set_option maxRecDepth 100000 in
/-- The row operation 'divide' on a row that lies in a block of the call's own: nothing else turns. -/
theorem applyOne_any (p b : Int) (hg : Fld.goodB p = true) (hb1 : 1 ≤ b) (hb2 : b < p) (i d n cap g off : Nat) (l : List Int) (hd : l.length = d) (hl : ∀ j, j < d → 0 ≤ l[j]?.getD 0 ∧ l[j]?.getD 0 < p) (rv : Value) (w : World) (hi : i < n) (_hm : n ≤ 9223372036854775807) (hrow0 : w.cell? ⟨g, off + i, none⟩ = some rv) (ho0 : Owns w 3 1 rv d (ofL l)) (hap : 0 < d → rv.ownBlock ≠ some g) :
    Calls Tryd.prog 68 #[.agg #[.int .i64 1, .int .i64 i, .int .i64 0, .int .i64 b], .int .i64 p, .slice (some ⟨g, off, none⟩) n cap] w fun e w' => e = .returned (.tuple #[]) ∧ Owns w' 3 1 rv d (ofL (scaleRow p (invI p b) l)) ∧ Chg (fun g' => rv.ownBlock = some g' ∧ 0 < d) w w' := by
  obtain ⟨h2, h97⟩ := Fld.good_bounds hg
  obtain ⟨w0, hw0⟩ : ∃ W, W = w.alloc (.cells #[.int .i64 1, .int .i64 i, .int .i64 0, .int .i64 b] 92) := ⟨_, rfl⟩
  have hb : Below w.heap.size w w0 := by rw [hw0]; exact (Below.refl _ _).alloc (Nat.le_refl _) _
  have hsz : w0.heap.size = w.heap.size + 1 := by rw [hw0]; simp
  have c1 : w0.cell? ⟨w.heap.size, 1, none⟩ = some (.int .i64 i) := by rw [hw0]; simp [go_sem]
  have c3 : w0.cell? ⟨w.heap.size, 3, none⟩ = some (.int .i64 b) := by rw [hw0]; simp [go_sem]
  have hrow : w0.cell? ⟨g, off + i, none⟩ = some rv := cell_old hb hrow0
  have hbk := ho0.reads.lt
  have ho := ho0.below hb
  obtain ⟨av, cv, rfl⟩ := ho.form
  obtain ⟨t, ht⟩ : ∃ t, invI p b = t := ⟨_, rfl⟩
  have htb := inv_bounds (p := p) (b := b) h2
  rw [ht] at htb
  obtain ⟨ht0, ht1⟩ := htb
  have hinv : Hid (Calls Tryd.prog 99 #[.int .i64 p, .int .i64 b] w0 fun e w' => e = .returned (.int .i64 t) ∧ w0 = w') := by
    have e1 : ((p.toNat : Nat) : Int) = p := by omega
    have e2 : ((b.toNat : Nat) : Int) = b := by omega
    have hgn : Fld.goodN p.toNat = true := by rw [← Fld.goodB_nat, e1]; exact hg
    have h := Fld.inverse_any p.toNat b.toNat hgn (by omega) (by omega) (by omega) (by omega) w0
    rw [e1, e2] at h
    rw [← ht]
    exact h
  obtain ⟨f, hf⟩ : ∃ f : Nat → Int, (fun j : Nat => (l[j]?.getD 0 * t) % p) = f := ⟨_, rfl⟩
  have hsc : scaleRow p (invI p b) l = rowT d f := by rw [ht, scaleRow, hd, hf]
  rw [hsc]
  have HF := Lib.hid hf
  have ho1 : Hid (Owns w0 3 1 (.slice av d cv) d (ofL (part d 0 f fun j => l[j]?.getD 0))) := by rw [part_start (f := f) hd] at ho; exact ho
  have HAP := Lib.hid hap
  have HBK := Lib.hid hbk
  have HB := Lib.hid hb
  have HW := Lib.hid hw0
  have HSZ := Lib.hid hsz
  have HL := Lib.hid hl
  have HD := Lib.hid hd
  have hil : (i : Int) < (n : Int) := by omega
  have hi0 : 0 ≤ (i : Int) := by omega
  have hdm : d ≤ 9223372036854775807 := by obtain ⟨_, a, c, e, q1, q2, _⟩ := ho; simp only [Value.slice.injEq] at e; unfold maxLen at q2; omega
  have HC := Lib.hid (And.intro c1 hrow)
  clear ho ho0 hap hbk hb hw0 hsz hl hf hsc ht hi hd hrow0
  go_enter Tryd.func68, Tryd.ntmps68
  go_wp2_with fail
  rw [← HW.out]
  refine hinv.out.mono ?_
  rintro e w' ⟨rfl, rfl⟩
  go_wp2
  clear c1 c3 hrow
  go_loopw [43] (fun q wr => ∃ j : Nat, j ≤ d ∧ q = .int .i64 j ∧ Owns wr 3 1 (.slice av d cv) d (ofL (part d j f fun j => l[j]?.getD 0)) ∧ Chg (fun g => (Value.slice av d cv).ownBlock = some g ∧ 0 < d) w0 wr) (fun q _ => d + 1 - (intOf q).toNat)
  case atStart => exact ⟨0, by omega, rfl, ho1.out, Chg.refl _ _⟩
  case round =>
    obtain ⟨j, hj, rfl, ho, hch⟩ := hrel
    by_cases hlt : j < d
    · obtain ⟨_, a2, c2, e, _, hc⟩ := open_owns ho
      simp only [Value.slice.injEq] at e
      obtain ⟨rfl, -, rfl⟩ := e
      obtain ⟨g2, off2, rfl, hg2, hjj⟩ := hc (by omega)
      have hne : ¬ (g2 = w.heap.size) := fun e => by
        have := HBK.out g2 (ofL_ne.2 (List.length_pos_iff.1 (by rw [HD.out]; omega))) rfl
        simp only at this
        omega
      have hx := (hjj j hlt).1
      have hfr := (hjj j hlt).2.1
      have hst := (hjj j hlt).2.2 (f j)
      rw [part_set] at hst
      rw [part_at hlt] at hx
      have k1 : wr.cell? ⟨w.heap.size, 1, none⟩ = some (.int .i64 i) := hch.keep HC.out.1 (fun e => by simp [Value.ownBlock] at e; omega)
      have k2 : wr.cell? ⟨g, off + i, none⟩ = some (.slice (some ⟨g2, off2, none⟩) d cv) := hch.keep HC.out.2 (fun e => HAP.out e.2 e.1)
      have H1 := Lib.hid hst
      have H2 := Lib.hid (hch.setCell (p := ⟨g2, off2 + j, none⟩) (fun _ => ⟨rfl, by omega⟩) (.int .i64 (f j)))
      have hfj : Hid (f j = (l[j]?.getD 0 * t) % p) := by show _ = _; rw [← HF.out]
      have hlj := HL.out j hlt
      clear ho hch hc hjj hst HF hne
      generalize l[j]?.getD 0 = x at *
      obtain ⟨z, hz⟩ : ∃ z, f j = z := ⟨_, rfl⟩
      rw [hz] at H1 H2 hfj
      clear hz
      have hmb := Fld.mul_bounds h97 hlj.1 hlj.2 ht0 ht1
      have hj0 : 0 ≤ (j : Int) := by omega
      have hjn : (j : Int) < (d : Int) := by omega
      go_wp2
      go_region
      go_wp2
      go_roundw
      case rel => exact ⟨j + 1, by omega, by go_num, by rw [← hfj.out]; exact H1.out, by rw [← hfj.out]; exact H2.out.drew⟩
      case measure => simp [intOf]; omega
    · obtain rfl : j = d := by omega
      rw [part_end] at ho
      have hfin : Hid (Owns wr 3 1 (.slice av j cv) j (ofL (rowT j f)) ∧ Chg (fun g' => (Value.slice av j cv).ownBlock = some g' ∧ 0 < j) w wr) :=
        ⟨ho, (Below.chg HB.out _).trans_new hch fun _ _ h => h⟩
      clear ho hch
      go_wp2
      go_end0
      exact ⟨rfl, hfin.out⟩

set_option maxHeartbeats 2000000 in
set_option maxRecDepth 100000 in
theorem spVector_any (p c : Int) (u vv : Value) (A : List (List Int)) (v : List Int) (w : World) (hu : ReadsM w u A) (hv : ReadsI w vv v) :
    Calls Tryd.prog 60 #[.int .i64 p, .agg #[.int .i64 c, u], vv] w fun e w' => e = .returned (.bool (fitSep p c A v)) ∧ Below w.heap.size w w' := by
  obtain ⟨w0, hw0⟩ : ∃ W, W = w.alloc (.cells #[.int .i64 c, u] 43) := ⟨_, rfl⟩
  have hB : Below w.heap.size w w0 := by rw [hw0]; exact (Below.refl _ _).alloc (Nat.le_refl _) _
  have X0 : ∀ W, Below w0.heap.size w0 W → W.cell? ⟨w.heap.size, 0, none⟩ = some (.int .i64 c) := fun W hW => cell_old hW (by rw [hw0]; simp [go_sem])
  have hgood := Lib.hid (spGood_any p c u A w0 (hu.below hB))
  have HV := Lib.hid (hv.below hB)
  obtain ⟨va, vc, rfl⟩ := hv.form
  have HB := Lib.hid hB
  have HW := Lib.hid hw0
  have hfs : fitSep p c A v = (spB p c A && (decide ((v.length : Int) = c) && v.all (Fld.inB p))) := rfl
  obtain ⟨b1, hb1⟩ : ∃ b, spB p c A = b := ⟨_, rfl⟩
  rw [hb1] at hfs hgood
  clear hu hv hB hw0
  cases b1 with
  | false =>
    rw [Bool.false_and] at hfs
    rw [hfs]
    clear hfs hb1
    go_enter Tryd.func60, Tryd.ntmps60
    go_wp2_with fail
    rw [← HW.out]
    refine hgood.out.mono ?_
    rintro e w1 ⟨rfl, hb⟩
    have HB1 := Lib.hid (HB.out.trans (hb.mono HB.out.size))
    clear hb
    go_wp2
    go_ret
    exact ⟨rfl, HB1.out⟩
  | true =>
    rw [Bool.true_and] at hfs
    obtain ⟨n, rfl, _, _, hg, _⟩ := spB_parts hb1
    obtain ⟨h2, h97⟩ := Fld.good_bounds hg
    obtain ⟨b2, hb2⟩ : ∃ b, decide ((v.length : Int) = n) = b := ⟨_, rfl⟩
    have hb2' : ((v.length : Int) == (n : Int)) = b2 := by rw [← hb2]; rfl
    rw [hb2] at hfs
    have hin := Lib.hid (fun W (hW : Below w0.heap.size w0 W) => fdIn_any p h2 h97 (.slice va v.length vc) v.length v W (HV.out.below hW))
    obtain ⟨b3, hb3⟩ : ∃ b, v.all (Fld.inB p) = b := ⟨_, rfl⟩
    rw [hb3] at hin hfs
    clear hb1 hb2 hb3 hg
    cases b2 with
    | false =>
      rw [Bool.false_and] at hfs
      rw [hfs]
      clear hfs
      go_enter Tryd.func60, Tryd.ntmps60
      go_wp2_with fail
      rw [← HW.out]
      refine hgood.out.mono ?_
      rintro e w1 ⟨rfl, hb⟩
      have HB1 := Lib.hid (HB.out.trans (hb.mono HB.out.size))
      have x0 := X0 _ hb
      clear hb
      go_wp2
      go_ret
      exact ⟨rfl, HB1.out⟩
    | true =>
      rw [Bool.true_and] at hfs
      rw [hfs]
      clear hfs
      go_enter Tryd.func60, Tryd.ntmps60
      go_wp2_with fail
      rw [← HW.out]
      refine hgood.out.mono ?_
      rintro e w1 ⟨rfl, hb⟩
      have HB1 := Lib.hid (HB.out.trans (hb.mono HB.out.size))
      have hin1 := Lib.hid (hin.out _ hb)
      have x0 := X0 _ hb
      clear hb
      go_wp2_with (go_at_call 77; ((with_reducible refine (hin1.out).mono ?_); rintro e w' ⟨rfl, rfl⟩))
      go_ret
      exact ⟨rfl, HB1.out⟩

set_option maxHeartbeats 4000000 in
set_option maxRecDepth 100000 in
theorem specSep_any (p c : Int) (u vv : Value) (A : List (List Int)) (v : List Int) (w : World) (hu : ReadsM w u A) (hv : ReadsI w vv v) :
    Calls Tryd.prog 30 #[.int .i64 p, .agg #[.int .i64 c, u], vv] w (OptInts w (sepB p c A v) (sepOut p c A v)) := by
  obtain ⟨ua, uc, rfl⟩ := hu.form
  obtain ⟨va, vc, rfl⟩ := hv.form
  obtain ⟨w0, hw0⟩ : ∃ W, W = w.alloc (.cells #[.int .i64 c, .slice ua A.length uc] 43) := ⟨_, rfl⟩
  have hB : Below w.heap.size w w0 := by rw [hw0]; exact (Below.refl _ _).alloc (Nat.le_refl _) _
  have X0 : ∀ W, Below w0.heap.size w0 W → W.cell? ⟨w.heap.size, 0, none⟩ = some (.int .i64 c) := fun W hW => cell_old hW (by rw [hw0]; simp [go_sem])
  have X1 : ∀ W, Below w0.heap.size w0 W → W.cell? ⟨w.heap.size, 1, none⟩ = some (.slice ua A.length uc) := fun W hW => cell_old hW (by rw [hw0]; simp [go_sem])
  have hgood := Lib.hid (spVector_any p c _ _ A v w0 (hu.below hB) (hv.below hB))
  have HU := Lib.hid (hu.below hB)
  have HV := Lib.hid (hv.below hB)
  have HB := Lib.hid hB
  have HW := Lib.hid hw0
  clear hu hv hB hw0
  cases hb : fitSep p c A v with
  | false =>
    rw [(sep_unfit hb).1, (sep_unfit hb).2]
    rw [hb] at hgood
    clear hb
    go_enter Tryd.func30, Tryd.ntmps30
    go_wp2_with fail
    rw [← HW.out]
    refine hgood.out.mono ?_
    rintro e w1 ⟨rfl, hb⟩
    have HB1 := Lib.hid (HB.out.trans (hb.mono HB.out.size))
    clear hb
    go_wp2
    go_ret2
    exact optInts_none HB1.out
  | true =>
    obtain ⟨n, rfl, hn, hl, hg, hA, hvl, hve⟩ := fitSep_parts hb
    obtain ⟨h2, h97⟩ := Fld.good_bounds hg
    rw [hb] at hgood
    obtain ⟨_, hR1, hR2, _⟩ := Lin.null_facts hg hA
    have hnull := Lib.hid (fun W (hW : Below w0.heap.size w0 W) => spNull_any p hg A.length n (by omega) (by omega) (.slice ua A.length uc) A W hA (HU.out.below hW))
    have hsome := Lib.hid (fun k hk hz hx => sep_some (k := k) hb hk hz hx)
    have hnone := Lib.hid (fun hz => sep_none (p := p) (n := n) (L := A) (v := v) hz)
    obtain ⟨R, hR⟩ : ∃ R, Lin.nullL p n A = R := ⟨_, rfl⟩
    rw [hR] at hnull hsome hnone hR1 hR2
    obtain ⟨sb, hsb⟩ : ∃ b, sepB p n A v = b := ⟨_, rfl⟩
    obtain ⟨so, hso⟩ : ∃ b, sepOut p n A v = b := ⟨_, rfl⟩
    rw [hsb, hso] at hsome hnone
    rw [hsb, hso]
    have HRE := Lib.hid hR1
    have HVE := Lib.hid hve
    have HGP := Lib.hid hg
    have HV3 : Hid (Reads w0 1 (.slice va n vc) n (ofL v)) := by have := HV.out; unfold ReadsI at this; rw [hvl] at this; exact this
    rw [hvl] at hgood
    rw [hvl]
    obtain ⟨ml, hml⟩ : ∃ m, R.length = m := ⟨_, rfl⟩
    have HML := Lib.hid hml
    have hml24 : ml ≤ 24 := by omega
    obtain ⟨al, hal⟩ : ∃ m, A.length = m := ⟨_, rfl⟩
    rw [hal] at X1 hnull HW hgood
    rw [hal]
    clear hb hA hR hsb hso hR1 hR2 hve hg hvl hl hml hal HU HV
    go_enter Tryd.func30, Tryd.ntmps30
    go_wp2_with fail
    rw [← HW.out]
    refine hgood.out.mono ?_
    rintro e w1 ⟨rfl, hb1⟩
    have x0 := X0 _ hb1
    have x1 := X1 _ hb1
    have hnc := Lib.hid (hnull.out _ hb1)
    have HB1 := Lib.hid hb1
    clear hb1 hnull hgood
    go_wp2_with fail
    refine hnc.out.mono ?_
    rintro e w2 ⟨v2, rfl, ho2, hb2⟩
    obtain ⟨s2, k2, rfl⟩ := ho2.reads.form
    have HRD := Lib.hid ho2.reads
    have B2 := Lib.hid (below_step HB1.out hb2)
    have HV2 := Lib.hid (HV3.out.below B2.out)
    clear ho2 hb2 hnc x0 x1
    rw [HML.out]
    have hopen := open_readsM HRD.out
    obtain ⟨a2, cap2, e2, hm2, hc2⟩ := hopen
    simp only [Value.slice.injEq] at e2
    obtain ⟨rfl, -, rfl⟩ := e2
    have HC2 := Lib.hid (fun k hk => hc2 k hk)
    rw [HML.out] at hm2
    clear hc2
    go_wp2
    go_loopw [27] (fun i wr => ∃ k : Nat, k ≤ ml ∧ i = .int .i64 k ∧ Hid (∀ j, j < k → Lin.dotN p (lAt R j) v n = 0) ∧ Below w2.heap.size w2 wr) (fun i _ => ml + 1 - (intOf i).toNat)
    case atStart => exact ⟨0, by omega, rfl, Lib.hid (fun j hj => absurd hj (Nat.not_lt_zero _)), Below.refl _ _⟩
    case round =>
      obtain ⟨k, hk, rfl, hz, hb⟩ := hrel
      by_cases hlt : k < ml
      · obtain ⟨g, off, r, rfl, hg9, hcell, hrd⟩ := HC2.out k (by rw [HML.out]; exact hlt)
        have hx : wr.cell? ⟨g, off + k, none⟩ = some r := (hb.cell hg9).trans hcell
        have hlr := HRE.out.2 k (by rw [HML.out]; exact hlt)
        rw [hlr.1] at hrd
        have hrd2 := hrd.below hb
        have hdot := Lib.hid (spDot_any p n h2 h97 (by omega) r (.slice va n vc) (lAt R k) v wr hrd2 (HV2.out.below hb) hlr.2 HVE.out)
        have hdb := Lin.dotN_bounds (p := p) h2 (lAt R k) v n
        have hk0 : 0 ≤ (k : Int) := by omega
        have hki : (k : Int) < (ml : Int) := by omega
        have HRD2 := Lib.hid hrd2
        have HLR := Lib.hid hlr
        have hfound := Lib.hid (hsome.out k (by rw [HML.out]; exact hlt) hz.out)
        obtain ⟨ar, cr, rfl⟩ := hrd.form
        by_cases hd0 : Lin.dotN p (lAt R k) v n = 0
        · have hz2 : Hid (∀ j, j < k + 1 → Lin.dotN p (lAt R j) v n = 0) := Lib.hid fun j hj => by
            rcases Nat.lt_succ_iff_lt_or_eq.1 hj with h | rfl
            · exact hz.out j h
            · exact hd0
          rw [hd0] at hdot
          have HBK := Lib.hid hb
          clear hcell hrd hrd2 hlr hdb hd0 hfound hb HRD2 HLR
          go_wp2_with fail
          refine hdot.out.mono ?_
          rintro e w4 ⟨rfl, hb4⟩
          have HB4 := Lib.hid (below_step HBK.out hb4)
          clear hb4 hx
          go_wp2
          go_roundw
          case rel => exact ⟨k + 1, by omega, by go_num, hz2, HB4.out⟩
          case measure => simp [intOf]; omega
        · obtain ⟨d, hd⟩ : ∃ d, Lin.dotN p (lAt R k) v n = d := ⟨_, rfl⟩
          rw [hd] at hdot hdb hd0 hfound
          have hf := hfound.out hd0
          have HF1 := Lib.hid hf.1
          have HF2 := Lib.hid hf.2
          have hne : (d == 0) = false := by simpa using hd0
          have hinv : Hid (∀ W, Calls Tryd.prog 63 #[.int .i64 p, .int .i64 d] W fun e w' => e = .returned (.int .i64 (invI p d)) ∧ W = w') := Lib.hid fun W => by
            have e1 : ((p.toNat : Nat) : Int) = p := by omega
            have e2 : ((d.toNat : Nat) : Int) = d := by omega
            have h := fdInv_any p.toNat d.toNat (by omega) (by omega) (by omega) W
            rw [e1, e2] at h
            exact h
          have hib := inv_bounds (p := p) (b := d) h2
          obtain ⟨iv, hiv⟩ : ∃ t, invI p d = t := ⟨_, rfl⟩
          rw [hiv] at hinv hib HF2
          obtain ⟨row, hrow⟩ : ∃ l, lAt R k = l := ⟨_, rfl⟩
          rw [hrow] at HRD2 HF2
          have hrl : row.length = n := by rw [← hrow]; exact hlr.1
          have hre : ∀ j, j < n → 0 ≤ row[j]?.getD 0 ∧ row[j]?.getD 0 < p := by rw [← hrow]; exact hlr.2
          have HREL := Lib.hid hre
          have HRLN := Lib.hid hrl
          have HBK := Lib.hid hb
          have HBW := Lib.hid ((HB.out.trans (B2.out.mono HB.out.size)))
          clear hcell hrd hrd2 hlr hd hfound hb HLR hf hz hrow hiv hrl hre HRE hsome hnone
          go_wp2_with fail
          refine hdot.out.mono ?_
          rintro e w4 ⟨rfl, hb4⟩
          have HB4 := Lib.hid (below_step HBK.out hb4)
          have HRD4 := Lib.hid (HRD2.out.below hb4)
          clear hb4 hx
          go_wp2_with fail
          refine (hinv.out _).mono ?_
          rintro e w5 ⟨rfl, rfl⟩
          obtain ⟨_, ar2, cr2, e3, hrm, hrc⟩ := open_reads HRD4.out
          simp only [Value.slice.injEq] at e3
          obtain ⟨rfl, -, rfl⟩ := e3
          have HRC := Lib.hid hrc
          have HMG := Lib.hid (show n ≤ maxLen by unfold maxLen; omega)
          clear hrc
          go_wp2
          go_loopw [12, 42] (fun o i wr => ∃ (q : Nat) (ov : Value), q ≤ n ∧ i = .int .i64 q ∧ o = ov ∧ wr.ownsRow w4.heap.size 3 1 ov q (ofL ((scaleRow p iv row).take q)) ∧ Below w4.heap.size w4 wr) (fun _ i _ => n + 1 - (intOf i).toNat)
          case atStart => exact ⟨0, _, by omega, rfl, rfl, World.ownsRow_nil _ _ _ _, Below.refl _ _⟩
          case round =>
            obtain ⟨q, ov, hq, rfl, rfl, hown, hbw⟩ := hrel
            by_cases hltq : q < n
            · obtain ⟨ga, offa, rfl, hga, hcella⟩ := HRC.out (by omega)
              have hy : wr.cell? ⟨ga, offa + q, none⟩ = some (.int .i64 (row[q]?.getD 0)) := (hbw.cell (p := ⟨ga, offa + q, none⟩) hga).trans (hcella q hltq)
              have hs := scale_succ p iv row q (by rw [HRLN.out]; exact hltq)
              have hxe := HREL.out q hltq
              have hmul := Lib.hid (fun W => fdMul_any p (row[q]?.getD 0) iv h2 h97 hxe.1 hxe.2 hib.1 hib.2 W)
              obtain ⟨z, hz⟩ : ∃ z, (row[q]?.getD 0 * iv) % p = z := ⟨_, rfl⟩
              rw [hz] at hmul hs
              generalize row[q]?.getD 0 = x at *
              have hq0 : 0 ≤ (q : Int) := by omega
              have hqn : (q : Int) < (n : Int) := by omega
              have HOQ := Lib.hid hown
              have HBQ := Lib.hid hbw
              have HSQ := Lib.hid hs
              have hm5 := Lib.hid (show q + 1 ≤ maxLen by have := HMG.out; omega)
              have hm6 := Lib.hid (show (q + 1) * 8 ≤ 140737488355328 by omega)
              have hszq := Lib.hid hbw.size
              clear hcella hga hown hbw hs hz hxe
              go_wp2_with (first | (go_at_call 64; ((with_reducible refine (hmul.out _).mono ?_); rintro e w' ⟨rfl, rfl⟩)) | (at_builtin; go_must (refine wpList_append_one _ rfl _ _ 41 rfl w4.heap.size 3 (.int .i64 0) 8 Tryd.underlying41 infoI rfl _ _ _ (.int .i64 z) HOQ.out rfl rfl rfl hm5.out hm6.out hszq.out ?_); intro v' w6 hown2 hg2))
              have hbl2 := Lib.hid (Below.grownRow HBQ.out HOQ.out hg2 hszq.out)
              rw [← HSQ.out] at hown2
              have H1 := Lib.hid hown2
              clear hown2 hg2
              go_wp2
              go_roundw
              case rel => exact ⟨q + 1, _, by omega, by go_num, rfl, H1.out, hbl2.out⟩
              case measure => simp [intOf]; omega
            · obtain rfl : q = n := by omega
              have h1 := owns_of_row hown HMG.out
              rw [List.take_of_length_le (by rw [scaleRow_length, HRLN.out]; exact Nat.le_refl _)] at h1
              have hfin : Hid (OptInts w true (scaleRow p iv row) (.returned (.tuple #[u12, .bool true])) wr) :=
                ⟨_, rfl, ⟨by rw [scaleRow_length, HRLN.out]; exact h1.1, h1.2.mono fun g hg => by have h3 := HB4.out.size; have h4 := HBW.out.size; omega⟩, (HBW.out.trans (HB4.out.mono HBW.out.size)).trans (hbw.mono (by have h3 := HB4.out.size; have h4 := HBW.out.size; omega))⟩
              clear h1 hown hbw
              go_wp2
              go_ret2
              rw [HF1.out, HF2.out]
              exact hfin.out
      · have hkn : k = ml := by omega
        have hf := hnone.out (by rw [HML.out, ← hkn]; exact hz.out)
        have HF1 := Lib.hid hf.1
        have HF2 := Lib.hid hf.2
        have hfin := Lib.hid (optInts_none ((HB.out.trans (B2.out.mono HB.out.size)).trans (hb.mono (by have h3 := B2.out.size; have h4 := HB.out.size; omega))))
        rw [hkn] at hlt ⊢
        clear hf hz hb hkn hsome hnone
        go_wp2
        go_ret2
        rw [HF1.out, HF2.out]
        exact hfin.out

set_option maxHeartbeats 4000000 in
set_option maxRecDepth 100000 in
theorem implSep_any (p c : Int) (u vv : Value) (A : List (List Int)) (v : List Int) (w : World) (ht : Tab w) (hu : ReadsM w u A) (hv : ReadsI w vv v) :
    Calls Tryd.prog 31 #[.int .i64 p, .agg #[.int .i64 c, u], vv] w (OptInts w (sepB p c A v) (sepOut p c A v)) := by
  obtain ⟨ua, uc, rfl⟩ := hu.form
  obtain ⟨va, vc, rfl⟩ := hv.form
  obtain ⟨w0, hw0⟩ : ∃ W, W = w.alloc (.cells #[.int .i64 c, .slice ua A.length uc] 43) := ⟨_, rfl⟩
  have hB : Below w.heap.size w w0 := by rw [hw0]; exact (Below.refl _ _).alloc (Nat.le_refl _) _
  have X0 : ∀ W, Below w0.heap.size w0 W → W.cell? ⟨w.heap.size, 0, none⟩ = some (.int .i64 c) := fun W hW => cell_old hW (by rw [hw0]; simp [go_sem])
  have X1 : ∀ W, Below w0.heap.size w0 W → W.cell? ⟨w.heap.size, 1, none⟩ = some (.slice ua A.length uc) := fun W hW => cell_old hW (by rw [hw0]; simp [go_sem])
  have hgood := Lib.hid (isSpace_any p c _ A w0 (ht.below ht.size hB) (hu.below hB))
  have HU := Lib.hid (hu.below hB)
  have HV := Lib.hid (hv.below hB)
  have hvec := Lib.hid (fun W (hW : Below w0.heap.size w0 W) => isVector_any p c (.slice va v.length vc) v.length v W (HV.out.below hW))
  have HB := Lib.hid hB
  have HW := Lib.hid hw0
  have hfs : fitSep p c A v = (spB p c A && vecB p c v) := rfl
  obtain ⟨b1, hb1⟩ : ∃ b, spB p c A = b := ⟨_, rfl⟩
  obtain ⟨b2, hb2⟩ : ∃ b, vecB p c v = b := ⟨_, rfl⟩
  rw [hb1, hb2] at hfs
  rw [hb1] at hgood
  rw [hb2] at hvec
  clear hu hv hB hw0 hb1 hb2 ht
  cases b1 with
  | false =>
    rw [Bool.false_and] at hfs
    rw [(sep_unfit hfs).1, (sep_unfit hfs).2]
    clear hfs
    go_enter Tryd.func31, Tryd.ntmps31
    go_wp2_with fail
    rw [← HW.out]
    refine hgood.out.mono ?_
    rintro e w1 ⟨rfl, hb⟩
    have HB1 := Lib.hid (HB.out.trans (hb.mono HB.out.size))
    clear hb
    go_wp2
    go_ret2
    exact optInts_none HB1.out
  | true =>
    rw [Bool.true_and] at hfs
    cases b2 with
    | false =>
      rw [(sep_unfit hfs).1, (sep_unfit hfs).2]
      clear hfs
      go_enter Tryd.func31, Tryd.ntmps31
      go_wp2_with fail
      rw [← HW.out]
      refine hgood.out.mono ?_
      rintro e w1 ⟨rfl, hb⟩
      have HB1 := Lib.hid (HB.out.trans (hb.mono HB.out.size))
      have x0 := X0 _ hb
      have hv1 := Lib.hid (hvec.out _ hb)
      clear hb
      go_wp2_with (go_at_call 65; ((with_reducible refine (hv1.out).mono ?_); rintro e w' ⟨rfl, rfl⟩))
      go_ret2
      exact optInts_none HB1.out
    | true =>
      have hb := hfs
      obtain ⟨n, rfl, hn, hl, hg, hA, hvl, hve⟩ := fitSep_parts hb
      obtain ⟨h2, h97⟩ := Fld.good_bounds hg
      obtain ⟨_, hR1, hR2, _⟩ := Lin.null_facts hg hA
      have hnull := Lib.hid (fun W (hW : Below w0.heap.size w0 W) => orthogonal_any p hg A.length n (by omega) (by omega) (.slice ua A.length uc) A W hA (HU.out.below hW))
      have hsome := Lib.hid (fun k hk hz hx => sep_some (k := k) hb hk hz hx)
      have hnone := Lib.hid (fun hz => sep_none (p := p) (n := n) (L := A) (v := v) hz)
      have HV3 : Hid (Reads w0 1 (.slice va n vc) n (ofL v)) := by have := HV.out; unfold ReadsI at this; rw [hvl] at this; exact this
      obtain ⟨R, hR⟩ : ∃ R, Lin.nullL p n A = R := ⟨_, rfl⟩
      rw [hR] at hnull hsome hnone hR1 hR2
      obtain ⟨sb, hsb⟩ : ∃ b, sepB p n A v = b := ⟨_, rfl⟩
      obtain ⟨so, hso⟩ : ∃ b, sepOut p n A v = b := ⟨_, rfl⟩
      rw [hsb, hso] at hsome hnone
      rw [hsb, hso]
      have HRE := Lib.hid hR1
      have HVE := Lib.hid hve
      have HGP := Lib.hid hg
      rw [hvl] at hvec
      rw [hvl]
      obtain ⟨ml, hml⟩ : ∃ m, R.length = m := ⟨_, rfl⟩
      have HML := Lib.hid hml
      have hml24 : ml ≤ 24 := by omega
      obtain ⟨al, hal⟩ : ∃ m, A.length = m := ⟨_, rfl⟩
      rw [hal] at X1 hnull HW hgood
      rw [hal]
      clear hb hfs hA hR hsb hso hR1 hR2 hve hg hvl hl hml hal HU HV
      go_enter Tryd.func31, Tryd.ntmps31
      go_wp2_with fail
      rw [← HW.out]
      refine hgood.out.mono ?_
      rintro e w1 ⟨rfl, hb1⟩
      have x0 := X0 _ hb1
      have x1 := X1 _ hb1
      have hnc := Lib.hid (hnull.out _ hb1)
      have hv1 := Lib.hid (hvec.out _ hb1)
      have HB1 := Lib.hid hb1
      clear hb1 hnull hgood hvec
      go_wp2_with fail
      refine hv1.out.mono ?_
      rintro e w1' ⟨rfl, rfl⟩
      go_wp2_with fail
      refine hnc.out.mono ?_
      rintro e w2 ⟨v2, rfl, ho2, hb2⟩
      obtain ⟨s2, k2, rfl⟩ := ho2.reads.form
      have HOW := Lib.hid ho2
      have B2 := Lib.hid (below_step HB1.out hb2)
      have HV2 := Lib.hid (HV3.out.below B2.out)
      clear ho2 hb2 hnc x0 x1
      rw [HML.out]
      go_wp2
      go_loopw [30] (fun i wr => ∃ k : Nat, k ≤ ml ∧ i = .int .i64 k ∧ Hid (∀ j, j < k → Lin.dotN p (lAt R j) v n = 0) ∧ Below w2.heap.size w2 wr) (fun i _ => ml + 1 - (intOf i).toNat)
      case atStart => exact ⟨0, by omega, rfl, Lib.hid (fun j hj => absurd hj (Nat.not_lt_zero _)), Below.refl _ _⟩
      case round =>
        obtain ⟨k, hk, rfl, hz, hb⟩ := hrel
        by_cases hlt : k < ml
        · obtain ⟨g, off, cap, r, e2, hm2, hx, hS, hor, hbk, hap, _⟩ := (HOW.out.below hb).openRow2 (i := k) (by rw [HML.out]; exact hlt)
          simp only [Value.slice.injEq] at e2
          obtain ⟨rfl, -, rfl⟩ := e2
          have hlr := HRE.out.2 k (by rw [HML.out]; exact hlt)
          rw [hlr.1] at hor hap
          rw [HML.out] at hm2
          have hdot := Lib.hid (dot_any p n h2 h97 (by omega) r (.slice va n vc) (lAt R k) v wr hor.reads (HV2.out.below hb) hlr.2 HVE.out)
          have hdb := Lin.dotN_bounds (p := p) h2 (lAt R k) v n
          have hk0 : 0 ≤ (k : Int) := by omega
          have hki : (k : Int) < (ml : Int) := by omega
          have HLR : Hid ((lAt R k).length = n ∧ ∀ j, j < n → 0 ≤ (lAt R k)[j]?.getD 0 ∧ (lAt R k)[j]?.getD 0 < p) := Lib.hid hlr
          have HOR := Lib.hid hor
          have HBKR := Lib.hid hbk
          have hfound := Lib.hid (hsome.out k (by rw [HML.out]; exact hlt) hz.out)
          obtain ⟨ar, cr, rfl⟩ := hor.form
          by_cases hd0 : Lin.dotN p (lAt R k) v n = 0
          · have hz2 : Hid (∀ j, j < k + 1 → Lin.dotN p (lAt R j) v n = 0) := Lib.hid fun j hj => by
              rcases Nat.lt_succ_iff_lt_or_eq.1 hj with h | rfl
              · exact hz.out j h
              · exact hd0
            rw [hd0] at hdot
            have HBK := Lib.hid hb
            clear hor hlr hdb hd0 hfound hb HLR HOR HBKR hS hbk hap
            go_wp2_with fail
            refine hdot.out.mono ?_
            rintro e w4 ⟨rfl, hb4⟩
            have HB4 := Lib.hid (below_step HBK.out hb4)
            clear hb4 hx
            go_wp2
            go_roundw
            case rel => exact ⟨k + 1, by omega, by go_num, hz2, HB4.out⟩
            case measure => simp [intOf]; omega
          · obtain ⟨d, hd⟩ : ∃ d, Lin.dotN p (lAt R k) v n = d := ⟨_, rfl⟩
            rw [hd] at hdot hdb hd0 hfound
            have hf := hfound.out hd0
            have HF1 := Lib.hid hf.1
            have HF2 := Lib.hid hf.2
            have hne : (d != 0) = true := by simpa using hd0
            obtain ⟨row, hrow⟩ : ∃ l, lAt R k = l := ⟨_, rfl⟩
            rw [hrow] at HOR HLR HBKR HF2
            have HBK := Lib.hid hb
            have HBW := Lib.hid ((HB.out.trans (B2.out.mono HB.out.size)))
            have HB1W := Lib.hid (HB.out.size)
            have HB1S := Lib.hid (HB1.out.size)
            clear hor hlr hd hfound hb hf hz hrow HRE hsome hnone hS hbk hap
            go_wp2_with fail
            refine hdot.out.mono ?_
            rintro e w4 ⟨rfl, hb4⟩
            have HB4 := Lib.hid (below_step HBK.out hb4)
            have HOR4 := Lib.hid (HOR.out.below hb4)
            have HLT := Lib.hid (show ∀ g', 0 < n → (Value.slice ar n cr).ownBlock = some g' → g' < w4.heap.size ∧ w.heap.size ≤ g' from fun g' hn0 hg' => by
              have hnil : ofL row ≠ [] := ofL_ne.2 (List.length_pos_iff.1 (by rw [HLR.out.1]; exact hn0))
              have h1 := HOR4.out.reads.lt g' hnil hg'
              have h3 := HBKR.out g' hnil hg'
              have h5 := HB1W.out
              have h6 := HB1S.out
              exact ⟨h1, by omega⟩)
            clear hb4 hx
            have hcall : Hid (Calls Tryd.prog 68 #[.agg #[.int .i64 1, .int .i64 0, .int .i64 0, .int .i64 d], .int .i64 p, .slice (some ⟨w4.heap.size, 0, none⟩) 1 1] (w4.alloc (.cells #[.slice ar n cr] 41)) fun e w' => e = .returned (.tuple #[]) ∧ Owns w' 3 1 (.slice ar n cr) n (ofL (scaleRow p (invI p d) row)) ∧ Chg (fun g' => (Value.slice ar n cr).ownBlock = some g' ∧ 0 < n) (w4.alloc (.cells #[.slice ar n cr] 41)) w') :=
              applyOne_any p d HGP.out (by omega) (by omega) 0 n 1 1 w4.heap.size 0 row HLR.out.1 HLR.out.2 (.slice ar n cr) (w4.alloc (.cells #[.slice ar n cr] 41)) (by omega) (by omega) (by simp [go_sem]) (HOR4.out.below ((Below.refl _ _).alloc (Nat.le_refl _) _)) (fun hn0 e => by have := HLT.out _ hn0 e; omega)
            go_wp2_with fail
            refine hcall.out.mono ?_
            rintro e w6 ⟨rfl, ho6, hc6⟩
            have hfin : Hid (OptInts w true (scaleRow p (invI p d) row) (.returned (.tuple #[.slice ar n cr, .bool true])) w6) := by
              have hBw4 : Below w.heap.size w (w4.alloc (.cells #[.slice ar n cr] 41)) := (HBW.out.trans (HB4.out.mono HBW.out.size)).alloc (by have h3 := HB4.out.size; have h4 := HBW.out.size; omega) _
              refine ⟨_, rfl, ⟨by rw [scaleRow_length, HLR.out.1]; exact ho6, fun g' hx hg' => (HLT.out g' ?_ hg').2⟩, hBw4.trans (hc6.below hBw4.size fun g' hg' => (HLT.out g' hg'.2 hg'.1).2)⟩
              have := ofL_ne.1 hx
              have := List.length_pos_iff.2 this
              rw [scaleRow_length, HLR.out.1] at this
              exact this
            clear ho6 hc6 hcall
            go_wp2
            go_ret2
            rw [HF1.out, HF2.out]
            exact hfin.out
        · have hkn : k = ml := by omega
          have hf := hnone.out (by rw [HML.out, ← hkn]; exact hz.out)
          have HF1 := Lib.hid hf.1
          have HF2 := Lib.hid hf.2
          have hfin := Lib.hid (optInts_none ((HB.out.trans (B2.out.mono HB.out.size)).trans (hb.mono (by have h3 := B2.out.size; have h4 := HB.out.size; omega))))
          rw [hkn] at hlt ⊢
          clear hf hz hb hkn hsome hnone
          go_wp2
          go_ret2
          rw [HF1.out, HF2.out]
          exact hfin.out

end Ints
end Go.Proofs.YtimjlcnljefbbaaDoor
