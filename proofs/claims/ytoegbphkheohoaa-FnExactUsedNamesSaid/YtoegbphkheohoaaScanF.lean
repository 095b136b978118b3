/- The reference's scan of a term. (Printed by wip/gen_scan.py.) -/
import Derived.Test.YtoegbphkheohoaaScanP
import Derived.Test.YtoegbphkheohoaaTri
import Derived.Deep.RegionHeld3
import Derived.Deep.DeepCutAuto
import Derived.Deep.QuietTactic
import Derived.BigQuiet
namespace Go.Proofs.Ytoegbphkheohoaa
open Go.RowKit
namespace Ints
open Fld (inR l1In_any)

def frL (tr : Tri) : List Int := tr.map fun t => (t.1 : Int)
def inL (tr : Tri) : List Int := tr.map fun t => t.2.1
def ouL (tr : Tri) : List Int := tr.map fun t => t.2.2
theorem frL_at (tr : Tri) (i : Nat) : (frL tr)[i]?.getD 0 = (frAt tr i : Int) := by
  unfold frL frAt
  rw [List.getElem?_map]
  cases tr[i]? <;> rfl
theorem inL_at (tr : Tri) (i : Nat) : (inL tr)[i]?.getD 0 = (wiAt tr i).1 := by
  unfold inL wiAt
  rw [List.getElem?_map]
  cases tr[i]? <;> rfl
theorem ouL_at (tr : Tri) (i : Nat) : (ouL tr)[i]?.getD 0 = (wiAt tr i).2 := by
  unfold ouL wiAt
  rw [List.getElem?_map]
  cases tr[i]? <;> rfl
theorem frL_len (tr : Tri) : (frL tr).length = tr.length := by simp [frL]
theorem inL_len (tr : Tri) : (inL tr).length = tr.length := by simp [inL]
theorem ouL_len (tr : Tri) : (ouL tr).length = tr.length := by simp [ouL]
theorem frL_snoc (tr : Tri) (j : Nat) (p : Int × Int) : frL (tr ++ [(j, p)]) = frL tr ++ [(j : Int)] := by simp [frL]
theorem inL_snoc (tr : Tri) (j : Nat) (p : Int × Int) : inL (tr ++ [(j, p)]) = inL tr ++ [p.1] := by simp [inL]
theorem ouL_snoc (tr : Tri) (j : Nat) (p : Int × Int) : ouL (tr ++ [(j, p)]) = ouL tr ++ [p.2] := by simp [ouL]
theorem infoI' : (Try.prog.info? 3).map (fun i => (i.zero, i.size, i.bytes)) = some (some (.int .i64 0), 1, 8) := by kernel_rfl
theorem scanB_none {ds : List DefL} {ns : List NodeL} (h : runS ds ns = none) : scanB ds ns = false := by
  unfold scanB
  rw [h]
  simp

theorem stepS_no {ds : List DefL} {tr : Tri} {n : NodeL} (hl : leafB n = false) (h17 : n.kind ≠ 17) (h : ¬ (n.kind = 15 ∨ n.kind = 16) ∨ emptyB n.name = false ∨ n.value ≠ 0 ∨ tr.length < 2 ∨ frAt tr (tr.length - 1) < 1) : stepS ds tr n = none := by
  unfold stepS
  rw [if_neg (by rw [hl]; rintro (h | h); cases h; exact h17 h), if_pos h]
theorem stepS_join {ds : List DefL} {tr : Tri} {n : NodeL} {q a : Nat} (hl : leafB n = false) (h17 : n.kind ≠ 17) (hk : n.kind = 15 ∨ n.kind = 16) (he : emptyB n.name = true) (hv : n.value = 0) (hq : tr.length = q + 2) (hf : frAt tr (q + 1) = a + 1) :
    stepS ds tr n = (joinS n.kind (wiAt tr a) (wiAt tr (q + 1))).map fun p => tr ++ [(frAt tr a, p)] := by
  unfold stepS
  have e1 : tr.length - 1 = q + 1 := by omega
  have e2 : a + 1 - 1 = a := by omega
  rw [if_neg (by rw [hl]; rintro (h | h); cases h; exact h17 h), e1, hf, e2, if_neg]
  rintro (h | h | h | h | h)
  · exact h hk
  · rw [he] at h; cases h
  · exact h hv
  · omega
  · omega
theorem chain_top {tr : Tri} {st : List (Int × Int)} {q : Nat} (h : Chain tr (q + 2) st) (hb : ∀ p ∈ st, bnd p) :
    bnd (wiAt tr (q + 1)) ∧ frAt tr (q + 1) ≤ q + 1 ∧ ∀ a, frAt tr (q + 1) = a + 1 → bnd (wiAt tr a) ∧ a ≤ q := by
  cases h with
  | @cons i j p st1 h hj hc =>
    have hfr : frAt tr (q + 1) = j := by unfold frAt; rw [h]; rfl
    have hwb : wiAt tr (q + 1) = p := by unfold wiAt; rw [h]; rfl
    rw [hfr, hwb]
    refine ⟨hb p (by simp), hj, fun a ha => ?_⟩
    subst ha
    cases hc with
    | @cons i2 j2 p2 st2 h2 hj2 hc2 =>
      have hwa : wiAt tr a = p2 := by unfold wiAt; rw [h2]; rfl
      rw [hwa]
      exact ⟨hb p2 (by simp), by omega⟩

/-- What the scan returns: the table, where there is one. -/
def ScanOut (w : World) (ok : Bool) (o : Option Tri) (e : Ending) (w' : World) : Prop :=
  ∃ a1 n1 c1 a2 n2 c2 a3 n3 c3, e = .returned (.tuple #[.agg #[.slice a1 n1 c1, .slice a2 n2 c2, .slice a3 n3 c3], .bool ok]) ∧ (ok = true → ∃ tr, o = some tr ∧ Reads w' 1 (.slice a1 n1 c1) tr.length (ofL (frL tr)) ∧ Reads w' 1 (.slice a2 n2 c2) tr.length (ofL (inL tr)) ∧ Reads w' 1 (.slice a3 n3 c3) tr.length (ofL (ouL tr))) ∧ Below w.heap.size w w'
theorem tri_reads {W W' : World} {b base n : Nat} {F I O : List Int} {vF vI vO : Value} (h : Tri3 W b base F I O vF vI vO) (hF : F.length = n) (hI : I.length = n) (hO : O.length = n) (hn : n ≤ maxLen) (hc : Chg (fun g => g < base) W W') :
    Reads W' 1 vF n (ofL F) ∧ Reads W' 1 vI n (ofL I) ∧ Reads W' 1 vO n (ofL O) := by
  have h1 := owns_of_row h.f (by rw [hF]; exact hn)
  have h2 := owns_of_row h.i (by rw [hI]; exact hn)
  have h3 := owns_of_row h.o (by rw [hO]; exact hn)
  rw [hF] at h1
  rw [hI] at h2
  rw [hO] at h3
  exact ⟨h1.1.reads.chg hc (h1.2.mono fun g hg hlt => by omega), h2.1.reads.chg hc (h2.2.mono fun g hg hlt => by omega), h3.1.reads.chg hc (h3.2.mono fun g hg hlt => by omega)⟩
/-- What the scan's round holds. -/
def ScnSt (w0 : World) (b : Nat) (ds : List DefL) (ns : List NodeL) (k : Nat) (tr : Tri) (vF vI vO : Value) (wr : World) : Prop :=
  runS ds (ns.take k) = some tr ∧ tr.length = k ∧ Tri3 wr b w0.heap.size (frL tr) (inL tr) (ouL tr) vF vI vO ∧ Chg (fun g => g = b ∨ w0.heap.size ≤ g) w0 wr


set_option maxRecDepth 100000 in
set_option maxHeartbeats 8000000 in
theorem lbScan_any (vd vn : Value) (ds : List DefL) (ns : List NodeL) (hbd : bndD ds) (w : World) (hd : ReadsD w vd ds) (h : ReadsN w vn ns) :
    Calls Try.prog 34 #[vd, .agg #[vn]] w (ScanOut w (scanB ds ns) (runS ds ns)) := by
  obtain ⟨a, cap, rfl, hm, hc⟩ := open_readsN h
  obtain ⟨ad, capd, rfl, hmd, hcd⟩ := open_readsD hd
  obtain ⟨n, hn⟩ : ∃ n, ns.length = n := ⟨_, rfl⟩
  obtain ⟨w0, hw0⟩ : ∃ W, W = ((w.alloc (.cells #[.slice a ns.length cap] 35)).alloc (.cells #[.slice none 0 0, .slice none 0 0, .slice none 0 0] 67)).alloc (.cells #[.slice none 0 0, .slice none 0 0, .slice none 0 0] 67) := ⟨_, rfl⟩
  have hB := Lib.hid (show Below w.heap.size w w0 by rw [hw0]; exact (((Below.refl w.heap.size w).alloc (Nat.le_refl _) _).alloc (by simp) _).alloc (by simp; omega) _)
  have HS := Lib.hid (show w0.heap.size = w.heap.size + 3 by rw [hw0]; simp)
  obtain ⟨q1, q2, q3⟩ := three_blocks w (.cells #[.slice a ns.length cap] 35) (.cells #[.slice none 0 0, .slice none 0 0, .slice none 0 0] 67) (.cells #[.slice none 0 0, .slice none 0 0, .slice none 0 0] 67)
  rw [← hw0] at q1 q2 q3
  have HT0 := Lib.hid (Tri3.start (base := w0.heap.size) q3 (by rw [HS.out]; omega) (Nat.le_refl _))
  have HX := Lib.hid (show ∀ W, Chg (fun g => g = w.heap.size + 1 + 1 ∨ w0.heap.size ≤ g) w0 W → W.cell? ⟨w.heap.size, 0, none⟩ = some (.slice a ns.length cap) ∧ W.heap[w.heap.size + 1]? = some (.cells #[.slice none 0 0, .slice none 0 0, .slice none 0 0] 67 (0, 0)) ∧ Below w.heap.size w W from by
    intro W hW
    have hs := HS.out
    refine ⟨hW.keep ((Go.Joins.cell_of_block q1 0).trans rfl) (by simp only; omega), block_keep q2 hW (by omega), hB.out.trans (hW.below (by omega) fun g hg => by omega)⟩)
  have hwin := Lib.hid (fun W => l1In_any (n : Int) 1 400 W)
  have HN := Lib.hid hn
  have HC := Lib.hid hc
  have HCD := Lib.hid hcd
  have HD := Lib.hid hd
  have HBD := Lib.hid hbd
  have HW := Lib.hid hw0
  obtain ⟨r, hr⟩ : ∃ r, scanB ds ns = r := ⟨_, rfl⟩
  have HR := Lib.hid hr
  rw [hr]
  rw [hn] at hm HX HW ⊢
  clear h hd hc hcd hn hw0 hr q1 q2 q3
  cases hi : inR (n : Int) 1 400 with
  | false =>
    have hrf : Hid (r = false) := by
      show _ = _
      rw [← HR.out]
      unfold scanB
      unfold inR at hi
      simp at hi
      rw [decide_eq_false (by rw [HN.out]; omega)]
      rfl
    rw [hrf.out]
    rw [hi] at hwin
    clear hi
    go_enter Try.func34, Try.ntmps34
    go_wp2_with (go_at_call 47; ((with_reducible refine (hwin.out _).mono ?_); rintro e w' ⟨rfl, rfl⟩))
    refine bodyPost_ret (v := .tuple #[.agg #[.slice none 0 0, .slice none 0 0, .slice none 0 0], .bool false]) (by simp [results, Try.results34, go_sem]) rfl ?_
    rw [← HW.out]
    exact ⟨_, _, _, _, _, _, _, _, _, rfl, (fun h => by cases h), hB.out⟩
  | true =>
    have hn400 : 1 ≤ n ∧ n ≤ 400 := by
      unfold inR at hi
      simp at hi
      omega
    have HN4 := Lib.hid hn400
    have HNO := Lib.hid (fun (h : runS ds ns = none) => HR.out.symm.trans (scanB_none h))
    rw [hi] at hwin
    clear hi hn400
    go_enter Try.func34, Try.ntmps34
    go_wp2_with (go_at_call 47; ((with_reducible refine (hwin.out _).mono ?_); rintro e w' ⟨rfl, rfl⟩))
    rw [← HW.out]
    go_loopw [25] (fun i wr => ∃ (k : Nat) (tr : Tri) (aF aI aO : Option Addr) (cF cI cO : Nat), k ≤ n ∧ i = .int .i64 k ∧ Hid (ScnSt w0 (w.heap.size + 1 + 1) ds ns k tr (.slice aF k cF) (.slice aI k cI) (.slice aO k cO) wr)) (fun i _ => n + 1 - (intOf i).toNat)
    case atStart => exact ⟨0, [], none, none, none, 0, 0, 0, by omega, rfl, Lib.hid ⟨by simp [runS], rfl, HT0.out, Chg.refl _ _⟩⟩
    case round =>
      obtain ⟨k, tr, aF, aI, aO, cF, cI, cO, hk, rfl, H⟩ := hrel
      by_cases hlt : k < n
      · obtain ⟨hrun, hlen, hT, hch⟩ := H.out
        obtain ⟨-, -, hbk⟩ := HX.out wr hch
        obtain ⟨gg, off, rfl, hg, hE⟩ := HC.out k (by rw [HN.out]; exact hlt)
        obtain ⟨x0, x1, x2⟩ := hE.below hbk
        have hsucc := runS_succ ds ns k (by rw [HN.out]; exact hlt)
        rw [hrun, Option.bind_some] at hsucc
        have hsim := run_sim HBD.out ns k (by rw [HN.out]; exact hk)
        rw [hrun] at hsim
        have hcn : Hid (∃ st, Chain tr k st ∧ ∀ p ∈ st, bnd p) := by
          rcases hsim with ⟨h1, _⟩ | ⟨tr2, st, h1, h2, h3, h4⟩
          · cases h1
          · cases h1
            exact Lib.hid ⟨st, h4, runT_bnd HBD.out ns k (by rw [HN.out]; exact hk) st h2⟩
        have hnn : Hid (stepS ds tr (nAt ns k) = none → r = false) := Lib.hid fun h => HNO.out (runS_none (k := k + 1) (by rw [hsucc, h]))
        have HSU := Lib.hid hsucc
        have hk0 : 0 ≤ (k : Int) := by omega
        have hkn : (k : Int) < (n : Int) := by omega
        clear hE hsucc hsim
        obtain ⟨nd, hnd⟩ : ∃ nd, nAt ns k = nd := ⟨_, rfl⟩
        rw [hnd] at x0 x1 x2 hnn HSU
        clear hnd
        obtain ⟨kd, vl, s⟩ := nd
        dsimp only at x0 x1 x2
        obtain ⟨W1, hW1⟩ : ∃ W, W = wr.alloc (.cells #[.int .i64 kd, .int .i64 vl, .string s] 71) := ⟨_, rfl⟩
        have hb1 : Below wr.heap.size wr W1 := by rw [hW1]; exact (Below.refl _ _).alloc (Nat.le_refl _) _
        have hws : w0.heap.size ≤ wr.heap.size := hch.size
        have hch1 : ∀ W, Below W1.heap.size W1 W → Chg (fun g => g = w.heap.size + 1 + 1 ∨ w0.heap.size ≤ g) w0 W := fun W hW => (hch.trans (Below.chg hb1 _)).trans (Below.chg hW _)
        have HCH := Lib.hid hch1
        have HTT := Lib.hid (fun W (hW : Below W1.heap.size W1 W) => (hT.below hb1).below hW)
        have HND := Lib.hid (show ∀ W, Below W1.heap.size W1 W → W.cell? ⟨wr.heap.size, 0, none⟩ = some (.int .i64 kd) ∧ W.cell? ⟨wr.heap.size, 1, none⟩ = some (.int .i64 vl) ∧ W.cell? ⟨wr.heap.size, 2, none⟩ = some (.string s) from fun W hW =>
          ⟨cell_old hW (by rw [hW1]; simp [go_sem]), cell_old hW (by rw [hW1]; simp [go_sem]), cell_old hW (by rw [hW1]; simp [go_sem])⟩)
        have HLN := Lib.hid hlen
        have HLF : Hid ((frL tr).length = k ∧ (inL tr).length = k ∧ (ouL tr).length = k) := ⟨by rw [frL_len, hlen], by rw [inL_len, hlen], by rw [ouL_len, hlen]⟩
        have HW1 := Lib.hid hW1
        have hlf := Lib.hid (fun W => tmLeaf_all ⟨kd, vl, s⟩ W)
        have har := Lib.hid (fun W => tmArity_any ⟨kd, vl, s⟩ W)
        dsimp only at hlf har
        have hm3 := Lib.hid (show k + 1 ≤ maxLen by have := HN4.out; unfold maxLen; omega)
        have hm4 := Lib.hid (show (k + 1) * 8 ≤ 140737488355328 by have := HN4.out; omega)
        have HWS := Lib.hid hws
        clear hrun hlen hT hch hbk hb1 hch1 hW1 hws H
        cases hl : leafB ⟨kd, vl, s⟩ with
        | true => as_aux_lemma =>
          have hk14 := leaf_kind hl
          dsimp only at hk14
          have b17 : (kd == 17) = false := by simpa using hk14.2.2
          have hw : wireOf ds ⟨kd, vl, s⟩ = some (leafW ⟨kd, vl, s⟩) := by
            unfold wireOf
            rw [if_neg hk14.2.2, if_pos hl]
          have HSU2 : Hid (runS ds (ns.take (k + 1)) = some (tr ++ [(k, leafW ⟨kd, vl, s⟩)])) := by
            show _ = _
            rw [HSU.out]
            unfold stepS
            rw [if_pos (.inl hl), hw, HLN.out]
            rfl
          obtain ⟨p, hp⟩ : ∃ p, leafW ⟨kd, vl, s⟩ = p := ⟨_, rfl⟩
          rw [hp] at har HSU2
          rw [hl] at hlf
          clear hk14 hw hp hl
          go_wp2_with fail
          rw [← HW1.out]
          refine (hlf.out W1).mono ?_
          rintro e w2 ⟨rfl, hb2⟩
          obtain ⟨z0, z1, z2⟩ := HND.out w2 hb2
          have HB2 := Lib.hid hb2
          clear hb2 x0 x1 x2
          go_wp2_with fail
          refine (har.out w2).mono ?_
          rintro e w3 ⟨rfl, hb3⟩
          have HBX := Lib.hid (below_step HB2.out hb3)
          obtain ⟨z0, z1, z2⟩ := HND.out w3 HBX.out
          have T0 := Lib.hid (HTT.out w3 HBX.out)
          clear hb3
          obtain ⟨kFA, kIA, kOA⟩ := T0.out.cells
          have hRA := T0.out.f
          rw [HLF.out.1] at hRA
          have HRA := Lib.hid hRA
          have hZA := Lib.hid T0.out.hs
          clear hRA
          go_upto_region 15 with (at_builtin; go_must (refine wpList_append_at rfl _ _ 65 rfl w0.heap.size 3 (.int .i64 0) 8 Try.underlying65 infoI rfl _ _ _ _ HRA.out rfl rfl rfl hm3.out hm4.out hZA.out ?_); intro vA wA hownA hgA hatA; obtain ⟨aA, cA, rfl⟩ := ownsRow_form' hownA; have yA := T0.out.midF hgA; have fA := yA.2; replace yA := yA.1)
          have hpA := T0.out.pushF (x := (k : Int)) (by rw [HLF.out.1]; exact hownA) hgA hatA
          obtain ⟨WA, hWA⟩ : ∃ W, W = wA.setCell ⟨w.heap.size + 1 + 1, 0, none⟩ (.slice aA (k + 1) cA) := ⟨_, rfl⟩
          rw [← hWA] at hpA ⊢
          have T1 := Lib.hid hpA.1
          have HGWA := Lib.hid hpA.2
          clear hpA hownA hgA hatA hWA yA fA kFA kIA kOA
          obtain ⟨kFB, kIB, kOB⟩ := T1.out.cells
          have hRB := T1.out.i
          rw [HLF.out.2.1] at hRB
          have HRB := Lib.hid hRB
          have hZB := Lib.hid T1.out.hs
          clear hRB
          go_upto_region 16 with (at_builtin; go_must (refine wpList_append_at rfl _ _ 65 rfl w0.heap.size 3 (.int .i64 0) 8 Try.underlying65 infoI rfl _ _ _ _ HRB.out rfl rfl rfl hm3.out hm4.out hZB.out ?_); intro vB wB hownB hgB hatB; obtain ⟨aB, cB, rfl⟩ := ownsRow_form' hownB; have yB := T1.out.midI hgB; have fB := yB.2; replace yB := yB.1)
          have hpB := T1.out.pushI (x := p.1) (by rw [HLF.out.2.1]; exact hownB) hgB hatB
          obtain ⟨WB, hWB⟩ : ∃ W, W = wB.setCell ⟨w.heap.size + 1 + 1, 1, none⟩ (.slice aB (k + 1) cB) := ⟨_, rfl⟩
          rw [← hWB] at hpB ⊢
          have T2 := Lib.hid hpB.1
          have HGWB := Lib.hid hpB.2
          clear hpB hownB hgB hatB hWB yB fB kFB kIB kOB
          obtain ⟨kFC, kIC, kOC⟩ := T2.out.cells
          have hRC := T2.out.o
          rw [HLF.out.2.2] at hRC
          have HRC := Lib.hid hRC
          have hZC := Lib.hid T2.out.hs
          clear hRC
          go_upto_region 31 with (at_builtin; go_must (refine wpList_append_at rfl _ _ 65 rfl w0.heap.size 3 (.int .i64 0) 8 Try.underlying65 infoI rfl _ _ _ _ HRC.out rfl rfl rfl hm3.out hm4.out hZC.out ?_); intro vC wC hownC hgC hatC; obtain ⟨aC, cC, rfl⟩ := ownsRow_form' hownC; have yC := T2.out.midO hgC; have fC := yC.2; replace yC := yC.1)
          have hpC := T2.out.pushO (x := p.2) (by rw [HLF.out.2.2]; exact hownC) hgC hatC
          obtain ⟨WC, hWC⟩ : ∃ W, W = wC.setCell ⟨w.heap.size + 1 + 1, 2, none⟩ (.slice aC (k + 1) cC) := ⟨_, rfl⟩
          rw [← hWC] at hpC ⊢
          have T3 := Lib.hid hpC.1
          have HGWC := Lib.hid hpC.2
          clear hpC hownC hgC hatC hWC yC fC kFC kIC kOC
          have hnew : Hid (ScnSt w0 (w.heap.size + 1 + 1) ds ns (k + 1) (tr ++ [(k, p)]) (.slice aA (k + 1) cA) (.slice aB (k + 1) cB) (.slice aC (k + 1) cC) WC) := by
            refine Lib.hid ⟨HSU2.out, by rw [List.length_append, HLN.out]; rfl, ?_, (((HCH.out _ HBX.out).trans HGWA.out).trans HGWB.out).trans HGWC.out⟩
            rw [frL_snoc, inL_snoc, ouL_snoc]
            exact T3.out
          go_wp2
          go_roundw
          case rel => exact ⟨k + 1, _, _, _, _, _, _, _, by omega, by go_num, hnew⟩
          case measure => simp [intOf]; omega
        | false =>
          rw [hl] at hlf
          by_cases h17 : kd = 17
          · as_aux_lemma =>
            subst h17
            have hfd := Lib.hid (fun W hW => lbFind_any (.slice ad ds.length capd) ds s W hW)
            obtain ⟨qa, hqa⟩ : ∃ q, leafW ⟨17, vl, s⟩ = q := ⟨_, rfl⟩
            rw [hqa] at har
            have hst : Hid (stepS ds tr ⟨17, vl, s⟩ = (wireOf ds ⟨17, vl, s⟩).map fun p => tr ++ [(k, p)]) := by
              show _ = _
              unfold stepS
              rw [if_pos (.inr rfl), HLN.out]
            have hwo : Hid (wireOf ds ⟨17, vl, s⟩ = match findD ds s with
                | some i => if vl = 0 then some ((dAt ds i).inp, (dAt ds i).out) else none
                | none => none) := rfl
            clear hqa hl
            cases hf : findD ds s with
            | none =>
              rw [hf] at hfd
              have hfd2 : ∀ W (hW : ReadsD W (.slice ad ds.length capd) ds), Calls Try.prog 33 #[.slice ad ds.length capd, .string s] W fun e w' => e = .returned (.int .i64 (-1)) ∧ Below W.heap.size W w' := hfd.out
              have hrn := Lib.hid (hnn.out (by rw [hst.out, hwo.out, hf]; rfl))
              replace hfd := Lib.hid hfd2
              clear hfd2 hf hwo
              go_wp2_with fail
              rw [← HW1.out]
              refine (hlf.out W1).mono ?_
              rintro e w2 ⟨rfl, hb2⟩
              obtain ⟨z0, z1, z2⟩ := HND.out w2 hb2
              have HB2 := Lib.hid hb2
              clear hb2 x0 x1 x2
              go_wp2_with fail
              refine (har.out w2).mono ?_
              rintro e w3 ⟨rfl, hb3⟩
              have HB3 := Lib.hid (below_step HB2.out hb3)
              obtain ⟨z0, z1, z2⟩ := HND.out w3 HB3.out
              clear hb3
              go_wp2_with fail
              refine (hfd.out w3 (HD.out.below (HX.out w3 (HCH.out _ HB3.out)).2.2)).mono ?_
              rintro e w4 ⟨rfl, hb4⟩
              have HBX := Lib.hid (below_step HB3.out hb4)
              obtain ⟨z0, z1, z2⟩ := HND.out w4 HBX.out
              clear hb4
              have hchx := HCH.out _ HBX.out
              obtain ⟨cF0, cI0, cO0⟩ := (HTT.out _ HBX.out).cells
              obtain ⟨-, hblk, hbw⟩ := HX.out _ hchx
              have y0 := (Go.Joins.cell_of_block hblk 0).trans rfl
              have y1 := (Go.Joins.cell_of_block hblk 1).trans rfl
              have y2 := (Go.Joins.cell_of_block hblk 2).trans rfl
              have f0 := Go.Joins.unfrozen_of_block hblk 0
              have f1 := Go.Joins.unfrozen_of_block hblk 1
              have f2 := Go.Joins.unfrozen_of_block hblk 2
              have HFB := Lib.hid (((hbw.setCell (p := ⟨w.heap.size + 1, 0, none⟩) (by simp) (.slice aF k cF)).setCell (p := ⟨w.heap.size + 1, 1, none⟩) (by simp) (.slice aI k cI)).setCell (p := ⟨w.heap.size + 1, 2, none⟩) (by simp) (.slice aO k cO))
              clear hblk hbw hchx
              go_wp2
              refine bodyPost_ret (v := .tuple #[.agg #[.slice aF k cF, .slice aI k cI, .slice aO k cO], .bool false]) (by simp [results, Try.results34, go_sem, y0, y1, y2]) rfl ?_
              rw [hrn.out]
              exact ⟨_, _, _, _, _, _, _, _, _, rfl, (fun h => by cases h), HFB.out⟩
            | some i =>
              rw [hf] at hfd
              have hfd2 : ∀ W (hW : ReadsD W (.slice ad ds.length capd) ds), Calls Try.prog 33 #[.slice ad ds.length capd, .string s] W fun e w' => e = .returned (.int .i64 (i : Int)) ∧ Below W.heap.size W w' := hfd.out
              have hil := findD_lt hf
              have hi0 : decide ((i : Int) < 0) = false := by simp
              have hi1 : 0 ≤ (i : Int) := by omega
              have hi2 : (i : Int) < (ds.length : Int) := by omega
              replace hfd := Lib.hid hfd2
              clear hfd2
              by_cases hv : vl = 0
              · subst hv
                have HSU2 : Hid (runS ds (ns.take (k + 1)) = some (tr ++ [(k, ((dAt ds i).inp, (dAt ds i).out))])) := by
                  show _ = _
                  rw [HSU.out, hst.out, hwo.out, hf]
                  rfl
                clear hf hwo hst
                go_wp2_with fail
                rw [← HW1.out]
                refine (hlf.out W1).mono ?_
                rintro e w2 ⟨rfl, hb2⟩
                obtain ⟨z0, z1, z2⟩ := HND.out w2 hb2
                have HB2 := Lib.hid hb2
                clear hb2 x0 x1 x2
                go_wp2_with fail
                refine (har.out w2).mono ?_
                rintro e w3 ⟨rfl, hb3⟩
                have HB3 := Lib.hid (below_step HB2.out hb3)
                obtain ⟨z0, z1, z2⟩ := HND.out w3 HB3.out
                clear hb3
                go_wp2_with fail
                refine (hfd.out w3 (HD.out.below (HX.out w3 (HCH.out _ HB3.out)).2.2)).mono ?_
                rintro e w4 ⟨rfl, hb4⟩
                have HBX := Lib.hid (below_step HB3.out hb4)
                obtain ⟨z0, z1, z2⟩ := HND.out w4 HBX.out
                clear hb4
                obtain ⟨g3, o3, a3, c3, rfl, _, hE3⟩ := HCD.out i hil
                obtain ⟨d0, d1, d2, d3, -⟩ := hE3.below (HX.out w4 (HCH.out _ HBX.out)).2.2
                obtain ⟨p, hp⟩ : ∃ p : Int × Int, ((dAt ds i).inp, (dAt ds i).out) = p := ⟨_, rfl⟩
                rw [show (dAt ds i).inp = p.1 by rw [← hp]] at d1
                rw [show (dAt ds i).out = p.2 by rw [← hp]] at d2
                rw [hp] at HSU2
                clear hE3 hp hil
                go_wp2
                go_quiet (fail)
                obtain ⟨w5, hw5⟩ : ∃ W, W = w4.drewN nq := ⟨_, rfl⟩
                replace HBX := Lib.hid (show Below W1.heap.size W1 w5 by rw [hw5]; exact Below.drewN' HBX.out nq)
                rw [← hw5]
                clear hw5 nq d0 d1 d2 d3 z0 z1 z2
                obtain ⟨z0, z1, z2⟩ := HND.out w5 HBX.out
                have T0 := Lib.hid (HTT.out w5 HBX.out)
                obtain ⟨kFA, kIA, kOA⟩ := T0.out.cells
                have hRA := T0.out.f
                rw [HLF.out.1] at hRA
                have HRA := Lib.hid hRA
                have hZA := Lib.hid T0.out.hs
                clear hRA
                go_upto_region 15 with (at_builtin; go_must (refine wpList_append_at rfl _ _ 65 rfl w0.heap.size 3 (.int .i64 0) 8 Try.underlying65 infoI rfl _ _ _ _ HRA.out rfl rfl rfl hm3.out hm4.out hZA.out ?_); intro vA wA hownA hgA hatA; obtain ⟨aA, cA, rfl⟩ := ownsRow_form' hownA; have yA := T0.out.midF hgA; have fA := yA.2; replace yA := yA.1)
                have hpA := T0.out.pushF (x := (k : Int)) (by rw [HLF.out.1]; exact hownA) hgA hatA
                obtain ⟨WA, hWA⟩ : ∃ W, W = wA.setCell ⟨w.heap.size + 1 + 1, 0, none⟩ (.slice aA (k + 1) cA) := ⟨_, rfl⟩
                rw [← hWA] at hpA ⊢
                have T1 := Lib.hid hpA.1
                have HGWA := Lib.hid hpA.2
                clear hpA hownA hgA hatA hWA yA fA kFA kIA kOA
                obtain ⟨kFB, kIB, kOB⟩ := T1.out.cells
                have hRB := T1.out.i
                rw [HLF.out.2.1] at hRB
                have HRB := Lib.hid hRB
                have hZB := Lib.hid T1.out.hs
                clear hRB
                go_upto_region 16 with (at_builtin; go_must (refine wpList_append_at rfl _ _ 65 rfl w0.heap.size 3 (.int .i64 0) 8 Try.underlying65 infoI rfl _ _ _ _ HRB.out rfl rfl rfl hm3.out hm4.out hZB.out ?_); intro vB wB hownB hgB hatB; obtain ⟨aB, cB, rfl⟩ := ownsRow_form' hownB; have yB := T1.out.midI hgB; have fB := yB.2; replace yB := yB.1)
                have hpB := T1.out.pushI (x := p.1) (by rw [HLF.out.2.1]; exact hownB) hgB hatB
                obtain ⟨WB, hWB⟩ : ∃ W, W = wB.setCell ⟨w.heap.size + 1 + 1, 1, none⟩ (.slice aB (k + 1) cB) := ⟨_, rfl⟩
                rw [← hWB] at hpB ⊢
                have T2 := Lib.hid hpB.1
                have HGWB := Lib.hid hpB.2
                clear hpB hownB hgB hatB hWB yB fB kFB kIB kOB
                obtain ⟨kFC, kIC, kOC⟩ := T2.out.cells
                have hRC := T2.out.o
                rw [HLF.out.2.2] at hRC
                have HRC := Lib.hid hRC
                have hZC := Lib.hid T2.out.hs
                clear hRC
                go_upto_region 31 with (at_builtin; go_must (refine wpList_append_at rfl _ _ 65 rfl w0.heap.size 3 (.int .i64 0) 8 Try.underlying65 infoI rfl _ _ _ _ HRC.out rfl rfl rfl hm3.out hm4.out hZC.out ?_); intro vC wC hownC hgC hatC; obtain ⟨aC, cC, rfl⟩ := ownsRow_form' hownC; have yC := T2.out.midO hgC; have fC := yC.2; replace yC := yC.1)
                have hpC := T2.out.pushO (x := p.2) (by rw [HLF.out.2.2]; exact hownC) hgC hatC
                obtain ⟨WC, hWC⟩ : ∃ W, W = wC.setCell ⟨w.heap.size + 1 + 1, 2, none⟩ (.slice aC (k + 1) cC) := ⟨_, rfl⟩
                rw [← hWC] at hpC ⊢
                have T3 := Lib.hid hpC.1
                have HGWC := Lib.hid hpC.2
                clear hpC hownC hgC hatC hWC yC fC kFC kIC kOC
                have hnew : Hid (ScnSt w0 (w.heap.size + 1 + 1) ds ns (k + 1) (tr ++ [(k, p)]) (.slice aA (k + 1) cA) (.slice aB (k + 1) cB) (.slice aC (k + 1) cC) WC) := by
                  refine Lib.hid ⟨HSU2.out, by rw [List.length_append, HLN.out]; rfl, ?_, (((HCH.out _ HBX.out).trans HGWA.out).trans HGWB.out).trans HGWC.out⟩
                  rw [frL_snoc, inL_snoc, ouL_snoc]
                  exact T3.out
                go_wp2
                go_roundw
                case rel => exact ⟨k + 1, _, _, _, _, _, _, _, by omega, by go_num, hnew⟩
                case measure => simp [intOf]; omega
              · have bv : (vl != 0) = true := by simpa using hv
                have hrn := Lib.hid (hnn.out (by rw [hst.out, hwo.out, hf]; simp [hv]))
                clear hf hwo hv
                go_wp2_with fail
                rw [← HW1.out]
                refine (hlf.out W1).mono ?_
                rintro e w2 ⟨rfl, hb2⟩
                obtain ⟨z0, z1, z2⟩ := HND.out w2 hb2
                have HB2 := Lib.hid hb2
                clear hb2 x0 x1 x2
                go_wp2_with fail
                refine (har.out w2).mono ?_
                rintro e w3 ⟨rfl, hb3⟩
                have HB3 := Lib.hid (below_step HB2.out hb3)
                obtain ⟨z0, z1, z2⟩ := HND.out w3 HB3.out
                clear hb3
                go_wp2_with fail
                refine (hfd.out w3 (HD.out.below (HX.out w3 (HCH.out _ HB3.out)).2.2)).mono ?_
                rintro e w4 ⟨rfl, hb4⟩
                have HBX := Lib.hid (below_step HB3.out hb4)
                obtain ⟨z0, z1, z2⟩ := HND.out w4 HBX.out
                clear hb4
                have hchx := HCH.out _ HBX.out
                obtain ⟨cF0, cI0, cO0⟩ := (HTT.out _ HBX.out).cells
                obtain ⟨-, hblk, hbw⟩ := HX.out _ hchx
                have y0 := (Go.Joins.cell_of_block hblk 0).trans rfl
                have y1 := (Go.Joins.cell_of_block hblk 1).trans rfl
                have y2 := (Go.Joins.cell_of_block hblk 2).trans rfl
                have f0 := Go.Joins.unfrozen_of_block hblk 0
                have f1 := Go.Joins.unfrozen_of_block hblk 1
                have f2 := Go.Joins.unfrozen_of_block hblk 2
                have HFB := Lib.hid (((hbw.setCell (p := ⟨w.heap.size + 1, 0, none⟩) (by simp) (.slice aF k cF)).setCell (p := ⟨w.heap.size + 1, 1, none⟩) (by simp) (.slice aI k cI)).setCell (p := ⟨w.heap.size + 1, 2, none⟩) (by simp) (.slice aO k cO))
                clear hblk hbw hchx
                go_wp2
                refine bodyPost_ret (v := .tuple #[.agg #[.slice aF k cF, .slice aI k cI, .slice aO k cO], .bool false]) (by simp [results, Try.results34, go_sem, y0, y1, y2]) rfl ?_
                rw [hrn.out]
                exact ⟨_, _, _, _, _, _, _, _, _, rfl, (fun h => by cases h), HFB.out⟩
          · have b17 : (kd == 17) = false := by simpa using h17
            by_cases hk : kd = 15 ∨ kd = 16
            · rcases hk with rfl | rfl
              · as_aux_lemma =>
                cases he : emptyB s with
                | false =>
                  have hrn := Lib.hid (hnn.out (stepS_no hl h17 (.inr (.inl he))))
                  have hes : (s.toList == []) = false := he
                  clear hl he
                  go_wp2_with fail
                  rw [← HW1.out]
                  refine (hlf.out W1).mono ?_
                  rintro e w2 ⟨rfl, hb2⟩
                  obtain ⟨z0, z1, z2⟩ := HND.out w2 hb2
                  have HBX := Lib.hid hb2
                  clear hb2 x0 x1 x2
                  have hchx := HCH.out _ HBX.out
                  obtain ⟨cF0, cI0, cO0⟩ := (HTT.out _ HBX.out).cells
                  obtain ⟨-, hblk, hbw⟩ := HX.out _ hchx
                  have y0 := (Go.Joins.cell_of_block hblk 0).trans rfl
                  have y1 := (Go.Joins.cell_of_block hblk 1).trans rfl
                  have y2 := (Go.Joins.cell_of_block hblk 2).trans rfl
                  have f0 := Go.Joins.unfrozen_of_block hblk 0
                  have f1 := Go.Joins.unfrozen_of_block hblk 1
                  have f2 := Go.Joins.unfrozen_of_block hblk 2
                  have HFB := Lib.hid (((hbw.setCell (p := ⟨w.heap.size + 1, 0, none⟩) (by simp) (.slice aF k cF)).setCell (p := ⟨w.heap.size + 1, 1, none⟩) (by simp) (.slice aI k cI)).setCell (p := ⟨w.heap.size + 1, 2, none⟩) (by simp) (.slice aO k cO))
                  clear hblk hbw hchx
                  go_wp2
                  refine bodyPost_ret (v := .tuple #[.agg #[.slice aF k cF, .slice aI k cI, .slice aO k cO], .bool false]) (by simp [results, Try.results34, go_sem, y0, y1, y2]) rfl ?_
                  rw [hrn.out]
                  exact ⟨_, _, _, _, _, _, _, _, _, rfl, (fun h => by cases h), HFB.out⟩
                | true =>
                  have hes : (s.toList == []) = true := he
                  by_cases hv : vl = 0
                  · subst hv
                    by_cases hk2 : k < 2
                    · have hrn := Lib.hid (hnn.out (stepS_no hl h17 (.inr (.inr (.inr (.inl (by rw [HLN.out]; exact hk2)))))))
                      have hkd : decide ((k : Int) < 2) = true := by simp; omega
                      clear hl he hk2
                      go_wp2_with fail
                      rw [← HW1.out]
                      refine (hlf.out W1).mono ?_
                      rintro e w2 ⟨rfl, hb2⟩
                      obtain ⟨z0, z1, z2⟩ := HND.out w2 hb2
                      have HBX := Lib.hid hb2
                      clear hb2 x0 x1 x2
                      have hchx := HCH.out _ HBX.out
                      obtain ⟨cF0, cI0, cO0⟩ := (HTT.out _ HBX.out).cells
                      obtain ⟨-, hblk, hbw⟩ := HX.out _ hchx
                      have y0 := (Go.Joins.cell_of_block hblk 0).trans rfl
                      have y1 := (Go.Joins.cell_of_block hblk 1).trans rfl
                      have y2 := (Go.Joins.cell_of_block hblk 2).trans rfl
                      have f0 := Go.Joins.unfrozen_of_block hblk 0
                      have f1 := Go.Joins.unfrozen_of_block hblk 1
                      have f2 := Go.Joins.unfrozen_of_block hblk 2
                      have HFB := Lib.hid (((hbw.setCell (p := ⟨w.heap.size + 1, 0, none⟩) (by simp) (.slice aF k cF)).setCell (p := ⟨w.heap.size + 1, 1, none⟩) (by simp) (.slice aI k cI)).setCell (p := ⟨w.heap.size + 1, 2, none⟩) (by simp) (.slice aO k cO))
                      clear hblk hbw hchx
                      go_wp2
                      refine bodyPost_ret (v := .tuple #[.agg #[.slice aF k cF, .slice aI k cI, .slice aO k cO], .bool false]) (by simp [results, Try.results34, go_sem, y0, y1, y2]) rfl ?_
                      rw [hrn.out]
                      exact ⟨_, _, _, _, _, _, _, _, _, rfl, (fun h => by cases h), HFB.out⟩
                    · obtain ⟨q, rfl⟩ : ∃ q, k = q + 2 := ⟨k - 2, by omega⟩
                      have hlq : tr.length = q + 2 := HLN.out
                      obtain ⟨st, hch, hbs⟩ := hcn.out
                      have htop := chain_top hch hbs
                      have hT1 := HTT.out W1 (Below.refl _ _)
                      obtain ⟨gF, cF', eF, ff⟩ := row_at hT1.f (j := q + 1) (by rw [HLF.out.1]; omega)
                      rw [HLF.out.1] at eF
                      simp only [Value.slice.injEq] at eF
                      obtain ⟨rfl, -, rfl⟩ := eF
                      rw [frL_at] at ff
                      have hqd : decide ((q : Int) + 2 < 2) = false := by simp; omega
                      have hqp : 0 ≤ (q : Int) + 1 := by omega
                      have hql : (q : Int) + 1 < (q : Int) + 2 := by omega
                      have hw1 : IntKind.i64.wrap ((q : Int) + 2 - 1) = (q : Int) + 1 := by rw [show (q : Int) + 2 - 1 = (q : Int) + 1 by omega]; exact IntWalk.i64_in _ (by have := HN4.out; omega)
                      cases hfr : frAt tr (q + 1) with
                      | zero =>
                        have hrn := Lib.hid (hnn.out (stepS_no hl h17 (.inr (.inr (.inr (.inr (by rw [show tr.length - 1 = q + 1 by omega, hfr]; decide)))))))
                        rw [hfr] at ff
                        have HFF := Lib.hid (fun W (hW : Below W1.heap.size W1 W) => cell_old hW ff)
                        clear hch hbs htop hT1 ff hlq hcn hl
                        go_wp2_with fail
                        rw [← HW1.out]
                        refine (hlf.out W1).mono ?_
                        rintro e w2 ⟨rfl, hb2⟩
                        obtain ⟨z0, z1, z2⟩ := HND.out w2 hb2
                        have HBX := Lib.hid hb2
                        clear hb2 x0 x1 x2
                        have ff := HFF.out w2 HBX.out
                        have kc := (HTT.out w2 HBX.out).cells
                        obtain ⟨kc0, kc1, kc2⟩ := kc
                        have hchx := HCH.out _ HBX.out
                        obtain ⟨-, hblk, hbw⟩ := HX.out _ hchx
                        have y0 := (Go.Joins.cell_of_block hblk 0).trans rfl
                        have y1 := (Go.Joins.cell_of_block hblk 1).trans rfl
                        have y2 := (Go.Joins.cell_of_block hblk 2).trans rfl
                        have f0 := Go.Joins.unfrozen_of_block hblk 0
                        have f1 := Go.Joins.unfrozen_of_block hblk 1
                        have f2 := Go.Joins.unfrozen_of_block hblk 2
                        have HFB := Lib.hid (((hbw.setCell (p := ⟨w.heap.size + 1, 0, none⟩) (by simp) (.slice (some ⟨gF, 0, none⟩) (q + 2) cF)).setCell (p := ⟨w.heap.size + 1, 1, none⟩) (by simp) (.slice aI (q + 2) cI)).setCell (p := ⟨w.heap.size + 1, 2, none⟩) (by simp) (.slice aO (q + 2) cO))
                        clear hblk hbw hchx
                        go_wp2
                        refine bodyPost_ret (v := .tuple #[.agg #[.slice (some ⟨gF, 0, none⟩) (q + 2) cF, .slice aI (q + 2) cI, .slice aO (q + 2) cO], .bool false]) (by simp [results, Try.results34, go_sem, y0, y1, y2]) rfl ?_
                        rw [hrn.out]
                        exact ⟨_, _, _, _, _, _, _, _, _, rfl, (fun h => by cases h), HFB.out⟩
                      | succ a =>
                        rw [hfr] at ff
                        obtain ⟨hba, haq⟩ := htop.2.2 a hfr
                        have hbb := htop.1
                        obtain ⟨_, _, eF, fa⟩ := row_at hT1.f (j := a) (by rw [HLF.out.1]; omega)
                        rw [HLF.out.1] at eF
                        simp only [Value.slice.injEq, Option.some.injEq, Addr.mk.injEq, and_true, true_and] at eF
                        obtain ⟨rfl, rfl⟩ := eF
                        rw [frL_at] at fa
                        obtain ⟨gI, _, eI, ia⟩ := row_at hT1.i (j := a) (by rw [HLF.out.2.1]; omega)
                        rw [HLF.out.2.1] at eI
                        simp only [Value.slice.injEq] at eI
                        obtain ⟨rfl, -, rfl⟩ := eI
                        obtain ⟨_, _, eI, ib⟩ := row_at hT1.i (j := q + 1) (by rw [HLF.out.2.1]; omega)
                        rw [HLF.out.2.1] at eI
                        simp only [Value.slice.injEq, Option.some.injEq, Addr.mk.injEq, and_true, true_and] at eI
                        obtain ⟨rfl, rfl⟩ := eI
                        obtain ⟨gO, _, eO, oa⟩ := row_at hT1.o (j := a) (by rw [HLF.out.2.2]; omega)
                        rw [HLF.out.2.2] at eO
                        simp only [Value.slice.injEq] at eO
                        obtain ⟨rfl, -, rfl⟩ := eO
                        obtain ⟨_, _, eO, ob⟩ := row_at hT1.o (j := q + 1) (by rw [HLF.out.2.2]; omega)
                        rw [HLF.out.2.2] at eO
                        simp only [Value.slice.injEq, Option.some.injEq, Addr.mk.injEq, and_true, true_and] at eO
                        obtain ⟨rfl, rfl⟩ := eO
                        rw [inL_at] at ia ib
                        rw [ouL_at] at oa ob
                        have hstj := stepS_join hl h17 (by first | exact .inl rfl | exact .inr rfl) he rfl hlq hfr (ds := ds)
                        dsimp only at hstj
                        rw [joinS_eq (by first | exact .inl rfl | exact .inr rfl) hba hbb] at hstj
                        obtain ⟨pa, hpa⟩ : ∃ p, wiAt tr a = p := ⟨_, rfl⟩
                        obtain ⟨pb, hpb⟩ : ∃ p, wiAt tr (q + 1) = p := ⟨_, rfl⟩
                        obtain ⟨j2, hj2⟩ : ∃ j, frAt tr a = j := ⟨_, rfl⟩
                        rw [hpa] at hba ia oa hstj
                        rw [hpb] at hbb ib ob hstj
                        rw [hj2] at fa hstj
                        have HST := Lib.hid hstj
                        have HU := Lib.hid (show ∀ W, Below W1.heap.size W1 W → W.cell? ⟨gF, q + 1, none⟩ = some (.int .i64 ((a : Int) + 1)) ∧ W.cell? ⟨gF, a, none⟩ = some (.int .i64 j2) ∧ W.cell? ⟨gI, a, none⟩ = some (.int .i64 pa.1) ∧ W.cell? ⟨gI, q + 1, none⟩ = some (.int .i64 pb.1) ∧ W.cell? ⟨gO, a, none⟩ = some (.int .i64 pa.2) ∧ W.cell? ⟨gO, q + 1, none⟩ = some (.int .i64 pb.2) from
                          fun W hW => ⟨by rw [cell_old hW ff]; rfl, cell_old hW fa, cell_old hW ia, cell_old hW ib, cell_old hW oa, cell_old hW ob⟩)
                        have hw2 : IntKind.i64.wrap ((a : Int) + 1 - 1) = (a : Int) := by rw [show (a : Int) + 1 - 1 = (a : Int) by omega]; exact IntWalk.i64_in _ (by have := HN4.out; omega)
                        have hw3 : IntKind.i64.wrap (a : Int) = (a : Int) := IntWalk.i64_in _ (by have := HN4.out; omega)
                        have ha0 : 0 ≤ (a : Int) := by omega
                        have hal : (a : Int) < (q : Int) + 2 := by omega
                        have ha1 : decide ((a : Int) + 1 < 1) = false := by simp; omega
                        unfold bnd at hba hbb
                        have hs1 : IntKind.i64.wrap (pa.1 + pb.1) = pa.1 + pb.1 := IntWalk.i64_in _ (by omega)
                        have hs2 : IntKind.i64.wrap (pa.2 + pb.2) = pa.2 + pb.2 := IntWalk.i64_in _ (by omega)
                        have HBA := Lib.hid (And.intro hba hbb)
                        clear hch hbs htop hT1 ff fa ia ib oa ob hlq hcn hl hstj hpa hpb hj2 hfr hba hbb haq
                        go_wp2_with fail
                        rw [← HW1.out]
                        refine (hlf.out W1).mono ?_
                        rintro e w2 ⟨rfl, hb2⟩
                        obtain ⟨z0, z1, z2⟩ := HND.out w2 hb2
                        have HBX := Lib.hid hb2
                        clear hb2 x0 x1 x2
                        obtain ⟨k0, k1, k2⟩ := (HTT.out w2 HBX.out).cells
                        obtain ⟨u1, u2, u3, u4, u5, u6⟩ := HU.out w2 HBX.out
                        go_wp2
                        go_quiet (fail)
                        obtain ⟨w6, hwq⟩ : ∃ W, W = w2.drewN nq := ⟨_, rfl⟩
                        replace HBX := Lib.hid (show Below W1.heap.size W1 w6 by rw [hwq]; exact Below.drewN' HBX.out nq)
                        rw [← hwq]
                        clear hwq nq z0 z1 z2 k0 k1 k2 u1 u2 u3 u4 u5 u6
                        obtain ⟨z0, z1, z2⟩ := HND.out w6 HBX.out
                        obtain ⟨k0, k1, k2⟩ := (HTT.out w6 HBX.out).cells
                        obtain ⟨u1, u2, u3, u4, u5, u6⟩ := HU.out w6 HBX.out
                        by_cases hje : pa.2 = pb.1
                        · have bj : (pa.2 != pb.1) = false := by simpa using hje
                          have HSU2 : Hid (runS ds (ns.take (q + 2 + 1)) = some (tr ++ [(j2, (pa.1, pb.2))])) := by
                            show _ = _
                            rw [HSU.out, HST.out]
                            unfold joinW
                            rw [if_pos rfl, if_pos hje]
                            rfl
                          have d1 : decide (12 < pa.1) = false := by have := HBA.out.1; simp; omega
                          have d2 : decide (12 < pb.2) = false := by have := HBA.out.2; simp; omega
                          clear hje
                          go_wp2
                          go_quiet (fail)
                          obtain ⟨w7, hwq⟩ : ∃ W, W = w6.drewN nq := ⟨_, rfl⟩
                          replace HBX := Lib.hid (show Below W1.heap.size W1 w7 by rw [hwq]; exact Below.drewN' HBX.out nq)
                          rw [← hwq]
                          clear hwq nq z0 z1 z2 k0 k1 k2 u1 u2 u3 u4 u5 u6
                          obtain ⟨z0, z1, z2⟩ := HND.out w7 HBX.out
                          obtain ⟨k0, k1, k2⟩ := (HTT.out w7 HBX.out).cells
                          obtain ⟨u1, u2, u3, u4, u5, u6⟩ := HU.out w7 HBX.out
                          go_wp2
                          go_quiet (fail)
                          obtain ⟨w8, hwq⟩ : ∃ W, W = w7.drewN nq := ⟨_, rfl⟩
                          replace HBX := Lib.hid (show Below W1.heap.size W1 w8 by rw [hwq]; exact Below.drewN' HBX.out nq)
                          rw [← hwq]
                          clear hwq nq z0 z1 z2 k0 k1 k2 u1 u2 u3 u4 u5 u6
                          obtain ⟨z0, z1, z2⟩ := HND.out w8 HBX.out
                          obtain ⟨k0, k1, k2⟩ := (HTT.out w8 HBX.out).cells
                          obtain ⟨u1, u2, u3, u4, u5, u6⟩ := HU.out w8 HBX.out
                          have T0 := Lib.hid (HTT.out w8.drew HBX.out.drew)
                          clear u1 u3 u4 u5 u6
                          have k0a := cell_old (below_alloc (o := .cells #[.int .i64 (j2 : Int)] 3) (Below.refl _ w8)) k0
                          have hRA := T0.out.f
                          rw [HLF.out.1] at hRA
                          have HRA := Lib.hid hRA
                          have hZA := Lib.hid T0.out.hs
                          clear hRA
                          go_upto_region 28 with fail
                          go_cut [14] (fun r14 W => ∃ aA cA, r14 = .int .i64 (pa.1) ∧ Hid (Tri3 W (w.heap.size + 1 + 1) w0.heap.size (frL tr ++ [(j2 : Int)]) (inL tr) (ouL tr) (.slice aA (q + 2 + 1) cA) (.slice (some ⟨gI, 0, none⟩) (q + 2) cI) (.slice (some ⟨gO, 0, none⟩) (q + 2) cO) ∧ Chg (fun g => g = w.heap.size + 1 + 1 ∨ w0.heap.size ≤ g) w8.drew W))
                          case first =>
                            go_region_law (first | (refine step_append_at (by rfl) _ _ 65 (by rfl) w0.heap.size 3 (.int .i64 0) 8 Try.underlying65 infoI rfl _ _ _ _ HRA.out (by rfl) (by rfl) rfl hm3.out hm4.out hZA.out ?_; intro vA wA hownA hgA hatA; obtain ⟨aA, cA, rfl⟩ := ownsRow_form' hownA; have yA := T0.out.midF hgA; have fA := yA.2; replace yA := yA.1))
                            all_goals go_wp2
                            all_goals go_meet
                            all_goals
                              have hpA := T0.out.pushF (x := (j2 : Int)) (by rw [HLF.out.1]; exact hownA) hgA hatA
                              exact ⟨_, _, rfl, Lib.hid ⟨hpA.1, hpA.2⟩⟩
                          case rest =>
                          obtain ⟨aA, cA, rfl, HPA⟩ := hcut
                          obtain ⟨WA, hWA⟩ : ∃ W, W = wc := ⟨_, rfl⟩
                          rw [← hWA] at HPA ⊢
                          have T1 := Lib.hid HPA.out.1
                          have HGWA := Lib.hid HPA.out.2
                          clear hWA wc HPA
                          obtain ⟨kFB, kIB, kOB⟩ := T1.out.cells
                          have hRB := T1.out.i
                          rw [HLF.out.2.1] at hRB
                          have HRB := Lib.hid hRB
                          have hZB := Lib.hid T1.out.hs
                          clear hRB
                          go_upto_region 30 with (at_builtin; go_must (refine wpList_append_at rfl _ _ 65 rfl w0.heap.size 3 (.int .i64 0) 8 Try.underlying65 infoI rfl _ _ _ _ HRB.out rfl rfl rfl hm3.out hm4.out hZB.out ?_); intro vB wB hownB hgB hatB; obtain ⟨aB, cB, rfl⟩ := ownsRow_form' hownB; have yB := T1.out.midI hgB; have fB := yB.2; replace yB := yB.1)
                          have hpB := T1.out.pushI (x := pa.1) (by rw [HLF.out.2.1]; exact hownB) hgB hatB
                          obtain ⟨WB, hWB⟩ : ∃ W, W = wB.setCell ⟨w.heap.size + 1 + 1, 1, none⟩ (.slice aB (q + 2 + 1) cB) := ⟨_, rfl⟩
                          rw [← hWB] at hpB ⊢
                          have T2 := Lib.hid hpB.1
                          have HGWB := Lib.hid hpB.2
                          clear hpB hownB hgB hatB hWB yB fB kFB kIB kOB
                          obtain ⟨kFC, kIC, kOC⟩ := T2.out.cells
                          have hRC := T2.out.o
                          rw [HLF.out.2.2] at hRC
                          have HRC := Lib.hid hRC
                          have hZC := Lib.hid T2.out.hs
                          clear hRC
                          go_upto_region 31 with (at_builtin; go_must (refine wpList_append_at rfl _ _ 65 rfl w0.heap.size 3 (.int .i64 0) 8 Try.underlying65 infoI rfl _ _ _ _ HRC.out rfl rfl rfl hm3.out hm4.out hZC.out ?_); intro vC wC hownC hgC hatC; obtain ⟨aC, cC, rfl⟩ := ownsRow_form' hownC; have yC := T2.out.midO hgC; have fC := yC.2; replace yC := yC.1)
                          have hpC := T2.out.pushO (x := pb.2) (by rw [HLF.out.2.2]; exact hownC) hgC hatC
                          obtain ⟨WC, hWC⟩ : ∃ W, W = wC.setCell ⟨w.heap.size + 1 + 1, 2, none⟩ (.slice aC (q + 2 + 1) cC) := ⟨_, rfl⟩
                          rw [← hWC] at hpC ⊢
                          have T3 := Lib.hid hpC.1
                          have HGWC := Lib.hid hpC.2
                          clear hpC hownC hgC hatC hWC yC fC kFC kIC kOC
                          have hnew : Hid (ScnSt w0 (w.heap.size + 1 + 1) ds ns (q + 2 + 1) (tr ++ [(j2, (pa.1, pb.2))]) (.slice aA (q + 2 + 1) cA) (.slice aB (q + 2 + 1) cB) (.slice aC (q + 2 + 1) cC) WC) := by
                            refine Lib.hid ⟨HSU2.out, by rw [List.length_append, HLN.out]; rfl, ?_, (((HCH.out w8.drew HBX.out.drew).trans HGWA.out).trans HGWB.out).trans HGWC.out⟩
                            rw [frL_snoc, inL_snoc, ouL_snoc]
                            exact T3.out
                          go_wp2
                          go_roundw
                          case rel => exact ⟨(q + 2) + 1, _, _, _, _, _, _, _, by omega, by go_num, hnew⟩
                          case measure => simp [intOf]; omega
                        · have bj : (pa.2 != pb.1) = true := by simpa using hje
                          have hrn := Lib.hid (hnn.out (by rw [HST.out]; unfold joinW; rw [if_pos rfl, if_neg hje]; rfl))
                          clear hje
                          go_wp2
                          go_quiet (fail)
                          obtain ⟨w7, hwq⟩ : ∃ W, W = w6.drewN nq := ⟨_, rfl⟩
                          replace HBX := Lib.hid (show Below W1.heap.size W1 w7 by rw [hwq]; exact Below.drewN' HBX.out nq)
                          rw [← hwq]
                          clear hwq nq z0 z1 z2 k0 k1 k2 u1 u2 u3 u4 u5 u6
                          obtain ⟨z0, z1, z2⟩ := HND.out w7 HBX.out
                          obtain ⟨k0, k1, k2⟩ := (HTT.out w7 HBX.out).cells
                          obtain ⟨u1, u2, u3, u4, u5, u6⟩ := HU.out w7 HBX.out
                          have hchx := HCH.out _ HBX.out
                          obtain ⟨-, hblk, hbw⟩ := HX.out _ hchx
                          have y0 := (Go.Joins.cell_of_block hblk 0).trans rfl
                          have y1 := (Go.Joins.cell_of_block hblk 1).trans rfl
                          have y2 := (Go.Joins.cell_of_block hblk 2).trans rfl
                          have f0 := Go.Joins.unfrozen_of_block hblk 0
                          have f1 := Go.Joins.unfrozen_of_block hblk 1
                          have f2 := Go.Joins.unfrozen_of_block hblk 2
                          have HFB := Lib.hid (((hbw.setCell (p := ⟨w.heap.size + 1, 0, none⟩) (by simp) (.slice (some ⟨gF, 0, none⟩) (q + 2) cF)).setCell (p := ⟨w.heap.size + 1, 1, none⟩) (by simp) (.slice (some ⟨gI, 0, none⟩) (q + 2) cI)).setCell (p := ⟨w.heap.size + 1, 2, none⟩) (by simp) (.slice (some ⟨gO, 0, none⟩) (q + 2) cO))
                          clear hblk hbw hchx
                          go_wp2
                          refine bodyPost_ret (v := .tuple #[.agg #[.slice (some ⟨gF, 0, none⟩) (q + 2) cF, .slice (some ⟨gI, 0, none⟩) (q + 2) cI, .slice (some ⟨gO, 0, none⟩) (q + 2) cO], .bool false]) (by simp [results, Try.results34, go_sem, y0, y1, y2]) rfl ?_
                          rw [hrn.out]
                          exact ⟨_, _, _, _, _, _, _, _, _, rfl, (fun h => by cases h), HFB.out⟩
                  · have hrn := Lib.hid (hnn.out (stepS_no hl h17 (.inr (.inr (.inl hv)))))
                    have bv : (vl != 0) = true := by simpa using hv
                    clear hl he hv
                    go_wp2_with fail
                    rw [← HW1.out]
                    refine (hlf.out W1).mono ?_
                    rintro e w2 ⟨rfl, hb2⟩
                    obtain ⟨z0, z1, z2⟩ := HND.out w2 hb2
                    have HBX := Lib.hid hb2
                    clear hb2 x0 x1 x2
                    have hchx := HCH.out _ HBX.out
                    obtain ⟨cF0, cI0, cO0⟩ := (HTT.out _ HBX.out).cells
                    obtain ⟨-, hblk, hbw⟩ := HX.out _ hchx
                    have y0 := (Go.Joins.cell_of_block hblk 0).trans rfl
                    have y1 := (Go.Joins.cell_of_block hblk 1).trans rfl
                    have y2 := (Go.Joins.cell_of_block hblk 2).trans rfl
                    have f0 := Go.Joins.unfrozen_of_block hblk 0
                    have f1 := Go.Joins.unfrozen_of_block hblk 1
                    have f2 := Go.Joins.unfrozen_of_block hblk 2
                    have HFB := Lib.hid (((hbw.setCell (p := ⟨w.heap.size + 1, 0, none⟩) (by simp) (.slice aF k cF)).setCell (p := ⟨w.heap.size + 1, 1, none⟩) (by simp) (.slice aI k cI)).setCell (p := ⟨w.heap.size + 1, 2, none⟩) (by simp) (.slice aO k cO))
                    clear hblk hbw hchx
                    go_wp2
                    refine bodyPost_ret (v := .tuple #[.agg #[.slice aF k cF, .slice aI k cI, .slice aO k cO], .bool false]) (by simp [results, Try.results34, go_sem, y0, y1, y2]) rfl ?_
                    rw [hrn.out]
                    exact ⟨_, _, _, _, _, _, _, _, _, rfl, (fun h => by cases h), HFB.out⟩
              · as_aux_lemma =>
                cases he : emptyB s with
                | false =>
                  have hrn := Lib.hid (hnn.out (stepS_no hl h17 (.inr (.inl he))))
                  have hes : (s.toList == []) = false := he
                  clear hl he
                  go_wp2_with fail
                  rw [← HW1.out]
                  refine (hlf.out W1).mono ?_
                  rintro e w2 ⟨rfl, hb2⟩
                  obtain ⟨z0, z1, z2⟩ := HND.out w2 hb2
                  have HBX := Lib.hid hb2
                  clear hb2 x0 x1 x2
                  have hchx := HCH.out _ HBX.out
                  obtain ⟨cF0, cI0, cO0⟩ := (HTT.out _ HBX.out).cells
                  obtain ⟨-, hblk, hbw⟩ := HX.out _ hchx
                  have y0 := (Go.Joins.cell_of_block hblk 0).trans rfl
                  have y1 := (Go.Joins.cell_of_block hblk 1).trans rfl
                  have y2 := (Go.Joins.cell_of_block hblk 2).trans rfl
                  have f0 := Go.Joins.unfrozen_of_block hblk 0
                  have f1 := Go.Joins.unfrozen_of_block hblk 1
                  have f2 := Go.Joins.unfrozen_of_block hblk 2
                  have HFB := Lib.hid (((hbw.setCell (p := ⟨w.heap.size + 1, 0, none⟩) (by simp) (.slice aF k cF)).setCell (p := ⟨w.heap.size + 1, 1, none⟩) (by simp) (.slice aI k cI)).setCell (p := ⟨w.heap.size + 1, 2, none⟩) (by simp) (.slice aO k cO))
                  clear hblk hbw hchx
                  go_wp2
                  refine bodyPost_ret (v := .tuple #[.agg #[.slice aF k cF, .slice aI k cI, .slice aO k cO], .bool false]) (by simp [results, Try.results34, go_sem, y0, y1, y2]) rfl ?_
                  rw [hrn.out]
                  exact ⟨_, _, _, _, _, _, _, _, _, rfl, (fun h => by cases h), HFB.out⟩
                | true =>
                  have hes : (s.toList == []) = true := he
                  by_cases hv : vl = 0
                  · subst hv
                    by_cases hk2 : k < 2
                    · have hrn := Lib.hid (hnn.out (stepS_no hl h17 (.inr (.inr (.inr (.inl (by rw [HLN.out]; exact hk2)))))))
                      have hkd : decide ((k : Int) < 2) = true := by simp; omega
                      clear hl he hk2
                      go_wp2_with fail
                      rw [← HW1.out]
                      refine (hlf.out W1).mono ?_
                      rintro e w2 ⟨rfl, hb2⟩
                      obtain ⟨z0, z1, z2⟩ := HND.out w2 hb2
                      have HBX := Lib.hid hb2
                      clear hb2 x0 x1 x2
                      have hchx := HCH.out _ HBX.out
                      obtain ⟨cF0, cI0, cO0⟩ := (HTT.out _ HBX.out).cells
                      obtain ⟨-, hblk, hbw⟩ := HX.out _ hchx
                      have y0 := (Go.Joins.cell_of_block hblk 0).trans rfl
                      have y1 := (Go.Joins.cell_of_block hblk 1).trans rfl
                      have y2 := (Go.Joins.cell_of_block hblk 2).trans rfl
                      have f0 := Go.Joins.unfrozen_of_block hblk 0
                      have f1 := Go.Joins.unfrozen_of_block hblk 1
                      have f2 := Go.Joins.unfrozen_of_block hblk 2
                      have HFB := Lib.hid (((hbw.setCell (p := ⟨w.heap.size + 1, 0, none⟩) (by simp) (.slice aF k cF)).setCell (p := ⟨w.heap.size + 1, 1, none⟩) (by simp) (.slice aI k cI)).setCell (p := ⟨w.heap.size + 1, 2, none⟩) (by simp) (.slice aO k cO))
                      clear hblk hbw hchx
                      go_wp2
                      refine bodyPost_ret (v := .tuple #[.agg #[.slice aF k cF, .slice aI k cI, .slice aO k cO], .bool false]) (by simp [results, Try.results34, go_sem, y0, y1, y2]) rfl ?_
                      rw [hrn.out]
                      exact ⟨_, _, _, _, _, _, _, _, _, rfl, (fun h => by cases h), HFB.out⟩
                    · obtain ⟨q, rfl⟩ : ∃ q, k = q + 2 := ⟨k - 2, by omega⟩
                      have hlq : tr.length = q + 2 := HLN.out
                      obtain ⟨st, hch, hbs⟩ := hcn.out
                      have htop := chain_top hch hbs
                      have hT1 := HTT.out W1 (Below.refl _ _)
                      obtain ⟨gF, cF', eF, ff⟩ := row_at hT1.f (j := q + 1) (by rw [HLF.out.1]; omega)
                      rw [HLF.out.1] at eF
                      simp only [Value.slice.injEq] at eF
                      obtain ⟨rfl, -, rfl⟩ := eF
                      rw [frL_at] at ff
                      have hqd : decide ((q : Int) + 2 < 2) = false := by simp; omega
                      have hqp : 0 ≤ (q : Int) + 1 := by omega
                      have hql : (q : Int) + 1 < (q : Int) + 2 := by omega
                      have hw1 : IntKind.i64.wrap ((q : Int) + 2 - 1) = (q : Int) + 1 := by rw [show (q : Int) + 2 - 1 = (q : Int) + 1 by omega]; exact IntWalk.i64_in _ (by have := HN4.out; omega)
                      cases hfr : frAt tr (q + 1) with
                      | zero =>
                        have hrn := Lib.hid (hnn.out (stepS_no hl h17 (.inr (.inr (.inr (.inr (by rw [show tr.length - 1 = q + 1 by omega, hfr]; decide)))))))
                        rw [hfr] at ff
                        have HFF := Lib.hid (fun W (hW : Below W1.heap.size W1 W) => cell_old hW ff)
                        clear hch hbs htop hT1 ff hlq hcn hl
                        go_wp2_with fail
                        rw [← HW1.out]
                        refine (hlf.out W1).mono ?_
                        rintro e w2 ⟨rfl, hb2⟩
                        obtain ⟨z0, z1, z2⟩ := HND.out w2 hb2
                        have HBX := Lib.hid hb2
                        clear hb2 x0 x1 x2
                        have ff := HFF.out w2 HBX.out
                        have kc := (HTT.out w2 HBX.out).cells
                        obtain ⟨kc0, kc1, kc2⟩ := kc
                        have hchx := HCH.out _ HBX.out
                        obtain ⟨-, hblk, hbw⟩ := HX.out _ hchx
                        have y0 := (Go.Joins.cell_of_block hblk 0).trans rfl
                        have y1 := (Go.Joins.cell_of_block hblk 1).trans rfl
                        have y2 := (Go.Joins.cell_of_block hblk 2).trans rfl
                        have f0 := Go.Joins.unfrozen_of_block hblk 0
                        have f1 := Go.Joins.unfrozen_of_block hblk 1
                        have f2 := Go.Joins.unfrozen_of_block hblk 2
                        have HFB := Lib.hid (((hbw.setCell (p := ⟨w.heap.size + 1, 0, none⟩) (by simp) (.slice (some ⟨gF, 0, none⟩) (q + 2) cF)).setCell (p := ⟨w.heap.size + 1, 1, none⟩) (by simp) (.slice aI (q + 2) cI)).setCell (p := ⟨w.heap.size + 1, 2, none⟩) (by simp) (.slice aO (q + 2) cO))
                        clear hblk hbw hchx
                        go_wp2
                        refine bodyPost_ret (v := .tuple #[.agg #[.slice (some ⟨gF, 0, none⟩) (q + 2) cF, .slice aI (q + 2) cI, .slice aO (q + 2) cO], .bool false]) (by simp [results, Try.results34, go_sem, y0, y1, y2]) rfl ?_
                        rw [hrn.out]
                        exact ⟨_, _, _, _, _, _, _, _, _, rfl, (fun h => by cases h), HFB.out⟩
                      | succ a =>
                        rw [hfr] at ff
                        obtain ⟨hba, haq⟩ := htop.2.2 a hfr
                        have hbb := htop.1
                        obtain ⟨_, _, eF, fa⟩ := row_at hT1.f (j := a) (by rw [HLF.out.1]; omega)
                        rw [HLF.out.1] at eF
                        simp only [Value.slice.injEq, Option.some.injEq, Addr.mk.injEq, and_true, true_and] at eF
                        obtain ⟨rfl, rfl⟩ := eF
                        rw [frL_at] at fa
                        obtain ⟨gI, _, eI, ia⟩ := row_at hT1.i (j := a) (by rw [HLF.out.2.1]; omega)
                        rw [HLF.out.2.1] at eI
                        simp only [Value.slice.injEq] at eI
                        obtain ⟨rfl, -, rfl⟩ := eI
                        obtain ⟨_, _, eI, ib⟩ := row_at hT1.i (j := q + 1) (by rw [HLF.out.2.1]; omega)
                        rw [HLF.out.2.1] at eI
                        simp only [Value.slice.injEq, Option.some.injEq, Addr.mk.injEq, and_true, true_and] at eI
                        obtain ⟨rfl, rfl⟩ := eI
                        obtain ⟨gO, _, eO, oa⟩ := row_at hT1.o (j := a) (by rw [HLF.out.2.2]; omega)
                        rw [HLF.out.2.2] at eO
                        simp only [Value.slice.injEq] at eO
                        obtain ⟨rfl, -, rfl⟩ := eO
                        obtain ⟨_, _, eO, ob⟩ := row_at hT1.o (j := q + 1) (by rw [HLF.out.2.2]; omega)
                        rw [HLF.out.2.2] at eO
                        simp only [Value.slice.injEq, Option.some.injEq, Addr.mk.injEq, and_true, true_and] at eO
                        obtain ⟨rfl, rfl⟩ := eO
                        rw [inL_at] at ia ib
                        rw [ouL_at] at oa ob
                        have hstj := stepS_join hl h17 (by first | exact .inl rfl | exact .inr rfl) he rfl hlq hfr (ds := ds)
                        dsimp only at hstj
                        rw [joinS_eq (by first | exact .inl rfl | exact .inr rfl) hba hbb] at hstj
                        obtain ⟨pa, hpa⟩ : ∃ p, wiAt tr a = p := ⟨_, rfl⟩
                        obtain ⟨pb, hpb⟩ : ∃ p, wiAt tr (q + 1) = p := ⟨_, rfl⟩
                        obtain ⟨j2, hj2⟩ : ∃ j, frAt tr a = j := ⟨_, rfl⟩
                        rw [hpa] at hba ia oa hstj
                        rw [hpb] at hbb ib ob hstj
                        rw [hj2] at fa hstj
                        have HST := Lib.hid hstj
                        have HU := Lib.hid (show ∀ W, Below W1.heap.size W1 W → W.cell? ⟨gF, q + 1, none⟩ = some (.int .i64 ((a : Int) + 1)) ∧ W.cell? ⟨gF, a, none⟩ = some (.int .i64 j2) ∧ W.cell? ⟨gI, a, none⟩ = some (.int .i64 pa.1) ∧ W.cell? ⟨gI, q + 1, none⟩ = some (.int .i64 pb.1) ∧ W.cell? ⟨gO, a, none⟩ = some (.int .i64 pa.2) ∧ W.cell? ⟨gO, q + 1, none⟩ = some (.int .i64 pb.2) from
                          fun W hW => ⟨by rw [cell_old hW ff]; rfl, cell_old hW fa, cell_old hW ia, cell_old hW ib, cell_old hW oa, cell_old hW ob⟩)
                        have hw2 : IntKind.i64.wrap ((a : Int) + 1 - 1) = (a : Int) := by rw [show (a : Int) + 1 - 1 = (a : Int) by omega]; exact IntWalk.i64_in _ (by have := HN4.out; omega)
                        have hw3 : IntKind.i64.wrap (a : Int) = (a : Int) := IntWalk.i64_in _ (by have := HN4.out; omega)
                        have ha0 : 0 ≤ (a : Int) := by omega
                        have hal : (a : Int) < (q : Int) + 2 := by omega
                        have ha1 : decide ((a : Int) + 1 < 1) = false := by simp; omega
                        unfold bnd at hba hbb
                        have hs1 : IntKind.i64.wrap (pa.1 + pb.1) = pa.1 + pb.1 := IntWalk.i64_in _ (by omega)
                        have hs2 : IntKind.i64.wrap (pa.2 + pb.2) = pa.2 + pb.2 := IntWalk.i64_in _ (by omega)
                        have HBA := Lib.hid (And.intro hba hbb)
                        clear hch hbs htop hT1 ff fa ia ib oa ob hlq hcn hl hstj hpa hpb hj2 hfr hba hbb haq
                        go_wp2_with fail
                        rw [← HW1.out]
                        refine (hlf.out W1).mono ?_
                        rintro e w2 ⟨rfl, hb2⟩
                        obtain ⟨z0, z1, z2⟩ := HND.out w2 hb2
                        have HBX := Lib.hid hb2
                        clear hb2 x0 x1 x2
                        obtain ⟨k0, k1, k2⟩ := (HTT.out w2 HBX.out).cells
                        obtain ⟨u1, u2, u3, u4, u5, u6⟩ := HU.out w2 HBX.out
                        go_wp2
                        go_quiet (fail)
                        obtain ⟨w6, hwq⟩ : ∃ W, W = w2.drewN nq := ⟨_, rfl⟩
                        replace HBX := Lib.hid (show Below W1.heap.size W1 w6 by rw [hwq]; exact Below.drewN' HBX.out nq)
                        rw [← hwq]
                        clear hwq nq z0 z1 z2 k0 k1 k2 u1 u2 u3 u4 u5 u6
                        obtain ⟨z0, z1, z2⟩ := HND.out w6 HBX.out
                        obtain ⟨k0, k1, k2⟩ := (HTT.out w6 HBX.out).cells
                        obtain ⟨u1, u2, u3, u4, u5, u6⟩ := HU.out w6 HBX.out
                        obtain ⟨s1, hs1e⟩ : ∃ x, pa.1 + pb.1 = x := ⟨_, rfl⟩
                        obtain ⟨s2, hs2e⟩ : ∃ x, pa.2 + pb.2 = x := ⟨_, rfl⟩
                        rw [hs1e, hs2e]
                        have hjw : Hid (joinW 16 pa pb = if s1 ≤ 12 ∧ s2 ≤ 12 then some (s1, s2) else none) := by
                          show _ = _
                          unfold joinW
                          rw [if_neg (by decide), hs1e, hs2e]
                        clear hs1 hs2 hs1e hs2e
                        by_cases h12 : s1 ≤ 12 ∧ s2 ≤ 12
                        · have HSU2 : Hid (runS ds (ns.take (q + 2 + 1)) = some (tr ++ [(j2, (s1, s2))])) := by
                            show _ = _
                            rw [HSU.out, HST.out, hjw.out, if_pos h12]
                            rfl
                          have d1 : decide (12 < s1) = false := by simp; omega
                          have d2 : decide (12 < s2) = false := by simp; omega
                          clear h12
                          have T0 := Lib.hid (HTT.out w6.drew HBX.out.drew)
                          clear u1 u3 u4 u5 u6
                          have k0a := cell_old (below_alloc (o := .cells #[.int .i64 (j2 : Int)] 3) (Below.refl _ w6)) k0
                          have hRA := T0.out.f
                          rw [HLF.out.1] at hRA
                          have HRA := Lib.hid hRA
                          have hZA := Lib.hid T0.out.hs
                          clear hRA
                          go_upto_region 28 with fail
                          go_cut [14] (fun r14 W => ∃ aA cA, r14 = .int .i64 (s1) ∧ Hid (Tri3 W (w.heap.size + 1 + 1) w0.heap.size (frL tr ++ [(j2 : Int)]) (inL tr) (ouL tr) (.slice aA (q + 2 + 1) cA) (.slice (some ⟨gI, 0, none⟩) (q + 2) cI) (.slice (some ⟨gO, 0, none⟩) (q + 2) cO) ∧ Chg (fun g => g = w.heap.size + 1 + 1 ∨ w0.heap.size ≤ g) w6.drew W))
                          case first =>
                            go_region_law (first | (refine step_append_at (by rfl) _ _ 65 (by rfl) w0.heap.size 3 (.int .i64 0) 8 Try.underlying65 infoI rfl _ _ _ _ HRA.out (by rfl) (by rfl) rfl hm3.out hm4.out hZA.out ?_; intro vA wA hownA hgA hatA; obtain ⟨aA, cA, rfl⟩ := ownsRow_form' hownA; have yA := T0.out.midF hgA; have fA := yA.2; replace yA := yA.1))
                            all_goals go_wp2
                            all_goals go_meet
                            all_goals
                              have hpA := T0.out.pushF (x := (j2 : Int)) (by rw [HLF.out.1]; exact hownA) hgA hatA
                              exact ⟨_, _, rfl, Lib.hid ⟨hpA.1, hpA.2⟩⟩
                          case rest =>
                          obtain ⟨aA, cA, rfl, HPA⟩ := hcut
                          obtain ⟨WA, hWA⟩ : ∃ W, W = wc := ⟨_, rfl⟩
                          rw [← hWA] at HPA ⊢
                          have T1 := Lib.hid HPA.out.1
                          have HGWA := Lib.hid HPA.out.2
                          clear hWA wc HPA
                          obtain ⟨kFB, kIB, kOB⟩ := T1.out.cells
                          have hRB := T1.out.i
                          rw [HLF.out.2.1] at hRB
                          have HRB := Lib.hid hRB
                          have hZB := Lib.hid T1.out.hs
                          clear hRB
                          go_upto_region 30 with (at_builtin; go_must (refine wpList_append_at rfl _ _ 65 rfl w0.heap.size 3 (.int .i64 0) 8 Try.underlying65 infoI rfl _ _ _ _ HRB.out rfl rfl rfl hm3.out hm4.out hZB.out ?_); intro vB wB hownB hgB hatB; obtain ⟨aB, cB, rfl⟩ := ownsRow_form' hownB; have yB := T1.out.midI hgB; have fB := yB.2; replace yB := yB.1)
                          have hpB := T1.out.pushI (x := s1) (by rw [HLF.out.2.1]; exact hownB) hgB hatB
                          obtain ⟨WB, hWB⟩ : ∃ W, W = wB.setCell ⟨w.heap.size + 1 + 1, 1, none⟩ (.slice aB (q + 2 + 1) cB) := ⟨_, rfl⟩
                          rw [← hWB] at hpB ⊢
                          have T2 := Lib.hid hpB.1
                          have HGWB := Lib.hid hpB.2
                          clear hpB hownB hgB hatB hWB yB fB kFB kIB kOB
                          obtain ⟨kFC, kIC, kOC⟩ := T2.out.cells
                          have hRC := T2.out.o
                          rw [HLF.out.2.2] at hRC
                          have HRC := Lib.hid hRC
                          have hZC := Lib.hid T2.out.hs
                          clear hRC
                          go_upto_region 31 with (at_builtin; go_must (refine wpList_append_at rfl _ _ 65 rfl w0.heap.size 3 (.int .i64 0) 8 Try.underlying65 infoI rfl _ _ _ _ HRC.out rfl rfl rfl hm3.out hm4.out hZC.out ?_); intro vC wC hownC hgC hatC; obtain ⟨aC, cC, rfl⟩ := ownsRow_form' hownC; have yC := T2.out.midO hgC; have fC := yC.2; replace yC := yC.1)
                          have hpC := T2.out.pushO (x := s2) (by rw [HLF.out.2.2]; exact hownC) hgC hatC
                          obtain ⟨WC, hWC⟩ : ∃ W, W = wC.setCell ⟨w.heap.size + 1 + 1, 2, none⟩ (.slice aC (q + 2 + 1) cC) := ⟨_, rfl⟩
                          rw [← hWC] at hpC ⊢
                          have T3 := Lib.hid hpC.1
                          have HGWC := Lib.hid hpC.2
                          clear hpC hownC hgC hatC hWC yC fC kFC kIC kOC
                          have hnew : Hid (ScnSt w0 (w.heap.size + 1 + 1) ds ns (q + 2 + 1) (tr ++ [(j2, (s1, s2))]) (.slice aA (q + 2 + 1) cA) (.slice aB (q + 2 + 1) cB) (.slice aC (q + 2 + 1) cC) WC) := by
                            refine Lib.hid ⟨HSU2.out, by rw [List.length_append, HLN.out]; rfl, ?_, (((HCH.out w6.drew HBX.out.drew).trans HGWA.out).trans HGWB.out).trans HGWC.out⟩
                            rw [frL_snoc, inL_snoc, ouL_snoc]
                            exact T3.out
                          go_wp2
                          go_roundw
                          case rel => exact ⟨(q + 2) + 1, _, _, _, _, _, _, _, by omega, by go_num, hnew⟩
                          case measure => simp [intOf]; omega
                        · have hrn := Lib.hid (hnn.out (by rw [HST.out, hjw.out, if_neg h12]; rfl))
                          cases d1 : decide (12 < s1) with
                          | true =>
                            clear h12
                            have hchx := HCH.out _ HBX.out
                            obtain ⟨-, hblk, hbw⟩ := HX.out _ hchx
                            have y0 := (Go.Joins.cell_of_block hblk 0).trans rfl
                            have y1 := (Go.Joins.cell_of_block hblk 1).trans rfl
                            have y2 := (Go.Joins.cell_of_block hblk 2).trans rfl
                            have f0 := Go.Joins.unfrozen_of_block hblk 0
                            have f1 := Go.Joins.unfrozen_of_block hblk 1
                            have f2 := Go.Joins.unfrozen_of_block hblk 2
                            have HFB := Lib.hid (((hbw.setCell (p := ⟨w.heap.size + 1, 0, none⟩) (by simp) (.slice (some ⟨gF, 0, none⟩) (q + 2) cF)).setCell (p := ⟨w.heap.size + 1, 1, none⟩) (by simp) (.slice (some ⟨gI, 0, none⟩) (q + 2) cI)).setCell (p := ⟨w.heap.size + 1, 2, none⟩) (by simp) (.slice (some ⟨gO, 0, none⟩) (q + 2) cO))
                            clear hblk hbw hchx
                            go_wp2
                            refine bodyPost_ret (v := .tuple #[.agg #[.slice (some ⟨gF, 0, none⟩) (q + 2) cF, .slice (some ⟨gI, 0, none⟩) (q + 2) cI, .slice (some ⟨gO, 0, none⟩) (q + 2) cO], .bool false]) (by simp [results, Try.results34, go_sem, y0, y1, y2]) rfl ?_
                            rw [hrn.out]
                            exact ⟨_, _, _, _, _, _, _, _, _, rfl, (fun h => by cases h), HFB.out⟩
                          | false =>
                            have d2 : decide (12 < s2) = true := by simp at d1 ⊢; omega
                            clear h12
                            have hchx := HCH.out _ HBX.out
                            obtain ⟨-, hblk, hbw⟩ := HX.out _ hchx
                            have y0 := (Go.Joins.cell_of_block hblk 0).trans rfl
                            have y1 := (Go.Joins.cell_of_block hblk 1).trans rfl
                            have y2 := (Go.Joins.cell_of_block hblk 2).trans rfl
                            have f0 := Go.Joins.unfrozen_of_block hblk 0
                            have f1 := Go.Joins.unfrozen_of_block hblk 1
                            have f2 := Go.Joins.unfrozen_of_block hblk 2
                            have HFB := Lib.hid (((hbw.setCell (p := ⟨w.heap.size + 1, 0, none⟩) (by simp) (.slice (some ⟨gF, 0, none⟩) (q + 2) cF)).setCell (p := ⟨w.heap.size + 1, 1, none⟩) (by simp) (.slice (some ⟨gI, 0, none⟩) (q + 2) cI)).setCell (p := ⟨w.heap.size + 1, 2, none⟩) (by simp) (.slice (some ⟨gO, 0, none⟩) (q + 2) cO))
                            clear hblk hbw hchx
                            go_wp2
                            refine bodyPost_ret (v := .tuple #[.agg #[.slice (some ⟨gF, 0, none⟩) (q + 2) cF, .slice (some ⟨gI, 0, none⟩) (q + 2) cI, .slice (some ⟨gO, 0, none⟩) (q + 2) cO], .bool false]) (by simp [results, Try.results34, go_sem, y0, y1, y2]) rfl ?_
                            rw [hrn.out]
                            exact ⟨_, _, _, _, _, _, _, _, _, rfl, (fun h => by cases h), HFB.out⟩
                  · have hrn := Lib.hid (hnn.out (stepS_no hl h17 (.inr (.inr (.inl hv)))))
                    have bv : (vl != 0) = true := by simpa using hv
                    clear hl he hv
                    go_wp2_with fail
                    rw [← HW1.out]
                    refine (hlf.out W1).mono ?_
                    rintro e w2 ⟨rfl, hb2⟩
                    obtain ⟨z0, z1, z2⟩ := HND.out w2 hb2
                    have HBX := Lib.hid hb2
                    clear hb2 x0 x1 x2
                    have hchx := HCH.out _ HBX.out
                    obtain ⟨cF0, cI0, cO0⟩ := (HTT.out _ HBX.out).cells
                    obtain ⟨-, hblk, hbw⟩ := HX.out _ hchx
                    have y0 := (Go.Joins.cell_of_block hblk 0).trans rfl
                    have y1 := (Go.Joins.cell_of_block hblk 1).trans rfl
                    have y2 := (Go.Joins.cell_of_block hblk 2).trans rfl
                    have f0 := Go.Joins.unfrozen_of_block hblk 0
                    have f1 := Go.Joins.unfrozen_of_block hblk 1
                    have f2 := Go.Joins.unfrozen_of_block hblk 2
                    have HFB := Lib.hid (((hbw.setCell (p := ⟨w.heap.size + 1, 0, none⟩) (by simp) (.slice aF k cF)).setCell (p := ⟨w.heap.size + 1, 1, none⟩) (by simp) (.slice aI k cI)).setCell (p := ⟨w.heap.size + 1, 2, none⟩) (by simp) (.slice aO k cO))
                    clear hblk hbw hchx
                    go_wp2
                    refine bodyPost_ret (v := .tuple #[.agg #[.slice aF k cF, .slice aI k cI, .slice aO k cO], .bool false]) (by simp [results, Try.results34, go_sem, y0, y1, y2]) rfl ?_
                    rw [hrn.out]
                    exact ⟨_, _, _, _, _, _, _, _, _, rfl, (fun h => by cases h), HFB.out⟩
            · have hrn := Lib.hid (hnn.out (stepS_no hl h17 (.inl hk)))
              have b15 : (kd != 15) = true := by simp; omega
              have b16 : (kd != 16) = true := by simp; omega
              clear hl hk h17
              go_wp2_with fail
              rw [← HW1.out]
              refine (hlf.out W1).mono ?_
              rintro e w2 ⟨rfl, hb2⟩
              obtain ⟨z0, z1, z2⟩ := HND.out w2 hb2
              have HBX := Lib.hid hb2
              clear hb2 x0 x1 x2
              have hchx := HCH.out _ HBX.out
              obtain ⟨cF0, cI0, cO0⟩ := (HTT.out _ HBX.out).cells
              obtain ⟨-, hblk, hbw⟩ := HX.out _ hchx
              have y0 := (Go.Joins.cell_of_block hblk 0).trans rfl
              have y1 := (Go.Joins.cell_of_block hblk 1).trans rfl
              have y2 := (Go.Joins.cell_of_block hblk 2).trans rfl
              have f0 := Go.Joins.unfrozen_of_block hblk 0
              have f1 := Go.Joins.unfrozen_of_block hblk 1
              have f2 := Go.Joins.unfrozen_of_block hblk 2
              have HFB := Lib.hid (((hbw.setCell (p := ⟨w.heap.size + 1, 0, none⟩) (by simp) (.slice aF k cF)).setCell (p := ⟨w.heap.size + 1, 1, none⟩) (by simp) (.slice aI k cI)).setCell (p := ⟨w.heap.size + 1, 2, none⟩) (by simp) (.slice aO k cO))
              clear hblk hbw hchx
              go_wp2
              refine bodyPost_ret (v := .tuple #[.agg #[.slice aF k cF, .slice aI k cI, .slice aO k cO], .bool false]) (by simp [results, Try.results34, go_sem, y0, y1, y2]) rfl ?_
              rw [hrn.out]
              exact ⟨_, _, _, _, _, _, _, _, _, rfl, (fun h => by cases h), HFB.out⟩
      · as_aux_lemma =>
        obtain rfl : k = n := by omega
        have hk1 := HN4.out.1
        obtain ⟨q, rfl⟩ : ∃ q, k = q + 1 := ⟨k - 1, by omega⟩
        obtain ⟨hrun, hlen, hT, hch⟩ := H.out
        rw [← HN.out, List.take_length] at hrun
        have hlF : (frL tr).length = q + 1 := by rw [frL_len, hlen]
        obtain ⟨gF, _, eF, ff⟩ := row_at hT.f (j := q) (by rw [hlF]; omega)
        rw [hlF] at eF
        simp only [Value.slice.injEq] at eF
        obtain ⟨rfl, -, rfl⟩ := eF
        rw [frL_at] at ff
        obtain ⟨k0, k1, k2⟩ := hT.cells
        obtain ⟨x0, hblk, hbw⟩ := HX.out wr hch
        have y0 := (Go.Joins.cell_of_block hblk 0).trans rfl
        have y1 := (Go.Joins.cell_of_block hblk 1).trans rfl
        have y2 := (Go.Joins.cell_of_block hblk 2).trans rfl
        have f0 := Go.Joins.unfrozen_of_block hblk 0
        have f1 := Go.Joins.unfrozen_of_block hblk 1
        have f2 := Go.Joins.unfrozen_of_block hblk 2
        have hrr : Hid (r = ((frAt tr q : Int) == 0)) := by
          show _ = _
          rw [← HR.out]
          unfold scanB
          rw [hrun, HN.out, decide_eq_true HN4.out, Bool.true_and, Bool.eq_iff_iff]
          simp
        have hfin : Hid (∀ W, Chg (fun g => g < w0.heap.size) wr W → Below w.heap.size w W → ScanOut w ((frAt tr q : Int) == 0) (runS ds ns) (.returned (.tuple #[.agg #[.slice (some ⟨gF, 0, none⟩) (q + 1) cF, .slice aI (q + 1) cI, .slice aO (q + 1) cO], .bool ((frAt tr q : Int) == 0)])) W) := by
          intro W hc hb
          have hh := tri_reads hT hlF (by rw [inL_len, hlen]) (by rw [ouL_len, hlen]) (by have := HN4.out; unfold maxLen; omega) hc
          refine ⟨_, _, _, _, _, _, _, _, _, rfl, fun _ => ⟨tr, hrun, ?_⟩, hb⟩
          rw [hlen]
          exact hh
        have HBW := Lib.hid hbw
        have HSZ := Lib.hid (show w.heap.size + 1 < w0.heap.size by have := HS.out; omega)
        have hw1 : IntKind.i64.wrap ((q : Int) + 1 - 1) = (q : Int) := by rw [show (q : Int) + 1 - 1 = (q : Int) by omega]; exact IntWalk.i64_in _ (by have := HN4.out; omega)
        have hw2 : IntKind.i64.wrap (q : Int) = (q : Int) := IntWalk.i64_in _ (by have := HN4.out; omega)
        have hq0 : 0 ≤ (q : Int) := by omega
        have hql : (q : Int) < (q : Int) + 1 := by omega
        obtain ⟨fr, hfr⟩ : ∃ x, frAt tr q = x := ⟨_, rfl⟩
        rw [hfr] at ff hrr hfin
        have hgb := (hT.f.lt gF rfl).1
        have ff2 := (((((Chg.refl (fun g => g = w.heap.size + 1) wr).setCell (p := ⟨w.heap.size + 1, 0, none⟩) (fun _ => rfl) (.slice (some ⟨gF, 0, none⟩) (q + 1) cF)).setCell (p := ⟨w.heap.size + 1, 1, none⟩) (fun _ => rfl) (.slice aI (q + 1) cI)).setCell (p := ⟨w.heap.size + 1, 2, none⟩) (fun _ => rfl) (.slice aO (q + 1) cO)).keep ff (fun e => by have := HSZ.out; simp only at e; omega))
        clear hrun hT hch hblk hbw H hfr hlF hgb
        go_wp2
        go_region
        all_goals
          go_wp2
          refine bodyPost_ret (v := .tuple #[.agg #[.slice (some ⟨gF, 0, none⟩) (q + 1) cF, .slice aI (q + 1) cI, .slice aO (q + 1) cO], .bool ((fr : Int) == 0)]) (by simp [results, Try.results34, go_sem, y0, y1, y2]) rfl ?_
          have hz := HSZ.out
          rw [hrr.out]
          exact hfin.out _ ((((Chg.refl _ wr).setCell (p := ⟨w.heap.size + 1, 0, none⟩) (fun _ => hz) _).setCell (p := ⟨w.heap.size + 1, 1, none⟩) (fun _ => hz) _).setCell (p := ⟨w.heap.size + 1, 2, none⟩) (fun _ => hz) _).drew (((HBW.out.setCell (p := ⟨w.heap.size + 1, 0, none⟩) (by simp) _).setCell (p := ⟨w.heap.size + 1, 1, none⟩) (by simp) _).setCell (p := ⟨w.heap.size + 1, 2, none⟩) (by simp) _).drew

end Ints
end Go.Proofs.Ytoegbphkheohoaa
