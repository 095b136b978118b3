/- PreimageOf, both. (Printed by wip/gen_pre.py.) -/
import Derived.Test.YtkpheigoegehoaaDoorMeetF
import Derived.Test.YtkpheigoegehoaaDoorSpNull
import Derived.Test.YtkpheigoegehoaaDoorImgF
import Derived.StillTailTactics
import Derived.IntWalk
import Derived.Deep.RegionHeld3
import Derived.Deep.DeepCutAuto
namespace Go.Proofs.YtkpheigoegehoaaDoor
open Go.RowKit
namespace Ints

theorem wpList_append_one_E {P : Program} (w : World) {ops : Array Oper} {rest : List Oper} {o : Oper} {a : Act} {Q : Exit → Act → World → Prop} (hgd : o.guard = none) (s x : Operand) (t : TypeId)
    (ho : o.op = .call { callee := .builtin .append, args := #[s, x], argTypes := #[t, t] })
    (base : Nat) (e : TypeId) (z : Value) (bytes : Nat) (ht : P.underlying t = some (.slice e)) (hinfo : (P.info? e).map (fun i => (i.zero, i.size, i.bytes)) = some (some z, 1, bytes))
    (hcap : ¬ (Builtin.nextslicecap 1 0 * bytes > 2 ^ 48)) (hb0 : ¬ bytes = 0)
    (hzs : z.cells.size = 1) (v vo : Value) (hE : EqE v vo) (n : Nat) (xs : List Value) (u : Value)
    (hown : w.ownsRow base e 1 vo n xs) (hs : a.eval s = v) (hx : a.eval x = .slice (some ⟨w.heap.size, 0, none⟩) 1 1) (h1 : u.oneCell' = true) (h63 : n + 1 ≤ maxLen) (hbytes : (n + 1) * bytes ≤ 140737488355328) (hbase : base ≤ w.heap.size)
    (h : ∀ v' w', w'.ownsRow base e 1 v' (n + 1) (xs ++ [u]) → w.grownBy w' vo.ownBlock → wpList P ops Q rest (a.put o.dst v') w') : wpList P ops Q (o :: rest) a (w.alloc (.cells #[u] e)) := by
  refine wpList_plain hgd fun K hK => ?_
  have hw : Region.wanted o (yielded ops a.tmps) = true := by simp [Region.wanted, hgd]
  have h := step_append_one_E (E := False) (K := K) (Q := Q) (ops := ops) hgd s x t ho base e z bytes ht hinfo hcap hb0 hzs v vo hE n xs u hown hs hx h1 h63 hbytes hbase (fun v' w' h2 h3 => hK _ _ (h v' w' h2 h3))
  rw [if_pos hw] at h
  exact h
theorem EqE.readsM {W : World} {v o : Value} {L : List (List Int)} (hE : EqE v o) (h : ReadsM W o L) : ReadsM W v L := by
  rcases hE with rfl | ⟨rfl, a, rfl⟩
  · exact h
  · obtain ⟨rs, ⟨h0, a', c, e, _⟩, h3⟩ := h
    simp only [Value.slice.injEq] at e
    have hl : L.length = 0 := e.2.1.symm
    obtain rfl : L = [] := List.eq_nil_of_length_eq_zero hl
    exact ⟨[], ⟨rfl, some a, 0, rfl, Nat.le_refl _, Nat.zero_le _, fun h => by simp at h⟩, rfl, fun i hi => by simp at hi⟩
def fitPre (p cs cm : Int) (A B : List (List Int)) : Bool := spB p cs A && matB p cm B && (cm == cs)
theorem fitPre_parts {p cs cm : Int} {A B : List (List Int)} (h : fitPre p cs cm A B = true) : ∃ c : Nat, cs = c ∧ cm = c ∧ c ≤ 24 ∧ A.length ≤ 24 ∧ B.length ≤ 24 ∧ Fld.goodB p = true ∧ ElemsT p A.length c A ∧ ElemsT p B.length c B := by
  simp only [fitPre, Bool.and_eq_true, beq_iff_eq] at h
  obtain ⟨⟨h1, h2⟩, h3⟩ := h
  obtain ⟨n, e1, hn, hl, hg, hA, _⟩ := spB_parts h1
  obtain ⟨c, e2, hc, hl2, _, hB⟩ := mat_nats h2
  obtain rfl : c = n := by omega
  exact ⟨c, e1, e2, hn, by omega, by omega, hg, hA, hB⟩
def preOut (p cs cm : Int) (A B : List (List Int)) : List (List Int) := if fitPre p cs cm A B then Lin.nullL p B.length (Lin.condRows p cm.toNat B A) else []
def preCols (p cs cm : Int) (A B : List (List Int)) : Int := if fitPre p cs cm A B then B.length else 0
theorem preOut_ctr (p cs cm : Int) (A B : List (List Int)) : (1 : Int) + (sumL (preOut p cs cm A B) : Int) ≤ 1000000000 := by
  unfold preOut
  split
  · rename_i h
    obtain ⟨c, rfl, rfl, hc, hl, hl2, hg, hA, hB⟩ := fitPre_parts h
    simp only [Int.toNat_natCast]
    obtain ⟨_, h1, h2, _⟩ := Lin.null_facts hg (Lin.condRows_elems (S := A) (Fld.good_bounds hg).1 hB)
    exact ctr_elems' h1 (by omega) (by omega)
  · exact ctr_nil

set_option maxHeartbeats 2000000 in
set_option maxRecDepth 100000 in
theorem spDot_any (p : Int) (n : Nat) (h2 : 2 ≤ p) (h97 : p ≤ 97) (hn : n ≤ 1000) (xa xb : Value) (a b : List Int) (w : World) (ha : Reads w 1 xa n (ofL a)) (hb : Reads w 1 xb n (ofL b)) (ea : ∀ i, i < n → 0 ≤ a[i]?.getD 0 ∧ a[i]?.getD 0 < p) (eb : ∀ i, i < n → 0 ≤ b[i]?.getD 0 ∧ b[i]?.getD 0 < p) :
    Calls Tryd.prog 115 #[.int .i64 p, xa, xb] w fun e w' => e = .returned (.int .i64 (Lin.dotN p a b n)) ∧ Below w.heap.size w w' := by
  obtain ⟨hal, aa, ca, rfl, ham, hac⟩ := open_reads ha
  obtain ⟨hbl, ab, cb, rfl, hbm, hbc⟩ := open_reads hb
  have HAC := Lib.hid hac
  have HBC := Lib.hid hbc
  have EA := Lib.hid ea
  have EB := Lib.hid eb
  have hp0 : (p == 0) = false := by simp; omega
  have hp1 : ¬ p = 0 := by omega
  clear ha hb hac hbc ea eb hal hbl
  go_enter Tryd.func115, Tryd.ntmps115
  go_wp2
  go_loopw [7, 11] (fun s i wr => ∃ k : Nat, k ≤ n ∧ i = .int .i64 k ∧ s = .int .i64 (Lin.dotN p a b k) ∧ Below w.heap.size w wr) (fun _ i _ => n + 1 - (intOf i).toNat)
  case atStart => exact ⟨0, by omega, rfl, rfl, Below.refl _ _⟩
  case round =>
    obtain ⟨k, hk, rfl, rfl, hb⟩ := hrel
    by_cases hlt : k < n
    · obtain ⟨ga, offa, rfl, hga, hcella⟩ := HAC.out (by omega)
      obtain ⟨gb, offb, rfl, hgb, hcellb⟩ := HBC.out (by omega)
      have hx : wr.cell? ⟨ga, offa + k, none⟩ = some (.int .i64 (a[k]?.getD 0)) := (hb.cell (p := ⟨ga, offa + k, none⟩) hga).trans (hcella k hlt)
      have hy : wr.cell? ⟨gb, offb + k, none⟩ = some (.int .i64 (b[k]?.getD 0)) := (hb.cell (p := ⟨gb, offb + k, none⟩) hgb).trans (hcellb k hlt)
      have hdb := Lin.dotN_bounds (p := p) h2 a b k
      have hab := EA.out k hlt
      have hbb := EB.out k hlt
      have hfk : Lin.dotN p a b (k + 1) = (Lin.dotN p a b k + a[k]?.getD 0 * b[k]?.getD 0) % p := rfl
      obtain ⟨m0, m1⟩ := Fld.mul_bounds h97 hab.1 hab.2 hbb.1 hbb.2
      obtain ⟨z, hz⟩ : ∃ z, Lin.dotN p a b (k + 1) = z := ⟨_, rfl⟩
      rw [hz] at hfk
      have HZ2 := Lib.hid hz
      generalize Lin.dotN p a b k = o at *
      generalize a[k]?.getD 0 = xk at *
      generalize b[k]?.getD 0 = y at *
      have HZ := Lib.hid hfk
      have hk0 : 0 ≤ (k : Int) := by omega
      have hki : (k : Int) < (n : Int) := by omega
      obtain ⟨t, ht⟩ : ∃ t, xk * y = t := ⟨_, rfl⟩
      rw [ht] at m0 m1 HZ
      have hw1 : IntKind.i64.wrap (xk * y) = t := by rw [ht]; exact IntWalk.i64_in _ (by omega)
      have hw2 : IntKind.i64.wrap (o + t) = o + t := IntWalk.i64_in _ (by omega)
      have hmod : (o + t).tmod p = z := by rw [Int.tmod_eq_emod_of_nonneg (by omega)]; exact HZ.out.symm
      have HBW := Lib.hid hb
      clear hb hz hfk hcella hcellb hab hbb ht hga hgb hdb
      go_wp2
      go_still_tail 13, (by kernel_rfl)
      change wpList _ _ _ _ _ wr.drew
      go_wp2
      go_roundw
      case rel => exact ⟨k + 1, by omega, by go_num, by rw [HZ2.out], HBW.out.drew⟩
      case measure => simp [intOf]; omega
    · have hkn : k = n := by omega
      rw [hkn] at hlt ⊢
      have HBW := Lib.hid hb
      clear hb hkn
      go_wp2
      go_ret
      exact ⟨rfl, HBW.out⟩

set_option maxHeartbeats 4000000 in
set_option maxRecDepth 100000 in
theorem specPre_any (p cs cm : Int) (u v : Value) (A B : List (List Int)) (w : World) (hu : ReadsM w u A) (hv : ReadsM w v B) :
    Calls Tryd.prog 70 #[.int .i64 p, .agg #[.int .i64 cs, u], .agg #[.int .i64 cm, v]] w (OptMat w (fitPre p cs cm A B) (preCols p cs cm A B) (preOut p cs cm A B)) := by
  obtain ⟨ua, uc, rfl⟩ := hu.form
  obtain ⟨va, vc, rfl⟩ := hv.form
  obtain ⟨w0, hw0⟩ : ∃ W, W = (((w.alloc (.cells #[.int .i64 cs, .slice ua A.length uc] 43)).alloc (.cells #[.int .i64 cm, .slice va B.length vc] 30)).alloc (.cells #[.int .i64 0, .slice none 0 0] 43)) := ⟨_, rfl⟩
  have hB : Below w.heap.size w w0 := by rw [hw0]; exact ((((Below.refl w.heap.size w).alloc (by simp) (.cells #[.int .i64 cs, .slice ua A.length uc] 43)).alloc (by simp) (.cells #[.int .i64 cm, .slice va B.length vc] 30)).alloc (by simp; omega) (.cells #[.int .i64 0, .slice none 0 0] 43))
  have hs0 : w0.heap.size = w.heap.size + 3 := by rw [hw0]; simp
  have X0_0 : ∀ W, Below w0.heap.size w0 W → W.cell? ⟨w.heap.size, 0, none⟩ = some (.int .i64 cs) := fun W hW => cell_old hW (by rw [hw0]; simp [go_sem])
  have X0_1 : ∀ W, Below w0.heap.size w0 W → W.cell? ⟨w.heap.size, 1, none⟩ = some (.slice ua A.length uc) := fun W hW => cell_old hW (by rw [hw0]; simp [go_sem])
  have X1_0 : ∀ W, Below w0.heap.size w0 W → W.cell? ⟨w.heap.size + 1, 0, none⟩ = some (.int .i64 cm) := fun W hW => cell_old hW (by rw [hw0]; simp [go_sem])
  have X1_1 : ∀ W, Below w0.heap.size w0 W → W.cell? ⟨w.heap.size + 1, 1, none⟩ = some (.slice va B.length vc) := fun W hW => cell_old hW (by rw [hw0]; simp [go_sem])
  have Q0 : ∀ W, Below w0.heap.size w0 W → W.cell? ⟨w.heap.size + 1 + 1, 0, none⟩ = some (.int .i64 0) := fun W hW => cell_old hW (by rw [hw0]; simp [go_sem])
  have G0 : ∀ W, Below w0.heap.size w0 W → W.frozen? ⟨w.heap.size + 1 + 1, 0, none⟩ = false := fun W hW => frozen_old hW (by show w.heap.size + 1 + 1 < _; omega) (by rw [hw0]; simp [go_sem])
  have Q1 : ∀ W, Below w0.heap.size w0 W → W.cell? ⟨w.heap.size + 1 + 1, 1, none⟩ = some (.slice none 0 0) := fun W hW => cell_old hW (by rw [hw0]; simp [go_sem])
  have G1 : ∀ W, Below w0.heap.size w0 W → W.frozen? ⟨w.heap.size + 1 + 1, 1, none⟩ = false := fun W hW => frozen_old hW (by show w.heap.size + 1 + 1 < _; omega) (by rw [hw0]; simp [go_sem])
  have HW := Lib.hid hw0
  have HB := Lib.hid hB
  have HS := Lib.hid hs0
  have HU := Lib.hid (hu.below hB)
  have HV := Lib.hid (hv.below hB)
  obtain ⟨b1, hb1⟩ : ∃ b, (spB p cs A) = b := ⟨_, rfl⟩
  have Cb1 := Lib.hid (fun W (hW : Below w0.heap.size w0 W) => spGood_any p cs _ A W (HU.out.below hW))
  rw [hb1] at Cb1
  obtain ⟨b2, hb2⟩ : ∃ b, (matB p cm B) = b := ⟨_, rfl⟩
  have Cb2 := Lib.hid (fun W (hW : Below w0.heap.size w0 W) => mxGood_any p cm _ B W (HV.out.below hW))
  rw [hb2] at Cb2
  obtain ⟨b3, hb3⟩ : ∃ b, (cm == cs) = b := ⟨_, rfl⟩
  have Eb3 : (cm != cs) = !b3 := by rw [← hb3]; rfl
  clear hw0 hB hs0 hu hv
  cases b1 with
  | false =>
    have e0 : fitPre p cs cm A B = false := by simp [fitPre, hb1]
    have e1 : preOut p cs cm A B = [] := by simp [preOut, e0]
    have e2 : preCols p cs cm A B = 0 := by simp [preCols, e0]
    rw [e0, e1, e2]
    clear e0 e1 e2
    clear hb1 hb2 hb3
    go_enter Tryd.func70, Tryd.ntmps70
    go_wp2_with fail
    rw [← HW.out]
    refine (Cb1.out w0 (Below.refl _ _)).mono ?_
    rintro e w1 ⟨rfl, hb1⟩
    have B1 : Below w0.heap.size w0 w1 := hb1
    clear hb1
    go_wp2
    refine bodyPost_ret (v := .tuple #[.agg #[.int .i64 0, .slice none 0 0], .bool false]) (by simp [results, Tryd.results70, go_sem, Q0 _ B1, Q1 _ B1]) rfl ?_
    exact optMat_none (HB.out.trans (B1.mono HB.out.size)) (by omega)
  | true =>
    cases b2 with
    | false =>
      have e0 : fitPre p cs cm A B = false := by simp [fitPre, hb1, hb2]
      have e1 : preOut p cs cm A B = [] := by simp [preOut, e0]
      have e2 : preCols p cs cm A B = 0 := by simp [preCols, e0]
      rw [e0, e1, e2]
      clear e0 e1 e2
      clear hb1 hb2 hb3
      go_enter Tryd.func70, Tryd.ntmps70
      go_wp2_with fail
      rw [← HW.out]
      refine (Cb1.out w0 (Below.refl _ _)).mono ?_
      rintro e w1 ⟨rfl, hb1⟩
      have B1 : Below w0.heap.size w0 w1 := hb1
      clear hb1
      go_wp2_with fail
      refine (Cb2.out w1 B1).mono ?_
      rintro e w2 ⟨rfl, hb2⟩
      have B2 : Below w0.heap.size w0 w2 := below_step B1 hb2
      clear hb2
      go_wp2
      refine bodyPost_ret (v := .tuple #[.agg #[.int .i64 0, .slice none 0 0], .bool false]) (by simp [results, Tryd.results70, go_sem, Q0 _ B2, Q1 _ B2]) rfl ?_
      exact optMat_none (HB.out.trans (B2.mono HB.out.size)) (by omega)
    | true =>
      cases b3 with
      | false =>
        have e0 : fitPre p cs cm A B = false := by simp [fitPre, hb1, hb2, hb3]
        have e1 : preOut p cs cm A B = [] := by simp [preOut, e0]
        have e2 : preCols p cs cm A B = 0 := by simp [preCols, e0]
        rw [e0, e1, e2]
        clear e0 e1 e2
        clear hb1 hb2 hb3
        go_enter Tryd.func70, Tryd.ntmps70
        go_wp2_with fail
        rw [← HW.out]
        refine (Cb1.out w0 (Below.refl _ _)).mono ?_
        rintro e w1 ⟨rfl, hb1⟩
        have B1 : Below w0.heap.size w0 w1 := hb1
        clear hb1
        go_wp2_with fail
        refine (Cb2.out w1 B1).mono ?_
        rintro e w2 ⟨rfl, hb2⟩
        have B2 : Below w0.heap.size w0 w2 := below_step B1 hb2
        clear hb2
        go_wp2
        refine bodyPost_ret (v := .tuple #[.agg #[.int .i64 0, .slice none 0 0], .bool false]) (by simp [results, Tryd.results70, go_sem, Q0 _ B2, Q1 _ B2]) rfl ?_
        exact optMat_none (HB.out.trans (B2.mono HB.out.size)) (by omega)
      | true =>
        have e0 : fitPre p cs cm A B = true := by simp [fitPre, hb1, hb2, hb3]
        obtain ⟨c, rfl, rfl, hc, hl, hlb, hg, hA, hBB⟩ := fitPre_parts e0
        have e1 : preOut p c c A B = Lin.nullL p B.length (Lin.condRows p c B A) := by simp [preOut, e0]
        have e2 : preCols p c c A B = B.length := by simp [preCols, e0]
        rw [e0, e1, e2]
        have HA := Lib.hid hA
        have HBM := Lib.hid hBB
        have HTT := Lib.hid (elems_tot hBB (by omega) (by omega))
        clear e0 e1 e2 hb1 hb2 hb3 hA hBB
        obtain ⟨R, hR⟩ : ∃ R, Lin.nullL p B.length (Lin.condRows p c B A) = R := ⟨_, rfl⟩
        rw [hR]
        have HR := Lib.hid hR
        clear hR
        go_enter Tryd.func70, Tryd.ntmps70
        go_wp2_with fail
        rw [← HW.out]
        refine (Cb1.out w0 (Below.refl _ _)).mono ?_
        rintro e w1 ⟨rfl, hb1⟩
        have B1 : Below w0.heap.size w0 w1 := hb1
        clear hb1
        go_wp2_with fail
        refine (Cb2.out w1 B1).mono ?_
        rintro e w2 ⟨rfl, hb2⟩
        have B2 : Below w0.heap.size w0 w2 := below_step B1 hb2
        clear hb2
        obtain ⟨_, z1, hkl, _⟩ := Lin.null_facts hg HA.out
        have hnull := Lib.hid (fun W (hW : Below w0.heap.size w0 W) => spNull_any p hg A.length c (by omega) (by omega) _ A W HA.out (HU.out.below hW))
        have hdot := Lib.hid (fun W xa a xb b (h1 : Reads W 1 xa c (ofL a)) (h2 : Reads W 1 xb c (ofL b)) e1 e2 => spDot_any p c (Fld.good_bounds hg).1 (Fld.good_bounds hg).2 (by omega) xa xb a b W h1 h2 e1 e2)
        have hml : (Lin.condRows p c B A).length = (Lin.nullL p c A).length := by unfold Lin.condRows; simp
        have hmr : ∀ k, k < (Lin.nullL p c A).length → (Lin.condRows p c B A).take (k + 1) = (Lin.condRows p c B A).take k ++ [Lin.condRow p c B (lAt (Lin.nullL p c A) k)] := fun k hk => by
          unfold Lin.condRows
          rw [take_oneL _ k (by rw [List.length_map]; exact hk), Lin.map_lAt _ hk]
        have hnull2 := Lib.hid (fun W z (h : ReadsM W z (Lin.condRows p c B A)) => HR.out ▸ spNull_any p hg _ B.length (by rw [hml]; omega) (by omega) z _ W (Lin.condRows_elems (S := A) (Fld.good_bounds hg).1 HBM.out) h)
        have HML := Lib.hid hml
        have HMR := Lib.hid hmr
        have HK1 := Lib.hid z1
        obtain ⟨K, hK⟩ : ∃ K, Lin.nullL p c A = K := ⟨_, rfl⟩
        rw [hK] at hnull HML HMR HK1 hkl
        obtain ⟨MR, hMR⟩ : ∃ K, Lin.condRows p c B A = K := ⟨_, rfl⟩
        rw [hMR] at HML HMR hnull2
        obtain ⟨va', vc', eB, hmB, hcB⟩ := open_readsM HV.out
        simp only [Value.slice.injEq] at eB
        obtain ⟨rfl, -, rfl⟩ := eB
        have HCB := Lib.hid hcB
        have hmb := Lib.hid (show 8 * B.length ≤ 281474976710656 by omega)
        have hm2 := Lib.hid (show B.length ≤ maxLen by unfold maxLen; omega)
        have hbl0 : 0 ≤ (B.length : Int) := by omega
        clear hK hMR z1 hml hmr hcB
        have x1_1 := X1_1 _ B2
        have x0_0 := X0_0 _ B2
        have x0_1 := X0_1 _ B2
        go_wp2_with fail
        refine (hnull.out _ B2).mono ?_
        rintro e w9 ⟨v9, rfl, ho9, hb9⟩
        obtain ⟨a9, c9, rfl⟩ := ho9.reads.form
        have B9 := below_step B2 hb9
        obtain ⟨a9', c9', eK, hmK, hcK⟩ := open_readsM ho9.reads
        simp only [Value.slice.injEq] at eK
        obtain ⟨rfl, -, rfl⟩ := eK
        obtain ⟨kk, hkk⟩ : ∃ k, K.length = k := ⟨_, rfl⟩
        have HKK := Lib.hid hkk
        rw [hkk] at hcK hmK hkl
        rw [hkk] at HML HMR
        have HCK := Lib.hid hcK
        have HB9 := Lib.hid B9
        have HMF := Lib.hid (show kk ≤ maxLen by unfold maxLen; omega)
        rw [hkk]
        clear ho9 hb9 hcK hkk hnull x1_1 x0_0 x0_1
        go_wp2
        go_loopw [9, 42] (fun o i wr => ∃ (k : Nat) (rs : List Value) (ov : Value), k ≤ kk ∧ i = .int .i64 k ∧ o = ov ∧ wr.ownsRow w9.heap.size 67 1 ov k rs ∧ RowsOwn (w9.heap.size ≤ ·) wr rs (MR.take k) ∧ Below w9.heap.size w9 wr) (fun _ i _ => kk + 1 - (intOf i).toNat)
        case atStart => exact ⟨0, [], _, by omega, rfl, rfl, World.ownsRow_nil _ _ _ _, RowsOwn.nil _ _, Below.refl _ _⟩
        case round =>
          obtain ⟨k, rs, ov, hk, rfl, rfl, hown, hrows, hb⟩ := hrel
          by_cases hlt : k < kk
          · obtain ⟨g, off, r, rfl, hg9, hcell, hrd⟩ := HCK.out k hlt
            have hx : wr.cell? ⟨g, off + k, none⟩ = some r := (hb.cell hg9).trans hcell
            have hkl2 := HK1.out.2 k (by rw [HKK.out]; exact hlt)
            rw [hkl2.1] at hrd
            obtain ⟨ar, cr, rfl⟩ := hrd.form
            obtain ⟨wl, hwl⟩ : ∃ l, lAt K k = l := ⟨_, rfl⟩
            have hmk := HMR.out k hlt
            rw [hwl] at hrd hkl2 hmk
            have HRD := Lib.hid (fun W (hW : Below wr.heap.size wr W) => hrd.below (hb.trans (hW.mono hb.size)))
            have HBX := Lib.hid (fun W (hW : Below wr.heap.size wr W) => below_step HB9.out (hb.trans (hW.mono hb.size)))
            have hew : ∀ i, i < c → 0 ≤ wl[i]?.getD 0 ∧ wl[i]?.getD 0 < p := by rw [← hwl]; exact hkl2.2
            have HEW := Lib.hid hew
            have HMM := Lib.hid hmk
            have HO := Lib.hid hown
            have HRW := Lib.hid hrows
            have HBQ := Lib.hid hb
            have hsz := Lib.hid hb.size
            have hm3 := Lib.hid (show k + 1 ≤ maxLen by have := HMF.out; omega)
            have hm4 := Lib.hid (show (k + 1) * 24 ≤ 140737488355328 by omega)
            have hk0 : 0 ≤ (k : Int) := by omega
            have hki : (k : Int) < (kk : Int) := by omega
            clear hcell hrd hkl2 hmk hwl hew hown hrows hb
            obtain ⟨W0, hW0⟩ : ∃ W, W = wr := ⟨_, rfl⟩
            rw [← hW0] at HRD HBX HO HRW HBQ hsz hx ⊢
            clear hW0 wr
            go_wp2_with (at_make; refine wpList_make_one _ rfl _ _ 67 rfl 3 (.int .i64 0) 8 Tryd.underlying67 infoI rfl B.length rfl rfl hmb.out hm2.out ?_; intro w_3 hown3 hb3 hs3)
            have ho3 := owns_of_row hown3 hm2.out
            rw [← ofL_replicate] at ho3
            have HO3 : Hid (Owns w_3 3 1 (.slice (some ⟨W0.heap.size, 0, none⟩) B.length B.length) B.length (ofL (part B.length 0 (fun i => Lin.dotN p (lAt B i) wl c) (fun _ => 0)))) := by show Owns _ _ _ _ _ _; rw [part_zero]; exact ho3.1
            have HB3 := Lib.hid hb3
            clear hown3 ho3 hb3 hx
            go_wp2
            go_loopw [50] (fun i wr => ∃ j : Nat, j ≤ B.length ∧ i = .int .i64 j ∧ Owns wr 3 1 (.slice (some ⟨W0.heap.size, 0, none⟩) B.length B.length) B.length (ofL (part B.length j (fun i => Lin.dotN p (lAt B i) wl c) (fun _ => 0))) ∧ Below W0.heap.size W0 wr) (fun i _ => B.length + 1 - (intOf i).toNat)
            case atStart => exact ⟨0, by omega, rfl, HO3.out, HB3.out⟩
            case round =>
              obtain ⟨j, hj, rfl, ho, hb⟩ := hrel
              by_cases hltj : j < B.length
              · obtain ⟨g3, off3, r3, rfl, hg3, hcell3, hrd3⟩ := HCB.out j hltj
                have hBW := HBX.out _ hb
                have x1_1 := X1_1 _ hBW
                have hx3 : wr.cell? ⟨g3, off3 + j, none⟩ = some r3 := (hBW.cell hg3).trans hcell3
                have hlr := HBM.out.2 j hltj
                rw [hlr.1] at hrd3
                obtain ⟨a3, c3, rfl⟩ := hrd3.form
                have hcall := Lib.hid (hdot.out wr _ _ _ _ (hrd3.below hBW) (HRD.out _ hb) hlr.2 HEW.out)
                have H0 := Lib.hid ho
                have HBJ := Lib.hid hb
                have hj0 : 0 ≤ (j : Int) := by omega
                have hji : (j : Int) < (B.length : Int) := by omega
                clear ho hb hcell3 hrd3 hlr
                go_wp2_with fail
                refine hcall.out.mono ?_
                rintro e w_4 ⟨rfl, hb4⟩
                obtain ⟨_, a5, c5, e, _, hc5⟩ := open_owns (H0.out.below hb4)
                simp only [Value.slice.injEq] at e
                obtain ⟨rfl, -, rfl⟩ := e
                obtain ⟨g4, off4, e4, hg4, hj4⟩ := hc5 (by omega)
                simp only [Option.some.injEq, Addr.mk.injEq, and_true] at e4
                obtain ⟨rfl, rfl⟩ := e4
                have hfrz := (hj4 j hltj).2.1
                have hy := (hj4 j hltj).1
                have hst := (hj4 j hltj).2.2 (Lin.dotN p (lAt B j) wl c)
                rw [part_set (f := fun i => Lin.dotN p (lAt B i) wl c)] at hst
                rw [Nat.zero_add] at hy hfrz hst
                have H1 := Lib.hid hst
                have H2 := Lib.hid ((HBJ.out.trans (hb4.mono HBJ.out.size)).setCell (p := ⟨W0.heap.size, j, none⟩) (Nat.le_refl _) (.int .i64 (Lin.dotN p (lAt B j) wl c)))
                clear hst hj4 hc5 hb4 hcall x1_1 hx3
                go_wp2
                go_roundw
                case rel => exact ⟨j + 1, by omega, by go_num, H1.out, H2.out⟩
                case measure => simp [intOf]; omega
              · have hjc : j = B.length := by omega
                rw [hjc] at ho hltj ⊢
                rw [part_end] at ho
                have ho' : Owns wr 3 1 (.slice (some ⟨W0.heap.size, 0, none⟩) B.length B.length) (Lin.condRow p c B wl).length (ofL (Lin.condRow p c B wl)) := by unfold Lin.condRow; rw [rowT_length]; exact ho
                have hown5 := Lib.hid (ownsRow_below HO.out hb)
                have hsz2 := Lib.hid (Nat.le_trans hsz.out hb.size)
                have HO5 := Lib.hid ho'
                have HB5 := Lib.hid hb
                clear hjc hj j ho hb ho'
                go_wp2_with (at_builtin; go_must (refine wpList_append_one _ rfl _ _ 22 rfl w9.heap.size 67 (.slice none 0 0) 24 Tryd.underlying22 infoS rfl _ _ _ (.slice (some ⟨W0.heap.size, 0, none⟩) B.length B.length) hown5.out rfl rfl rfl hm3.out hm4.out hsz2.out ?_); intro v_6 w_6 hown_6 hg_6)
                have hpush := push_row (l := Lin.condRow p c B wl) HO.out HRW.out HBQ.out (fun g hg => Nat.le_trans hsz.out hg) hsz.out HO5.out (fun g _ hg => by simp [Value.ownBlock] at hg; omega) HB5.out hg_6
                rw [← HMM.out] at hpush
                have H1 := Lib.hid hown_6
                have H2 := Lib.hid hpush.1
                have H3 := Lib.hid hpush.2
                clear hpush hown_6 hg_6
                go_wp2
                go_roundw
                case rel => exact ⟨k + 1, _, _, by omega, by go_num, rfl, H1.out, H2.out, H3.out⟩
                case measure => simp [intOf]; omega
          · have hkn : k = kk := by omega
            rw [hkn] at hown hrows hlt ⊢
            rw [List.take_of_length_le (by rw [HML.out]; exact Nat.le_refl _)] at hrows
            have h1 := owns_of_row hown HMF.out
            have hO : OwnsM (w9.heap.size ≤ ·) wr u9 MR := ⟨rs, by rw [HML.out]; exact h1.1, h1.2, hrows⟩
            obtain ⟨av, cv, hov⟩ := hO.reads.form
            have hcall := Lib.hid (hnull2.out wr _ hO.reads)
            rw [hov] at hcall
            subst hov
            have hBW := below_step HB9.out hb
            have HBW := Lib.hid (HB.out.trans (hBW.mono HB.out.size))
            have HLT : w.heap.size + 1 + 1 < wr.heap.size := by have := hBW.size; have := HS.out; omega
            have HBX := Lib.hid hBW
            generalize MR.length = ml at *
            clear hown hrows h1 hO hb
            go_wp2_with fail
            refine hcall.out.mono ?_
            rintro e w9' ⟨v9', rfl, ho9', hb9'⟩
            have B10 : Below w0.heap.size w0 w9' := below_step HBX.out hb9'
            obtain ⟨a10, c10, rfl⟩ := ho9'.reads.form
            have q0 := Q0 _ B10
            have q1 := Q1 _ B10
            have g0 := G0 _ B10
            have g1 := G1 _ B10
            have hfin := Lib.hid (optMat_put HBW.out hb9' ho9' (b := w.heap.size + 1 + 1) (by omega) HLT (d := (B.length : Int)))
            clear ho9' hb9' hcall
            go_wp2
            refine bodyPost_ret (v := .tuple #[.agg #[.int .i64 (B.length : Int), .slice a10 R.length c10], .bool true]) (by simp [results, Tryd.results70, go_sem, q0, q1]) rfl ?_
            exact hfin.out
set_option maxHeartbeats 4000000 in
set_option maxRecDepth 100000 in
theorem implPre_any (p cs cm : Int) (u v : Value) (A B : List (List Int)) (w : World) (ht : Tab w) (hu : ReadsM w u A) (hv : ReadsM w v B) :
    Calls Tryd.prog 71 #[.int .i64 p, .agg #[.int .i64 cs, u], .agg #[.int .i64 cm, v]] w (OptMat w (fitPre p cs cm A B) (preCols p cs cm A B) (preOut p cs cm A B)) := by
  obtain ⟨ua, uc, rfl⟩ := hu.form
  obtain ⟨va, vc, rfl⟩ := hv.form
  obtain ⟨w0, hw0⟩ : ∃ W, W = (((w.alloc (.cells #[.int .i64 cs, .slice ua A.length uc] 43)).alloc (.cells #[.int .i64 cm, .slice va B.length vc] 30)).alloc (.cells #[.int .i64 0, .slice none 0 0] 43)) := ⟨_, rfl⟩
  have hB : Below w.heap.size w w0 := by rw [hw0]; exact ((((Below.refl w.heap.size w).alloc (by simp) (.cells #[.int .i64 cs, .slice ua A.length uc] 43)).alloc (by simp) (.cells #[.int .i64 cm, .slice va B.length vc] 30)).alloc (by simp; omega) (.cells #[.int .i64 0, .slice none 0 0] 43))
  have hs0 : w0.heap.size = w.heap.size + 3 := by rw [hw0]; simp
  have X0_0 : ∀ W, Below w0.heap.size w0 W → W.cell? ⟨w.heap.size, 0, none⟩ = some (.int .i64 cs) := fun W hW => cell_old hW (by rw [hw0]; simp [go_sem])
  have X0_1 : ∀ W, Below w0.heap.size w0 W → W.cell? ⟨w.heap.size, 1, none⟩ = some (.slice ua A.length uc) := fun W hW => cell_old hW (by rw [hw0]; simp [go_sem])
  have X1_0 : ∀ W, Below w0.heap.size w0 W → W.cell? ⟨w.heap.size + 1, 0, none⟩ = some (.int .i64 cm) := fun W hW => cell_old hW (by rw [hw0]; simp [go_sem])
  have X1_1 : ∀ W, Below w0.heap.size w0 W → W.cell? ⟨w.heap.size + 1, 1, none⟩ = some (.slice va B.length vc) := fun W hW => cell_old hW (by rw [hw0]; simp [go_sem])
  have Q0 : ∀ W, Below w0.heap.size w0 W → W.cell? ⟨w.heap.size + 1 + 1, 0, none⟩ = some (.int .i64 0) := fun W hW => cell_old hW (by rw [hw0]; simp [go_sem])
  have G0 : ∀ W, Below w0.heap.size w0 W → W.frozen? ⟨w.heap.size + 1 + 1, 0, none⟩ = false := fun W hW => frozen_old hW (by show w.heap.size + 1 + 1 < _; omega) (by rw [hw0]; simp [go_sem])
  have Q1 : ∀ W, Below w0.heap.size w0 W → W.cell? ⟨w.heap.size + 1 + 1, 1, none⟩ = some (.slice none 0 0) := fun W hW => cell_old hW (by rw [hw0]; simp [go_sem])
  have G1 : ∀ W, Below w0.heap.size w0 W → W.frozen? ⟨w.heap.size + 1 + 1, 1, none⟩ = false := fun W hW => frozen_old hW (by show w.heap.size + 1 + 1 < _; omega) (by rw [hw0]; simp [go_sem])
  have HW := Lib.hid hw0
  have HB := Lib.hid hB
  have HS := Lib.hid hs0
  have HU := Lib.hid (hu.below hB)
  have HV := Lib.hid (hv.below hB)
  have htB : Hid (Tab w0) := ht.below ht.size hB
  obtain ⟨b1, hb1⟩ : ∃ b, (spB p cs A) = b := ⟨_, rfl⟩
  have Cb1 := Lib.hid (fun W (hW : Below w0.heap.size w0 W) => isSpace_any p cs _ A W (htB.out.below htB.out.size hW) (HU.out.below hW))
  rw [hb1] at Cb1
  obtain ⟨b2, hb2⟩ : ∃ b, (matB p cm B) = b := ⟨_, rfl⟩
  have Cb2 := Lib.hid (fun W (hW : Below w0.heap.size w0 W) => isMatrix_any p cm _ B W (htB.out.below htB.out.size hW) (HV.out.below hW))
  rw [hb2] at Cb2
  obtain ⟨b3, hb3⟩ : ∃ b, (cm == cs) = b := ⟨_, rfl⟩
  have Eb3 : (cm != cs) = !b3 := by rw [← hb3]; rfl
  clear hw0 hB hs0 hu hv ht
  cases b1 with
  | false =>
    have e0 : fitPre p cs cm A B = false := by simp [fitPre, hb1]
    have e1 : preOut p cs cm A B = [] := by simp [preOut, e0]
    have e2 : preCols p cs cm A B = 0 := by simp [preCols, e0]
    rw [e0, e1, e2]
    clear e0 e1 e2
    clear hb1 hb2 hb3
    go_enter Tryd.func71, Tryd.ntmps71
    go_wp2_with fail
    rw [← HW.out]
    refine (Cb1.out w0 (Below.refl _ _)).mono ?_
    rintro e w1 ⟨rfl, hb1⟩
    have B1 : Below w0.heap.size w0 w1 := hb1
    clear hb1
    go_wp2
    refine bodyPost_ret (v := .tuple #[.agg #[.int .i64 0, .slice none 0 0], .bool false]) (by simp [results, Tryd.results71, go_sem, Q0 _ B1, Q1 _ B1]) rfl ?_
    exact optMat_none (HB.out.trans (B1.mono HB.out.size)) (by omega)
  | true =>
    cases b2 with
    | false =>
      have e0 : fitPre p cs cm A B = false := by simp [fitPre, hb1, hb2]
      have e1 : preOut p cs cm A B = [] := by simp [preOut, e0]
      have e2 : preCols p cs cm A B = 0 := by simp [preCols, e0]
      rw [e0, e1, e2]
      clear e0 e1 e2
      clear hb1 hb2 hb3
      go_enter Tryd.func71, Tryd.ntmps71
      go_wp2_with fail
      rw [← HW.out]
      refine (Cb1.out w0 (Below.refl _ _)).mono ?_
      rintro e w1 ⟨rfl, hb1⟩
      have B1 : Below w0.heap.size w0 w1 := hb1
      clear hb1
      go_wp2_with fail
      refine (Cb2.out w1 B1).mono ?_
      rintro e w2 ⟨rfl, hb2⟩
      have B2 : Below w0.heap.size w0 w2 := below_step B1 hb2
      clear hb2
      go_wp2
      refine bodyPost_ret (v := .tuple #[.agg #[.int .i64 0, .slice none 0 0], .bool false]) (by simp [results, Tryd.results71, go_sem, Q0 _ B2, Q1 _ B2]) rfl ?_
      exact optMat_none (HB.out.trans (B2.mono HB.out.size)) (by omega)
    | true =>
      cases b3 with
      | false =>
        have e0 : fitPre p cs cm A B = false := by simp [fitPre, hb1, hb2, hb3]
        have e1 : preOut p cs cm A B = [] := by simp [preOut, e0]
        have e2 : preCols p cs cm A B = 0 := by simp [preCols, e0]
        rw [e0, e1, e2]
        clear e0 e1 e2
        clear hb1 hb2 hb3
        go_enter Tryd.func71, Tryd.ntmps71
        go_wp2_with fail
        rw [← HW.out]
        refine (Cb1.out w0 (Below.refl _ _)).mono ?_
        rintro e w1 ⟨rfl, hb1⟩
        have B1 : Below w0.heap.size w0 w1 := hb1
        clear hb1
        go_wp2_with fail
        refine (Cb2.out w1 B1).mono ?_
        rintro e w2 ⟨rfl, hb2⟩
        have B2 : Below w0.heap.size w0 w2 := below_step B1 hb2
        clear hb2
        go_wp2
        refine bodyPost_ret (v := .tuple #[.agg #[.int .i64 0, .slice none 0 0], .bool false]) (by simp [results, Tryd.results71, go_sem, Q0 _ B2, Q1 _ B2]) rfl ?_
        exact optMat_none (HB.out.trans (B2.mono HB.out.size)) (by omega)
      | true =>
        have e0 : fitPre p cs cm A B = true := by simp [fitPre, hb1, hb2, hb3]
        obtain ⟨c, rfl, rfl, hc, hl, hlb, hg, hA, hBB⟩ := fitPre_parts e0
        have e1 : preOut p c c A B = Lin.nullL p B.length (Lin.condRows p c B A) := by simp [preOut, e0]
        have e2 : preCols p c c A B = B.length := by simp [preCols, e0]
        rw [e0, e1, e2]
        have HA := Lib.hid hA
        have HBM := Lib.hid hBB
        have HTT := Lib.hid (elems_tot hBB (by omega) (by omega))
        clear e0 e1 e2 hb1 hb2 hb3 hA hBB
        obtain ⟨R, hR⟩ : ∃ R, Lin.nullL p B.length (Lin.condRows p c B A) = R := ⟨_, rfl⟩
        rw [hR]
        have HR := Lib.hid hR
        clear hR
        go_enter Tryd.func71, Tryd.ntmps71
        go_wp2_with fail
        rw [← HW.out]
        refine (Cb1.out w0 (Below.refl _ _)).mono ?_
        rintro e w1 ⟨rfl, hb1⟩
        have B1 : Below w0.heap.size w0 w1 := hb1
        clear hb1
        go_wp2_with fail
        refine (Cb2.out w1 B1).mono ?_
        rintro e w2 ⟨rfl, hb2⟩
        have B2 : Below w0.heap.size w0 w2 := below_step B1 hb2
        clear hb2
        have hcl := Lib.hid (fun W (hW : Below w0.heap.size w0 W) => clonesRow_any (.slice va B.length vc) B W (HV.out.below hW) HTT.out)
        have hker := Lib.hid (fun W u (h : ReadsM W u (B ++ A)) => kernel_any p hg (B.length + A.length) c (by omega) (by omega) u (B ++ A) W (Lin.elems_app HBM.out HA.out) h)
        obtain ⟨k1, k2, _⟩ := Lin.kernel_facts hg (Lin.elems_app HBM.out HA.out)
        have hmr : ∀ k, k < (Lin.kernelL p c (B ++ A)).length → (Lin.preRows p c B A).take (k + 1) = (Lin.preRows p c B A).take k ++ [(lAt (Lin.kernelL p c (B ++ A)) k).take B.length] := fun k hk => by
          unfold Lin.preRows
          rw [take_oneL _ k (by rw [List.length_map]; exact hk), Lin.map_lAt _ hk]
        have hml : (Lin.preRows p c B A).length = (Lin.kernelL p c (B ++ A)).length := by unfold Lin.preRows; simp
        have HR2 : Hid (reducedL p B.length (Lin.preRows p c B A) = R) := (Lin.pre_eq hg HBM.out HA.out).trans HR.out
        have HML := Lib.hid hml
        have HMR := Lib.hid hmr
        have hspan := Lib.hid (fun W u (h : ReadsM W u (Lin.preRows p c B A)) => HR2.out ▸ span_any p hg _ B.length (by rw [hml]; omega) (by omega) u _ W (Lin.preRows_elems hg HBM.out HA.out) h)
        have HK1 := Lib.hid k1
        obtain ⟨K, hK⟩ : ∃ K, Lin.kernelL p c (B ++ A) = K := ⟨_, rfl⟩
        rw [hK] at hker HML HMR HK1 k2
        obtain ⟨MR, hMR⟩ : ∃ K, Lin.preRows p c B A = K := ⟨_, rfl⟩
        rw [hMR] at HML HMR hspan
        obtain ⟨rsB, hrB, hrrB⟩ := HU.out
        have RDB := Lib.hid (fun W (hW : Below w0.heap.size w0 W) => hrB.below hW)
        have RRB := Lib.hid (fun W (hW : Below w0.heap.size w0 W) => hrrB.below hW)
        have OB := Lib.hid (rows_one hrrB)
        have HM3 := Lib.hid (show B.length + A.length ≤ maxLen by unfold maxLen; omega)
        have HM4 := Lib.hid (show (B.length + A.length) * 24 ≤ 140737488355328 by omega)
        have hkl : K.length ≤ 48 := by omega
        have h2 := (Fld.good_bounds hg).1
        clear hrB hrrB hK hMR k1 k2 hml hmr
        have z1_1 := X1_1 _ B2
        go_upto_region 5 with fail
        obtain ⟨w3, hw3⟩ : ∃ W, W = w2.alloc (.cells #[] 67) := ⟨_, rfl⟩
        have B3 : Below w0.heap.size w0 w3 := by rw [hw3]; exact (B2).alloc (B2).size _
        rw [← hw3]
        have x1_0 := X1_0 _ B3
        have x1_1 := X1_1 _ B3
        have x0_1 := X0_1 _ B3
        clear hw3 z1_1
        go_region_held3 (fun W => W.cell? ⟨w.heap.size + 1, 0, none⟩ = some (.int .i64 c) ∧ W.cell? ⟨w.heap.size + 1, 1, none⟩ = some (.slice va B.length vc) ∧ W.cell? ⟨w.heap.size, 1, none⟩ = some (.slice ua A.length uc)) (first | exact S9.out | exact S8.out | exact S7.out | go_keep) (first | (go_at_call 82; (with_reducible refine (hcl.out _ (below_drewB B3)).mono ?_); rintro e w_1 ⟨v_1, rs_1, rfl, hown_1, hrows_1, hb_1⟩; obtain ⟨a_1, c_1, rfl⟩ := ownsRow_form hown_1; have B_1 := below_step (below_drewB B3) hb_1; have rd_1 := RDB.out _ B_1; have S7 := Lib.hid (And.intro (X1_0 _ B_1) (And.intro (X1_1 _ B_1) (X0_1 _ B_1)))) | (refine step_append_reads (by rfl) _ _ 22 (by rfl) _ 67 (.slice none 0 0) 1 24 Tryd.underlying22 infoS (by rfl) (by decide) _ _ _ hown_1 _ _ _ rd_1 (by rfl) (by rfl) OB.out HM3.out HM4.out hb_1.size ?_; intro v_2 w_2 hown_2 hg_2; have hj := join_reads hown_1 hrows_1 hb_1 (RRB.out _ (below_drewB B3)) HM3.out hown_2 hg_2; obtain ⟨a_2, c_2, rfl⟩ := ownsRow_form hown_2; have B_2 := below_step (below_drewB B3) hj.2; have S8 := Lib.hid (And.intro (X1_0 _ B_2) (And.intro (X1_1 _ B_2) (X0_1 _ B_2)))) | (go_at_call 105; (with_reducible refine (hker.out _ _ hj.1).mono ?_); rintro e w9 ⟨v9, rfl, ho9, hb9⟩; obtain ⟨a9, c9, rfl⟩ := ho9.reads.form; have B9 := below_step B_2 hb9; have S9 := Lib.hid (And.intro (X1_0 _ B9) (And.intro (X1_1 _ B9) (X0_1 _ B9)))))
        obtain ⟨a9', c9', eK, hmK, hcK⟩ := open_readsM ho9.reads
        simp only [Value.slice.injEq] at eK
        obtain ⟨rfl, -, rfl⟩ := eK
        obtain ⟨kk, hkk⟩ : ∃ k, K.length = k := ⟨_, rfl⟩
        have HKK := Lib.hid hkk
        rw [hkk] at hcK hmK hkl
        rw [hkk] at HML HMR
        have HCK := Lib.hid hcK
        have HB9 := Lib.hid B9
        have HMF := Lib.hid (show kk ≤ maxLen by unfold maxLen; omega)
        rw [hkk]
        clear ho9 hb9 hcK hown_1 hrows_1 hb_1 rd_1 S7 hown_2 hg_2 hj S8 S9 hkk B_1 B_2 hcl hker x1_0 x1_1 x0_1
        go_wp2
        go_loopw [9, 45] (fun o i wr => ∃ (k : Nat) (rs : List Value) (ov oo : Value), k ≤ kk ∧ i = .int .i64 k ∧ o = ov ∧ EqE ov oo ∧ wr.ownsRow w9.heap.size 67 1 oo k rs ∧ RowsRead w9 rs (MR.take k) ∧ Below w9.heap.size w9 wr) (fun _ i _ => kk + 1 - (intOf i).toNat)
        case atStart => exact ⟨0, [], _, .slice none 0 0, by omega, rfl, rfl, .inr ⟨rfl, _, rfl⟩, World.ownsRow_nil _ _ _ _, ⟨rfl, fun i hi => by simp at hi⟩, Below.refl _ _⟩
        case round =>
          obtain ⟨k, rs, ov, oo, hk, rfl, rfl, hE, hown, hrows, hb⟩ := hrel
          by_cases hlt : k < kk
          · obtain ⟨g, off, r, rfl, hg9, hcell, hrd⟩ := HCK.out k hlt
            have hx : wr.cell? ⟨g, off + k, none⟩ = some r := (hb.cell hg9).trans hcell
            have hkl2 := HK1.out.2 k (by rw [HKK.out]; exact hlt)
            rw [hkl2.1] at hrd
            obtain ⟨ar, cr, rfl⟩ := hrd.form
            have hcr1 : B.length ≤ cr := by
              obtain ⟨_, a', c', e, q1, _⟩ := hrd
              simp only [Value.slice.injEq] at e
              obtain ⟨_, _, rfl⟩ := e
              omega
            have hcr2 : cr ≤ 9223372036854775807 := by
              obtain ⟨_, a', c', e, _, q2, _⟩ := hrd
              simp only [Value.slice.injEq] at e
              obtain ⟨_, _, rfl⟩ := e
              unfold maxLen at q2; exact q2
            have hlow := Reads.low hrd (m := B.length) (Nat.le_add_right _ _)
            have hmll : ((lAt K k).take B.length).length = B.length := by rw [List.length_take, hkl2.1]; omega
            have hone : RowsRead w9 [.slice ar B.length cr] [(lAt K k).take B.length] := ⟨rfl, fun i hi => by
              obtain rfl : i = 0 := by simp at hi; exact hi
              show Reads w9 1 _ ((lAt K k).take B.length).length (ofL ((lAt K k).take B.length))
              rw [hmll]; exact hlow⟩
            have hrr := RowsRead.app hrows hone
            rw [← HMR.out k hlt] at hrr
            have HRR := Lib.hid hrr
            have HO := Lib.hid hown
            have HBQ := Lib.hid hb
            have hm3 := Lib.hid (show k + 1 ≤ maxLen by have := HMF.out; omega)
            have hm4 := Lib.hid (show (k + 1) * 24 ≤ 140737488355328 by omega)
            have hk0 : 0 ≤ (k : Int) := by omega
            have hki : (k : Int) < (kk : Int) := by omega
            have hal0 : 0 ≤ (B.length : Int) := by omega
            have hsz := Lib.hid hb.size
            clear hcell hrd hkl2 hlow hmll hone hrr hown hrows hb
            go_wp2_with (at_builtin; go_must (refine wpList_append_one_E _ rfl _ _ 22 rfl w9.heap.size 67 (.slice none 0 0) 24 Tryd.underlying22 infoS capS (by decide) rfl _ oo hE k rs (.slice ar B.length cr) HO.out rfl rfl rfl hm3.out hm4.out hsz.out ?_); intro v_6 w_6 hown_6 hg_6)
            have hb6 := Below.grownRow HBQ.out HO.out hg_6 hsz.out
            have H1 := Lib.hid hown_6
            have H3 := Lib.hid hb6
            clear hown_6 hg_6 hb6
            go_wp2
            go_roundw
            case rel => exact ⟨k + 1, _, _, _, by omega, by go_num, rfl, .inl rfl, H1.out, HRR.out, H3.out⟩
            case measure => simp [intOf]; omega
          · have hkn : k = kk := by omega
            rw [hkn] at hown hrows hlt ⊢
            rw [List.take_of_length_le (by rw [HML.out]; exact Nat.le_refl _)] at hrows
            have h1 := owns_of_row hown HMF.out
            have hO : ReadsM wr oo MR := ⟨rs, by rw [HML.out]; exact h1.1.reads, hrows.below hb⟩
            have hrdv := EqE.readsM hE hO
            obtain ⟨av, cv, hov⟩ := hrdv.form
            have hcall := Lib.hid (hspan.out wr _ hrdv)
            rw [hov] at hcall ⊢
            have hBW := below_step HB9.out hb
            have HBW := Lib.hid (HB.out.trans (hBW.mono HB.out.size))
            have HLT : w.heap.size + 1 + 1 < wr.heap.size := by have := hBW.size; have := HS.out; omega
            have HBX := Lib.hid hBW
            generalize MR.length = ml at *
            clear hown hrows h1 hO hrdv hov hE hb
            go_wp2_with fail
            refine hcall.out.mono ?_
            rintro e w9' ⟨v9', rfl, ho9', hb9'⟩
            have B10 : Below w0.heap.size w0 w9' := below_step HBX.out hb9'
            obtain ⟨a10, c10, rfl⟩ := ho9'.reads.form
            have q0 := Q0 _ B10
            have q1 := Q1 _ B10
            have g0 := G0 _ B10
            have g1 := G1 _ B10
            have hfin := Lib.hid (optMat_put HBW.out hb9' ho9' (b := w.heap.size + 1 + 1) (by omega) HLT (d := (B.length : Int)))
            clear ho9' hb9' hcall
            go_wp2
            refine bodyPost_ret (v := .tuple #[.agg #[.int .i64 (B.length : Int), .slice a10 R.length c10], .bool true]) (by simp [results, Tryd.results71, go_sem, q0, q1]) rfl ?_
            exact hfin.out

end Ints
end Go.Proofs.YtkpheigoegehoaaDoor
