/- The program's tree of a term. -/
import Derived.Test.YtoegbphkheohoaaTreeP
import Derived.Test.YtoegbphkheohoaaTypeF
namespace Go.Proofs.Ytoegbphkheohoaa
open Go.RowKit
namespace Ints

def leafV (n : NodeL) : Value := .iface 98 (.agg #[.int .i64 n.kind, .int .i64 n.value, .string n.name])
def seqV (a b : Value) : Value := .iface 100 (.agg #[a, b])
def parV (a b : Value) : Value := .iface 101 (.agg #[a, b])
/-- A tree as the program's value. -/
def valT : TreeL → Value
  | .leaf n => leafV n
  | .seq a b => seqV (valT a) (valT b)
  | .par a b => parV (valT a) (valT b)
theorem valT_one (t : TreeL) : (valT t).oneCell' = true := by cases t <;> rfl
theorem valT_form (t : TreeL) : ∃ ty u, valT t = .iface ty u := by cases t <;> exact ⟨_, _, rfl⟩
theorem valT_cells (t : TreeL) : (valT t).cells = #[valT t] := by cases t <;> rfl
theorem infoTr : (Try.prog.info? 74).map (fun i => (i.zero, i.size, i.bytes)) = some (some .nilIface, 1, 16) := by kernel_rfl
def ofTr (l : List TreeL) : List Value := l.map valT
theorem ofTr_at (l r : List TreeL) (t : TreeL) : (ofTr (l ++ t :: r))[l.length]? = some (valT t) := by
  simp [ofTr]
theorem ofTr_take (l r : List TreeL) : (ofTr (l ++ r)).take l.length = ofTr l := by simp [ofTr]

/-- What the round holds. -/
def TrSt (w0 : World) (ns : List NodeL) (k : Nat) (st : List TreeL) (o : Value) (wr : World) : Prop :=
  runR (ns.take k) = st ∧ wr.ownsRow w0.heap.size 74 1 o st.length (ofTr st.reverse) ∧ Below w0.heap.size w0 wr
theorem run_twoL {ds : List DefL} {ns : List NodeL} {p : Int × Int} (h : typeOf ds ns = some p) (k : Nat) (hk : k < ns.length) (h15 : (nAt ns k).kind = 15 ∨ (nAt ns k).kind = 16) : ∃ b a st, runR (ns.take k) = b :: a :: st := by
  obtain ⟨_, _, _, _, _, sw, hsw⟩ := tree_of h
  have := run_two ns hsw k hk h15
  match hr : runR (ns.take k), this with
  | b :: a :: st, _ => exact ⟨b, a, st, rfl⟩

set_option maxRecDepth 100000 in
set_option maxHeartbeats 4000000 in
theorem treeOf_any (v : Value) (ns : List NodeL) (ds : List DefL) (p : Int × Int) (hty : typeOf ds ns = some p) (w : World) (h : ReadsN w v ns) :
    Calls Try.prog 38 #[v] w fun e w' => e = .returned (valT (treeN ns)) ∧ Below w.heap.size w w' := by
  obtain ⟨a, cap, rfl, hm, hc⟩ := open_readsN h
  obtain ⟨hrun, -, -, h1, h4, -⟩ := tree_of hty
  have H2 := Lib.hid (fun k hk h15 => run_twoL hty k hk h15)
  have HRUN := Lib.hid hrun
  obtain ⟨n, hn⟩ : ∃ n, ns.length = n := ⟨_, rfl⟩
  have HN := Lib.hid hn
  have HC := Lib.hid hc
  have HO0 := Lib.hid (World.ownsRow_lit (base := w.heap.size) (size := 1) (e := 74) w #[] 0 (Nat.le_refl _) (Nat.zero_le _) (by simp))
  have HS1 := Lib.hid (show Below w.heap.size w (w.alloc (.cells #[] 74)) from (Below.refl _ _).alloc (Nat.le_refl _) _)
  rw [hn] at hm h1 h4 ⊢
  clear h hc hn hrun hty
  go_enter Try.func38, Try.ntmps38
  go_wp2
  go_loopw [10, 3] (fun i s wr => ∃ (k : Nat) (st : List TreeL) (o : Value), k ≤ n ∧ i = .int .i64 k ∧ o = s ∧ Hid (TrSt w ns k st o wr)) (fun i _ _ => n + 1 - (intOf i).toNat)
  case atStart => exact ⟨0, [], _, by omega, rfl, rfl, Lib.hid ⟨rfl, HO0.out, HS1.out⟩⟩
  case round =>
    obtain ⟨k, st, o, hk, rfl, rfl, H⟩ := hrel
    by_cases hlt : k < n
    · obtain ⟨gg, off, rfl, hg, hE⟩ := HC.out k (by rw [HN.out]; exact hlt)
      obtain ⟨x0, x1, x2⟩ := hE.below H.out.2.2
      have hsucc := runR_succ ns k (by rw [HN.out]; exact hlt)
      rw [H.out.1] at hsucc
      have hstl := runR_len ns k (by rw [HN.out]; exact hk)
      rw [H.out.1] at hstl
      have h2 := H2.out k (by rw [HN.out]; exact hlt)
      rw [H.out.1] at h2
      have H2K := Lib.hid h2
      have HSU := Lib.hid hsucc
      have hk0 : 0 ≤ (k : Int) := by omega
      have hkn : (k : Int) < (n : Int) := by omega
      clear hE hsucc h2
      obtain ⟨nd, hnd⟩ : ∃ nd, nAt ns k = nd := ⟨_, rfl⟩
      rw [hnd] at x0 x1 x2 HSU H2K
      clear hnd
      obtain ⟨kd, vl, s⟩ := nd
      dsimp only at x0 x1 x2 H2K
      obtain ⟨W1, hW1⟩ : ∃ W, W = wr.alloc (.cells #[.int .i64 kd, .int .i64 vl, .string s] 71) := ⟨_, rfl⟩
      have hb1 : Below wr.heap.size wr W1 := by rw [hW1]; exact (Below.refl _ _).alloc (Nat.le_refl _) _
      have HBW := Lib.hid (H.out.2.2.trans (hb1.mono H.out.2.2.size))
      have HW1 := Lib.hid hW1
      have HB1 := Lib.hid hb1
      have hO1 := ownsRow_below H.out.2.1 hb1
      obtain ⟨m, hmm⟩ : ∃ m, st.length = m := ⟨_, rfl⟩
      have HML := Lib.hid hmm
      rw [hmm] at hO1 hstl
      clear hb1
      by_cases h15 : kd = 15 ∨ kd = 16
      · obtain ⟨tb, ta, st2, rfl⟩ := H2K.out h15
        obtain ⟨q, hq⟩ : ∃ q, st2.length = q := ⟨_, rfl⟩
        have hmq : m = q + 2 := by rw [← hmm]; simp [hq]
        subst hmq
        obtain ⟨g2, c2, hfo, hqc, hc63, hcell⟩ := row_some hO1 (by omega)
        subst hfo
        have hrev : (tb :: ta :: st2).reverse = st2.reverse ++ ta :: [tb] := by simp
        have hca := ofTr_at st2.reverse [tb] ta
        have hcb := ofTr_at (st2.reverse ++ [ta]) [] tb
        rw [List.append_assoc, List.singleton_append, List.length_append, List.length_reverse, hq, List.length_singleton] at hcb
        rw [List.length_reverse, hq] at hca
        rw [← hrev] at hca hcb
        have z0 := hcell _ _ hca
        have z1 := hcell _ _ hcb
        have htk : (ofTr ((tb :: ta :: st2).reverse)).take (q * 1) = ofTr st2.reverse := by
          have := ofTr_take st2.reverse (ta :: [tb])
          rw [← hrev, List.length_reverse, hq] at this
          rw [Nat.mul_one]
          exact this
        have hO2 := row_take hO1 (m := q) (by omega)
        rw [htk] at hO2
        obtain ⟨tya, ua, hva⟩ := valT_form ta
        obtain ⟨tyb, ub, hvb⟩ := valT_form tb
        rw [hva] at z0
        rw [hvb] at z1
        have HVA := Lib.hid hva
        have HVB := Lib.hid hvb
        have hw1 : IntKind.i64.wrap ((q : Int) + 2 - 1) = (q : Int) + 1 := by rw [show (q : Int) + 2 - 1 = (q : Int) + 1 by omega]; exact IntWalk.i64_in _ (by omega)
        have hw2 : IntKind.i64.wrap ((q : Int) + 1 - 1) = (q : Int) := by rw [show (q : Int) + 1 - 1 = (q : Int) by omega]; exact IntWalk.i64_in _ (by omega)
        have hw3 : IntKind.i64.wrap (q : Int) = (q : Int) := IntWalk.i64_in _ (by omega)
        have hq0 : 0 ≤ (q : Int) := by omega
        have hqs : (q : Int) < (q : Int) + 2 := by omega
        have hqs1 : (q : Int) + 1 < (q : Int) + 2 := by omega
        have hq1 : 0 ≤ (q : Int) + 1 := by omega
        have hqc2 : (q : Int) ≤ (c2 : Int) := by omega
        have HQL := Lib.hid hq
        have hm3 := Lib.hid (show q + 1 ≤ maxLen by unfold maxLen; omega)
        have hm4 := Lib.hid (show (q + 1) * 16 ≤ 140737488355328 by omega)
        have hZ := Lib.hid (show w.heap.size ≤ W1.drew.heap.size from HBW.out.size)
        have hO5 := Lib.hid (show W1.drew.ownsRow w.heap.size 74 1 (.slice (some ⟨g2, 0, none⟩) q c2) q (ofTr st2.reverse) from hO2)
        have x0' : W1.cell? ⟨wr.heap.size, 0, none⟩ = some (.int .i64 kd) := by rw [hW1]; simp [go_sem]
        have hO5x := hO5
        have hZx := hZ
        rw [hW1] at z0 z1 hO5x hZx
        clear hO1 hO2 hca hcb hcell hrev hq hmm htk hva hvb x0' hW1
        rcases h15 with rfl | rfl
        · go_upto_region 9 with fail
          go_region_law (first | (refine step_append_many (by rfl) _ _ 102 (by rfl) w.heap.size 74 .nilIface 1 16 Try.underlying102 infoTr rfl (by decide) _ _ _ #[seqV (.iface tya ua) (.iface tyb ub)] rfl hO5x.out (by rfl) (by first | rfl | (simp; rfl)) (by intro u hu; simp at hu; rcases hu with rfl; rfl) hm3.out hm4.out hZx.out ?_; intro v' w4 hown4 hg4; rw [← HW1.out] at hg4; obtain ⟨a5, c5, rfl⟩ := ownsRow_form' hown4))
          all_goals
            have hnew : Hid (TrSt w ns (k + 1) (.seq ta tb :: st2) (.slice a5 (q + 1) c5) w4) := by
              refine Lib.hid ⟨by rw [HSU.out]; rfl, ?_, Below.grownRow HBW.out.drew hO5.out hg4 hZ.out⟩
              have e : ofTr (TreeL.seq ta tb :: st2).reverse = ofTr st2.reverse ++ #[seqV (.iface tya ua) (.iface tyb ub)].toList := by simp [ofTr, valT, HVA.out, HVB.out]
              rw [e, List.length_cons, HQL.out]
              exact hown4
            clear hown4 hg4
            go_wp2
            go_roundw
            case rel => exact ⟨k + 1, _, _, by omega, by go_num, rfl, hnew⟩
            case measure => simp [intOf]; omega
        · go_upto_region 11 with fail
          go_region_law (first | (refine step_append_many (by rfl) _ _ 102 (by rfl) w.heap.size 74 .nilIface 1 16 Try.underlying102 infoTr rfl (by decide) _ _ _ #[parV (.iface tya ua) (.iface tyb ub)] rfl hO5x.out (by rfl) (by first | rfl | (simp; rfl)) (by intro u hu; simp at hu; rcases hu with rfl; rfl) hm3.out hm4.out hZx.out ?_; intro v' w4 hown4 hg4; rw [← HW1.out] at hg4; obtain ⟨a5, c5, rfl⟩ := ownsRow_form' hown4))
          all_goals
            have hnew : Hid (TrSt w ns (k + 1) (.par ta tb :: st2) (.slice a5 (q + 1) c5) w4) := by
              refine Lib.hid ⟨by rw [HSU.out]; rfl, ?_, Below.grownRow HBW.out.drew hO5.out hg4 hZ.out⟩
              have e : ofTr (TreeL.par ta tb :: st2).reverse = ofTr st2.reverse ++ #[parV (.iface tya ua) (.iface tyb ub)].toList := by simp [ofTr, valT, HVA.out, HVB.out]
              rw [e, List.length_cons, HQL.out]
              exact hown4
            clear hown4 hg4
            go_wp2
            go_roundw
            case rel => exact ⟨k + 1, _, _, by omega, by go_num, rfl, hnew⟩
            case measure => simp [intOf]; omega
      · have k15 : kd ≠ 15 := by omega
        have k16 : kd ≠ 16 := by omega
        have b15 : (kd == 15) = false := by simpa using k15
        have b16 : (kd == 16) = false := by simpa using k16
        have hO5 := Lib.hid hO1
        have hm3 := Lib.hid (show m + 1 ≤ maxLen by unfold maxLen; omega)
        have hm4 := Lib.hid (show (m + 1) * 16 ≤ 140737488355328 by omega)
        have hZ := Lib.hid (show w.heap.size ≤ W1.heap.size from HBW.out.size)
        have hst : Hid (runR (ns.take (k + 1)) = .leaf ⟨kd, vl, s⟩ :: st) := by
          refine Lib.hid ?_
          rw [HSU.out]
          unfold stepR
          rw [if_neg k15, if_neg k16]
        obtain ⟨a6, c6, rfl⟩ := ownsRow_form' hO1
        have hO5x := hO5
        have hZx := hZ
        rw [hW1] at hO5x hZx
        clear hO1 k15 k16 h15 hW1
        go_wp2_with (first | (refine wpList_append_many (by rfl) _ _ 102 (by rfl) w.heap.size 74 .nilIface 1 16 Try.underlying102 infoTr rfl (by decide) _ _ _ #[leafV ⟨kd, vl, s⟩] rfl hO5x.out (by rfl) (by first | rfl | (simp; rfl)) (by intro u hu; simp at hu; rcases hu with rfl; rfl) hm3.out hm4.out hZx.out ?_; intro v' w4 hown4 hg4; rw [← HW1.out] at hg4; obtain ⟨a5, c5, rfl⟩ := ownsRow_form' hown4))
        have hnew : Hid (TrSt w ns (k + 1) (.leaf ⟨kd, vl, s⟩ :: st) (.slice a5 (m + 1) c5) w4) := by
          refine Lib.hid ⟨hst.out, ?_, Below.grownRow HBW.out hO5.out hg4 hZ.out⟩
          have e : ofTr (TreeL.leaf ⟨kd, vl, s⟩ :: st).reverse = ofTr st.reverse ++ #[leafV ⟨kd, vl, s⟩].toList := by simp [ofTr, valT]
          rw [e, List.length_cons, HML.out]
          exact hown4
        clear hown4 hg4
        go_wp2
        go_roundw
        case rel => exact ⟨k + 1, _, _, by omega, by go_num, rfl, hnew⟩
        case measure => simp [intOf]; omega
    · obtain rfl : k = n := by omega
      have hfin := H.out
      have hst := hfin.1
      rw [← HN.out, List.take_length, HRUN.out] at hst
      subst hst
      obtain ⟨g2, c2, hfo, hqc, hc63, hcell⟩ := row_some hfin.2.1 (by simp)
      subst hfo
      have z0 := hcell 0 (valT (treeN ns)) rfl
      have HB := Lib.hid hfin.2.2
      obtain ⟨tv, htv⟩ : ∃ x, valT (treeN ns) = x := ⟨_, rfl⟩
      rw [htv] at z0
      have HTV := Lib.hid htv
      clear hfin hcell htv
      go_wp2
      go_ret
      exact ⟨by rw [HTV.out]; rfl, HB.out⟩

end Ints
end Go.Proofs.Ytoegbphkheohoaa
