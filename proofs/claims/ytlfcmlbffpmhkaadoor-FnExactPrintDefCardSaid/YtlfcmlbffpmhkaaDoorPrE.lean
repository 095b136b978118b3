/- Printing: the reference's text of a term. -/
import Derived.Test.YtlfcmlbffpmhkaaDoorPrD
import Derived.Test.YtlfcmlbffpmhkaaDoorTreeW
import Derived.Test.YtlfcmlbffpmhkaaDoorTypeInF
namespace Go.Proofs.YtlfcmlbffpmhkaaDoor
open Go.RowKit
namespace Ints

def ofX (full : Bool) (l : List TreeL) : List Value := l.map fun t => .string (prT full t)
def ofKd (l : List TreeL) : List Value := l.map fun t => .int .i64 (kindT t)
theorem map_at {f : TreeL → Value} (l r : List TreeL) (t : TreeL) : ((l ++ t :: r).map f)[l.length]? = some (f t) := by simp
theorem map_take {f : TreeL → Value} (l r : List TreeL) : ((l ++ r).map f).take l.length = l.map f := by simp
theorem infoSt : (Tryd.prog.info? 9).map (fun i => (i.zero, i.size, i.bytes)) = some (some (.string ByteArray.empty), 1, 16) := by kernel_rfl
theorem infoIn : (Tryd.prog.info? 3).map (fun i => (i.zero, i.size, i.bytes)) = some (some (.int .i64 0), 1, 8) := by kernel_rfl
theorem row_otherG {w : World} {base size n b : Nat} {e e' : TypeId} {cs : Array Value} {v : Value} {xs : List Value} (h : w.ownsRow base e size v n xs) (hb : w.heap[b]? = some (.cells cs e' (0, 0))) (hne : e ≠ e') : ¬ v.ownBlock = some b := by
  intro ee
  rcases h.2 with ⟨rfl, _⟩ | ⟨g, cap, cur, rfl, _, hg, _⟩
  · cases ee
  · simp [Value.ownBlock] at ee
    subst ee
    rw [hg] at hb
    simp at hb
    exact hne hb.2
theorem rows_diff {w : World} {b1 b2 s1 s2 n m : Nat} {e1 e2 : TypeId} {u v : Value} {xs ys : List Value} (h1 : w.ownsRow b1 e1 s1 v n xs) (h2 : w.ownsRow b2 e2 s2 u m ys) (hne : e1 ≠ e2) : ∀ g, u.ownBlock = some g → ¬ v.ownBlock = some g := by
  intro g hg
  rcases h2.2 with ⟨rfl, _⟩ | ⟨g2, cap, cur, rfl, _, hb, _⟩
  · cases hg
  · simp [Value.ownBlock] at hg
    subst hg
    exact row_otherG h1 hb hne
theorem run_step {ds : List DefL} {ns : List NodeL} {p : Int × Int} (h : typeOf ds ns = some p) (k : Nat) (hk : k < ns.length) :
    (((nAt ns k).kind = 15 ∨ (nAt ns k).kind = 16) → ∃ b a st, runR (ns.take k) = b :: a :: st ∧ goodT ds a ∧ goodT ds b ∧ (nodesT a).length + (nodesT b).length ≤ 400) ∧
    ((nAt ns k).kind ≠ 15 → (nAt ns k).kind ≠ 16 → leafR (nAt ns k)) := by
  obtain ⟨_, _, _, _, h4, sw, hsw⟩ := tree_of h
  constructor
  · intro h15
    have h2 := run_two ns hsw k hk h15
    cases hr0 : runT ds (ns.take k) with
    | none => rw [runT_none hr0] at hsw; cases hsw
    | some sw0 =>
      obtain ⟨q1, q2, q3⟩ := run_trees ns k (by omega) sw0 hr0
      match hr : runR (ns.take k), h2, q2, q3 with
      | b :: a :: st, _, q2, q3 =>
        refine ⟨b, a, st, rfl, q3 a (by simp), q3 b (by simp), ?_⟩
        have := congrArg List.length q2
        simp only [flatT, List.length_append, List.length_take] at this
        omega
  · intro h15 h16
    cases hr : runT ds (ns.take (k + 1)) with
    | none => rw [runT_none hr] at hsw; cases hsw
    | some sw1 =>
      obtain ⟨q1, q2, q3⟩ := run_trees ns (k + 1) (by omega) sw1 hr
      rw [runR_succ ns k hk] at q3
      unfold stepR at q3
      rw [if_neg h15, if_neg h16] at q3
      have hg := q3 (.leaf (nAt ns k)) (by simp)
      exact leafR_of hg.1

/-- What the round holds. -/
def PxSt (w0 : World) (full : Bool) (ns : List NodeL) (k : Nat) (st : List TreeL) (o p : Value) (wr : World) : Prop :=
  runR (ns.take k) = st ∧ wr.ownsRow w0.heap.size 9 1 o st.length (ofX full st.reverse) ∧ wr.ownsRow w0.heap.size 3 1 p st.length (ofKd st.reverse) ∧ Below w0.heap.size w0 wr

set_option maxRecDepth 100000 in
set_option maxHeartbeats 4000000 in
theorem sxPrint_any (v : Value) (full : Bool) (ns : List NodeL) (ds : List DefL) (p : Int × Int) (hl : libB ds = true) (hty : typeOf ds ns = some p) (w : World) (h : ReadsN w v ns) :
    Calls Tryd.prog 26 #[.agg #[v], .bool full] w fun e w' => e = .returned (.string (prT full (treeN ns))) ∧ Below w.heap.size w w' := by
  obtain ⟨w0, hw0⟩ : ∃ W, W = w.alloc (.cells #[v] 34) := ⟨_, rfl⟩
  have hB : Below w.heap.size w w0 := by rw [hw0]; exact below_alloc (Below.refl _ _)
  have HB := Lib.hid hB
  have HW := Lib.hid hw0
  obtain ⟨a, cap, rfl, hm, hc⟩ := open_readsN (h.below hB)
  obtain ⟨hrun, -, hgd, h1, h4, -⟩ := tree_of hty
  have H2 := Lib.hid (fun k hk => run_step hty k hk)
  have HRUN := Lib.hid hrun
  have HLB := Lib.hid hl
  obtain ⟨n, hn⟩ : ∃ n, ns.length = n := ⟨_, rfl⟩
  have HN := Lib.hid hn
  have HC := Lib.hid hc
  have HO0 := Lib.hid (show w0.ownsRow w0.heap.size 9 1 (.slice none 0 0) 0 [] from ⟨rfl, .inl ⟨rfl, rfl⟩⟩)
  have HP0 := Lib.hid (show w0.ownsRow w0.heap.size 3 1 (.slice none 0 0) 0 [] from ⟨rfl, .inl ⟨rfl, rfl⟩⟩)
  rw [hn] at hm h1 h4 hw0 HW ⊢
  clear h hc hn hrun hty hw0 hB
  go_enter Tryd.func26, Tryd.ntmps26
  go_wp2
  rw [← HW.out]
  go_loopw [18, 5, 6] (fun i s s2 wr => ∃ (k : Nat) (st : List TreeL) (o u : Value), k ≤ n ∧ i = .int .i64 k ∧ o = s ∧ u = s2 ∧ Hid (PxSt w0 full ns k st o u wr)) (fun i _ _ _ => n + 1 - (intOf i).toNat)
  case atStart => exact ⟨0, [], _, _, by omega, rfl, rfl, rfl, Lib.hid ⟨rfl, HO0.out, HP0.out, Below.refl _ _⟩⟩
  case round =>
    obtain ⟨k, st, o, u, hk, rfl, rfl, rfl, H⟩ := hrel
    by_cases hlt : k < n
    · obtain ⟨gg, off, rfl, hg, hE⟩ := HC.out k (by rw [HN.out]; exact hlt)
      obtain ⟨x0, x1, x2⟩ := hE.below H.out.2.2.2
      have hsucc := runR_succ ns k (by rw [HN.out]; exact hlt)
      rw [H.out.1] at hsucc
      have hstl := runR_len ns k (by rw [HN.out]; exact hk)
      rw [H.out.1] at hstl
      have h2 := H2.out k (by rw [HN.out]; exact hlt)
      rw [H.out.1] at h2
      have H2K := Lib.hid h2
      have HSU := Lib.hid hsucc
      have hk0 : 0 ≤ (k : Int) := by omega
      have hkn : (k : Int) < (n : Int) := by omega
      clear hE hsucc h2
      obtain ⟨nd, hnd⟩ : ∃ nd, nAt ns k = nd := ⟨_, rfl⟩
      rw [hnd] at x0 x1 x2 HSU H2K
      clear hnd
      obtain ⟨kd, vl, s⟩ := nd
      dsimp only at x0 x1 x2 H2K
      obtain ⟨W1, hW1⟩ : ∃ W, W = wr.alloc (.cells #[.int .i64 kd, .int .i64 vl, .string s] 73) := ⟨_, rfl⟩
      have hb1 : Below wr.heap.size wr W1 := by rw [hW1]; exact (Below.refl _ _).alloc (Nat.le_refl _) _
      have HBW := Lib.hid (H.out.2.2.2.trans (hb1.mono H.out.2.2.2.size))
      have HW1 := Lib.hid hW1
      have HBK : Hid (W1.heap[wr.heap.size]? = some (.cells #[.int .i64 kd, .int .i64 vl, .string s] 73 (0, 0))) := Lib.hid (by rw [hW1]; exact heap_alloc_new _ _)
      have hO1 := ownsRow_below H.out.2.1 hb1
      have hP1 := ownsRow_below H.out.2.2.1 hb1
      obtain ⟨m, hmm⟩ : ∃ m, st.length = m := ⟨_, rfl⟩
      have HML := Lib.hid hmm
      rw [hmm] at hO1 hP1 hstl
      have HO1 := Lib.hid hO1
      have HP1 := Lib.hid hP1
      have hm3 := Lib.hid (show m + 1 ≤ maxLen by unfold maxLen; omega)
      have hm4 := Lib.hid (show (m + 1) * 16 ≤ 140737488355328 by omega)
      have hm5 := Lib.hid (show (m + 1) * 8 ≤ 140737488355328 by omega)
      clear hb1
      by_cases h15 : kd = 15 ∨ kd = 16
      · obtain ⟨tb, ta, st2, rfl, hga, hgb, hln⟩ := H2K.out.1 h15
        obtain ⟨q, hq⟩ : ∃ q, st2.length = q := ⟨_, rfl⟩
        have hmq : m = q + 2 := by rw [← hmm]; simp [hq]
        subst hmq
        have HQL := Lib.hid hq
        obtain ⟨g2, c2, hfo, hqc, hc63, hcell⟩ := row_some hO1 (by omega)
        subst hfo
        obtain ⟨g3, c3, hfo, hqc3, hc633, hcell3⟩ := row_some hP1 (by omega)
        subst hfo
        have hrev : (tb :: ta :: st2).reverse = st2.reverse ++ ta :: [tb] := by simp
        have hca := map_at (f := fun t => .string (prT full t)) st2.reverse [tb] ta
        have hcb := map_at (f := fun t => .string (prT full t)) (st2.reverse ++ [ta]) [] tb
        have hka := map_at (f := fun t => .int .i64 (kindT t)) st2.reverse [tb] ta
        have hkb := map_at (f := fun t => .int .i64 (kindT t)) (st2.reverse ++ [ta]) [] tb
        rw [List.append_assoc, List.singleton_append, List.length_append, List.length_reverse, hq, List.length_singleton] at hcb hkb
        rw [List.length_reverse, hq] at hca hka
        rw [← hrev] at hca hcb hka hkb
        have za := hcell _ _ hca
        have zb := hcell _ _ hcb
        have ya := hcell3 _ _ hka
        have yb := hcell3 _ _ hkb
        have htk : (ofX full ((tb :: ta :: st2).reverse)).take (q * 1) = ofX full st2.reverse := by
          have := map_take (f := fun t => Value.string (prT full t)) st2.reverse (ta :: [tb])
          rw [← hrev, List.length_reverse, hq] at this
          rw [Nat.mul_one]
          exact this
        have htk3 : (ofKd ((tb :: ta :: st2).reverse)).take (q * 1) = ofKd st2.reverse := by
          have := map_take (f := fun t => Value.int .i64 (kindT t)) st2.reverse (ta :: [tb])
          rw [← hrev, List.length_reverse, hq] at this
          rw [Nat.mul_one]
          exact this
        have hO2 := row_take hO1 (m := q) (by omega)
        rw [htk] at hO2
        have hP2 := row_take hP1 (m := q) (by omega)
        rw [htk3] at hP2
        have HO2 := Lib.hid hO2
        have HP2 := Lib.hid hP2
        have sa1 := prT_size HLB.out full ta hga
        have sb1 := prT_size HLB.out full tb hgb
        have hsz : (prT full ta).size + (prT full tb).size ≤ 4800 := by omega
        have isa := isSeq_kind hga
        have ipa := isPar_kind hga
        have isb := isSeq_kind hgb
        have ipb := isPar_kind hgb
        have hRs := Lib.hid (show prT full (.seq ta tb) = brkS (prT full ta) (full && (isSeqT ta || isParT ta)) ++ ⟨#[32, 59, 32]⟩ ++ brkS (prT full tb) (isSeqT tb || full && isParT tb) from rfl)
        have hRp := Lib.hid (show prT full (.par ta tb) = brkS (prT full ta) (isSeqT ta || full && isParT ta) ++ ⟨#[32, 42, 32]⟩ ++ brkS (prT full tb) (isSeqT tb || isParT tb) from rfl)
        rw [isa, ipa, isb, ipb] at hRs hRp
        obtain ⟨pa, hpa⟩ : ∃ x, prT full ta = x := ⟨_, rfl⟩
        obtain ⟨pb, hpb⟩ : ∃ x, prT full tb = x := ⟨_, rfl⟩
        obtain ⟨ka, hkae⟩ : ∃ x, kindT ta = x := ⟨_, rfl⟩
        obtain ⟨kb, hkbe⟩ : ∃ x, kindT tb = x := ⟨_, rfl⟩
        rw [hpa] at za hsz hRs hRp
        rw [hpb] at zb hsz hRs hRp
        rw [hkae] at ya hRs hRp
        rw [hkbe] at yb hRs hRp
        obtain ⟨sa, hsa⟩ : ∃ x, (ka == 15) = x := ⟨_, rfl⟩
        obtain ⟨qa, hqa⟩ : ∃ x, (ka == 16) = x := ⟨_, rfl⟩
        obtain ⟨sb, hsb⟩ : ∃ x, (kb == 15) = x := ⟨_, rfl⟩
        obtain ⟨qb, hqb⟩ : ∃ x, (kb == 16) = x := ⟨_, rfl⟩
        rw [hsa, hqa, hsb, hqb] at hRs hRp
        have hw1 : IntKind.i64.wrap ((q : Int) + 2 - 2) = (q : Int) := by rw [show (q : Int) + 2 - 2 = (q : Int) by omega]; exact IntWalk.i64_in _ (by omega)
        have hw2 : IntKind.i64.wrap ((q : Int) + 1) = (q : Int) + 1 := IntWalk.i64_in _ (by omega)
        have hw3 : IntKind.i64.wrap (q : Int) = (q : Int) := IntWalk.i64_in _ (by omega)
        have hq0 : 0 ≤ (q : Int) := by omega
        have hqs : (q : Int) < (q : Int) + 2 := by omega
        have hqs1 : (q : Int) + 1 < (q : Int) + 2 := by omega
        have hq1 : 0 ≤ (q : Int) + 1 := by omega
        have hqc2 : (q : Int) ≤ (c2 : Int) := by omega
        have hqc4 : (q : Int) ≤ (c3 : Int) := by omega
        have hm3 := Lib.hid (show q + 1 ≤ maxLen by unfold maxLen; omega)
        have hm4 := Lib.hid (show (q + 1) * 16 ≤ 140737488355328 by omega)
        have hm5 := Lib.hid (show (q + 1) * 8 ≤ 140737488355328 by omega)
        have hx0 : W1.cell? ⟨wr.heap.size, 0, none⟩ = some (.int .i64 kd) := (Go.Joins.cell_of_block HBK.out 0).trans rfl
        have HX := Lib.hid (show ∀ W, Below W1.heap.size W1 W → W.cell? ⟨g2, q, none⟩ = some (.string pa) ∧ W.cell? ⟨g2, q + 1, none⟩ = some (.string pb) ∧ W.cell? ⟨g3, q, none⟩ = some (.int .i64 ka) ∧ W.cell? ⟨g3, q + 1, none⟩ = some (.int .i64 kb) ∧ W.cell? ⟨wr.heap.size, 0, none⟩ = some (.int .i64 kd) from fun W hW => ⟨cell_old hW za, cell_old hW zb, cell_old hW ya, cell_old hW yb, cell_old hW hx0⟩)
        clear hO1 hP1 hO2 hP2 hca hcb hka hkb hcell hcell3 hrev hq hmm htk htk3 sa1 sb1 isa ipa isb ipb hpa hpb hkae hkbe hga hgb hln hW1 HO1 HP1 za zb ya yb hx0
        rcases h15 with rfl | rfl
        · obtain ⟨cA, hcA⟩ : ∃ x, (full && (sa || qa)) = x := ⟨_, rfl⟩
          obtain ⟨cB, hcB⟩ : ∃ x, (sb || full && qb) = x := ⟨_, rfl⟩
          have HcA := Lib.hid hcA
          have HcB := Lib.hid hcB
          obtain ⟨A, hA⟩ : ∃ x, brkS pa cA = x := ⟨_, rfl⟩
          obtain ⟨B, hB2⟩ : ∃ x, brkS pb cB = x := ⟨_, rfl⟩
          have hA2 := brkS_size pa cA
          have hB3 := brkS_size pb cB
          rw [hA] at hA2
          rw [hB2] at hB3
          have hAs : A.size ≤ 5000 := by omega
          have hBs : B.size ≤ 5000 := by omega
          have HR := hRs.out
          rw [hcA, hcB, hA, hB2] at HR
          have HRR := Lib.hid HR
          have HA := Lib.hid hA
          have HBB := Lib.hid hB2
          clear hA hB2 hA2 hB3 HR hRs hRp hcA hcB
          obtain ⟨za, zb, ya, yb, xk⟩ := HX.out W1 (Below.refl _ _)
          go_upto_region 10 with fail
          rw [← HW1.out]
          go_quiet (fail)
          go_upto_region 11 with fail
          go_quiet (fail)
          go_upto_region 12 with fail
          go_cut [76] from 62 to 76 (fun x W => x = .bool cA ∧ Hid (Below W1.heap.size W1 W))
          case first =>
            cases full <;> cases sa <;> cases qa
            all_goals
              go_wp2
              go_meet
              exact ⟨by rw [← HcA.out]; rfl, Lib.hid (by repeat (first | exact Below.refl _ _ | refine Below.drewN' ?_ _ | refine Below.drew ?_))⟩
          case rest =>
          obtain ⟨rfl, HJ0⟩ := hcut
          obtain ⟨wb, hwb⟩ : ∃ W, W = wc := ⟨_, rfl⟩
          rw [← hwb] at HJ0 ⊢
          clear hwb wc za zb ya yb xk
          have HJ0B := HJ0.out
          go_upto_if 76 with fail
          go_cut [10] from 77 to 80 (fun x W => x = .string A ∧ Hid (Below W1.heap.size W1 W))
          case first =>
            cases cA
            all_goals
              go_wp2
              go_meet
              exact ⟨by rw [← HA.out]; rfl, Lib.hid (by repeat (first | exact HJ0B | refine Below.drewN' ?_ _ | refine Below.drew ?_))⟩
          case rest =>
          obtain ⟨rfl, HJ⟩ := hcut
          obtain ⟨wd, hwd⟩ : ∃ W, W = wc := ⟨_, rfl⟩
          rw [← hwd] at HJ ⊢
          clear hwd wc HJ0 HJ0B
          obtain ⟨za, zb, ya, yb, xk⟩ := HX.out wd HJ.out
          go_upto_region 14 with fail
          go_quiet (fail)
          go_upto_region 15 with fail
          have HJB := HJ.out
          go_cut [109] from 92 to 109 (fun x W => x = .bool cB ∧ Hid (Below W1.heap.size W1 W))
          case first =>
            cases full <;> cases sb <;> cases qb
            all_goals
              go_wp2
              go_meet
              exact ⟨by rw [← HcB.out]; rfl, Lib.hid (by repeat (first | exact HJB | refine Below.drewN' ?_ _ | refine Below.drew ?_))⟩
          case rest =>
          obtain ⟨rfl, HJ1⟩ := hcut
          obtain ⟨wb, hwb⟩ : ∃ W, W = wc := ⟨_, rfl⟩
          rw [← hwb] at HJ1 ⊢
          clear hwb wc za zb ya yb xk HJB HJ
          have HJ1B := HJ1.out
          go_upto_if 109 with fail
          go_cut [11] from 110 to 113 (fun x W => x = .string B ∧ Hid (Below W1.heap.size W1 W))
          case first =>
            cases cB
            all_goals
              go_wp2
              go_meet
              exact ⟨by rw [← HBB.out]; rfl, Lib.hid (by repeat (first | exact HJ1B | refine Below.drewN' ?_ _ | refine Below.drew ?_))⟩
          case rest =>
          obtain ⟨rfl, HJ2⟩ := hcut
          obtain ⟨we, hwe⟩ : ∃ W, W = wc := ⟨_, rfl⟩
          rw [← hwe] at HJ2 ⊢
          clear hwe wc HJ1 HJ1B
          obtain ⟨-, -, -, -, xk⟩ := HX.out we HJ2.out
          have HB2 := Lib.hid (HBW.out.trans (HJ2.out.mono HBW.out.size))
          have HO3 := Lib.hid (ownsRow_below HO2.out HJ2.out)
          have HP3 := Lib.hid (ownsRow_below HP2.out HJ2.out)
          have HBK2 := Lib.hid (block_old HBK.out HJ2.out)
          clear HX
          go_upto_region 21 with (first | (refine wpList_append_many (by rfl) _ _ 72 (by rfl) w0.heap.size 9 (.string ByteArray.empty) 1 16 Tryd.underlying72 infoSt rfl (by decide) _ _ _ _ (by rfl) HO3.out (by rfl) (by first | rfl | (simp; rfl)) (by intro x hx; simp at hx; rcases hx with rfl; rfl) hm3.out hm4.out HB2.out.size ?_; intro v' w4 hown4 hg4; obtain ⟨a5, c5, rfl⟩ := ownsRow_form' hown4; have hBK4 := (hg4.block _ (Array.getElem?_eq_some_iff.1 HBK2.out).1 (fun e => row_otherG HO3.out HBK2.out (by decide) e.symm)).trans HBK2.out; have hP4 := ownsRow_keep HP3.out (chg_of_grown hg4) (rows_diff HO3.out HP3.out (by decide)); have hB4 := Below.grownRow HB2.out HO3.out hg4 HB2.out.size; have y4 := (Go.Joins.cell_of_block hBK4 0).trans rfl))
          have hP4d := Lib.hid (show w4.drew.ownsRow w0.heap.size 3 1 (.slice (some ⟨g3, 0, none⟩) q c3) q (ofKd st2.reverse) from hP4)
          have hB4d := Lib.hid (show w0.heap.size ≤ w4.drew.heap.size from hB4.size)
          go_region_law (first | (refine step_append_many (by rfl) _ _ 67 (by rfl) w0.heap.size 3 (.int .i64 0) 1 8 Tryd.underlying67 infoIn rfl (by decide) _ _ _ #[.int .i64 15] rfl hP4d.out (by rfl) (by first | rfl | (simp; rfl)) (by intro x hx; simp at hx; rcases hx with rfl; rfl) hm3.out hm5.out hB4d.out ?_; intro v' w5 hown5 hg5; obtain ⟨a8, c8, rfl⟩ := ownsRow_form' hown5))
          all_goals
            have hnew : Hid (PxSt w0 full ns (k + 1) (.seq ta tb :: st2) (.slice a5 (q + 1) c5) (.slice a8 (q + 1) c8) w5) := by
              have e1 : ofX full (TreeL.seq ta tb :: st2).reverse = ofX full st2.reverse ++ #[Value.string (A ++ ⟨#[32, 59, 32]⟩ ++ B)].toList := by simp [ofX, HRR.out]
              have e2 : ofKd (TreeL.seq ta tb :: st2).reverse = ofKd st2.reverse ++ #[Value.int .i64 15].toList := by simp [ofKd, kindT]
              refine Lib.hid ⟨by rw [HSU.out]; rfl, ?_, ?_, Below.grownRow hB4.drew hP4d.out hg5 hB4.size⟩
              · rw [e1, List.length_cons, HQL.out]
                exact ownsRow_keep (w := w4.drew) hown4 (chg_of_grown hg5) (rows_diff (w := w4.drew) hP4d.out hown4 (by decide))
              · rw [e2, List.length_cons, HQL.out]
                exact hown5
            clear hown4 hg4 hBK4 hP4 hB4 y4 hown5 hg5
            go_wp2
            go_roundw
            case rel => exact ⟨k + 1, _, _, _, by omega, by go_num, rfl, rfl, hnew⟩
            case measure => simp [intOf]; omega
        · obtain ⟨cA, hcA⟩ : ∃ x, (sa || full && qa) = x := ⟨_, rfl⟩
          obtain ⟨cB, hcB⟩ : ∃ x, (sb || qb) = x := ⟨_, rfl⟩
          have HcA := Lib.hid hcA
          have HcB := Lib.hid hcB
          obtain ⟨A, hA⟩ : ∃ x, brkS pa cA = x := ⟨_, rfl⟩
          obtain ⟨B, hB2⟩ : ∃ x, brkS pb cB = x := ⟨_, rfl⟩
          have hA2 := brkS_size pa cA
          have hB3 := brkS_size pb cB
          rw [hA] at hA2
          rw [hB2] at hB3
          have hAs : A.size ≤ 5000 := by omega
          have hBs : B.size ≤ 5000 := by omega
          have HR := hRp.out
          rw [hcA, hcB, hA, hB2] at HR
          have HRR := Lib.hid HR
          have HA := Lib.hid hA
          have HBB := Lib.hid hB2
          clear hA hB2 hA2 hB3 HR hRs hRp hcA hcB
          obtain ⟨za, zb, ya, yb, xk⟩ := HX.out W1 (Below.refl _ _)
          go_upto_region 10 with fail
          rw [← HW1.out]
          go_quiet (fail)
          go_upto_region 11 with fail
          go_quiet (fail)
          go_upto_region 12 with fail
          go_cut [76] from 62 to 76 (fun x W => x = .bool cA ∧ Hid (Below W1.heap.size W1 W))
          case first =>
            cases full <;> cases sa <;> cases qa
            all_goals
              go_wp2
              go_meet
              exact ⟨by rw [← HcA.out]; rfl, Lib.hid (by repeat (first | exact Below.refl _ _ | refine Below.drewN' ?_ _ | refine Below.drew ?_))⟩
          case rest =>
          obtain ⟨rfl, HJ0⟩ := hcut
          obtain ⟨wb, hwb⟩ : ∃ W, W = wc := ⟨_, rfl⟩
          rw [← hwb] at HJ0 ⊢
          clear hwb wc za zb ya yb xk
          have HJ0B := HJ0.out
          go_upto_if 76 with fail
          go_cut [10] from 77 to 80 (fun x W => x = .string A ∧ Hid (Below W1.heap.size W1 W))
          case first =>
            cases cA
            all_goals
              go_wp2
              go_meet
              exact ⟨by rw [← HA.out]; rfl, Lib.hid (by repeat (first | exact HJ0B | refine Below.drewN' ?_ _ | refine Below.drew ?_))⟩
          case rest =>
          obtain ⟨rfl, HJ⟩ := hcut
          obtain ⟨wd, hwd⟩ : ∃ W, W = wc := ⟨_, rfl⟩
          rw [← hwd] at HJ ⊢
          clear hwd wc HJ0 HJ0B
          obtain ⟨za, zb, ya, yb, xk⟩ := HX.out wd HJ.out
          go_upto_region 14 with fail
          go_quiet (fail)
          go_upto_region 15 with fail
          have HJB := HJ.out
          go_cut [109] from 92 to 109 (fun x W => x = .bool cB ∧ Hid (Below W1.heap.size W1 W))
          case first =>
            cases full <;> cases sb <;> cases qb
            all_goals
              go_wp2
              go_meet
              exact ⟨by rw [← HcB.out]; rfl, Lib.hid (by repeat (first | exact HJB | refine Below.drewN' ?_ _ | refine Below.drew ?_))⟩
          case rest =>
          obtain ⟨rfl, HJ1⟩ := hcut
          obtain ⟨wb, hwb⟩ : ∃ W, W = wc := ⟨_, rfl⟩
          rw [← hwb] at HJ1 ⊢
          clear hwb wc za zb ya yb xk HJB HJ
          have HJ1B := HJ1.out
          go_upto_if 109 with fail
          go_cut [11] from 110 to 113 (fun x W => x = .string B ∧ Hid (Below W1.heap.size W1 W))
          case first =>
            cases cB
            all_goals
              go_wp2
              go_meet
              exact ⟨by rw [← HBB.out]; rfl, Lib.hid (by repeat (first | exact HJ1B | refine Below.drewN' ?_ _ | refine Below.drew ?_))⟩
          case rest =>
          obtain ⟨rfl, HJ2⟩ := hcut
          obtain ⟨we, hwe⟩ : ∃ W, W = wc := ⟨_, rfl⟩
          rw [← hwe] at HJ2 ⊢
          clear hwe wc HJ1 HJ1B
          obtain ⟨-, -, -, -, xk⟩ := HX.out we HJ2.out
          have HB2 := Lib.hid (HBW.out.trans (HJ2.out.mono HBW.out.size))
          have HO3 := Lib.hid (ownsRow_below HO2.out HJ2.out)
          have HP3 := Lib.hid (ownsRow_below HP2.out HJ2.out)
          have HBK2 := Lib.hid (block_old HBK.out HJ2.out)
          clear HX
          go_upto_region 21 with (first | (refine wpList_append_many (by rfl) _ _ 72 (by rfl) w0.heap.size 9 (.string ByteArray.empty) 1 16 Tryd.underlying72 infoSt rfl (by decide) _ _ _ _ (by rfl) HO3.out (by rfl) (by first | rfl | (simp; rfl)) (by intro x hx; simp at hx; rcases hx with rfl; rfl) hm3.out hm4.out HB2.out.size ?_; intro v' w4 hown4 hg4; obtain ⟨a5, c5, rfl⟩ := ownsRow_form' hown4; have hBK4 := (hg4.block _ (Array.getElem?_eq_some_iff.1 HBK2.out).1 (fun e => row_otherG HO3.out HBK2.out (by decide) e.symm)).trans HBK2.out; have hP4 := ownsRow_keep HP3.out (chg_of_grown hg4) (rows_diff HO3.out HP3.out (by decide)); have hB4 := Below.grownRow HB2.out HO3.out hg4 HB2.out.size; have y4 := (Go.Joins.cell_of_block hBK4 0).trans rfl))
          have hP4d := Lib.hid (show w4.drew.ownsRow w0.heap.size 3 1 (.slice (some ⟨g3, 0, none⟩) q c3) q (ofKd st2.reverse) from hP4)
          have hB4d := Lib.hid (show w0.heap.size ≤ w4.drew.heap.size from hB4.size)
          go_region_law (first | (refine step_append_many (by rfl) _ _ 67 (by rfl) w0.heap.size 3 (.int .i64 0) 1 8 Tryd.underlying67 infoIn rfl (by decide) _ _ _ #[.int .i64 16] rfl hP4d.out (by rfl) (by first | rfl | (simp; rfl)) (by intro x hx; simp at hx; rcases hx with rfl; rfl) hm3.out hm5.out hB4d.out ?_; intro v' w5 hown5 hg5; obtain ⟨a8, c8, rfl⟩ := ownsRow_form' hown5))
          all_goals
            have hnew : Hid (PxSt w0 full ns (k + 1) (.par ta tb :: st2) (.slice a5 (q + 1) c5) (.slice a8 (q + 1) c8) w5) := by
              have e1 : ofX full (TreeL.par ta tb :: st2).reverse = ofX full st2.reverse ++ #[Value.string (A ++ ⟨#[32, 42, 32]⟩ ++ B)].toList := by simp [ofX, HRR.out]
              have e2 : ofKd (TreeL.par ta tb :: st2).reverse = ofKd st2.reverse ++ #[Value.int .i64 16].toList := by simp [ofKd, kindT]
              refine Lib.hid ⟨by rw [HSU.out]; rfl, ?_, ?_, Below.grownRow hB4.drew hP4d.out hg5 hB4.size⟩
              · rw [e1, List.length_cons, HQL.out]
                exact ownsRow_keep (w := w4.drew) hown4 (chg_of_grown hg5) (rows_diff (w := w4.drew) hP4d.out hown4 (by decide))
              · rw [e2, List.length_cons, HQL.out]
                exact hown5
            clear hown4 hg4 hBK4 hP4 hB4 y4 hown5 hg5
            go_wp2
            go_roundw
            case rel => exact ⟨k + 1, _, _, _, by omega, by go_num, rfl, rfl, hnew⟩
            case measure => simp [intOf]; omega
      · have k15 : kd ≠ 15 := by omega
        have k16 : kd ≠ 16 := by omega
        have b15 : (kd != 15) = true := by simpa using k15
        have b16 : (kd != 16) = true := by simpa using k16
        have hwd := Lib.hid (fun W => sxWord_any ⟨kd, vl, s⟩ (H2K.out.2 k15 k16) W)
        have hst : Hid (runR (ns.take (k + 1)) = .leaf ⟨kd, vl, s⟩ :: st) := by
          refine Lib.hid ?_
          rw [HSU.out]
          unfold stepR
          rw [if_neg k15, if_neg k16]
        obtain ⟨a6, c6, rfl⟩ := ownsRow_form' hO1
        obtain ⟨a7, c7, rfl⟩ := ownsRow_form' hP1
        clear hO1 hP1 k15 k16 h15 hW1
        go_wp2_with fail
        rw [← HW1.out]
        refine (hwd.out W1).mono ?_
        rintro e w2 ⟨rfl, hb2⟩
        have HB2 := Lib.hid (HBW.out.trans (hb2.mono HBW.out.size))
        have HO2 := Lib.hid (ownsRow_below HO1.out hb2)
        have HP2 := Lib.hid (ownsRow_below HP1.out hb2)
        have HBK2 := Lib.hid (block_old HBK.out hb2)
        clear hb2
        go_wp2_with (first | (refine wpList_append_many (by rfl) _ _ 72 (by rfl) w0.heap.size 9 (.string ByteArray.empty) 1 16 Tryd.underlying72 infoSt rfl (by decide) _ _ _ #[.string (leafS ⟨kd, vl, s⟩)] rfl HO2.out (by rfl) (by first | rfl | (simp; rfl)) (by intro x hx; simp at hx; rcases hx with rfl; rfl) hm3.out hm4.out HB2.out.size ?_; intro v' w4 hown4 hg4; obtain ⟨a5, c5, rfl⟩ := ownsRow_form' hown4; have hBK4 := (hg4.block _ (Array.getElem?_eq_some_iff.1 HBK2.out).1 (fun e => row_otherG HO2.out HBK2.out (by decide) e.symm)).trans HBK2.out; have hP4 := ownsRow_keep HP2.out (chg_of_grown hg4) (rows_diff HO2.out HP2.out (by decide)); have hB4 := Below.grownRow HB2.out HO2.out hg4 HB2.out.size; have y4 := (Go.Joins.cell_of_block hBK4 0).trans rfl) | (refine wpList_append_many (by rfl) _ _ 67 (by rfl) w0.heap.size 3 (.int .i64 0) 1 8 Tryd.underlying67 infoIn rfl (by decide) _ _ _ #[.int .i64 kd] rfl hP4 (by rfl) (by first | rfl | (simp; rfl)) (by intro x hx; simp at hx; rcases hx with rfl; rfl) hm3.out hm5.out hB4.size ?_; intro v' w5 hown5 hg5; obtain ⟨a8, c8, rfl⟩ := ownsRow_form' hown5))
        have hnew : Hid (PxSt w0 full ns (k + 1) (.leaf ⟨kd, vl, s⟩ :: st) (.slice a5 (m + 1) c5) (.slice a8 (m + 1) c8) w5) := by
          have e1 : ofX full (TreeL.leaf ⟨kd, vl, s⟩ :: st).reverse = ofX full st.reverse ++ #[Value.string (leafS ⟨kd, vl, s⟩)].toList := by simp [ofX, prT]
          have e2 : ofKd (TreeL.leaf ⟨kd, vl, s⟩ :: st).reverse = ofKd st.reverse ++ #[Value.int .i64 kd].toList := by simp [ofKd, kindT]
          refine Lib.hid ⟨hst.out, ?_, ?_, Below.grownRow hB4 hP4 hg5 hB4.size⟩
          · rw [e1, List.length_cons, HML.out]
            exact ownsRow_keep hown4 (chg_of_grown hg5) (rows_diff hP4 hown4 (by decide))
          · rw [e2, List.length_cons, HML.out]
            exact hown5
        clear hown4 hg4 hBK4 hP4 hB4 y4 hown5 hg5
        go_wp2
        go_roundw
        case rel => exact ⟨k + 1, _, _, _, by omega, by go_num, rfl, rfl, hnew⟩
        case measure => simp [intOf]; omega
    · obtain rfl : k = n := by omega
      have hfin := H.out
      have hst := hfin.1
      rw [← HN.out, List.take_length, HRUN.out] at hst
      subst hst
      obtain ⟨g2, c2, hfo, hqc, hc63, hcell⟩ := row_some hfin.2.1 (by simp)
      subst hfo
      have z0 := hcell 0 (.string (prT full (treeN ns))) rfl
      have HBE := Lib.hid (below_step HB.out hfin.2.2.2)
      obtain ⟨tv, htv⟩ : ∃ x, prT full (treeN ns) = x := ⟨_, rfl⟩
      rw [htv] at z0
      have HTV := Lib.hid htv
      clear hfin hcell htv
      go_wp2
      go_ret
      exact ⟨by rw [HTV.out]; rfl, HBE.out⟩

end Ints
end Go.Proofs.YtlfcmlbffpmhkaaDoor
