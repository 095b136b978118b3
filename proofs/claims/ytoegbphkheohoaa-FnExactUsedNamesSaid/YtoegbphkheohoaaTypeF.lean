/- The program's typing of a term. -/
import Derived.Test.YtoegbphkheohoaaTyped
import Derived.Test.YtoegbphkheohoaaStack
import Derived.Deep.RegionHeld3
import Derived.Deep.DeepCutAuto
namespace Go.Proofs.Ytoegbphkheohoaa
open Go.RowKit
namespace Ints
open Fld (inR l1In_any)

def ofW (l : List (Int × Int)) : List Value := (l.map fun p => [Value.int .i64 p.1, Value.int .i64 p.2]).flatten
theorem ofW_length (l : List (Int × Int)) : (ofW l).length = l.length * 2 := by
  induction l with
  | nil => rfl
  | cons p l ih =>
    unfold ofW at ih ⊢
    simp only [List.map_cons, List.flatten_cons, List.length_append, ih, List.length_cons, List.length_nil]
    omega
theorem ofW_append (a b : List (Int × Int)) : ofW (a ++ b) = ofW a ++ ofW b := by simp [ofW]
theorem ofW_one (p : Int × Int) : ofW [p] = [.int .i64 p.1, .int .i64 p.2] := rfl
/-- The cells of the element behind a prefix. -/
theorem ofW_at (l r : List (Int × Int)) (p : Int × Int) : (ofW (l ++ p :: r))[l.length * 2]? = some (.int .i64 p.1) ∧ (ofW (l ++ p :: r))[l.length * 2 + 1]? = some (.int .i64 p.2) := by
  have e : ofW (l ++ p :: r) = ofW l ++ (.int .i64 p.1 :: .int .i64 p.2 :: ofW r) := by rw [ofW_append]; rfl
  have hl := ofW_length l
  rw [e]
  refine ⟨?_, ?_⟩
  · rw [← hl, List.getElem?_append_right (Nat.le_refl _), Nat.sub_self]; rfl
  · rw [← hl, List.getElem?_append_right (by omega), Nat.add_sub_cancel_left]; rfl
theorem ofW_take (l r : List (Int × Int)) : (ofW (l ++ r)).take (l.length * 2) = ofW l := by
  rw [ofW_append, ← ofW_length, List.take_left]
theorem infoW : (Try.prog.info? 83).map (fun i => (i.zero, i.size, i.bytes)) = some (some (.agg #[.int .i64 0, .int .i64 0]), 2, 16) := by kernel_rfl
theorem stepT_pos {ds : List DefL} {st st' : List (Int × Int)} {n : NodeL} (h : stepT ds st n = some st') : 0 < st'.length ∧ st'.length ≤ st.length + 1 := by
  unfold stepT at h
  split at h
  · split at h
    · match st, h with
      | b :: a :: st2, h =>
        dsimp only at h
        cases hj : joinW n.kind a b with
        | none => rw [hj] at h; cases h
        | some p => rw [hj] at h; cases h; simp only [List.length_cons]; omega
    · cases h
  · cases hw : wireOf ds n with
    | none => rw [hw] at h; cases h
    | some p => rw [hw] at h; cases h; simp
theorem runT_pos {ds : List DefL} (ns : List NodeL) : ∀ k, k ≤ ns.length → ∀ st, runT ds (ns.take k) = some st → (1 ≤ k → 0 < st.length) ∧ st.length ≤ k := by
  intro k
  induction k with
  | zero =>
    intro _ st h
    simp [runT] at h
    subst h
    simp
  | succ k ih =>
    intro hk st h
    rw [runT_succ ds ns k (by omega)] at h
    cases hr : runT ds (ns.take k) with
    | none => rw [hr] at h; cases h
    | some st0 =>
      rw [hr] at h
      have h1 := stepT_pos h
      have h2 := ih (by omega) st0 hr
      exact ⟨fun _ => h1.1, by omega⟩

theorem typeOf_end {ds : List DefL} {ns : List NodeL} {st l : List (Int × Int)} {z : Int × Int} (h4 : 1 ≤ ns.length ∧ ns.length ≤ 400) (hrun : runT ds ns = some st) (hzl : st.reverse = z :: l) :
    (typeOf ds ns).isSome = ((st.length : Int) == 1) ∧ ∀ q, typeOf ds ns = some q → (z.1, z.2) = q := by
  unfold typeOf
  rw [if_pos h4, hrun]
  match st, hzl with
  | [], hzl => simp at hzl
  | [p], hzl =>
    simp only [List.reverse_cons, List.reverse_nil, List.nil_append, List.cons.injEq] at hzl
    obtain ⟨rfl, _⟩ := hzl
    exact ⟨rfl, fun q hq => Option.some.inj hq⟩
  | p :: p2 :: r2, _ =>
    refine ⟨?_, fun q hq => by cases hq⟩
    simp
    omega
/-- What the typing's round holds. -/
def StkSt (w0 : World) (ds : List DefL) (ns : List NodeL) (k : Nat) (st : List (Int × Int)) (o : Value) (wr : World) : Prop :=
  runT ds (ns.take k) = some st ∧ wr.ownsRow w0.heap.size 83 2 o st.length (ofW st.reverse) ∧ Below w0.heap.size w0 wr

set_option maxRecDepth 100000 in
set_option maxHeartbeats 4000000 in
theorem typed_any (v : Value) (ns : List NodeL) (ds : List DefL) (g b : Nat) (hbd : bndD ds) (hbig : totN ns ≤ 10000000000000) (w : World) (h : ReadsN w v ns) (hT : TypSt w g b ds) :
    Calls Try.prog 44 #[v, .func (.func 58) #[] #[.pointer (some ⟨g, 0, none⟩)]] w (JoinOut w (typeOf ds ns)) := by
  obtain ⟨a, cap, rfl, hm, hc⟩ := open_readsN h
  obtain ⟨n, hn⟩ : ∃ n, ns.length = n := ⟨_, rfl⟩
  obtain ⟨w0, hw0⟩ : ∃ W, W = w.alloc (.cells #[.int .i64 0, .int .i64 0] 83) := ⟨_, rfl⟩
  have hB := Lib.hid (show Below w.heap.size w w0 by rw [hw0]; exact (Below.refl w.heap.size w).alloc (Nat.le_refl _) _)
  have HS := Lib.hid (show w0.heap.size = w.heap.size + 1 by rw [hw0]; simp)
  have HX := Lib.hid (show ∀ W, Below w0.heap.size w0 W → W.heap[w.heap.size]? = some (.cells #[.int .i64 0, .int .i64 0] 83 (0, 0)) from by
    intro W hW
    refine block_old ?_ hW
    rw [hw0]
    exact heap_alloc_new w _)
  have hwin := Lib.hid (fun W => within_any (n : Int) 1 400 W)
  have HN := Lib.hid hn
  have HC := Lib.hid hc
  have HT := Lib.hid hT
  have HBD := Lib.hid hbd
  have HBG := Lib.hid hbig
  have HW := Lib.hid hw0
  obtain ⟨r, hr⟩ : ∃ r, typeOf ds ns = r := ⟨_, rfl⟩
  have HR := Lib.hid hr
  rw [hr]
  rw [hn] at hm ⊢
  clear h hc hn hw0 hr hT hbig
  cases hi : inR (n : Int) 1 400 with
  | false =>
    have hrf : Hid (r = none) := by
      show _ = _
      rw [← HR.out]
      unfold typeOf
      rw [if_neg]
      unfold inR at hi
      simp at hi
      rw [HN.out]
      omega
    rw [hrf.out]
    rw [hi] at hwin
    clear hi
    go_enter Try.func44, Try.ntmps44
    go_wp2_with (go_at_call 56; ((with_reducible refine (hwin.out _).mono ?_); rintro e w' ⟨rfl, rfl⟩))
    refine bodyPost_ret (v := .tuple #[.agg #[.int .i64 0, .int .i64 0], .bool false]) (by simp [results, Try.results44, go_sem]) rfl ?_
    rw [← HW.out]
    exact ⟨_, _, rfl, (fun q hq => by cases hq), hB.out⟩
  | true =>
    have hn400 : 1 ≤ n ∧ n ≤ 400 := by
      unfold inR at hi
      simp at hi
      omega
    have HN4 := Lib.hid hn400
    have HNO := Lib.hid (fun (h : runT ds ns = none) => HR.out.symm.trans (typeOf_none h))
    rw [hi] at hwin
    clear hi hn400
    have HO0 := Lib.hid (World.ownsRow_lit (base := w0.heap.size) (size := 2) (e := 83) w0 #[] 0 (Nat.le_refl _) (Nat.zero_le _) (by simp))
    have HS1 := Lib.hid (show Below w0.heap.size w0 (w0.alloc (.cells #[] 83)) from (Below.refl _ _).alloc (Nat.le_refl _) _)
    go_enter Try.func44, Try.ntmps44
    go_wp2_with (go_at_call 56; ((with_reducible refine (hwin.out _).mono ?_); rintro e w' ⟨rfl, rfl⟩))
    rw [← HW.out]
    go_loopw [22, 6] (fun i s wr => ∃ (k : Nat) (st : List (Int × Int)) (o : Value), k ≤ n ∧ i = .int .i64 k ∧ o = s ∧ Hid (StkSt w0 ds ns k st o wr)) (fun i _ _ => n + 1 - (intOf i).toNat)
    case atStart =>
      refine ⟨0, [], _, by omega, rfl, rfl, Lib.hid ⟨by simp [runT], ?_, HS1.out⟩⟩
      rw [← HS.out]
      exact HO0.out
    case round =>
      obtain ⟨k, st, o, hk, rfl, rfl, H⟩ := hrel
      by_cases hlt : k < n
      · obtain ⟨gg, off, rfl, hg, hE⟩ := HC.out k (by rw [HN.out]; exact hlt)
        have hbk : Below w.heap.size w wr := hB.out.trans (H.out.2.2.mono hB.out.size)
        obtain ⟨x0, x1, x2⟩ := hE.below hbk
        have hsz : (nAt ns k).name.size ≤ maxLen := by
          have := name_le ns k (by rw [HN.out]; exact hlt)
          have := HBG.out
          unfold maxLen
          omega
        have hsucc := runT_succ ds ns k (by rw [HN.out]; exact hlt)
        rw [H.out.1, Option.bind_some] at hsucc
        have hstl := (runT_pos ns k (by rw [HN.out]; exact hk) st H.out.1)
        have hstk := Lib.hid hstl.2
        have hnn : Hid (stepT ds st (nAt ns k) = none → r = none) := Lib.hid fun h => HNO.out (runT_none (k := k + 1) (by rw [hsucc, h]))
        have HSU := Lib.hid hsucc
        have hk0 : 0 ≤ (k : Int) := by omega
        have hkn : (k : Int) < (n : Int) := by omega
        clear hE hstl hsucc
        obtain ⟨nd, hnd⟩ : ∃ nd, nAt ns k = nd := ⟨_, rfl⟩
        rw [hnd] at x0 x1 x2 hsz hnn HSU
        clear hnd
        obtain ⟨kd, vl, s⟩ := nd
        dsimp only at x0 x1 x2 hsz
        obtain ⟨W1, hW1⟩ : ∃ W, W = wr.alloc (.cells #[.int .i64 kd, .int .i64 vl, .string s] 71) := ⟨_, rfl⟩
        have hb1 : Below wr.heap.size wr W1 := by rw [hW1]; exact (Below.refl _ _).alloc (Nat.le_refl _) _
        have HBW := Lib.hid (H.out.2.2.trans (hb1.mono H.out.2.2.size))
        have HW1 := Lib.hid hW1
        have HB1 := Lib.hid hb1
        by_cases h15 : kd = 15 ∨ kd = 16
        · have hes : (s.toList == []) = emptyB s := rfl
          have hTT := Lib.hid hbk
          clear hbk hb1
          rcases h15 with rfl | rfl
          · by_cases hv : vl = 0
            · subst hv
              cases he : emptyB s with
              | false =>
                rw [he] at hes
                have hrn := Lib.hid (hnn.out (by unfold stepT; dsimp only; rw [he]; simp))
                rw [hW1] at HBW
                clear he hW1
                have hblk := HX.out _ (show Below w0.heap.size w0 _ from HBW.out)
                have y0 := (Go.Joins.cell_of_block hblk 0).trans rfl
                have y1 := (Go.Joins.cell_of_block hblk 1).trans rfl
                have f0 := Go.Joins.unfrozen_of_block hblk 0
                have f1 := Go.Joins.unfrozen_of_block hblk 1
                have HFB := Lib.hid (((hB.out.trans (HBW.out.mono hB.out.size)).setCell (p := ⟨w.heap.size, 0, none⟩) (Nat.le_refl _) (.int .i64 0)).setCell (p := ⟨w.heap.size, 1, none⟩) (Nat.le_refl _) (.int .i64 0))
                clear hblk
                go_wp2
                refine bodyPost_ret (v := .tuple #[.agg #[.int .i64 0, .int .i64 0], .bool false]) (by simp [results, Try.results44, go_sem, y0, y1]) rfl ?_
                rw [hrn.out]
                exact ⟨_, _, rfl, (fun q hq => by cases hq), HFB.out⟩
              | true =>
                rw [he] at hes
                rcases st with _ | ⟨b2, _ | ⟨a2, st2⟩⟩
                · have hrn := Lib.hid (hnn.out (by unfold stepT; dsimp only; rw [he]; simp))
                  obtain ⟨ao, co, rfl⟩ := ownsRow_form' H.out.2.1
                  rw [hW1] at HBW
                  clear he hW1
                  have hblk := HX.out _ (show Below w0.heap.size w0 _ from HBW.out)
                  have y0 := (Go.Joins.cell_of_block hblk 0).trans rfl
                  have y1 := (Go.Joins.cell_of_block hblk 1).trans rfl
                  have f0 := Go.Joins.unfrozen_of_block hblk 0
                  have f1 := Go.Joins.unfrozen_of_block hblk 1
                  have HFB := Lib.hid (((hB.out.trans (HBW.out.mono hB.out.size)).setCell (p := ⟨w.heap.size, 0, none⟩) (Nat.le_refl _) (.int .i64 0)).setCell (p := ⟨w.heap.size, 1, none⟩) (Nat.le_refl _) (.int .i64 0))
                  clear hblk
                  go_wp2
                  refine bodyPost_ret (v := .tuple #[.agg #[.int .i64 0, .int .i64 0], .bool false]) (by simp [results, Try.results44, go_sem, y0, y1]) rfl ?_
                  rw [hrn.out]
                  exact ⟨_, _, rfl, (fun q hq => by cases hq), HFB.out⟩
                · have hrn := Lib.hid (hnn.out (by unfold stepT; dsimp only; rw [he]; simp))
                  obtain ⟨ao, co, rfl⟩ := ownsRow_form' H.out.2.1
                  rw [hW1] at HBW
                  clear he hW1
                  have hblk := HX.out _ (show Below w0.heap.size w0 _ from HBW.out)
                  have y0 := (Go.Joins.cell_of_block hblk 0).trans rfl
                  have y1 := (Go.Joins.cell_of_block hblk 1).trans rfl
                  have f0 := Go.Joins.unfrozen_of_block hblk 0
                  have f1 := Go.Joins.unfrozen_of_block hblk 1
                  have HFB := Lib.hid (((hB.out.trans (HBW.out.mono hB.out.size)).setCell (p := ⟨w.heap.size, 0, none⟩) (Nat.le_refl _) (.int .i64 0)).setCell (p := ⟨w.heap.size, 1, none⟩) (Nat.le_refl _) (.int .i64 0))
                  clear hblk
                  go_wp2
                  refine bodyPost_ret (v := .tuple #[.agg #[.int .i64 0, .int .i64 0], .bool false]) (by simp [results, Try.results44, go_sem, y0, y1]) rfl ?_
                  rw [hrn.out]
                  exact ⟨_, _, rfl, (fun q hq => by cases hq), HFB.out⟩
                · obtain ⟨q, hq⟩ : ∃ q, st2.length = q := ⟨_, rfl⟩
                  have hlen : (b2 :: a2 :: st2).length = q + 2 := by simp [hq]
                  have hown := H.out.2.1
                  rw [hlen] at hown hstk
                  have hq400 : q + 2 ≤ 400 := by have := hstk.out; have := HN4.out; omega
                  obtain ⟨g2, c2, rfl, hqc, hc63, hcell⟩ := row_some hown (by omega)
                  have hrev : (b2 :: a2 :: st2).reverse = st2.reverse ++ a2 :: [b2] := by simp
                  have hca := ofW_at st2.reverse [b2] a2
                  have hcb := ofW_at (st2.reverse ++ [a2]) [] b2
                  rw [List.append_assoc, List.singleton_append, List.length_append, List.length_reverse, hq, List.length_singleton] at hcb
                  rw [List.length_reverse, hq] at hca
                  rw [← hrev] at hca hcb
                  have z0 := cell_old HB1.out (hcell _ _ hca.1)
                  have z1 := cell_old HB1.out (hcell _ _ hca.2)
                  have z2 := cell_old HB1.out (hcell _ _ hcb.1)
                  have z3 := cell_old HB1.out (hcell _ _ hcb.2)
                  have x0' : W1.cell? ⟨wr.heap.size, 0, none⟩ = some (.int .i64 15) := by rw [hW1]; simp [go_sem]
                  have HZ := Lib.hid (show ∀ W, Below W1.heap.size W1 W → W.cell? ⟨g2, q * 2, none⟩ = some (.int .i64 a2.1) ∧ W.cell? ⟨g2, q * 2 + 1, none⟩ = some (.int .i64 a2.2) ∧ W.cell? ⟨g2, (q + 1) * 2, none⟩ = some (.int .i64 b2.1) ∧ W.cell? ⟨g2, (q + 1) * 2 + 1, none⟩ = some (.int .i64 b2.2) ∧ W.cell? ⟨wr.heap.size, 0, none⟩ = some (.int .i64 15) from fun W hW => ⟨cell_old hW z0, cell_old hW z1, cell_old hW z2, cell_old hW z3, cell_old hW x0'⟩)
                  have hbs := runT_bnd HBD.out ns k (by rw [HN.out]; exact hk) _ H.out.1
                  have hj := Lib.hid (fun W => joinWires_any 15 (by decide) a2 b2 (hbs a2 (by simp)) (hbs b2 (by simp)) W)
                  have htk : Hid ((ofW ((b2 :: a2 :: st2).reverse)).take (q * 2) = ofW st2.reverse) := by
                    have := ofW_take st2.reverse (a2 :: [b2])
                    rw [← hrev, List.length_reverse, hq] at this
                    exact Lib.hid this
                  have hst2 : Hid (stepT ds (b2 :: a2 :: st2) ⟨15, 0, s⟩ = (joinW 15 a2 b2).map (· :: st2)) := by show _ = _; unfold stepT; dsimp only; rw [he]; simp
                  have hO := Lib.hid hown
                  obtain ⟨oj, hoj⟩ : ∃ o, joinW 15 a2 b2 = o := ⟨_, rfl⟩
                  rw [hoj] at hj hst2
                  clear hoj
                  have hw1 : IntKind.i64.wrap ((q : Int) + 2 - 1) = (q : Int) + 1 := by rw [show (q : Int) + 2 - 1 = (q : Int) + 1 by omega]; exact IntWalk.i64_in _ (by omega)
                  have hw2 : IntKind.i64.wrap ((q : Int) + 1 - 1) = (q : Int) := by rw [show (q : Int) + 1 - 1 = (q : Int) by omega]; exact IntWalk.i64_in _ (by omega)
                  have hw3 : IntKind.i64.wrap (q : Int) = (q : Int) := IntWalk.i64_in _ (by omega)
                  have hl2 : decide ((q : Int) + 2 < 2) = false := by simp; omega
                  have hq0 : 0 ≤ (q : Int) := by omega
                  have hqs : (q : Int) < (q : Int) + 2 := by omega
                  have hqs1 : (q : Int) + 1 < (q : Int) + 2 := by omega
                  have hq1 : 0 ≤ (q : Int) + 1 := by omega
                  have HQL := Lib.hid hq
                  clear hown hca hcb hcell hrev hq hlen hbs he z0 z1 z2 z3 x0' hW1
                  go_upto_region 15 with fail
                  rw [← HW1.out]
                  go_cut [12, 13] (fun bx okv W => ∃ gb x y, bx = .pointer (some ⟨gb, 0, none⟩) ∧ okv = .bool oj.isSome ∧ Hid ((∀ p, oj = some p → (x, y) = p) ∧ W.cell? ⟨gb, 0, none⟩ = some (.int .i64 x) ∧ W.cell? ⟨gb, 1, none⟩ = some (.int .i64 y) ∧ Below W1.heap.size W1 W))
                  case first =>
                    have Z0 := fun W hW => (HZ.out W hW).1
                    have Z1 := fun W hW => (HZ.out W hW).2.1
                    have Z2 := fun W hW => (HZ.out W hW).2.2.1
                    have Z3 := fun W hW => (HZ.out W hW).2.2.2.1
                    have Z4 := fun W hW => (HZ.out W hW).2.2.2.2
                    go_region_held3 (fun W => Below W1.heap.size W1 W)
                      (first | (refine (Below.setCell (p := ⟨_, 0, none⟩) ?_ (by simp) _).setCell (p := ⟨_, 1, none⟩) (by simp) _; (repeat (first | exact Below.refl _ _ | assumption | apply below_alloc | refine Below.drew ?_ | refine below_step ?_ hb7)); done) | ((repeat (first | exact Below.refl _ _ | assumption | apply below_alloc | refine Below.drew ?_ | refine below_step ?_ hb7)); done))
                      (first | (go_at_call 57; (with_reducible refine (hj.out _).mono ?_); rintro e w7 ⟨x7, y7, rfl, hq7, hb7⟩; (first | (have y0 := cell_old hb7 (show (W1.alloc (.cells #[.int .i64 0, .int .i64 0] 83)).drew.cell? ⟨W1.heap.size, 0, none⟩ = some (.int .i64 0) by simp [go_sem]); have y1 := cell_old hb7 (show (W1.alloc (.cells #[.int .i64 0, .int .i64 0] 83)).drew.cell? ⟨W1.heap.size, 1, none⟩ = some (.int .i64 0) by simp [go_sem]); have f0 := frozen_old hb7 (by simp) (show (W1.alloc (.cells #[.int .i64 0, .int .i64 0] 83)).drew.frozen? ⟨W1.heap.size, 0, none⟩ = false by simp [go_sem]); have f1 := frozen_old hb7 (by simp) (show (W1.alloc (.cells #[.int .i64 0, .int .i64 0] 83)).drew.frozen? ⟨W1.heap.size, 1, none⟩ = false by simp [go_sem])) | skip)))
                    all_goals go_wp2
                    all_goals go_meet
                    · exact ⟨_, x7, y7, rfl, rfl, Lib.hid ⟨hq7, by simp [go_sem], by simp [go_sem], by assumption⟩⟩
                    · exact ⟨_, x7, y7, rfl, rfl, Lib.hid ⟨hq7, by simp [go_sem, y0], by simp [go_sem, y1], by assumption⟩⟩
                  case rest =>
                  obtain ⟨gb, x, y, rfl, rfl, HJ⟩ := hcut
                  obtain ⟨wd, hwd⟩ : ∃ W, W = wc := ⟨_, rfl⟩
                  rw [← hwd] at HJ ⊢
                  clear hwd wc
                  have HBD2 := Lib.hid (HBW.out.trans (HJ.out.2.2.2.mono HBW.out.size))
                  clear HZ hj
                  cases oj with
                  | none =>
                    have hrn := Lib.hid (hnn.out (by rw [hst2.out]; rfl))
                    replace HBW := HBD2
                    clear HJ
                    have hblk := HX.out _ (show Below w0.heap.size w0 _ from HBW.out)
                    have y0 := (Go.Joins.cell_of_block hblk 0).trans rfl
                    have y1 := (Go.Joins.cell_of_block hblk 1).trans rfl
                    have f0 := Go.Joins.unfrozen_of_block hblk 0
                    have f1 := Go.Joins.unfrozen_of_block hblk 1
                    have HFB := Lib.hid (((hB.out.trans (HBW.out.mono hB.out.size)).setCell (p := ⟨w.heap.size, 0, none⟩) (Nat.le_refl _) (.int .i64 0)).setCell (p := ⟨w.heap.size, 1, none⟩) (Nat.le_refl _) (.int .i64 0))
                    clear hblk
                    go_wp2
                    refine bodyPost_ret (v := .tuple #[.agg #[.int .i64 0, .int .i64 0], .bool false]) (by simp [results, Try.results44, go_sem, y0, y1]) rfl ?_
                    rw [hrn.out]
                    exact ⟨_, _, rfl, (fun q hq => by cases hq), HFB.out⟩
                  | some p =>
                    obtain rfl := HJ.out.1 p rfl
                    have HSU2 : Hid (runT ds (ns.take (k + 1)) = some ((x, y) :: st2)) := by show _ = _; rw [HSU.out, hst2.out]; rfl
                    have e0 := HJ.out.2.1
                    have e1 := HJ.out.2.2.1
                    have hqc2 : (q : Int) ≤ (c2 : Int) := by omega
                    have hO3 := ownsRow_below hO.out ((HB1.out.trans (HJ.out.2.2.2.mono HB1.out.size)))
                    have hO4 := row_take hO3 (m := q) (by omega)
                    have hO5 : Hid (wd.drew.ownsRow w0.heap.size 83 2 (.slice (some ⟨g2, 0, none⟩) q c2) q (ofW st2.reverse)) := by
                      rw [htk.out] at hO4
                      exact Lib.hid hO4
                    have hm3 := Lib.hid (show q + 1 ≤ maxLen by unfold maxLen; omega)
                    have hm4 := Lib.hid (show (q + 1) * 16 ≤ 140737488355328 by omega)
                    have hZ := Lib.hid (show w0.heap.size ≤ wd.drew.heap.size from HBD2.out.size)
                    clear hO3 hO4 HJ
                    go_upto_region 18 with fail
                    go_region_law (first | (refine step_append_many (by rfl) _ _ 106 (by rfl) w0.heap.size 83 (.agg #[.int .i64 0, .int .i64 0]) 2 16 Try.underlying106 infoW rfl (by decide) _ _ _ #[.int .i64 x, .int .i64 y] rfl hO5.out (by rfl) (by rfl) (by intro u hu; simp at hu; rcases hu with rfl | rfl <;> rfl) hm3.out hm4.out hZ.out ?_; intro v' w4 hown4 hg4; obtain ⟨a5, c5, rfl⟩ := ownsRow_form' hown4))
                    all_goals
                      have hnew : Hid (StkSt w0 ds ns (k + 1) ((x, y) :: st2) (.slice a5 (q + 1) c5) w4) := by
                        refine Lib.hid ⟨HSU2.out, ?_, Below.grownRow HBD2.out.drew hO5.out hg4 hZ.out⟩
                        rw [List.reverse_cons, ofW_append, List.length_cons, HQL.out]
                        exact hown4
                      clear hown4 hg4
                      go_wp2
                      go_roundw
                      case rel => exact ⟨k + 1, _, _, by omega, by go_num, rfl, hnew⟩
                      case measure => simp [intOf]; omega
            · have bv : (vl != 0) = true := by simpa using hv
              have hrn := Lib.hid (hnn.out (by unfold stepT; dsimp only; simp [hv]))
              rw [hW1] at HBW
              clear hv hW1
              have hblk := HX.out _ (show Below w0.heap.size w0 _ from HBW.out)
              have y0 := (Go.Joins.cell_of_block hblk 0).trans rfl
              have y1 := (Go.Joins.cell_of_block hblk 1).trans rfl
              have f0 := Go.Joins.unfrozen_of_block hblk 0
              have f1 := Go.Joins.unfrozen_of_block hblk 1
              have HFB := Lib.hid (((hB.out.trans (HBW.out.mono hB.out.size)).setCell (p := ⟨w.heap.size, 0, none⟩) (Nat.le_refl _) (.int .i64 0)).setCell (p := ⟨w.heap.size, 1, none⟩) (Nat.le_refl _) (.int .i64 0))
              clear hblk
              go_wp2
              refine bodyPost_ret (v := .tuple #[.agg #[.int .i64 0, .int .i64 0], .bool false]) (by simp [results, Try.results44, go_sem, y0, y1]) rfl ?_
              rw [hrn.out]
              exact ⟨_, _, rfl, (fun q hq => by cases hq), HFB.out⟩
          · by_cases hv : vl = 0
            · subst hv
              cases he : emptyB s with
              | false =>
                rw [he] at hes
                have hrn := Lib.hid (hnn.out (by unfold stepT; dsimp only; rw [he]; simp))
                rw [hW1] at HBW
                clear he hW1
                have hblk := HX.out _ (show Below w0.heap.size w0 _ from HBW.out)
                have y0 := (Go.Joins.cell_of_block hblk 0).trans rfl
                have y1 := (Go.Joins.cell_of_block hblk 1).trans rfl
                have f0 := Go.Joins.unfrozen_of_block hblk 0
                have f1 := Go.Joins.unfrozen_of_block hblk 1
                have HFB := Lib.hid (((hB.out.trans (HBW.out.mono hB.out.size)).setCell (p := ⟨w.heap.size, 0, none⟩) (Nat.le_refl _) (.int .i64 0)).setCell (p := ⟨w.heap.size, 1, none⟩) (Nat.le_refl _) (.int .i64 0))
                clear hblk
                go_wp2
                refine bodyPost_ret (v := .tuple #[.agg #[.int .i64 0, .int .i64 0], .bool false]) (by simp [results, Try.results44, go_sem, y0, y1]) rfl ?_
                rw [hrn.out]
                exact ⟨_, _, rfl, (fun q hq => by cases hq), HFB.out⟩
              | true =>
                rw [he] at hes
                rcases st with _ | ⟨b2, _ | ⟨a2, st2⟩⟩
                · have hrn := Lib.hid (hnn.out (by unfold stepT; dsimp only; rw [he]; simp))
                  obtain ⟨ao, co, rfl⟩ := ownsRow_form' H.out.2.1
                  rw [hW1] at HBW
                  clear he hW1
                  have hblk := HX.out _ (show Below w0.heap.size w0 _ from HBW.out)
                  have y0 := (Go.Joins.cell_of_block hblk 0).trans rfl
                  have y1 := (Go.Joins.cell_of_block hblk 1).trans rfl
                  have f0 := Go.Joins.unfrozen_of_block hblk 0
                  have f1 := Go.Joins.unfrozen_of_block hblk 1
                  have HFB := Lib.hid (((hB.out.trans (HBW.out.mono hB.out.size)).setCell (p := ⟨w.heap.size, 0, none⟩) (Nat.le_refl _) (.int .i64 0)).setCell (p := ⟨w.heap.size, 1, none⟩) (Nat.le_refl _) (.int .i64 0))
                  clear hblk
                  go_wp2
                  refine bodyPost_ret (v := .tuple #[.agg #[.int .i64 0, .int .i64 0], .bool false]) (by simp [results, Try.results44, go_sem, y0, y1]) rfl ?_
                  rw [hrn.out]
                  exact ⟨_, _, rfl, (fun q hq => by cases hq), HFB.out⟩
                · have hrn := Lib.hid (hnn.out (by unfold stepT; dsimp only; rw [he]; simp))
                  obtain ⟨ao, co, rfl⟩ := ownsRow_form' H.out.2.1
                  rw [hW1] at HBW
                  clear he hW1
                  have hblk := HX.out _ (show Below w0.heap.size w0 _ from HBW.out)
                  have y0 := (Go.Joins.cell_of_block hblk 0).trans rfl
                  have y1 := (Go.Joins.cell_of_block hblk 1).trans rfl
                  have f0 := Go.Joins.unfrozen_of_block hblk 0
                  have f1 := Go.Joins.unfrozen_of_block hblk 1
                  have HFB := Lib.hid (((hB.out.trans (HBW.out.mono hB.out.size)).setCell (p := ⟨w.heap.size, 0, none⟩) (Nat.le_refl _) (.int .i64 0)).setCell (p := ⟨w.heap.size, 1, none⟩) (Nat.le_refl _) (.int .i64 0))
                  clear hblk
                  go_wp2
                  refine bodyPost_ret (v := .tuple #[.agg #[.int .i64 0, .int .i64 0], .bool false]) (by simp [results, Try.results44, go_sem, y0, y1]) rfl ?_
                  rw [hrn.out]
                  exact ⟨_, _, rfl, (fun q hq => by cases hq), HFB.out⟩
                · obtain ⟨q, hq⟩ : ∃ q, st2.length = q := ⟨_, rfl⟩
                  have hlen : (b2 :: a2 :: st2).length = q + 2 := by simp [hq]
                  have hown := H.out.2.1
                  rw [hlen] at hown hstk
                  have hq400 : q + 2 ≤ 400 := by have := hstk.out; have := HN4.out; omega
                  obtain ⟨g2, c2, rfl, hqc, hc63, hcell⟩ := row_some hown (by omega)
                  have hrev : (b2 :: a2 :: st2).reverse = st2.reverse ++ a2 :: [b2] := by simp
                  have hca := ofW_at st2.reverse [b2] a2
                  have hcb := ofW_at (st2.reverse ++ [a2]) [] b2
                  rw [List.append_assoc, List.singleton_append, List.length_append, List.length_reverse, hq, List.length_singleton] at hcb
                  rw [List.length_reverse, hq] at hca
                  rw [← hrev] at hca hcb
                  have z0 := cell_old HB1.out (hcell _ _ hca.1)
                  have z1 := cell_old HB1.out (hcell _ _ hca.2)
                  have z2 := cell_old HB1.out (hcell _ _ hcb.1)
                  have z3 := cell_old HB1.out (hcell _ _ hcb.2)
                  have x0' : W1.cell? ⟨wr.heap.size, 0, none⟩ = some (.int .i64 16) := by rw [hW1]; simp [go_sem]
                  have HZ := Lib.hid (show ∀ W, Below W1.heap.size W1 W → W.cell? ⟨g2, q * 2, none⟩ = some (.int .i64 a2.1) ∧ W.cell? ⟨g2, q * 2 + 1, none⟩ = some (.int .i64 a2.2) ∧ W.cell? ⟨g2, (q + 1) * 2, none⟩ = some (.int .i64 b2.1) ∧ W.cell? ⟨g2, (q + 1) * 2 + 1, none⟩ = some (.int .i64 b2.2) ∧ W.cell? ⟨wr.heap.size, 0, none⟩ = some (.int .i64 16) from fun W hW => ⟨cell_old hW z0, cell_old hW z1, cell_old hW z2, cell_old hW z3, cell_old hW x0'⟩)
                  have hbs := runT_bnd HBD.out ns k (by rw [HN.out]; exact hk) _ H.out.1
                  have hj := Lib.hid (fun W => joinWires_any 16 (by decide) a2 b2 (hbs a2 (by simp)) (hbs b2 (by simp)) W)
                  have htk : Hid ((ofW ((b2 :: a2 :: st2).reverse)).take (q * 2) = ofW st2.reverse) := by
                    have := ofW_take st2.reverse (a2 :: [b2])
                    rw [← hrev, List.length_reverse, hq] at this
                    exact Lib.hid this
                  have hst2 : Hid (stepT ds (b2 :: a2 :: st2) ⟨16, 0, s⟩ = (joinW 16 a2 b2).map (· :: st2)) := by show _ = _; unfold stepT; dsimp only; rw [he]; simp
                  have hO := Lib.hid hown
                  obtain ⟨oj, hoj⟩ : ∃ o, joinW 16 a2 b2 = o := ⟨_, rfl⟩
                  rw [hoj] at hj hst2
                  clear hoj
                  have hw1 : IntKind.i64.wrap ((q : Int) + 2 - 1) = (q : Int) + 1 := by rw [show (q : Int) + 2 - 1 = (q : Int) + 1 by omega]; exact IntWalk.i64_in _ (by omega)
                  have hw2 : IntKind.i64.wrap ((q : Int) + 1 - 1) = (q : Int) := by rw [show (q : Int) + 1 - 1 = (q : Int) by omega]; exact IntWalk.i64_in _ (by omega)
                  have hw3 : IntKind.i64.wrap (q : Int) = (q : Int) := IntWalk.i64_in _ (by omega)
                  have hl2 : decide ((q : Int) + 2 < 2) = false := by simp; omega
                  have hq0 : 0 ≤ (q : Int) := by omega
                  have hqs : (q : Int) < (q : Int) + 2 := by omega
                  have hqs1 : (q : Int) + 1 < (q : Int) + 2 := by omega
                  have hq1 : 0 ≤ (q : Int) + 1 := by omega
                  have HQL := Lib.hid hq
                  clear hown hca hcb hcell hrev hq hlen hbs he z0 z1 z2 z3 x0' hW1
                  go_upto_region 15 with fail
                  rw [← HW1.out]
                  go_cut [12, 13] (fun bx okv W => ∃ gb x y, bx = .pointer (some ⟨gb, 0, none⟩) ∧ okv = .bool oj.isSome ∧ Hid ((∀ p, oj = some p → (x, y) = p) ∧ W.cell? ⟨gb, 0, none⟩ = some (.int .i64 x) ∧ W.cell? ⟨gb, 1, none⟩ = some (.int .i64 y) ∧ Below W1.heap.size W1 W))
                  case first =>
                    have Z0 := fun W hW => (HZ.out W hW).1
                    have Z1 := fun W hW => (HZ.out W hW).2.1
                    have Z2 := fun W hW => (HZ.out W hW).2.2.1
                    have Z3 := fun W hW => (HZ.out W hW).2.2.2.1
                    have Z4 := fun W hW => (HZ.out W hW).2.2.2.2
                    go_region_held3 (fun W => Below W1.heap.size W1 W)
                      (first | (refine (Below.setCell (p := ⟨_, 0, none⟩) ?_ (by simp) _).setCell (p := ⟨_, 1, none⟩) (by simp) _; (repeat (first | exact Below.refl _ _ | assumption | apply below_alloc | refine Below.drew ?_ | refine below_step ?_ hb7)); done) | ((repeat (first | exact Below.refl _ _ | assumption | apply below_alloc | refine Below.drew ?_ | refine below_step ?_ hb7)); done))
                      (first | (go_at_call 57; (with_reducible refine (hj.out _).mono ?_); rintro e w7 ⟨x7, y7, rfl, hq7, hb7⟩; (first | (have y0 := cell_old hb7 (show (W1.alloc (.cells #[.int .i64 0, .int .i64 0] 83)).drew.cell? ⟨W1.heap.size, 0, none⟩ = some (.int .i64 0) by simp [go_sem]); have y1 := cell_old hb7 (show (W1.alloc (.cells #[.int .i64 0, .int .i64 0] 83)).drew.cell? ⟨W1.heap.size, 1, none⟩ = some (.int .i64 0) by simp [go_sem]); have f0 := frozen_old hb7 (by simp) (show (W1.alloc (.cells #[.int .i64 0, .int .i64 0] 83)).drew.frozen? ⟨W1.heap.size, 0, none⟩ = false by simp [go_sem]); have f1 := frozen_old hb7 (by simp) (show (W1.alloc (.cells #[.int .i64 0, .int .i64 0] 83)).drew.frozen? ⟨W1.heap.size, 1, none⟩ = false by simp [go_sem])) | skip)))
                    all_goals go_wp2
                    all_goals go_meet
                    · exact ⟨_, x7, y7, rfl, rfl, Lib.hid ⟨hq7, by simp [go_sem], by simp [go_sem], by assumption⟩⟩
                    · exact ⟨_, x7, y7, rfl, rfl, Lib.hid ⟨hq7, by simp [go_sem, y0], by simp [go_sem, y1], by assumption⟩⟩
                  case rest =>
                  obtain ⟨gb, x, y, rfl, rfl, HJ⟩ := hcut
                  obtain ⟨wd, hwd⟩ : ∃ W, W = wc := ⟨_, rfl⟩
                  rw [← hwd] at HJ ⊢
                  clear hwd wc
                  have HBD2 := Lib.hid (HBW.out.trans (HJ.out.2.2.2.mono HBW.out.size))
                  clear HZ hj
                  cases oj with
                  | none =>
                    have hrn := Lib.hid (hnn.out (by rw [hst2.out]; rfl))
                    replace HBW := HBD2
                    clear HJ
                    have hblk := HX.out _ (show Below w0.heap.size w0 _ from HBW.out)
                    have y0 := (Go.Joins.cell_of_block hblk 0).trans rfl
                    have y1 := (Go.Joins.cell_of_block hblk 1).trans rfl
                    have f0 := Go.Joins.unfrozen_of_block hblk 0
                    have f1 := Go.Joins.unfrozen_of_block hblk 1
                    have HFB := Lib.hid (((hB.out.trans (HBW.out.mono hB.out.size)).setCell (p := ⟨w.heap.size, 0, none⟩) (Nat.le_refl _) (.int .i64 0)).setCell (p := ⟨w.heap.size, 1, none⟩) (Nat.le_refl _) (.int .i64 0))
                    clear hblk
                    go_wp2
                    refine bodyPost_ret (v := .tuple #[.agg #[.int .i64 0, .int .i64 0], .bool false]) (by simp [results, Try.results44, go_sem, y0, y1]) rfl ?_
                    rw [hrn.out]
                    exact ⟨_, _, rfl, (fun q hq => by cases hq), HFB.out⟩
                  | some p =>
                    obtain rfl := HJ.out.1 p rfl
                    have HSU2 : Hid (runT ds (ns.take (k + 1)) = some ((x, y) :: st2)) := by show _ = _; rw [HSU.out, hst2.out]; rfl
                    have e0 := HJ.out.2.1
                    have e1 := HJ.out.2.2.1
                    have hqc2 : (q : Int) ≤ (c2 : Int) := by omega
                    have hO3 := ownsRow_below hO.out ((HB1.out.trans (HJ.out.2.2.2.mono HB1.out.size)))
                    have hO4 := row_take hO3 (m := q) (by omega)
                    have hO5 : Hid (wd.drew.ownsRow w0.heap.size 83 2 (.slice (some ⟨g2, 0, none⟩) q c2) q (ofW st2.reverse)) := by
                      rw [htk.out] at hO4
                      exact Lib.hid hO4
                    have hm3 := Lib.hid (show q + 1 ≤ maxLen by unfold maxLen; omega)
                    have hm4 := Lib.hid (show (q + 1) * 16 ≤ 140737488355328 by omega)
                    have hZ := Lib.hid (show w0.heap.size ≤ wd.drew.heap.size from HBD2.out.size)
                    clear hO3 hO4 HJ
                    go_upto_region 18 with fail
                    go_region_law (first | (refine step_append_many (by rfl) _ _ 106 (by rfl) w0.heap.size 83 (.agg #[.int .i64 0, .int .i64 0]) 2 16 Try.underlying106 infoW rfl (by decide) _ _ _ #[.int .i64 x, .int .i64 y] rfl hO5.out (by rfl) (by rfl) (by intro u hu; simp at hu; rcases hu with rfl | rfl <;> rfl) hm3.out hm4.out hZ.out ?_; intro v' w4 hown4 hg4; obtain ⟨a5, c5, rfl⟩ := ownsRow_form' hown4))
                    all_goals
                      have hnew : Hid (StkSt w0 ds ns (k + 1) ((x, y) :: st2) (.slice a5 (q + 1) c5) w4) := by
                        refine Lib.hid ⟨HSU2.out, ?_, Below.grownRow HBD2.out.drew hO5.out hg4 hZ.out⟩
                        rw [List.reverse_cons, ofW_append, List.length_cons, HQL.out]
                        exact hown4
                      clear hown4 hg4
                      go_wp2
                      go_roundw
                      case rel => exact ⟨k + 1, _, _, by omega, by go_num, rfl, hnew⟩
                      case measure => simp [intOf]; omega
            · have bv : (vl != 0) = true := by simpa using hv
              have hrn := Lib.hid (hnn.out (by unfold stepT; dsimp only; simp [hv]))
              rw [hW1] at HBW
              clear hv hW1
              have hblk := HX.out _ (show Below w0.heap.size w0 _ from HBW.out)
              have y0 := (Go.Joins.cell_of_block hblk 0).trans rfl
              have y1 := (Go.Joins.cell_of_block hblk 1).trans rfl
              have f0 := Go.Joins.unfrozen_of_block hblk 0
              have f1 := Go.Joins.unfrozen_of_block hblk 1
              have HFB := Lib.hid (((hB.out.trans (HBW.out.mono hB.out.size)).setCell (p := ⟨w.heap.size, 0, none⟩) (Nat.le_refl _) (.int .i64 0)).setCell (p := ⟨w.heap.size, 1, none⟩) (Nat.le_refl _) (.int .i64 0))
              clear hblk
              go_wp2
              refine bodyPost_ret (v := .tuple #[.agg #[.int .i64 0, .int .i64 0], .bool false]) (by simp [results, Try.results44, go_sem, y0, y1]) rfl ?_
              rw [hrn.out]
              exact ⟨_, _, rfl, (fun q hq => by cases hq), HFB.out⟩
        · have b15 : (kd != 15) = true := by simp; omega
          have b16 : (kd != 16) = true := by simp; omega
          have hst2 : Hid (stepT ds st ⟨kd, vl, s⟩ = (wireOf ds ⟨kd, vl, s⟩).map (· :: st)) := by show _ = _; unfold stepT; rw [if_neg h15]
          have hcall := Lib.hid (typingIn1_any ⟨kd, vl, s⟩ ds g b hsz W1 (HT.out.below (hbk.trans (hb1.mono hbk.size))))
          dsimp only at hcall
          clear h15 hbk hb1 hW1
          go_wp2_with fail
          rw [← HW1.out]
          refine hcall.out.mono ?_
          rintro e w2 ⟨p1, p2, rfl, hq, hb2⟩
          obtain ⟨w3, hw3⟩ : ∃ W, W = w2.alloc (.cells #[.int .i64 p1, .int .i64 p2] 83) := ⟨_, rfl⟩
          have hb3 : Below w2.heap.size w2 w3 := by rw [hw3]; exact (Below.refl _ _).alloc (Nat.le_refl _) _
          have hb13 : Below wr.heap.size wr w3 := HB1.out.trans ((hb2.trans (hb3.mono hb2.size)).mono HB1.out.size)
          have HBW := Lib.hid (H.out.2.2.trans (hb13.mono H.out.2.2.size))
          have HQ := Lib.hid hq
          have HW3 := Lib.hid hw3
          have HB13 := Lib.hid hb13
          clear x0 x1 x2 hb2 hb3 hq hb13
          cases ho : wireOf ds ⟨kd, vl, s⟩ with
          | none =>
            have hrn := Lib.hid (hnn.out (by rw [hst2.out, ho]; rfl))
            clear ho
            rw [hw3] at HBW
            clear hw3
            have hblk := HX.out _ (show Below w0.heap.size w0 _ from HBW.out)
            have y0 := (Go.Joins.cell_of_block hblk 0).trans rfl
            have y1 := (Go.Joins.cell_of_block hblk 1).trans rfl
            have f0 := Go.Joins.unfrozen_of_block hblk 0
            have f1 := Go.Joins.unfrozen_of_block hblk 1
            have HFB := Lib.hid (((hB.out.trans (HBW.out.mono hB.out.size)).setCell (p := ⟨w.heap.size, 0, none⟩) (Nat.le_refl _) (.int .i64 0)).setCell (p := ⟨w.heap.size, 1, none⟩) (Nat.le_refl _) (.int .i64 0))
            clear hblk
            go_wp2
            refine bodyPost_ret (v := .tuple #[.agg #[.int .i64 0, .int .i64 0], .bool false]) (by simp [results, Try.results44, go_sem, y0, y1]) rfl ?_
            rw [hrn.out]
            exact ⟨_, _, rfl, (fun q hq => by cases hq), HFB.out⟩
          | some p =>
            obtain rfl := HQ.out p ho
            have HSU2 : Hid (runT ds (ns.take (k + 1)) = some ((p1, p2) :: st)) := by show _ = _; rw [HSU.out, hst2.out, ho]; rfl
            have hO3 := Lib.hid (ownsRow_below H.out.2.1 HB13.out)
            have hsW := Lib.hid (show w3.heap.size = w2.heap.size + 1 by rw [hw3]; simp)
            have hZ := Lib.hid (show w0.heap.size ≤ w3.heap.size from HBW.out.size)
            have hm3 := Lib.hid (show st.length + 1 ≤ maxLen by have := hstk.out; have := HN4.out; unfold maxLen; omega)
            have hm4 := Lib.hid (show (st.length + 1) * 16 ≤ 140737488355328 by have := hstk.out; have := HN4.out; omega)
            rw [hw3] at hO3 hsW hZ
            clear hw3 ho
            go_wp2_with (at_builtin; go_must (refine wpList_append_many rfl _ _ 106 rfl w0.heap.size 83 (.agg #[.int .i64 0, .int .i64 0]) 2 16 Try.underlying106 infoW rfl (by decide) _ _ _ #[.int .i64 p1, .int .i64 p2] rfl hO3.out rfl (by rw [hsW.out]; rfl) (by intro u hu; simp at hu; rcases hu with rfl | rfl <;> rfl) hm3.out hm4.out hZ.out ?_); intro v' w4 hown4 hg4; obtain ⟨a5, c5, rfl⟩ := ownsRow_form' hown4)
            have hnew : Hid (StkSt w0 ds ns (k + 1) ((p1, p2) :: st) (.slice a5 (st.length + 1) c5) w4) := by
              refine Lib.hid ⟨HSU2.out, ?_, Below.grownRow (by rw [HW3.out] at HBW; exact HBW.out) hO3.out hg4 hZ.out⟩
              rw [List.reverse_cons, ofW_append]
              exact hown4
            clear hown4 hg4
            go_wp2
            go_roundw
            case rel => exact ⟨k + 1, _, _, by omega, by go_num, rfl, hnew⟩
            case measure => simp [intOf]; omega
      · obtain rfl : k = n := by omega
        have hrun := H.out.1
        have hpos := (runT_pos ns k (by rw [HN.out]; exact hk) st H.out.1).1 HN4.out.1
        rw [← HN.out, List.take_length] at hrun
        obtain ⟨z, l, hzl⟩ : ∃ z l, st.reverse = z :: l := by
          cases h : st.reverse with
          | nil => simp at h; subst h; simp at hpos
          | cons z l => exact ⟨z, l, rfl⟩
        obtain ⟨g2, c2, rfl, _, _, hcell⟩ := row_some H.out.2.1 hpos
        have z0 := hcell 0 (.int .i64 z.1) (by rw [hzl]; rfl)
        have z1 := hcell 1 (.int .i64 z.2) (by rw [hzl]; rfl)
        have hrs : Hid (r.isSome = ((st.length : Int) == 1) ∧ ∀ q, r = some q → (z.1, z.2) = q) := by
          rw [← HR.out]
          exact Lib.hid (typeOf_end (by rw [HN.out]; exact HN4.out) hrun hzl)
        obtain ⟨m, hm⟩ : ∃ m, st.length = m := ⟨_, rfl⟩
        rw [hm] at hrs hpos
        rw [hm]
        have hm0 : 0 < (m : Int) := by omega
        have hblk := HX.out wr H.out.2.2
        have y0 := (Go.Joins.cell_of_block hblk 0).trans rfl
        have y1 := (Go.Joins.cell_of_block hblk 1).trans rfl
        have f0 := Go.Joins.unfrozen_of_block hblk 0
        have f1 := Go.Joins.unfrozen_of_block hblk 1
        have HFB := Lib.hid (((hB.out.trans (H.out.2.2.mono hB.out.size)).setCell (p := ⟨w.heap.size, 0, none⟩) (Nat.le_refl _) (.int .i64 z.1)).setCell (p := ⟨w.heap.size, 1, none⟩) (Nat.le_refl _) (.int .i64 z.2))
        clear hblk hcell hrun hzl hm H
        go_wp2
        refine bodyPost_ret (v := .tuple #[.agg #[.int .i64 z.1, .int .i64 z.2], .bool ((m : Int) == 1)]) (by simp [results, Try.results44, go_sem, y0, y1]) rfl ?_
        exact ⟨_, _, by rw [hrs.out.1], hrs.out.2, HFB.out⟩

end Ints
end Go.Proofs.Ytoegbphkheohoaa
