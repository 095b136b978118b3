/- IdentityGraph, both. (Printed by wip/gen_idg.py.) -/
import Derived.Test.YtimjlcnljefbbaaGraphN
import Derived.Test.YtimjlcnljefbbaaMem4
import Derived.Deep.RegionHeld3
import Derived.Deep.DeepCutAuto
import Derived.Test.YtimjlcnljefbbaaPred
import Derived.Test.YtimjlcnljefbbaaLawBase
import Derived.IntWalk
namespace Go.Proofs.Ytimjlcnljefbbaa
open Go.RowKit
namespace Ints

/-- The numbers from 0 to n-1. -/
def upL (n : Nat) : List Int := rowT n fun j => (j : Int)
theorem upL_length (n : Nat) : (upL n).length = n := rowT_length _ _
theorem upL_succ (n : Nat) : ofL (upL (n + 1)) = ofL (upL n) ++ [.int .i64 (n : Int)] := by simp [upL, rowT, ofL, List.range_succ]
def igB (n : Int) : Bool := Fld.inR n 0 12
def igOut (n : Int) : List Int × List Int := if igB n then (upL n.toNat, upL n.toNat) else ([], [])
def igN (n : Int) : Int := if igB n then n else 0
theorem igB_parts {n : Int} (h : igB n = true) : ∃ m : Nat, n = m ∧ m ≤ 12 := by
  have := h
  unfold igB Fld.inR at this
  simp only [Bool.and_eq_true, decide_eq_true_eq] at this
  exact ⟨n.toNat, by omega, by omega⟩
theorem igOut_ctr (n : Int) : (1 : Int) + (sumP (igOut n) : Int) ≤ 1000000000 := by
  unfold igOut
  split
  · rename_i h
    obtain ⟨m, rfl, hm⟩ := igB_parts h
    simp only [sumP, Int.toNat_natCast, upL_length]
    omega
  · simp [sumP]

/-- A graph without edges in new memory; and whether there is one. -/
def NewGraphR (w : World) (c : Int) (L : List Int × List Int) (e : Ending) (w' : World) : Prop := ∃ u1 u2, e = .returned (.agg #[.int .i64 c, .slice none 0 0, u1, u2]) ∧ OwnsP (w.heap.size ≤ ·) w' u1 u2 L ∧ Below w.heap.size w w'
def OptGraphR (w : World) (b : Bool) (c : Int) (L : List Int × List Int) (e : Ending) (w' : World) : Prop :=
  ∃ u1 u2, e = .returned (.tuple #[.agg #[.int .i64 c, .slice none 0 0, u1, u2], .bool b]) ∧ OwnsP (w.heap.size ≤ ·) w' u1 u2 L ∧ Below w.heap.size w w'
theorem four_chg (W : World) (b : Nat) (x y z u : Value) : Chg (fun g => g = b) W ((((W.setCell ⟨b, 0, none⟩ x).setCell ⟨b, 1, none⟩ y).setCell ⟨b, 2, none⟩ z).setCell ⟨b, 3, none⟩ u) :=
  (((Chg.set1 W ⟨b, 0, none⟩ x).setCell (p := ⟨b, 1, none⟩) (fun _ => rfl) y).setCell (p := ⟨b, 2, none⟩) (fun _ => rfl) z).setCell (p := ⟨b, 3, none⟩) (fun _ => rfl) u
theorem optGraphR_none {w w1 : World} {b : Nat} (h1 : Below w.heap.size w w1) (hb : w.heap.size ≤ b) :
    OptGraphR w false 0 ([], []) (.returned (.tuple #[.agg #[.int .i64 0, .slice none 0 0, .slice none 0 0, .slice none 0 0], .bool false])) ((((w1.setCell ⟨b, 0, none⟩ (.int .i64 0)).setCell ⟨b, 1, none⟩ (.slice none 0 0)).setCell ⟨b, 2, none⟩ (.slice none 0 0)).setCell ⟨b, 3, none⟩ (.slice none 0 0)) :=
  ⟨_, _, rfl, ownsP_nil _ _, h1.trans ((four_chg w1 b _ _ _ _).below h1.size fun g e => by omega)⟩
theorem optGraphR_put {w w1 w2 : World} {b : Nat} {c : Int} {u1 u2 : Value} {L : List Int × List Int} (h1 : Below w.heap.size w w1) (h2 : Below w1.heap.size w1 w2) (ho : OwnsP (w1.heap.size ≤ ·) w2 u1 u2 L) (hb : w.heap.size ≤ b) (hs : b < w1.heap.size) :
    OptGraphR w true c L (.returned (.tuple #[.agg #[.int .i64 c, .slice none 0 0, u1, u2], .bool true])) ((((w2.setCell ⟨b, 0, none⟩ (.int .i64 c)).setCell ⟨b, 1, none⟩ (.slice none 0 0)).setCell ⟨b, 2, none⟩ u1).setCell ⟨b, 3, none⟩ u2) := by
  have hc2 := four_chg w2 b (.int .i64 c) (.slice none 0 0) u1 u2
  have s1 := h1.size
  have s2 := h2.size
  exact ⟨_, _, rfl, (ho.chg hc2 fun g hg e => by omega).mono fun g hg => by omega, (h1.trans (h2.mono s1)).trans (hc2.below (by omega) fun g e => by omega)⟩
theorem newGraphR_put {w w2 : World} {b : Nat} {c : Int} {u1 u2 : Value} {L : List Int × List Int} (h2 : Below w.heap.size w w2) (ho : OwnsP (fun g => w.heap.size ≤ g ∧ g ≠ b) w2 u1 u2 L) (hb : w.heap.size ≤ b) :
    NewGraphR w c L (.returned (.agg #[.int .i64 c, .slice none 0 0, u1, u2])) ((((w2.setCell ⟨b, 0, none⟩ (.int .i64 c)).setCell ⟨b, 1, none⟩ (.slice none 0 0)).setCell ⟨b, 2, none⟩ u1).setCell ⟨b, 3, none⟩ u2) := by
  have hc2 := four_chg w2 b (.int .i64 c) (.slice none 0 0) u1 u2
  exact ⟨_, _, rfl, (ho.chg hc2 fun g hg e => hg.2 e).mono fun g hg => hg.1, h2.trans (hc2.below h2.size fun g e => by omega)⟩

set_option maxHeartbeats 1000000 in
theorem upTo_any (n : Nat) (hn : n ≤ 1000) (w : World) : Calls Try.prog 75 #[.int .i64 n] w (NewI w (upL n)) := by
  have hcall := Lib.hid (zeros_any n hn w)
  go_enter Try.func75, Try.ntmps75
  go_wp2_with fail
  refine hcall.out.mono ?_
  rintro e w1 ⟨v1, rfl, ho, hf, hb⟩
  rw [rowT_length] at ho
  obtain ⟨a, c, rfl⟩ := ho.form
  have ho0 : Hid (Owns w1 3 1 (.slice a n c) n (ofL (part n 0 (fun j => (j : Int)) fun _ => 0))) := by show Owns _ _ _ _ _ _; rw [part_zero]; exact ho
  have HF := Lib.hid hf
  have HB := Lib.hid hb
  clear ho hf hb hcall
  go_wp2
  go_loopw [9] (fun i wr => ∃ k : Nat, k ≤ n ∧ i = .int .i64 k ∧ Owns wr 3 1 (.slice a n c) n (ofL (part n k (fun j => (j : Int)) fun _ => 0)) ∧ Below w.heap.size w wr) (fun i _ => n + 1 - (intOf i).toNat)
  case atStart => exact ⟨0, by omega, rfl, ho0.out, HB.out⟩
  case round =>
    obtain ⟨k, hk, rfl, ho, hbw⟩ := hrel
    by_cases hlt : k < n
    · obtain ⟨_, a4, c4, e, _, hc4⟩ := open_owns ho
      simp only [Value.slice.injEq] at e
      obtain ⟨rfl, -, rfl⟩ := e
      obtain ⟨g, off, rfl, hg, hj⟩ := hc4 (by omega)
      have hx := (hj k hlt).1
      have hfr := (hj k hlt).2.1
      have hst := (hj k hlt).2.2 (k : Int)
      rw [part_set (f := fun j => (j : Int))] at hst
      have hfg : w.heap.size ≤ g := HF.out g (ofL_ne.2 (List.length_pos_iff.1 (by rw [rowT_length]; omega))) rfl
      have H1 := Lib.hid hst
      have H2 := Lib.hid (hbw.setCell (p := ⟨g, off + k, none⟩) hfg (.int .i64 k))
      generalize (part n k (fun j => (j : Int)) fun _ => 0)[k]?.getD 0 = x at *
      have hk0 : 0 ≤ (k : Int) := by omega
      have hkn : (k : Int) < (n : Int) := by omega
      clear ho hbw hc4 hj hst hfg hg
      go_wp2
      go_roundw
      case rel => exact ⟨k + 1, by omega, by go_num, H1.out, H2.out⟩
      case measure => simp [intOf]; omega
    · obtain rfl : k = n := by omega
      rw [part_end] at ho
      have hfin : Hid (NewI w (upL k) (.returned (.slice a k c)) wr) := ⟨_, rfl, ⟨by rw [upL_length]; exact ho, fun g hx hg => HF.out g (ofL_ne.2 (List.length_pos_iff.1 (by
        have := List.length_pos_iff.2 (ofL_ne.1 hx)
        rw [upL_length] at this
        rw [rowT_length]; exact this))) hg⟩, hbw⟩
      clear ho hbw
      go_wp2
      go_ret
      exact hfin.out

set_option maxHeartbeats 2000000 in
set_option maxRecDepth 100000 in
theorem identityGraph_any (n : Nat) (hn : n ≤ 12) (w : World) : Calls Try.prog 57 #[.int .i64 n] w (NewGraphR w n (upL n, upL n)) := by
  obtain ⟨w0, hw0⟩ : ∃ W, W = w.alloc (.cells #[.int .i64 0, .slice none 0 0, .slice none 0 0, .slice none 0 0] 49) := ⟨_, rfl⟩
  have hB : Below w.heap.size w w0 := by rw [hw0]; exact (Below.refl _ _).alloc (Nat.le_refl _) _
  have hs0 : w0.heap.size = w.heap.size + 1 := by rw [hw0]; simp
  have hup := Lib.hid (fun W => upTo_any n (by omega) W)
  have hul := Lib.hid (upL_length n)
  obtain ⟨U, hU⟩ : ∃ U, upL n = U := ⟨_, rfl⟩
  rw [hU] at hup hul ⊢
  have Q : Hid (∀ W, Below w0.heap.size w0 W → (W.cell? ⟨w.heap.size, 0, none⟩ = some (.int .i64 0) ∧ W.cell? ⟨w.heap.size, 1, none⟩ = some (.slice none 0 0) ∧ W.cell? ⟨w.heap.size, 2, none⟩ = some (.slice none 0 0) ∧ W.cell? ⟨w.heap.size, 3, none⟩ = some (.slice none 0 0)) ∧
      (W.frozen? ⟨w.heap.size, 0, none⟩ = false ∧ W.frozen? ⟨w.heap.size, 1, none⟩ = false ∧ W.frozen? ⟨w.heap.size, 2, none⟩ = false ∧ W.frozen? ⟨w.heap.size, 3, none⟩ = false)) := Lib.hid fun W hW =>
    ⟨⟨cell_old hW (by rw [hw0]; simp [go_sem]), cell_old hW (by rw [hw0]; simp [go_sem]), cell_old hW (by rw [hw0]; simp [go_sem]), cell_old hW (by rw [hw0]; simp [go_sem])⟩,
     frozen_old hW (by rw [hw0]; simp) (by rw [hw0]; simp [go_sem]), frozen_old hW (by rw [hw0]; simp) (by rw [hw0]; simp [go_sem]), frozen_old hW (by rw [hw0]; simp) (by rw [hw0]; simp [go_sem]), frozen_old hW (by rw [hw0]; simp) (by rw [hw0]; simp [go_sem])⟩
  have HW := Lib.hid hw0
  have HB := Lib.hid hB
  have HS := Lib.hid hs0
  clear hw0 hB hs0 hU
  go_enter Try.func57, Try.ntmps57
  go_wp2_with fail
  rw [← HW.out]
  refine (hup.out w0).mono ?_
  rintro e w1 ⟨v1, rfl, ho1, hb1⟩
  obtain ⟨a1, c1, rfl⟩ := ho1.reads.form
  have HO1 := Lib.hid ho1
  have HB1 := Lib.hid hb1
  clear ho1 hb1
  go_wp2_with fail
  refine (hup.out w1).mono ?_
  rintro e w2 ⟨v2, rfl, ho2, hb2⟩
  obtain ⟨a2, c2, rfl⟩ := ho2.reads.form
  have hb02 := below_step HB1.out hb2
  have hp := ownsP_two (S := fun g => w0.heap.size ≤ g) (L := (U, U)) HO1.out hb2 ho2 (fun g hg => Nat.le_trans HB1.out.size hg)
  obtain ⟨⟨q0, q1, q2, q3⟩, g0, g1, g2, g3⟩ := Q.out _ hb02
  have hfin := Lib.hid (newGraphR_put (w := w) (b := w.heap.size) (c := (n : Int)) (L := (U, U)) (HB.out.trans (hb02.mono HB.out.size)) (hp.mono fun g hg => by have := HS.out; omega) (Nat.le_refl _))
  clear ho2 hb2 hb02 hp
  go_wp2
  refine bodyPost_ret (v := .agg #[.int .i64 n, .slice none 0 0, .slice a1 U.length c1, .slice a2 U.length c2]) (by simp [results, Try.results57, go_sem, q0, q1, q2, q3]) rfl ?_
  exact hfin.out

/-- What a graph gathers: its two lists, each in a row of its own. -/
structure Duo (w1 : World) (b base k : Nat) (o2 o3 : Value) (X2 X3 : List Value) (j : Nat) (W : World) : Prop where
  own2 : W.ownsRow base 3 1 o2 k X2
  own3 : W.ownsRow base 3 1 o3 j X3
  ne : ∀ g, o2.ownBlock = some g → o3.ownBlock ≠ some g
  chg : Chg (fun g => g = b ∨ base ≤ g) w1 W
  hbase : base ≤ w1.heap.size
  hb : b < base
theorem Duo.push2 {w1 W w5 : World} {b base k j : Nat} {o2 o3 v5 : Value} {X2 X3 : List Value} {u : Value} (h : Duo w1 b base k o2 o3 X2 X3 j W) (hown5 : w5.ownsRow base 3 1 v5 (k + 1) (X2 ++ [u])) (hg5 : W.grownBy w5 o2.ownBlock) (hat : v5.ownBlock = o2.ownBlock ∨ v5.ownBlock = some (W.heap.size + 1)) (i : Nat) :
    Duo w1 b base (k + 1) v5 o3 (X2 ++ [u]) X3 j (w5.setCell ⟨b, i, none⟩ v5) ∧ (∀ {i' x}, W.cell? ⟨b, i', none⟩ = some x → w5.cell? ⟨b, i', none⟩ = some x) ∧ (∀ {i'}, W.frozen? ⟨b, i', none⟩ = false → w5.frozen? ⟨b, i', none⟩ = false) := by
  have hbs := h.hbase
  have hbb := h.hb
  have hsz := h.chg.size
  have hc5 := chg_of_grown hg5
  have hc6 := Chg.set1 w5 ⟨b, i, none⟩ v5
  have hoff : o2.ownBlock ≠ some b := fun e => by have := (h.own2.lt b e).1; omega
  have h3 : w5.ownsRow base 3 1 o3 j X3 := ownsRow_keep h.own3 hc5 fun g hg e => h.ne g e hg
  refine ⟨⟨ownsRow_keep hown5 hc6 fun g hg e => by have := (hown5.lt g hg).1; simp only at e; omega, ownsRow_keep h3 hc6 fun g hg e => by have := (h3.lt g hg).1; simp only at e; omega, fun g hg e => ?_, ?_, h.hbase, h.hb⟩, fun hx => hc5.keep hx hoff, fun hx => hc5.keepF hx (show b < W.heap.size by omega) hoff⟩
  · rcases hat with e1 | e1
    · exact h.ne g (e1 ▸ hg) e
    · rw [e1] at hg
      have := (h.own3.lt g e).2
      simp at hg
      omega
  · refine (h.chg.trans_new hc5 fun g hg e => .inr (h.own2.lt g e).1).trans (hc6.mono fun g _ e => .inl e)
theorem Duo.swap {w1 W : World} {b base k j : Nat} {o2 o3 : Value} {X2 X3 : List Value} (h : Duo w1 b base k o2 o3 X2 X3 j W) : Duo w1 b base j o3 o2 X3 X2 k W :=
  ⟨h.own3, h.own2, fun g h3 h2 => h.ne g h2 h3, h.chg, h.hbase, h.hb⟩

set_option maxHeartbeats 4000000 in
set_option maxRecDepth 100000 in
theorem hgId_any (n : Nat) (hn : n ≤ 12) (w : World) : Calls Try.prog 56 #[.int .i64 n] w (NewGraphR w n (upL n, upL n)) := by
  obtain ⟨w1, hw1⟩ : ∃ W, W = ((w.alloc (.cells #[.int .i64 0, .slice none 0 0, .slice none 0 0, .slice none 0 0] 49)).alloc (.cells #[.int .i64 n, .slice none 0 0, .slice none 0 0, .slice none 0 0] 49)) := ⟨_, rfl⟩
  have hB1 : Below w.heap.size w w1 := by rw [hw1]; exact ((Below.refl w.heap.size w).alloc (by simp) _).alloc (by simp) _
  have hs1 : w1.heap.size = w.heap.size + 2 := by rw [hw1]; simp
  have Q0 : w1.cell? ⟨w.heap.size, 0, none⟩ = some (.int .i64 0) := by rw [hw1]; simp [go_sem]
  have Q1 : w1.cell? ⟨w.heap.size, 1, none⟩ = some (.slice none 0 0) := by rw [hw1]; simp [go_sem]
  have Q2 : w1.cell? ⟨w.heap.size, 2, none⟩ = some (.slice none 0 0) := by rw [hw1]; simp [go_sem]
  have Q3 : w1.cell? ⟨w.heap.size, 3, none⟩ = some (.slice none 0 0) := by rw [hw1]; simp [go_sem]
  have G0 : w1.frozen? ⟨w.heap.size, 0, none⟩ = false := by rw [hw1]; simp [go_sem]
  have G1 : w1.frozen? ⟨w.heap.size, 1, none⟩ = false := by rw [hw1]; simp [go_sem]
  have G2 : w1.frozen? ⟨w.heap.size, 2, none⟩ = false := by rw [hw1]; simp [go_sem]
  have G3 : w1.frozen? ⟨w.heap.size, 3, none⟩ = false := by rw [hw1]; simp [go_sem]
  have O0 : w1.cell? ⟨w.heap.size + 1, 0, none⟩ = some (.int .i64 n) := by rw [hw1]; simp [go_sem]
  have O1 : w1.cell? ⟨w.heap.size + 1, 1, none⟩ = some (.slice none 0 0) := by rw [hw1]; simp [go_sem]
  have O2 : w1.cell? ⟨w.heap.size + 1, 2, none⟩ = some (.slice none 0 0) := by rw [hw1]; simp [go_sem]
  have O3 : w1.cell? ⟨w.heap.size + 1, 3, none⟩ = some (.slice none 0 0) := by rw [hw1]; simp [go_sem]
  have F2 : w1.frozen? ⟨w.heap.size + 1, 2, none⟩ = false := by rw [hw1]; simp [go_sem]
  have F3 : w1.frozen? ⟨w.heap.size + 1, 3, none⟩ = false := by rw [hw1]; simp [go_sem]
  have hD : Duo w1 (w.heap.size + 1) (w.heap.size + 2) 0 (.slice none 0 0) (.slice none 0 0) [] [] 0 w1 := ⟨World.ownsRow_nil _ _ _ _, World.ownsRow_nil _ _ _ _, fun g hg => by simp [Value.ownBlock] at hg, Chg.refl _ _, by omega, by omega⟩
  have HQ := Lib.hid (And.intro Q0 (And.intro Q1 (And.intro Q2 Q3)))
  have HGZ := Lib.hid (And.intro G0 (And.intro G1 (And.intro G2 G3)))
  have HO := Lib.hid (And.intro O0 (And.intro O1 (And.intro O2 (And.intro O3 (And.intro F2 F3)))))
  have HD := Lib.hid hD
  have HW := Lib.hid hw1
  have HB1 := Lib.hid hB1
  have HS := Lib.hid hs1
  have hfit := Lib.hid (show n ≤ maxLen by unfold maxLen; omega)
  clear hw1 hB1 hs1 Q0 Q1 Q2 Q3 G0 G1 G2 G3 O0 O1 O2 O3 F2 F3 hD
  go_enter Try.func56, Try.ntmps56
  go_wp2
  rw [← HW.out]
  go_loopw [4] (fun i wr => ∃ (k : Nat) (o2 o3 : Value), k ≤ n ∧ i = .int .i64 k ∧ Duo w1 (w.heap.size + 1) (w.heap.size + 2) k o2 o3 (ofL (upL k)) (ofL (upL k)) k wr ∧ wr.cell? ⟨w.heap.size + 1, 0, none⟩ = some (.int .i64 n) ∧ wr.cell? ⟨w.heap.size + 1, 1, none⟩ = some (.slice none 0 0) ∧ wr.cell? ⟨w.heap.size + 1, 2, none⟩ = some o2 ∧ wr.cell? ⟨w.heap.size + 1, 3, none⟩ = some o3 ∧ wr.frozen? ⟨w.heap.size + 1, 2, none⟩ = false ∧ wr.frozen? ⟨w.heap.size + 1, 3, none⟩ = false) (fun i _ => n + 1 - (intOf i).toNat)
  case atStart => exact ⟨0, _, _, by omega, rfl, HD.out, HO.out.1, HO.out.2.1, HO.out.2.2.1, HO.out.2.2.2.1, HO.out.2.2.2.2.1, HO.out.2.2.2.2.2⟩
  case round =>
    obtain ⟨k, o2, o3, hk, rfl, hD, o0, o1, p2, p3, f2, f3⟩ := hrel
    by_cases hlt : k < n
    · obtain ⟨a2, c2, rfl⟩ := ownsRow_form hD.own2
      obtain ⟨a3, c3, rfl⟩ := ownsRow_form hD.own3
      have hm3 := Lib.hid (show k + 1 ≤ maxLen by have := hfit.out; omega)
      have hm4 := Lib.hid (show (k + 1) * 8 ≤ 140737488355328 by omega)
      have HDD := Lib.hid hD
      have HO := Lib.hid (And.intro o0 (And.intro o1 (And.intro p2 (And.intro p3 (And.intro f2 f3)))))
      have hsz := Lib.hid (show w.heap.size + 2 ≤ wr.heap.size from Nat.le_trans hD.hbase hD.chg.size)
      have hk0 : 0 ≤ (k : Int) := by omega
      have hkn : (k : Int) < (n : Int) := by omega
      clear hD o0 o1 p3 f2 f3
      obtain ⟨W0, hW0⟩ : ∃ W, W = wr := ⟨_, rfl⟩
      rw [← hW0] at HDD HO hsz p2 ⊢
      clear hW0 wr
      go_upto_region 6 with (at_builtin; go_must (refine wpList_append_one_at rfl _ _ 36 rfl (w.heap.size + 2) 3 (.int .i64 0) 8 Try.underlying36 infoI rfl (.slice a2 k c2) k (ofL (upL k)) (.int .i64 k) HDD.out.own2 rfl rfl rfl hm3.out hm4.out hsz.out ?_); intro v5 w5 hown5 hg5 hat5; obtain ⟨a5, c5, rfl⟩ := ownsRow_form hown5; have hp5 := Lib.hid (HDD.out.push2 hown5 hg5 hat5 2); have z2 := hp5.out.2.1 HO.out.2.2.1; have zf := hp5.out.2.2 HO.out.2.2.2.2.1)
      have e0 := hp5.out.2.1 HO.out.1
      have e1 := hp5.out.2.1 HO.out.2.1
      have e3 := hp5.out.2.1 HO.out.2.2.2.1
      have t3 := hp5.out.2.2 HO.out.2.2.2.2.2
      have hd5 := hp5.out.1
      have y0 : (w5.setCell ⟨w.heap.size + 1, 2, none⟩ (.slice a5 (k + 1) c5)).cell? ⟨w.heap.size + 1, 0, none⟩ = some (.int .i64 n) := by simp [go_sem, e0]
      have y1 : (w5.setCell ⟨w.heap.size + 1, 2, none⟩ (.slice a5 (k + 1) c5)).cell? ⟨w.heap.size + 1, 1, none⟩ = some (.slice none 0 0) := by simp [go_sem, e1]
      have y2 : (w5.setCell ⟨w.heap.size + 1, 2, none⟩ (.slice a5 (k + 1) c5)).cell? ⟨w.heap.size + 1, 2, none⟩ = some (.slice a5 (k + 1) c5) := by simp [go_sem, z2]
      have y3 : (w5.setCell ⟨w.heap.size + 1, 2, none⟩ (.slice a5 (k + 1) c5)).cell? ⟨w.heap.size + 1, 3, none⟩ = some (.slice a3 k c3) := by simp [go_sem, e3]
      have yf2 : (w5.setCell ⟨w.heap.size + 1, 2, none⟩ (.slice a5 (k + 1) c5)).frozen? ⟨w.heap.size + 1, 2, none⟩ = false := by simp [go_sem, zf]
      have yf3 : (w5.setCell ⟨w.heap.size + 1, 2, none⟩ (.slice a5 (k + 1) c5)).frozen? ⟨w.heap.size + 1, 3, none⟩ = false := by simp [go_sem, t3]
      obtain ⟨W2, hW2⟩ : ∃ W, W = w5.setCell ⟨w.heap.size + 1, 2, none⟩ (.slice a5 (k + 1) c5) := ⟨_, rfl⟩
      rw [← hW2] at hd5 y0 y1 y2 y3 yf2 yf3
      have HD5 := Lib.hid hd5.swap
      have HY := Lib.hid (And.intro y0 (And.intro y1 (And.intro y2 (And.intro y3 (And.intro yf2 yf3)))))
      have hsz2 := Lib.hid (show w.heap.size + 2 ≤ W2.heap.size from Nat.le_trans hd5.hbase hd5.chg.size)
      have HW2 := Lib.hid hW2
      clear hown5 hg5 hat5 hp5 z2 zf e0 e1 e3 t3 hd5 y0 y1 y2 yf2 yf3 hW2 p2
      rw [← HW2.out]
      go_wp2_with (at_builtin; go_must (refine wpList_append_one_at rfl _ _ 36 rfl (w.heap.size + 2) 3 (.int .i64 0) 8 Try.underlying36 infoI rfl (.slice a3 k c3) k (ofL (upL k)) (.int .i64 k) HD5.out.own2 rfl rfl rfl hm3.out hm4.out hsz2.out ?_); intro v6 w6 hown6 hg6 hat6; obtain ⟨a6, c6, rfl⟩ := ownsRow_form hown6; have hp6 := Lib.hid (HD5.out.push2 hown6 hg6 hat6 3); have z3 := hp6.out.2.1 HY.out.2.2.2.1; have zf := hp6.out.2.2 HY.out.2.2.2.2.2)
      have e0 := hp6.out.2.1 HY.out.1
      have e1 := hp6.out.2.1 HY.out.2.1
      have e2 := hp6.out.2.1 HY.out.2.2.1
      have t2 := hp6.out.2.2 HY.out.2.2.2.2.1
      have hd6 := hp6.out.1.swap
      rw [← upL_succ] at hd6
      have H1 := Lib.hid hd6
      have x0 := Lib.hid (show (w6.setCell ⟨w.heap.size + 1, 3, none⟩ (.slice a6 (k + 1) c6)).cell? ⟨w.heap.size + 1, 0, none⟩ = some (.int .i64 n) by simp [go_sem, e0])
      have x1 := Lib.hid (show (w6.setCell ⟨w.heap.size + 1, 3, none⟩ (.slice a6 (k + 1) c6)).cell? ⟨w.heap.size + 1, 1, none⟩ = some (.slice none 0 0) by simp [go_sem, e1])
      have x2 := Lib.hid (show (w6.setCell ⟨w.heap.size + 1, 3, none⟩ (.slice a6 (k + 1) c6)).cell? ⟨w.heap.size + 1, 2, none⟩ = some (.slice a5 (k + 1) c5) by simp [go_sem, e2])
      have x3 := Lib.hid (show (w6.setCell ⟨w.heap.size + 1, 3, none⟩ (.slice a6 (k + 1) c6)).cell? ⟨w.heap.size + 1, 3, none⟩ = some (.slice a6 (k + 1) c6) by simp [go_sem, z3])
      have xf2 := Lib.hid (show (w6.setCell ⟨w.heap.size + 1, 3, none⟩ (.slice a6 (k + 1) c6)).frozen? ⟨w.heap.size + 1, 2, none⟩ = false by simp [go_sem, t2])
      have xf3 := Lib.hid (show (w6.setCell ⟨w.heap.size + 1, 3, none⟩ (.slice a6 (k + 1) c6)).frozen? ⟨w.heap.size + 1, 3, none⟩ = false by simp [go_sem, zf])
      clear hown6 hg6 hat6 hp6 z3 zf e0 e1 e2 t2 hd6 y3
      go_wp2
      go_roundw
      case rel => exact ⟨k + 1, _, _, by omega, by go_num, H1.out, x0.out, x1.out, x2.out, x3.out, xf2.out, xf3.out⟩
      case measure => simp [intOf]; omega
    · have hkn : k = n := by omega
      rw [hkn] at hD hlt ⊢
      have hs1 := HS.out
      have hne : ∀ {p : Addr}, p.block < w.heap.size + 1 → ¬ (p.block = w.heap.size + 1 ∨ w.heap.size + 2 ≤ p.block) := fun h e => by omega
      have q0 := hD.chg.keep HQ.out.1 (hne (by simp))
      have q1 := hD.chg.keep HQ.out.2.1 (hne (by simp))
      have q2 := hD.chg.keep HQ.out.2.2.1 (hne (by simp))
      have q3 := hD.chg.keep HQ.out.2.2.2 (hne (by simp))
      have g0 := hD.chg.keepF HGZ.out.1 (lt_of_cell HQ.out.1) (hne (by simp))
      have g1 := hD.chg.keepF HGZ.out.2.1 (lt_of_cell HQ.out.2.1) (hne (by simp))
      have g2 := hD.chg.keepF HGZ.out.2.2.1 (lt_of_cell HQ.out.2.2.1) (hne (by simp))
      have g3 := hD.chg.keepF HGZ.out.2.2.2 (lt_of_cell HQ.out.2.2.2) (hne (by simp))
      obtain ⟨a2, c2, rfl⟩ := ownsRow_form hD.own2
      obtain ⟨a3, c3, rfl⟩ := ownsRow_form hD.own3
      have r2 := owns_of_row hD.own2 hfit.out
      have r3 := owns_of_row hD.own3 hfit.out
      have hp : OwnsP (fun g => w.heap.size ≤ g ∧ g ≠ w.heap.size) wr (.slice a2 n c2) (.slice a3 n c3) (upL n, upL n) :=
        ⟨⟨by rw [upL_length]; exact r2.1, r2.2.mono fun g hg => by omega⟩, ⟨by rw [upL_length]; exact r3.1, r3.2.mono fun g hg => by omega⟩, fun e1 _ e => by
          have hl : 0 < n := by have := List.length_pos_iff.2 e1; rw [upL_length] at this; exact this
          obtain ⟨hl2, a', c', e', _, _, hq⟩ := r2.1
          simp only [Value.slice.injEq] at e'
          obtain ⟨rfl, -, rfl⟩ := e'
          obtain ⟨g, off, cs, rfl, _, _⟩ := hq (by rw [ofL_length, upL_length]; exact hl)
          exact hD.ne g rfl (by rw [← e]; rfl)⟩
      have hfin := Lib.hid (newGraphR_put (w := w) (b := w.heap.size) (c := (n : Int)) (L := (upL n, upL n)) (HB1.out.trans (hD.chg.below (by omega) fun g e => by omega)) hp (Nat.le_refl _))
      clear hD r2 r3 hp f2 f3 hne
      go_wp2
      refine bodyPost_ret (v := .agg #[.int .i64 n, .slice none 0 0, .slice a2 n c2, .slice a3 n c3]) (by simp [results, Try.results56, go_sem, q0, q1, q2, q3]) rfl ?_
      exact hfin.out

set_option maxRecDepth 100000 in
set_option maxHeartbeats 4000000 in
theorem specIG_any (n : Int) (w : World)  :
    Calls Try.prog 26 #[.int .i64 n] w (OptGraphR w (igB n) (igN n) (igOut n)) := by
  obtain ⟨w0, hw0⟩ : ∃ W, W = (w.alloc (.cells #[.int .i64 0, .slice none 0 0, .slice none 0 0, .slice none 0 0] 49)) := ⟨_, rfl⟩
  have hB : Below w.heap.size w w0 := by rw [hw0]; exact ((Below.refl w.heap.size w).alloc (by simp) (.cells #[.int .i64 0, .slice none 0 0, .slice none 0 0, .slice none 0 0] 49))
  have hs0 : w0.heap.size = w.heap.size + 1 := by rw [hw0]; simp
  have Q0 : ∀ W, Below w0.heap.size w0 W → W.cell? ⟨w.heap.size, 0, none⟩ = some (.int .i64 0) := fun W hW => cell_old hW (by rw [hw0]; simp [go_sem])
  have G0 : ∀ W, Below w0.heap.size w0 W → W.frozen? ⟨w.heap.size, 0, none⟩ = false := fun W hW => frozen_old hW (by show w.heap.size < _; omega) (by rw [hw0]; simp [go_sem])
  have Q1 : ∀ W, Below w0.heap.size w0 W → W.cell? ⟨w.heap.size, 1, none⟩ = some (.slice none 0 0) := fun W hW => cell_old hW (by rw [hw0]; simp [go_sem])
  have G1 : ∀ W, Below w0.heap.size w0 W → W.frozen? ⟨w.heap.size, 1, none⟩ = false := fun W hW => frozen_old hW (by show w.heap.size < _; omega) (by rw [hw0]; simp [go_sem])
  have Q2 : ∀ W, Below w0.heap.size w0 W → W.cell? ⟨w.heap.size, 2, none⟩ = some (.slice none 0 0) := fun W hW => cell_old hW (by rw [hw0]; simp [go_sem])
  have G2 : ∀ W, Below w0.heap.size w0 W → W.frozen? ⟨w.heap.size, 2, none⟩ = false := fun W hW => frozen_old hW (by show w.heap.size < _; omega) (by rw [hw0]; simp [go_sem])
  have Q3 : ∀ W, Below w0.heap.size w0 W → W.cell? ⟨w.heap.size, 3, none⟩ = some (.slice none 0 0) := fun W hW => cell_old hW (by rw [hw0]; simp [go_sem])
  have G3 : ∀ W, Below w0.heap.size w0 W → W.frozen? ⟨w.heap.size, 3, none⟩ = false := fun W hW => frozen_old hW (by show w.heap.size < _; omega) (by rw [hw0]; simp [go_sem])
  have HW := Lib.hid hw0
  have HB := Lib.hid hB
  have HS := Lib.hid hs0
  obtain ⟨b1, hb1⟩ : ∃ b, (Fld.inR n 0 12) = b := ⟨_, rfl⟩
  have Cb1 := Lib.hid (fun W (_ : Below w0.heap.size w0 W) => Fld.l1In_any n 0 12 W)
  rw [hb1] at Cb1
  clear hw0 hB hs0 
  cases b1 with
  | false =>
    have e0 : igB n = false := hb1
    have e1 : igOut n = ([], []) := by simp [igOut, e0]
    have e2 : igN n = 0 := by simp [igN, e0]
    rw [e0, e1, e2]
    clear e0 e1 e2
    clear hb1
    go_enter Try.func26, Try.ntmps26
    go_wp2_with fail
    rw [← HW.out]
    have BR := Below.refl w0.heap.size w0
    refine (Cb1.out w0 (Below.refl _ _)).mono ?_
    rintro e w1 ⟨rfl, rfl⟩
    go_wp2
    refine bodyPost_ret (v := .tuple #[.agg #[.int .i64 0, .slice none 0 0, .slice none 0 0, .slice none 0 0], .bool false]) (by simp [results, Try.results26, go_sem, Q0 _ (Below.refl w0.heap.size w0), Q1 _ (Below.refl w0.heap.size w0), Q2 _ (Below.refl w0.heap.size w0), Q3 _ (Below.refl w0.heap.size w0)]) rfl ?_
    exact optGraphR_none (HB.out.trans ((Below.refl w0.heap.size w0).mono HB.out.size)) (by omega)
  | true =>
    have e0 : igB n = true := hb1
    obtain ⟨m, rfl, hm⟩ := igB_parts e0
    have e1 : igOut m = (upL m, upL m) := by simp [igOut, e0]
    have e2 : igN m = m := by simp [igN, e0]
    rw [e0, e1, e2]
    obtain ⟨R, hR⟩ : ∃ R, upL m = R := ⟨_, rfl⟩
    rw [hR]
    have HR := Lib.hid hR
    clear e0 e1 e2 hb1 hR
    go_enter Try.func26, Try.ntmps26
    go_wp2_with fail
    rw [← HW.out]
    have BR := Below.refl w0.heap.size w0
    refine (Cb1.out w0 (Below.refl _ _)).mono ?_
    rintro e w1 ⟨rfl, rfl⟩
    have hc := Lib.hid (fun W => hgId_any m hm W)
    rw [HR.out] at hc
    go_wp2_with fail
    refine (hc.out _).mono ?_
    rintro e w9 ⟨u1, u2, rfl, ho9, hb9⟩
    obtain ⟨a8, c8, a9, c9, rfl, rfl⟩ := ho9.reads.form
    have q0 := Q0 _ hb9
    have q1 := Q1 _ hb9
    have q2 := Q2 _ hb9
    have q3 := Q3 _ hb9
    have g0 := G0 _ hb9
    have g1 := G1 _ hb9
    have g2 := G2 _ hb9
    have g3 := G3 _ hb9
    have hfin := Lib.hid (optGraphR_put (L := (R, R)) HB.out hb9 ho9 (b := w.heap.size) (by omega) (by have h2 := HS.out; omega) (c := (m : Int)))
    clear ho9 hb9
    go_wp2
    refine bodyPost_ret (v := .tuple #[.agg #[.int .i64 (m : Int), .slice none 0 0, .slice a8 R.length c8, .slice a9 R.length c9], .bool true]) (by simp [results, Try.results26, go_sem, q0, q1, q2, q3]) rfl ?_
    exact hfin.out

set_option maxRecDepth 100000 in
set_option maxHeartbeats 4000000 in
theorem implIG_any (n : Int) (w : World)  :
    Calls Try.prog 27 #[.int .i64 n] w (OptGraphR w (igB n) (igN n) (igOut n)) := by
  obtain ⟨w0, hw0⟩ : ∃ W, W = (w.alloc (.cells #[.int .i64 0, .slice none 0 0, .slice none 0 0, .slice none 0 0] 49)) := ⟨_, rfl⟩
  have hB : Below w.heap.size w w0 := by rw [hw0]; exact ((Below.refl w.heap.size w).alloc (by simp) (.cells #[.int .i64 0, .slice none 0 0, .slice none 0 0, .slice none 0 0] 49))
  have hs0 : w0.heap.size = w.heap.size + 1 := by rw [hw0]; simp
  have Q0 : ∀ W, Below w0.heap.size w0 W → W.cell? ⟨w.heap.size, 0, none⟩ = some (.int .i64 0) := fun W hW => cell_old hW (by rw [hw0]; simp [go_sem])
  have G0 : ∀ W, Below w0.heap.size w0 W → W.frozen? ⟨w.heap.size, 0, none⟩ = false := fun W hW => frozen_old hW (by show w.heap.size < _; omega) (by rw [hw0]; simp [go_sem])
  have Q1 : ∀ W, Below w0.heap.size w0 W → W.cell? ⟨w.heap.size, 1, none⟩ = some (.slice none 0 0) := fun W hW => cell_old hW (by rw [hw0]; simp [go_sem])
  have G1 : ∀ W, Below w0.heap.size w0 W → W.frozen? ⟨w.heap.size, 1, none⟩ = false := fun W hW => frozen_old hW (by show w.heap.size < _; omega) (by rw [hw0]; simp [go_sem])
  have Q2 : ∀ W, Below w0.heap.size w0 W → W.cell? ⟨w.heap.size, 2, none⟩ = some (.slice none 0 0) := fun W hW => cell_old hW (by rw [hw0]; simp [go_sem])
  have G2 : ∀ W, Below w0.heap.size w0 W → W.frozen? ⟨w.heap.size, 2, none⟩ = false := fun W hW => frozen_old hW (by show w.heap.size < _; omega) (by rw [hw0]; simp [go_sem])
  have Q3 : ∀ W, Below w0.heap.size w0 W → W.cell? ⟨w.heap.size, 3, none⟩ = some (.slice none 0 0) := fun W hW => cell_old hW (by rw [hw0]; simp [go_sem])
  have G3 : ∀ W, Below w0.heap.size w0 W → W.frozen? ⟨w.heap.size, 3, none⟩ = false := fun W hW => frozen_old hW (by show w.heap.size < _; omega) (by rw [hw0]; simp [go_sem])
  have HW := Lib.hid hw0
  have HB := Lib.hid hB
  have HS := Lib.hid hs0
  obtain ⟨b1, hb1⟩ : ∃ b, (Fld.inR n 0 12) = b := ⟨_, rfl⟩
  have Cb1 := Lib.hid (fun W (_ : Below w0.heap.size w0 W) => within_any n 0 12 W)
  rw [hb1] at Cb1
  clear hw0 hB hs0 
  cases b1 with
  | false =>
    have e0 : igB n = false := hb1
    have e1 : igOut n = ([], []) := by simp [igOut, e0]
    have e2 : igN n = 0 := by simp [igN, e0]
    rw [e0, e1, e2]
    clear e0 e1 e2
    clear hb1
    go_enter Try.func27, Try.ntmps27
    go_wp2_with fail
    rw [← HW.out]
    have BR := Below.refl w0.heap.size w0
    refine (Cb1.out w0 (Below.refl _ _)).mono ?_
    rintro e w1 ⟨rfl, rfl⟩
    go_wp2
    refine bodyPost_ret (v := .tuple #[.agg #[.int .i64 0, .slice none 0 0, .slice none 0 0, .slice none 0 0], .bool false]) (by simp [results, Try.results27, go_sem, Q0 _ (Below.refl w0.heap.size w0), Q1 _ (Below.refl w0.heap.size w0), Q2 _ (Below.refl w0.heap.size w0), Q3 _ (Below.refl w0.heap.size w0)]) rfl ?_
    exact optGraphR_none (HB.out.trans ((Below.refl w0.heap.size w0).mono HB.out.size)) (by omega)
  | true =>
    have e0 : igB n = true := hb1
    obtain ⟨m, rfl, hm⟩ := igB_parts e0
    have e1 : igOut m = (upL m, upL m) := by simp [igOut, e0]
    have e2 : igN m = m := by simp [igN, e0]
    rw [e0, e1, e2]
    obtain ⟨R, hR⟩ : ∃ R, upL m = R := ⟨_, rfl⟩
    rw [hR]
    have HR := Lib.hid hR
    clear e0 e1 e2 hb1 hR
    go_enter Try.func27, Try.ntmps27
    go_wp2_with fail
    rw [← HW.out]
    have BR := Below.refl w0.heap.size w0
    refine (Cb1.out w0 (Below.refl _ _)).mono ?_
    rintro e w1 ⟨rfl, rfl⟩
    have hc := Lib.hid (fun W => identityGraph_any m hm W)
    rw [HR.out] at hc
    go_wp2_with fail
    refine (hc.out _).mono ?_
    rintro e w9 ⟨u1, u2, rfl, ho9, hb9⟩
    obtain ⟨a8, c8, a9, c9, rfl, rfl⟩ := ho9.reads.form
    have q0 := Q0 _ hb9
    have q1 := Q1 _ hb9
    have q2 := Q2 _ hb9
    have q3 := Q3 _ hb9
    have g0 := G0 _ hb9
    have g1 := G1 _ hb9
    have g2 := G2 _ hb9
    have g3 := G3 _ hb9
    have hfin := Lib.hid (optGraphR_put (L := (R, R)) HB.out hb9 ho9 (b := w.heap.size) (by omega) (by have h2 := HS.out; omega) (c := (m : Int)))
    clear ho9 hb9
    go_wp2
    refine bodyPost_ret (v := .tuple #[.agg #[.int .i64 (m : Int), .slice none 0 0, .slice a8 R.length c8, .slice a9 R.length c9], .bool true]) (by simp [results, Try.results27, go_sem, q0, q1, q2, q3]) rfl ?_
    exact hfin.out

end Ints
end Go.Proofs.Ytimjlcnljefbbaa
