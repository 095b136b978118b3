/- One step of a reduction: the same row operation in both lists. -/
import Derived.Test.YtimjlcnljefbbaaDoorApply
namespace Go.Proofs.YtimjlcnljefbbaaDoor
open Go.RowKit
namespace Ints

/-- What the step's closure holds: the prime, the rows, the other rows, each in a box of its own. -/
def Held (S S' : Nat → Prop) (p : Int) (vA vT : Value) (gp gr ga : Nat) (W : World) : Prop :=
  W.cell? ⟨gp, 0, none⟩ = some (.int .i64 p) ∧ W.cell? ⟨gr, 0, none⟩ = some vA ∧ W.cell? ⟨ga, 0, none⟩ = some vT ∧ (¬ S gp ∧ ¬ S' gp) ∧ (¬ S gr ∧ ¬ S' gr) ∧ (¬ S ga ∧ ¬ S' ga)
theorem Held.chg {S S' : Nat → Prop} {p : Int} {vA vT : Value} {gp gr ga : Nat} {W W' : World} (h : Held S S' p vA vT gp gr ga W) (hc : Chg (fun g => S g ∨ S' g) W W') : Held S S' p vA vT gp gr ga W' :=
  ⟨hc.keep h.1 fun e => by rcases e with e | e; exact h.2.2.2.1.1 e; exact h.2.2.2.1.2 e, hc.keep h.2.1 fun e => by rcases e with e | e; exact h.2.2.2.2.1.1 e; exact h.2.2.2.2.1.2 e, hc.keep h.2.2.1 fun e => by rcases e with e | e; exact h.2.2.2.2.2.1 e; exact h.2.2.2.2.2.2 e, h.2.2.2⟩

set_option maxHeartbeats 2000000 in
theorem stepSwap_ne (S S' : Nat → Prop) (hSS : ∀ g, S g → ¬ S' g) (p : Int) (i q : Nat) (hne : q ≠ i) (vA vT : Value) (M T M' T' : List (List Int)) (gp gr ga : Nat) (w : World)
    (hA : ∀ S0 W, OwnsM S0 W vA M → Calls Tryd.prog 68 #[.agg #[.int .i64 0, .int .i64 i, .int .i64 q, .int .i64 0], .int .i64 p, vA] W fun e w' => e = .returned (.tuple #[]) ∧ OwnsM S0 w' vA M' ∧ Chg S0 W w')
    (hT : ∀ S0 W, OwnsM S0 W vT T → Calls Tryd.prog 68 #[.agg #[.int .i64 0, .int .i64 i, .int .i64 q, .int .i64 0], .int .i64 p, vT] W fun e w' => e = .returned (.tuple #[]) ∧ OwnsM S0 w' vT T' ∧ Chg S0 W w')
    (hM : OwnsM S w vA M) (hTT : OwnsM S' w vT T) (hh : Held S S' p vA vT gp gr ga w) :
    Calls Tryd.prog 87 #[.agg #[.int .i64 0, .int .i64 i, .int .i64 q, .int .i64 0], .pointer (some ⟨gp, 0, none⟩), .pointer (some ⟨gr, 0, none⟩), .pointer (some ⟨ga, 0, none⟩)] w fun e w' => e = .returned (.tuple #[]) ∧ OwnsM S w' vA M' ∧ OwnsM S' w' vT T' ∧ Chg (fun g => S g ∨ S' g) w w' := by
  obtain ⟨w0, hw0⟩ : ∃ W, W = w.alloc (.cells #[.int .i64 0, .int .i64 i, .int .i64 q, .int .i64 0] 92) := ⟨_, rfl⟩
  have hb : Below w.heap.size w w0 := by rw [hw0]; exact (Below.refl _ _).alloc (Nat.le_refl _) _
  obtain ⟨sA, cA, rfl⟩ := hM.reads.form
  obtain ⟨sT, cT, rfl⟩ := hTT.reads.form
  have hh0 := hh.chg (Below.chg hb _)
  have p0 := hh0.1
  have p1 := hh0.2.1
  rw [hw0] at p0 p1
  have c0 : w0.cell? ⟨w.heap.size, 0, none⟩ = some (.int .i64 0) := by rw [hw0]; simp [go_sem]
  have c1 : w0.cell? ⟨w.heap.size, 1, none⟩ = some (.int .i64 i) := by rw [hw0]; simp [go_sem]
  have c2 : w0.cell? ⟨w.heap.size, 2, none⟩ = some (.int .i64 q) := by rw [hw0]; simp [go_sem]
  have c3 : w0.cell? ⟨w.heap.size, 3, none⟩ = some (.int .i64 0) := by rw [hw0]; simp [go_sem]
  have HA := Lib.hid (hA _ w0 (hM.bound.below hb))
  have HT := Lib.hid (fun W => hT (fun g => S' g ∧ g < w.heap.size) W)
  have HTT := Lib.hid (hTT.bound.below hb)
  have HH := Lib.hid hh0
  have HW := Lib.hid hw0
  have HB := Lib.hid hb
  have HC := Lib.hid (And.intro c0 (And.intro c1 (And.intro c2 c3)))
  have HSS := Lib.hid hSS
  have e1 : ¬ (q : Int) = (i : Int) := by omega
  clear hA hT hM hTT hh hh0 hw0 hb c0 c1 c2 c3 hSS
  go_enter Tryd.func87, Tryd.ntmps87
  go_wp2_with fail
  rw [← HW.out]
  refine HA.out.mono ?_
  rintro e w2 ⟨rfl, hM2, hc2⟩
  have hh2 := HH.out.chg (hc2.mono fun g _ h => .inl h.1)
  have r0 := hh2.1
  have r2 := hh2.2.2.1
  have k0 := hc2.keep HC.out.1 (fun h => Nat.lt_irrefl _ h.2)
  have k1 := hc2.keep HC.out.2.1 (fun h => Nat.lt_irrefl _ h.2)
  have k2 := hc2.keep HC.out.2.2.1 (fun h => Nat.lt_irrefl _ h.2)
  have k3 := hc2.keep HC.out.2.2.2 (fun h => Nat.lt_irrefl _ h.2)
  have hcall := Lib.hid (HT.out w2 (HTT.out.chg hc2 fun g hg h => HSS.out g h.1 hg.1))
  have HM2 := Lib.hid hM2
  have HC2 := Lib.hid hc2
  clear hM2 hc2 hh2 p0 p1
  go_wp2_with fail
  refine hcall.out.mono ?_
  rintro e w3 ⟨rfl, hT3, hc3⟩
  have hfin : Hid (OwnsM S w3 (.slice sA M.length cA) M' ∧ OwnsM S' w3 (.slice sT T.length cT) T' ∧ Chg (fun g => S g ∨ S' g) w w3) :=
    ⟨(HM2.out.chg hc3 fun g hg h => HSS.out g hg.1 h.1).mono fun g hg => hg.1, hT3.mono fun g hg => hg.1, (Below.chg HB.out _).trans_new (T := fun g => S g ∨ S' g) ((HC2.out.mono fun g _ h => .inl h.1).trans (hc3.mono fun g _ h => .inr h.1)) fun _ _ h => h⟩
  clear hT3 hc3 r0 r2 k0 k1 k2 k3 hcall
  go_wp2
  go_end0
  exact ⟨rfl, hfin.out⟩

set_option maxHeartbeats 2000000 in
theorem stepDivide_any (S S' : Nat → Prop) (hSS : ∀ g, S g → ¬ S' g) (p : Int) (i : Nat) (b : Int) (vA vT : Value) (M T M' T' : List (List Int)) (gp gr ga : Nat) (w : World)
    (hA : ∀ S0 W, OwnsM S0 W vA M → Calls Tryd.prog 68 #[.agg #[.int .i64 1, .int .i64 i, .int .i64 0, .int .i64 b], .int .i64 p, vA] W fun e w' => e = .returned (.tuple #[]) ∧ OwnsM S0 w' vA M' ∧ Chg S0 W w')
    (hT : ∀ S0 W, OwnsM S0 W vT T → Calls Tryd.prog 68 #[.agg #[.int .i64 1, .int .i64 i, .int .i64 0, .int .i64 b], .int .i64 p, vT] W fun e w' => e = .returned (.tuple #[]) ∧ OwnsM S0 w' vT T' ∧ Chg S0 W w')
    (hM : OwnsM S w vA M) (hTT : OwnsM S' w vT T) (hh : Held S S' p vA vT gp gr ga w) :
    Calls Tryd.prog 87 #[.agg #[.int .i64 1, .int .i64 i, .int .i64 0, .int .i64 b], .pointer (some ⟨gp, 0, none⟩), .pointer (some ⟨gr, 0, none⟩), .pointer (some ⟨ga, 0, none⟩)] w fun e w' => e = .returned (.tuple #[]) ∧ OwnsM S w' vA M' ∧ OwnsM S' w' vT T' ∧ Chg (fun g => S g ∨ S' g) w w' := by
  obtain ⟨w0, hw0⟩ : ∃ W, W = w.alloc (.cells #[.int .i64 1, .int .i64 i, .int .i64 0, .int .i64 b] 92) := ⟨_, rfl⟩
  have hb : Below w.heap.size w w0 := by rw [hw0]; exact (Below.refl _ _).alloc (Nat.le_refl _) _
  obtain ⟨sA, cA, rfl⟩ := hM.reads.form
  obtain ⟨sT, cT, rfl⟩ := hTT.reads.form
  have hh0 := hh.chg (Below.chg hb _)
  have p0 := hh0.1
  have p1 := hh0.2.1
  rw [hw0] at p0 p1
  have c0 : w0.cell? ⟨w.heap.size, 0, none⟩ = some (.int .i64 1) := by rw [hw0]; simp [go_sem]
  have c1 : w0.cell? ⟨w.heap.size, 1, none⟩ = some (.int .i64 i) := by rw [hw0]; simp [go_sem]
  have c2 : w0.cell? ⟨w.heap.size, 2, none⟩ = some (.int .i64 0) := by rw [hw0]; simp [go_sem]
  have c3 : w0.cell? ⟨w.heap.size, 3, none⟩ = some (.int .i64 b) := by rw [hw0]; simp [go_sem]
  have HA := Lib.hid (hA _ w0 (hM.bound.below hb))
  have HT := Lib.hid (fun W => hT (fun g => S' g ∧ g < w.heap.size) W)
  have HTT := Lib.hid (hTT.bound.below hb)
  have HH := Lib.hid hh0
  have HW := Lib.hid hw0
  have HB := Lib.hid hb
  have HC := Lib.hid (And.intro c0 (And.intro c1 (And.intro c2 c3)))
  have HSS := Lib.hid hSS
  clear hA hT hM hTT hh hh0 hw0 hb c0 c1 c2 c3 hSS
  go_enter Tryd.func87, Tryd.ntmps87
  go_wp2_with fail
  rw [← HW.out]
  refine HA.out.mono ?_
  rintro e w2 ⟨rfl, hM2, hc2⟩
  have hh2 := HH.out.chg (hc2.mono fun g _ h => .inl h.1)
  have r0 := hh2.1
  have r2 := hh2.2.2.1
  have k0 := hc2.keep HC.out.1 (fun h => Nat.lt_irrefl _ h.2)
  have k1 := hc2.keep HC.out.2.1 (fun h => Nat.lt_irrefl _ h.2)
  have k2 := hc2.keep HC.out.2.2.1 (fun h => Nat.lt_irrefl _ h.2)
  have k3 := hc2.keep HC.out.2.2.2 (fun h => Nat.lt_irrefl _ h.2)
  have hcall := Lib.hid (HT.out w2 (HTT.out.chg hc2 fun g hg h => HSS.out g h.1 hg.1))
  have HM2 := Lib.hid hM2
  have HC2 := Lib.hid hc2
  clear hM2 hc2 hh2 p0 p1
  go_wp2_with fail
  refine hcall.out.mono ?_
  rintro e w3 ⟨rfl, hT3, hc3⟩
  have hfin : Hid (OwnsM S w3 (.slice sA M.length cA) M' ∧ OwnsM S' w3 (.slice sT T.length cT) T' ∧ Chg (fun g => S g ∨ S' g) w w3) :=
    ⟨(HM2.out.chg hc3 fun g hg h => HSS.out g hg.1 h.1).mono fun g hg => hg.1, hT3.mono fun g hg => hg.1, (Below.chg HB.out _).trans_new (T := fun g => S g ∨ S' g) ((HC2.out.mono fun g _ h => .inl h.1).trans (hc3.mono fun g _ h => .inr h.1)) fun _ _ h => h⟩
  clear hT3 hc3 r0 r2 k0 k1 k2 k3 hcall
  go_wp2
  go_end0
  exact ⟨rfl, hfin.out⟩

set_option maxHeartbeats 2000000 in
theorem stepSubtract_any (S S' : Nat → Prop) (hSS : ∀ g, S g → ¬ S' g) (p : Int) (i q : Nat) (b : Int) (vA vT : Value) (M T M' T' : List (List Int)) (gp gr ga : Nat) (w : World)
    (hA : ∀ S0 W, OwnsM S0 W vA M → Calls Tryd.prog 68 #[.agg #[.int .i64 2, .int .i64 i, .int .i64 q, .int .i64 b], .int .i64 p, vA] W fun e w' => e = .returned (.tuple #[]) ∧ OwnsM S0 w' vA M' ∧ Chg S0 W w')
    (hT : ∀ S0 W, OwnsM S0 W vT T → Calls Tryd.prog 68 #[.agg #[.int .i64 2, .int .i64 i, .int .i64 q, .int .i64 b], .int .i64 p, vT] W fun e w' => e = .returned (.tuple #[]) ∧ OwnsM S0 w' vT T' ∧ Chg S0 W w')
    (hM : OwnsM S w vA M) (hTT : OwnsM S' w vT T) (hh : Held S S' p vA vT gp gr ga w) :
    Calls Tryd.prog 87 #[.agg #[.int .i64 2, .int .i64 i, .int .i64 q, .int .i64 b], .pointer (some ⟨gp, 0, none⟩), .pointer (some ⟨gr, 0, none⟩), .pointer (some ⟨ga, 0, none⟩)] w fun e w' => e = .returned (.tuple #[]) ∧ OwnsM S w' vA M' ∧ OwnsM S' w' vT T' ∧ Chg (fun g => S g ∨ S' g) w w' := by
  obtain ⟨w0, hw0⟩ : ∃ W, W = w.alloc (.cells #[.int .i64 2, .int .i64 i, .int .i64 q, .int .i64 b] 92) := ⟨_, rfl⟩
  have hb : Below w.heap.size w w0 := by rw [hw0]; exact (Below.refl _ _).alloc (Nat.le_refl _) _
  obtain ⟨sA, cA, rfl⟩ := hM.reads.form
  obtain ⟨sT, cT, rfl⟩ := hTT.reads.form
  have hh0 := hh.chg (Below.chg hb _)
  have p0 := hh0.1
  have p1 := hh0.2.1
  rw [hw0] at p0 p1
  have c0 : w0.cell? ⟨w.heap.size, 0, none⟩ = some (.int .i64 2) := by rw [hw0]; simp [go_sem]
  have c1 : w0.cell? ⟨w.heap.size, 1, none⟩ = some (.int .i64 i) := by rw [hw0]; simp [go_sem]
  have c2 : w0.cell? ⟨w.heap.size, 2, none⟩ = some (.int .i64 q) := by rw [hw0]; simp [go_sem]
  have c3 : w0.cell? ⟨w.heap.size, 3, none⟩ = some (.int .i64 b) := by rw [hw0]; simp [go_sem]
  have HA := Lib.hid (hA _ w0 (hM.bound.below hb))
  have HT := Lib.hid (fun W => hT (fun g => S' g ∧ g < w.heap.size) W)
  have HTT := Lib.hid (hTT.bound.below hb)
  have HH := Lib.hid hh0
  have HW := Lib.hid hw0
  have HB := Lib.hid hb
  have HC := Lib.hid (And.intro c0 (And.intro c1 (And.intro c2 c3)))
  have HSS := Lib.hid hSS
  clear hA hT hM hTT hh hh0 hw0 hb c0 c1 c2 c3 hSS
  go_enter Tryd.func87, Tryd.ntmps87
  go_wp2_with fail
  rw [← HW.out]
  refine HA.out.mono ?_
  rintro e w2 ⟨rfl, hM2, hc2⟩
  have hh2 := HH.out.chg (hc2.mono fun g _ h => .inl h.1)
  have r0 := hh2.1
  have r2 := hh2.2.2.1
  have k0 := hc2.keep HC.out.1 (fun h => Nat.lt_irrefl _ h.2)
  have k1 := hc2.keep HC.out.2.1 (fun h => Nat.lt_irrefl _ h.2)
  have k2 := hc2.keep HC.out.2.2.1 (fun h => Nat.lt_irrefl _ h.2)
  have k3 := hc2.keep HC.out.2.2.2 (fun h => Nat.lt_irrefl _ h.2)
  have hcall := Lib.hid (HT.out w2 (HTT.out.chg hc2 fun g hg h => HSS.out g h.1 hg.1))
  have HM2 := Lib.hid hM2
  have HC2 := Lib.hid hc2
  clear hM2 hc2 hh2 p0 p1
  go_wp2_with fail
  refine hcall.out.mono ?_
  rintro e w3 ⟨rfl, hT3, hc3⟩
  have hfin : Hid (OwnsM S w3 (.slice sA M.length cA) M' ∧ OwnsM S' w3 (.slice sT T.length cT) T' ∧ Chg (fun g => S g ∨ S' g) w w3) :=
    ⟨(HM2.out.chg hc3 fun g hg h => HSS.out g hg.1 h.1).mono fun g hg => hg.1, hT3.mono fun g hg => hg.1, (Below.chg HB.out _).trans_new (T := fun g => S g ∨ S' g) ((HC2.out.mono fun g _ h => .inl h.1).trans (hc3.mono fun g _ h => .inr h.1)) fun _ _ h => h⟩
  clear hT3 hc3 r0 r2 k0 k1 k2 k3 hcall
  go_wp2
  go_end0
  exact ⟨rfl, hfin.out⟩

set_option maxHeartbeats 1000000 in
theorem stepSwap_eq (i : Nat) (gp gr ga : Value) (w : World) :
    Calls Tryd.prog 87 #[.agg #[.int .i64 0, .int .i64 i, .int .i64 i, .int .i64 0], gp, gr, ga] w fun e w' => e = .returned (.tuple #[]) ∧ Below w.heap.size w w' := by
  have hb := Lib.hid ((Below.refl w.heap.size w).alloc (Nat.le_refl _) (.cells #[.int .i64 0, .int .i64 i, .int .i64 i, .int .i64 0] 92))
  go_enter Tryd.func87, Tryd.ntmps87
  go_wp2
  exact bodyPost_ret (v := .tuple #[]) (by simp [results, Tryd.results87, go_sem]) rfl ⟨rfl, hb.out⟩

/-- Two rows exchanged in both. -/
theorem stepSwap_any (S S' : Nat → Prop) (hSS : ∀ g, S g → ¬ S' g) (p : Int) (i q : Nat) (vA vT : Value) (M T : List (List Int)) (gp gr ga : Nat) (w : World) (hi : i < M.length) (hq : q < M.length) (hl : T.length = M.length)
    (hM : OwnsM S w vA M) (hTT : OwnsM S' w vT T) (hh : Held S S' p vA vT gp gr ga w) :
    Calls Tryd.prog 87 #[.agg #[.int .i64 0, .int .i64 i, .int .i64 q, .int .i64 0], .pointer (some ⟨gp, 0, none⟩), .pointer (some ⟨gr, 0, none⟩), .pointer (some ⟨ga, 0, none⟩)] w fun e w' => e = .returned (.tuple #[]) ∧ OwnsM S w' vA (swapL M i q) ∧ OwnsM S' w' vT (swapL T i q) ∧ Chg (fun g => S g ∨ S' g) w w' := by
  by_cases e : q = i
  · subst e
    rw [swapL_same hi, swapL_same (by omega)]
    refine (stepSwap_eq q _ _ _ w).mono ?_
    rintro e w' ⟨rfl, hb⟩
    exact ⟨rfl, hM.below hb, hTT.below hb, Below.chg hb _⟩
  · exact stepSwap_ne S S' hSS p i q e vA vT M T _ _ gp gr ga w (fun S0 W h => applySwap_any S0 p i q vA M W hi hq h) (fun S0 W h => applySwap_any S0 p i q vT T W (by omega) (by omega) h) hM hTT hh

end Ints
end Go.Proofs.YtimjlcnljefbbaaDoor
