/- Two lists side by side, as they read and in blocks of the call's own; the laws' own helpers over structs of two lists, and over graphs without edges. -/
import Derived.Test.YtimjlcnljefbbaaLawS
import Derived.Test.YtimjlcnljefbbaaMemB
import Derived.Maps.AppendAt
import Derived.Deep.RegionHeld3
namespace Go.Proofs.Ytimjlcnljefbbaa
open Go.RowKit
namespace Ints

def ReadsP (w : World) (v1 v2 : Value) (L : List Int × List Int) : Prop := ReadsI w v1 L.1 ∧ ReadsI w v2 L.2
def OwnsP (S : Nat → Prop) (w : World) (v1 v2 : Value) (L : List Int × List Int) : Prop :=
  OwnsI S w v1 L.1 ∧ OwnsI S w v2 L.2 ∧ (L.1 ≠ [] → L.2 ≠ [] → v1.ownBlock ≠ v2.ownBlock)
def totP (L : List Int × List Int) : Nat := L.1.length + L.2.length
def sumP (L : List Int × List Int) : Nat := L.1.length + L.2.length
def marksP (k : Int) (L : List Int × List Int) : List Int × List Int := (marksI k L.1, marksI (k + L.1.length) L.2)
section
variable {S T : Nat → Prop} {w w' : World} {v1 v2 : Value} {L : List Int × List Int}
theorem ReadsP.below (h : ReadsP w v1 v2 L) (hb : Below w.heap.size w w') : ReadsP w' v1 v2 L := ⟨h.1.below hb, h.2.below hb⟩
theorem ReadsP.form (h : ReadsP w v1 v2 L) : ∃ a c a' c', v1 = .slice a L.1.length c ∧ v2 = .slice a' L.2.length c' := by
  obtain ⟨a, c, e⟩ := h.1.form
  obtain ⟨a', c', e'⟩ := h.2.form
  exact ⟨a, c, a', c', e, e'⟩
theorem OwnsP.reads (h : OwnsP S w v1 v2 L) : ReadsP w v1 v2 L := ⟨h.1.reads, h.2.1.reads⟩
theorem OwnsP.mono (h : OwnsP S w v1 v2 L) (hST : ∀ g, S g → T g) : OwnsP T w v1 v2 L := ⟨h.1.mono hST, h.2.1.mono hST, h.2.2⟩
theorem OwnsP.chg (h : OwnsP S w v1 v2 L) (hc : Chg T w w') (hd : ∀ g, S g → ¬ T g) : OwnsP S w' v1 v2 L := ⟨h.1.chg hc hd, h.2.1.chg hc hd, h.2.2⟩
theorem OwnsP.below (h : OwnsP S w v1 v2 L) (hb : Below w.heap.size w w') : OwnsP S w' v1 v2 L := ⟨h.1.below hb, h.2.1.below hb, h.2.2⟩
theorem OwnsP.bound (h : OwnsP S w v1 v2 L) : OwnsP (fun g => S g ∧ g < w.heap.size) w v1 v2 L := ⟨h.1.bound, h.2.1.bound, h.2.2⟩
end
theorem ownsP_nil (S : Nat → Prop) (w : World) : OwnsP S w (.slice none 0 0) (.slice none 0 0) ([], []) := ⟨ownsI_nil S w, ownsI_nil S w, fun h => absurd rfl h⟩
/-- A list made first, another one behind it in new memory. -/
theorem ownsP_two {w1 w2 : World} {S : Nat → Prop} {v1 v2 : Value} {L : List Int × List Int} (h1 : OwnsI S w1 v1 L.1) (hb : Below w1.heap.size w1 w2) (h2 : OwnsI (w1.heap.size ≤ ·) w2 v2 L.2) (hS : ∀ g, w1.heap.size ≤ g → S g) : OwnsP S w2 v1 v2 L := by
  refine ⟨h1.below hb, h2.mono hS, fun e1 e2 e => ?_⟩
  obtain ⟨a, c, rfl⟩ := h1.reads.form
  have hp := h1.1
  obtain ⟨hl, a', c', e', _, _, hq⟩ := hp
  simp only [Value.slice.injEq] at e'
  obtain ⟨rfl, -, rfl⟩ := e'
  obtain ⟨g, off, cs, rfl, hg, _⟩ := hq (List.length_pos_iff.2 (ofL_ne.2 e1))
  have hlt := (Array.getElem?_eq_some_iff.1 hg).1
  have := h2.2 g (ofL_ne.2 e2) (by rw [← e]; rfl)
  omega

/-- 'append(s, u)' for an element of one cell; and where the new slice lies. -/
theorem wpList_append_one_at {P : Program} {w : World} {ops : Array Oper} {rest : List Oper} {o : Oper} {a : Act} {Q : Exit → Act → World → Prop} (hgd : o.guard = none) (s x : Operand) (t : TypeId)
    (ho : o.op = .call { callee := .builtin .append, args := #[s, x], argTypes := #[t, t] })
    (base : Nat) (e : TypeId) (z : Value) (bytes : Nat) (ht : P.underlying t = some (.slice e)) (hinfo : (P.info? e).map (fun i => (i.zero, i.size, i.bytes)) = some (some z, 1, bytes))
    (hzs : z.cells.size = 1) (v : Value) (n : Nat) (xs : List Value) (u : Value)
    (hown : w.ownsRow base e 1 v n xs) (hs : a.eval s = v) (hx : a.eval x = .slice (some ⟨w.heap.size, 0, none⟩) 1 1) (h1 : u.oneCell' = true) (h63 : n + 1 ≤ maxLen) (hbytes : (n + 1) * bytes ≤ 140737488355328) (hbase : base ≤ w.heap.size)
    (h : ∀ v' w', w'.ownsRow base e 1 v' (n + 1) (xs ++ [u]) → w.grownBy w' v.ownBlock → (v'.ownBlock = v.ownBlock ∨ v'.ownBlock = some (w.heap.size + 1)) → wpList P ops Q rest (a.put o.dst v') w') : wpList P ops Q (o :: rest) a (w.alloc (.cells #[u] e)) := by
  obtain ⟨i, hi, hz, hsize, hby⟩ := info_parts hinfo
  refine wpList_plain hgd fun K hK => ?_
  obtain ⟨v', w', hr, h2, h3, _, h5⟩ := run_append_own_at (P := P) (w.alloc (.cells #[u] e)) base t o.type e i z 1 bytes ht hi hz hsize hby hzs (by decide) v n xs (hown.alloc _) ⟨w.heap.size, 0, none⟩ 1 1 [u] rfl (fun j y hj => by
    have hj0 : j = 0 := by
      have := (List.getElem?_eq_some_iff.1 hj).1
      simp at this
      omega
    subst hj0
    simp only [List.getElem?_cons_zero, Option.some.injEq] at hj
    subst hj
    have e0 : (⟨w.heap.size, 0, none⟩ : Addr).add 0 = ⟨w.heap.size, 0, none⟩ := rfl
    rw [e0, cell_of_row (w.alloc _) w.heap.size 0 #[u] e (0, 0) (heap_alloc_new w _)]
    rfl) (by intro y hy; simp at hy; subst hy; exact h1) h63 hbytes (by simp; omega)
  unfold Oper.wp execOp
  simp only [ho, resolve, invoke, builtin, Sem.run_bind, Sem.run_pure, Result.andThen_ok, List.map_toArray, List.map_cons, List.map_nil, hs, hx, hr]
  refine hK _ _ (h v' w' h2 ⟨h3.os, h3.tape, h3.output, Nat.le_trans (by simp) h3.size, fun k hk hne => ?_⟩ (by rcases h5 with h5 | h5; exact .inl h5; exact .inr (by rw [h5]; simp)))
  rw [h3.block k (by simp; omega) hne]
  exact Below.heap_alloc w _ k hk

/-- Two lists marked, one behind the other. -/
theorem markP_step {S : Nat → Prop} {w w1 w2 : World} {v1 v2 : Value} {L : List Int × List Int} {k : Int} (h : OwnsP S w v1 v2 L)
    (o1 : Owns w1 3 1 v1 L.1.length (ofL (marks k L.1.length))) (c1 : Chg (fun g => v1.ownBlock = some g ∧ 0 < L.1.length) w w1)
    (o2 : Owns w2 3 1 v2 L.2.length (ofL (marks (k + L.1.length) L.2.length))) (c2 : Chg (fun g => v2.ownBlock = some g ∧ 0 < L.2.length) w1 w2) :
    OwnsP S w2 v1 v2 (marksP k L) ∧ Chg S w w2 := by
  have n1 : ofL L.1 ≠ [] ↔ 0 < L.1.length := by rw [ofL_ne]; exact List.length_pos_iff.symm
  have n2 : ofL L.2 ≠ [] ↔ 0 < L.2.length := by rw [ofL_ne]; exact List.length_pos_iff.symm
  have m1 : ∀ {k n}, ofL (marks k n) ≠ [] ↔ 0 < n := fun {k n} => by rw [ofL_ne, ← List.length_pos_iff, marks_length]
  refine ⟨⟨⟨?_, fun g hx hg => ?_⟩, ⟨?_, fun g hx hg => ?_⟩, fun e1 e2 => ?_⟩, ?_⟩
  · show Owns w2 3 1 v1 (marks k L.1.length).length (ofL (marks k L.1.length))
    rw [marks_length]
    refine o1.chg c2 fun g hx hg e => ?_
    exact h.2.2 (List.length_pos_iff.1 (m1.1 hx)) (List.length_pos_iff.1 e.2) (by rw [hg, e.1])
  · exact h.1.2 g (n1.2 (m1.1 hx)) hg
  · show Owns w2 3 1 v2 (marks (k + L.1.length) L.2.length).length (ofL (marks (k + L.1.length) L.2.length))
    rw [marks_length]
    exact o2
  · exact h.2.1.2 g (n2.2 (m1.1 hx)) hg
  · refine h.2.2 (fun e => e1 ?_) (fun e => e2 ?_)
    · simp [marksP, marksI, marks, e]
    · simp [marksP, marksI, marks, e]
  · refine (c1.mono fun g _ hg => h.1.2 g (n1.2 hg.2) hg.1).trans (c2.mono fun g _ hg => h.2.1.2 g (n2.2 hg.2) hg.1)

/-- A struct of two lists in new memory. -/
def NewMatch (w : World) (L : List Int × List Int) (e : Ending) (w' : World) : Prop := ∃ u1 u2, e = .returned (.agg #[u1, u2]) ∧ OwnsP (w.heap.size ≤ ·) w' u1 u2 L ∧ Below w.heap.size w w'

set_option maxHeartbeats 1000000 in
theorem szMatch_any (v1 v2 : Value) (L : List Int × List Int) (left : Int) (h0 : 0 ≤ left) (hl : left ≤ 1048576) (w : World) (h : ReadsP w v1 v2 L) :
    Calls Try.prog 19 #[.agg #[v1, v2], .int .i64 left] w fun e w' => e = .returned (.int .i64 (szN (totP L) left)) ∧ Below w.heap.size w w' := by
  have hb := Lib.hid ((Below.refl w.heap.size w).alloc (Nat.le_refl _) (.cells #[v1, v2] 38))
  obtain ⟨hl1, a, c, e1, hm1, _⟩ := open_reads h.1
  obtain ⟨hl2, a', c', e2, hm2, _⟩ := open_reads h.2
  subst e1 e2
  obtain ⟨n1, hn1⟩ : ∃ n, L.1.length = n := ⟨_, rfl⟩
  obtain ⟨n2, hn2⟩ : ∃ n, L.2.length = n := ⟨_, rfl⟩
  have hc1 := Lib.hid (fun W => szIntS_any a n1 c left h0 hl (by omega) W)
  have htt : totP L = n1 + n2 := by simp [totP, hn1, hn2]
  rw [htt]
  rw [hn1] at hb ⊢
  rw [hn2] at hb ⊢
  clear h hl1 hl2 htt
  by_cases hs : (n1 : Int) ≤ left
  · have e3 : szN n1 left = left - n1 := by simp [szN, hs]
    rw [e3] at hc1
    have hc2 := Lib.hid (fun W => szIntS_any a' n2 c' (left - n1) (by omega) (by omega) (by omega) W)
    have e4 : szN (n1 + n2) left = szN n2 (left - n1) := by
      unfold szN
      by_cases h2 : (n2 : Int) ≤ left - n1
      · rw [if_pos h2, if_pos (by omega)]; omega
      · rw [if_neg h2, if_neg (by omega)]
    rw [e4]
    have hb1 : decide (left - (n1 : Int) < 0) = false := by simp; omega
    obtain ⟨r, hr⟩ : ∃ r, szN n2 (left - n1) = r := ⟨_, rfl⟩
    rw [hr] at hc2 ⊢
    have hrr : r < 0 → r = -1 := by
      intro h
      unfold szN at hr
      split at hr <;> omega
    clear e3 e4 hr
    obtain ⟨l2, hl2⟩ : ∃ x, left - (n1 : Int) = x := ⟨_, rfl⟩
    rw [hl2] at hc1 hc2 hb1
    clear hl2
    by_cases hneg : r < 0
    · have hbn : decide (r < 0) = true := by simpa using hneg
      have hm1 := Lib.hid (hrr hneg)
      clear hneg hrr
      go_enter Try.func19, Try.ntmps19
      go_wp2_with fail
      refine (hc1.out _).mono ?_
      rintro e w' ⟨rfl, rfl⟩
      go_wp2_with fail
      refine (hc2.out _).mono ?_
      rintro e w' ⟨rfl, rfl⟩
      go_wp2
      go_ret
      exact ⟨ret_int hm1.out.symm, hb.out⟩
    · have hbn : decide (r < 0) = false := by simpa using hneg
      clear hneg hrr
      go_enter Try.func19, Try.ntmps19
      go_wp2_with fail
      refine (hc1.out _).mono ?_
      rintro e w' ⟨rfl, rfl⟩
      go_wp2_with fail
      refine (hc2.out _).mono ?_
      rintro e w' ⟨rfl, rfl⟩
      go_wp2
      go_ret
      exact ⟨rfl, hb.out⟩
  · have e3 : szN n1 left = -1 := by simp [szN, hs]
    have e4 : szN (n1 + n2) left = -1 := by unfold szN; rw [if_neg (by omega)]
    rw [e3] at hc1
    rw [e4]
    clear e3 e4 hs
    go_enter Try.func19, Try.ntmps19
    go_wp2_with fail
    refine (hc1.out _).mono ?_
    rintro e w' ⟨rfl, rfl⟩
    go_wp2
    go_ret
    exact ⟨rfl, hb.out⟩

set_option maxHeartbeats 1000000 in
theorem toMatch_any (v1 v2 : Value) (L : List Int × List Int) (w : World) (h : ReadsP w v1 v2 L) (hs : totP L ≤ 1048576) :
    Calls Try.prog 21 #[.agg #[v1, v2]] w (NewMatch w L) := by
  obtain ⟨w0, hw0⟩ : ∃ W, W = (((w.alloc (.cells #[v1, v2] 38)).alloc (.cells #[.slice none 0 0, .slice none 0 0] 40)).alloc (.cells #[.slice none 0 0, .slice none 0 0] 40)) := ⟨_, rfl⟩
  have hB : Below w.heap.size w w0 := by rw [hw0]; exact (((Below.refl w.heap.size w).alloc (Nat.le_refl _) _).alloc (by simp) _).alloc (by simp; omega) _
  have hs0 : w0.heap.size = w.heap.size + 3 := by rw [hw0]; simp
  have hr := h.below hB
  obtain ⟨a, c, a', c', rfl, rfl⟩ := h.form
  have hc1 := Lib.hid (toIntS_b _ L.1 w0 hr.1 (by unfold totP at hs; unfold totI; omega))
  have hc2 := Lib.hid (fun W (hW : ReadsI W (.slice a' L.2.length c') L.2) => toIntS_b _ L.2 W hW (by unfold totP at hs; unfold totI; omega))
  have x1 : w0.cell? ⟨w.heap.size, 1, none⟩ = some (.slice a' L.2.length c') := by rw [hw0]; simp [go_sem]
  have o0 : w0.cell? ⟨w.heap.size + 2, 0, none⟩ = some (.slice none 0 0) := by rw [hw0]; simp [go_sem]
  have o1 : w0.cell? ⟨w.heap.size + 2, 1, none⟩ = some (.slice none 0 0) := by rw [hw0]; simp [go_sem]
  have f0 : w0.frozen? ⟨w.heap.size + 2, 0, none⟩ = false := by rw [hw0]; simp [go_sem]
  have f1 : w0.frozen? ⟨w.heap.size + 2, 1, none⟩ = false := by rw [hw0]; simp [go_sem]
  have q0 : w0.cell? ⟨w.heap.size + 1, 0, none⟩ = some (.slice none 0 0) := by rw [hw0]; simp [go_sem]
  have q1 : w0.cell? ⟨w.heap.size + 1, 1, none⟩ = some (.slice none 0 0) := by rw [hw0]; simp [go_sem]
  have g0 : w0.frozen? ⟨w.heap.size + 1, 0, none⟩ = false := by rw [hw0]; simp [go_sem]
  have g1 : w0.frozen? ⟨w.heap.size + 1, 1, none⟩ = false := by rw [hw0]; simp [go_sem]
  have HX := Lib.hid (And.intro x1 (And.intro o0 (And.intro o1 (And.intro f0 f1))))
  have HQ := Lib.hid (And.intro q0 (And.intro q1 (And.intro g0 g1)))
  have HR := Lib.hid h.2
  have HW := Lib.hid hw0
  have HB := Lib.hid hB
  have HS := Lib.hid hs0
  clear h hs hr hw0 hB hs0 x1 o0 o1 f0 f1 q0 q1 g0 g1
  go_enter Try.func21, Try.ntmps21
  go_wp2_with fail
  rw [← HW.out]
  refine hc1.out.mono ?_
  rintro e w1 ⟨u1, rfl, ho1, hb1⟩
  obtain ⟨b1, k1, rfl⟩ := ho1.reads.form
  have hs0 := HS.out
  have hsb := hb1.size
  have hc3 := Chg.set1 w1 ⟨w.heap.size + 2, 0, none⟩ (.slice b1 L.1.length k1)
  have ho1b := (ho1.bound.chg hc3 fun g hg e => by simp only at e; omega)
  have B2 : Below w.heap.size w (w1.setCell ⟨w.heap.size + 2, 0, none⟩ (.slice b1 L.1.length k1)) := (HB.out.trans (hb1.mono HB.out.size)).setCell (p := ⟨w.heap.size + 2, 0, none⟩) (by simp) _
  have x1 := cell_old hb1 HX.out.1
  have o0 := cell_old hb1 HX.out.2.1
  have o1 := cell_old hb1 HX.out.2.2.1
  have f0 := frozen_old hb1 (lt_of_cell HX.out.2.1) HX.out.2.2.2.1
  have f1 := frozen_old hb1 (lt_of_cell HX.out.2.2.1) HX.out.2.2.2.2
  have q0 := cell_old hb1 HQ.out.1
  have q1 := cell_old hb1 HQ.out.2.1
  have g0 := frozen_old hb1 (lt_of_cell HQ.out.1) HQ.out.2.2.1
  have g1 := frozen_old hb1 (lt_of_cell HQ.out.2.1) HQ.out.2.2.2
  have x2 := hc3.keep x1 (fun e => by simp only at e; omega)
  have p0 : (w1.setCell ⟨w.heap.size + 2, 0, none⟩ (.slice b1 L.1.length k1)).cell? ⟨w.heap.size + 2, 0, none⟩ = some (.slice b1 L.1.length k1) := by simp [go_sem, o0]
  have p1 : (w1.setCell ⟨w.heap.size + 2, 0, none⟩ (.slice b1 L.1.length k1)).cell? ⟨w.heap.size + 2, 1, none⟩ = some (.slice none 0 0) := by simp [go_sem, o1]
  have p2 : (w1.setCell ⟨w.heap.size + 2, 0, none⟩ (.slice b1 L.1.length k1)).frozen? ⟨w.heap.size + 2, 1, none⟩ = false := by simp [go_sem, f1]
  have r0 := hc3.keep q0 (fun e => by simp only at e; omega)
  have r1 := hc3.keep q1 (fun e => by simp only at e; omega)
  have t0 := hc3.keepF g0 (lt_of_cell q0) (fun e => by simp only at e; omega)
  have t1 := hc3.keepF g1 (lt_of_cell q1) (fun e => by simp only at e; omega)
  have hsz2 : w1.heap.size ≤ (w1.setCell ⟨w.heap.size + 2, 0, none⟩ (.slice b1 L.1.length k1)).heap.size := by simp
  obtain ⟨w2, hw2⟩ : ∃ W, W = w1.setCell ⟨w.heap.size + 2, 0, none⟩ (.slice b1 L.1.length k1) := ⟨_, rfl⟩
  rw [← hw2] at ho1b B2 x2 p0 p1 p2 r0 r1 t0 t1 hsz2
  have HO1 := Lib.hid ho1b
  have HB2 := Lib.hid B2
  have HP := Lib.hid (And.intro p0 (And.intro p1 p2))
  have HQ2 := Lib.hid (And.intro r0 (And.intro r1 (And.intro t0 t1)))
  have HW2 := Lib.hid hw2
  have HSZ := Lib.hid (Nat.le_trans hsb hsz2)
  clear ho1 hb1 hc3 ho1b B2 q0 q1 g0 g1 p0 p1 p2 r0 r1 t0 t1 hsz2 hw2 hs0 hsb
  go_wp2_with fail
  rw [← HW2.out]
  clear x1 o0 o1 f0 f1
  refine (hc2.out w2 (HR.out.below HB2.out)).mono ?_
  rintro e w3 ⟨u2, rfl, ho2, hb3⟩
  obtain ⟨b2, k2, rfl⟩ := ho2.reads.form
  have hs0 := HS.out
  have hsz := HSZ.out
  have hp := ownsP_two (S := fun g => w0.heap.size ≤ g) (L := L) (HO1.out.mono fun g hg => hg.1) hb3 ho2 (fun g hg => by omega)
  have p0 := cell_old hb3 HP.out.1
  have p1 := cell_old hb3 HP.out.2.1
  have p2 := frozen_old hb3 (lt_of_cell HP.out.2.1) HP.out.2.2
  have q0 := cell_old hb3 HQ2.out.1
  have q1 := cell_old hb3 HQ2.out.2.1
  have g0 := frozen_old hb3 (lt_of_cell HQ2.out.1) HQ2.out.2.2.1
  have g1 := frozen_old hb3 (lt_of_cell HQ2.out.2.1) HQ2.out.2.2.2
  have hfin : Hid (NewMatch w L (.returned (.agg #[.slice b1 L.1.length k1, .slice b2 L.2.length k2])) (((w3.setCell ⟨w.heap.size + 1 + 1, 1, none⟩ (.slice b2 L.2.length k2)).setCell ⟨w.heap.size + 1, 0, none⟩ (.slice b1 L.1.length k1)).setCell ⟨w.heap.size + 1, 1, none⟩ (.slice b2 L.2.length k2))) := by
    have hch : Chg (fun g => g < w.heap.size + 3 ∧ w.heap.size ≤ g) w3 (((w3.setCell ⟨w.heap.size + 1 + 1, 1, none⟩ (.slice b2 L.2.length k2)).setCell ⟨w.heap.size + 1, 0, none⟩ (.slice b1 L.1.length k1)).setCell ⟨w.heap.size + 1, 1, none⟩ (.slice b2 L.2.length k2)) :=
      (((Chg.refl _ w3).setCell (p := ⟨w.heap.size + 1 + 1, 1, none⟩) (fun _ => by simp; omega) _).setCell (p := ⟨w.heap.size + 1, 0, none⟩) (fun _ => by simp) _).setCell (p := ⟨w.heap.size + 1, 1, none⟩) (fun _ => by simp) _
    have hb4 := hb3.size
    have hb5 := HB2.out.size
    exact ⟨_, _, rfl, (hp.chg hch fun g hg e => by omega).mono fun g hg => by omega, (HB2.out.trans (hb3.mono HB2.out.size)).trans (hch.below (by omega) fun g hg => hg.2)⟩
  clear ho2 hb3 hp hs0 hsz x2
  go_wp2
  refine bodyPost_ret (v := .agg #[.slice b1 L.1.length k1, .slice b2 L.2.length k2]) (by simp [results, Try.results21, go_sem, q0, q1]) rfl ?_
  exact hfin.out

set_option maxHeartbeats 1000000 in
theorem eqMatch_same (v1 v2 u1 u2 : Value) (L : List Int × List Int) (w : World) (ha : ReadsP w v1 v2 L) (hb : ReadsP w u1 u2 L) :
    Calls Try.prog 23 #[.agg #[v1, v2], .agg #[u1, u2]] w fun e w' => e = .returned (.bool true) ∧ Below w.heap.size w w' := by
  have hB := Lib.hid (((Below.refl w.heap.size w).alloc (Nat.le_refl _) (.cells #[v1, v2] 40)).alloc (by simp) (.cells #[u1, u2] 40))
  have hc1 := Lib.hid (fun W (hW : Below w.heap.size w W) => eqIntS_any v1 u1 L.1.length L.1.length L.1 L.1 W (ha.1.below hW) (hb.1.below hW))
  have hc2 := Lib.hid (fun W (hW : Below w.heap.size w W) => eqIntS_any v2 u2 L.2.length L.2.length L.2 L.2 W (ha.2.below hW) (hb.2.below hW))
  simp only [beq_self_eq_true] at hc1 hc2
  clear ha hb
  go_enter Try.func23, Try.ntmps23
  go_wp2_with fail
  refine (hc1.out _ hB.out).mono ?_
  rintro e w1 ⟨rfl, hq⟩
  have HB1 := Lib.hid (hB.out.trans (hq.below w.heap.size))
  have e1 : w1.cell? ⟨w.heap.size, 1, none⟩ = some v2 := (hq.cell _).trans (by simp [go_sem])
  have e2 : w1.cell? ⟨w.heap.size + 1, 1, none⟩ = some u2 := (hq.cell _).trans (by simp [go_sem])
  clear hq
  go_wp2_with fail
  refine (hc2.out _ HB1.out).mono ?_
  rintro e w2 ⟨rfl, hq⟩
  have HB2 := Lib.hid (HB1.out.trans (hq.below w.heap.size))
  clear hq
  go_wp2
  go_ret
  exact ⟨rfl, HB2.out⟩

set_option maxHeartbeats 1000000 in
theorem markMatch_any (S : Nat → Prop) (v1 v2 : Value) (L : List Int × List Int) (k : Int) (hk : 0 ≤ k) (hb : k + sumP L ≤ 1000000000) (w : World) (h : OwnsP S w v1 v2 L) :
    Calls Try.prog 24 #[.agg #[v1, v2], .int .i64 k] w fun e w' => e = .returned (.int .i64 (k + sumP L)) ∧ OwnsP S w' v1 v2 (marksP k L) ∧ Chg S w w' := by
  have hB := Lib.hid ((Below.refl w.heap.size w).alloc (Nat.le_refl _) (.cells #[v1, v2] 40))
  obtain ⟨w0, hw0⟩ : ∃ W, W = w.alloc (.cells #[v1, v2] 40) := ⟨_, rfl⟩
  rw [← hw0] at hB
  have h0 := h.below hB.out
  have hsum : k + (sumP L : Int) = k + L.1.length + L.2.length := by unfold sumP; omega
  rw [hsum] at hb ⊢
  have hc1 := Lib.hid (markIntS_any v1 L.1.length L.1 k hk (by omega) w0 h0.1.1)
  have hc2 := Lib.hid (fun W hW => markIntS_any v2 L.2.length L.2 (k + L.1.length) (by omega) (by omega) W hW)
  have H0 := Lib.hid h0
  have x1 : w0.cell? ⟨w.heap.size, 1, none⟩ = some v2 := by rw [hw0]; simp [go_sem]
  have hlt : Hid (∀ g, v1.ownBlock = some g ∧ 0 < L.1.length → g < w.heap.size) := Lib.hid fun g hg => h.1.1.reads.lt g (ofL_ne.2 (List.length_pos_iff.1 hg.2)) hg.1
  have HW := Lib.hid hw0
  have HX := Lib.hid x1
  clear h h0 hb hsum hw0 x1
  go_enter Try.func24, Try.ntmps24
  go_wp2_with fail
  rw [← HW.out]
  refine hc1.out.mono ?_
  rintro e w1 ⟨rfl, o1, c1⟩
  have x1 := c1.keep HX.out (fun e => by have := hlt.out _ e; simp only at this; omega)
  have hv2 := Lib.hid (H0.out.2.1.1.chg c1 fun g hx hg e => H0.out.2.2 (List.length_pos_iff.1 e.2) (ofL_ne.1 hx) (by rw [hg, e.1]))
  have O1 := Lib.hid o1
  have C1 := Lib.hid c1
  clear o1 c1
  go_wp2_with fail
  refine (hc2.out w1 hv2.out).mono ?_
  rintro e w2 ⟨rfl, o2, c2⟩
  have hm := markP_step H0.out O1.out C1.out o2 c2
  have hfin := Lib.hid (And.intro hm.1 ((Below.chg hB.out S).trans_new hm.2 fun _ _ h => h))
  clear hm o2 c2 x1
  go_wp2
  go_ret
  exact ⟨rfl, hfin.out.1, hfin.out.2⟩

set_option maxHeartbeats 1000000 in
theorem heldMatch_any (v1 v2 : Value) (L : List Int × List Int) (k : Int) (hk : 0 ≤ k) (hb : k + sumP L ≤ 1000000000) (w : World) (h : ReadsP w v1 v2 (marksP k L)) :
    Calls Try.prog 25 #[.agg #[v1, v2], .int .i64 k] w fun e w' => e = .returned (.int .i64 (k + sumP L)) ∧ Below w.heap.size w w' := by
  have hB := Lib.hid ((Below.refl w.heap.size w).alloc (Nat.le_refl _) (.cells #[v1, v2] 40))
  have hsum : k + (sumP L : Int) = k + L.1.length + L.2.length := by unfold sumP; omega
  rw [hsum] at hb ⊢
  have hc1 := Lib.hid (heldIntS_b v1 L.1 k hk (by unfold sumI; omega) _ (h.1.below hB.out))
  have hc2 := Lib.hid (heldIntS_any v2 L.2.length (k + L.1.length) (by omega) (by omega) (w.alloc (.cells #[v1, v2] 40)) (by have := h.2.below hB.out; unfold ReadsI marksP marksI at this; simp only [marks_length] at this; exact this))
  have hc1' : Hid (Calls Try.prog 55 #[v1, .int .i64 k] (w.alloc (.cells #[v1, v2] 40)) fun e w' => e = .returned (.int .i64 (k + L.1.length)) ∧ w.alloc (.cells #[v1, v2] 40) = w') :=
    heldIntS_any v1 L.1.length k hk (by omega) _ (by have := h.1.below hB.out; unfold ReadsI marksP marksI at this; simp only [marks_length] at this; exact this)
  obtain ⟨t, ht⟩ : ∃ t, k + (L.1.length : Int) = t := ⟨_, rfl⟩
  rw [ht] at hc1' hc2 ⊢
  have hb1 : decide (t < 0) = false := by simp; omega
  obtain ⟨t2, ht2⟩ : ∃ x, t + (L.2.length : Int) = x := ⟨_, rfl⟩
  rw [ht2] at hc2 ⊢
  have hb2 : decide (t2 < 0) = false := by simp; omega
  clear h hb hsum ht ht2 hc1
  go_enter Try.func25, Try.ntmps25
  go_wp2_with fail
  refine hc1'.out.mono ?_
  rintro e w' ⟨rfl, rfl⟩
  go_wp2_with fail
  refine hc2.out.mono ?_
  rintro e w' ⟨rfl, rfl⟩
  go_wp2
  go_ret
  exact ⟨rfl, hB.out⟩

/-- The new cells of a struct of two lists, still nothing; the struct's box when it is laid. -/
def BoxInP (c W : World) (b : Nat) : Prop := c.heap.size ≤ b ∧ b < W.heap.size ∧ W.cell? ⟨b, 0, none⟩ = some (.slice none 0 0) ∧ W.cell? ⟨b, 1, none⟩ = some (.slice none 0 0) ∧ W.frozen? ⟨b, 0, none⟩ = false ∧ W.frozen? ⟨b, 1, none⟩ = false
theorem boxInP_new {c X W : World} {ty : TypeId} (h : Below c.heap.size c X) (hb : Below (X.alloc (.cells #[.slice none 0 0, .slice none 0 0] ty)).heap.size (X.alloc (.cells #[.slice none 0 0, .slice none 0 0] ty)) W) : BoxInP c W X.heap.size :=
  ⟨h.size, by have := hb.size; simp at this; omega, cell_old hb (by simp [go_sem]), cell_old hb (by simp [go_sem]), frozen_old hb (by simp) (by simp [go_sem]), frozen_old hb (by simp) (by simp [go_sem])⟩
theorem boxInP_new' {c W : World} {ty : TypeId} (hb : Below (c.alloc (.cells #[.slice none 0 0, .slice none 0 0] ty)).drew.heap.size (c.alloc (.cells #[.slice none 0 0, .slice none 0 0] ty)).drew W) : BoxInP c W c.heap.size :=
  boxInP_new (X := c) (Below.refl _ _) ⟨hb.os, hb.tape, hb.output, hb.size, hb.block⟩
theorem BoxInP.keep {c W W' : World} {b : Nat} (h : BoxInP c W b) (hb : Below W.heap.size W W') : BoxInP c W' b :=
  ⟨h.1, Nat.lt_of_lt_of_le h.2.1 hb.size, cell_old hb h.2.2.1, cell_old hb h.2.2.2.1, frozen_old hb h.2.1 h.2.2.2.2.1, frozen_old hb h.2.1 h.2.2.2.2.2⟩
def OutBoxP (w2 : World) (L : List Int × List Int) (t : Value) (wx : World) : Prop :=
  ∃ (b : Nat) (a : Option Addr) (c : Nat) (a' : Option Addr) (c' : Nat), t = .pointer (some ⟨b, 0, none⟩) ∧ wx.cell? ⟨b, 0, none⟩ = some (.slice a L.1.length c) ∧ wx.cell? ⟨b, 1, none⟩ = some (.slice a' L.2.length c') ∧
    OwnsP (fun g => w2.heap.size ≤ g ∧ g < wx.heap.size ∧ g ≠ b) wx (.slice a L.1.length c) (.slice a' L.2.length c') L ∧ w2.heap.size ≤ b ∧ b < wx.heap.size ∧ Below w2.heap.size w2 wx
theorem outBoxP_alloc {w2 w3 : World} {a a' : Option Addr} {c c' : Nat} {L : List Int × List Int} (ty : TypeId) (h : Below w2.heap.size w2 w3) (ho : OwnsP (w2.heap.size ≤ ·) w3 (.slice a L.1.length c) (.slice a' L.2.length c') L) :
    OutBoxP w2 L (.pointer (some ⟨w3.heap.size, 0, none⟩)) (w3.alloc (.cells #[.slice a L.1.length c, .slice a' L.2.length c'] ty)) := by
  refine ⟨w3.heap.size, a, c, a', c', rfl, by simp [go_sem], by simp [go_sem], ?_, h.size, by simp, below_alloc h⟩
  refine (ho.bound.below ((Below.refl _ _).alloc (Nat.le_refl _) _)).mono fun g hg => ?_
  exact ⟨hg.1, by simp; omega, by omega⟩
theorem outBoxP_put {c W : World} {b m : Nat} {a a' : Option Addr} {k k' : Nat} {L : List Int × List Int} (h : Below c.heap.size c W) (ho : OwnsP (m ≤ ·) W (.slice a L.1.length k) (.slice a' L.2.length k') L) (q : BoxInP c W b) (hm : b < m) :
    OutBoxP c L (.pointer (some ⟨b, 0, none⟩)) ((W.setCell ⟨b, 0, none⟩ (.slice a L.1.length k)).setCell ⟨b, 1, none⟩ (.slice a' L.2.length k')) := by
  have hc2 : Chg (fun g => g = b) W ((W.setCell ⟨b, 0, none⟩ (.slice a L.1.length k)).setCell ⟨b, 1, none⟩ (.slice a' L.2.length k')) :=
    (Chg.set1 W ⟨b, 0, none⟩ _).setCell (p := ⟨b, 1, none⟩) (fun _ => rfl) _
  have hq := q.1
  have c0 := q.2.2.1
  have c1 := q.2.2.2.1
  refine ⟨b, a, k, a', k', rfl, by simp [go_sem, c0], by simp [go_sem, c1], ?_, hq, by simpa using q.2.1, h.trans (hc2.below h.size fun g hg => by omega)⟩
  refine (ho.bound.chg hc2 fun g hg e => by omega).mono fun g hg => ?_
  refine ⟨by omega, by simp; omega, by omega⟩
/-- A struct of two lists in new memory, and whether there is one. -/
def OptMatch (w : World) (b : Bool) (L : List Int × List Int) (e : Ending) (w' : World) : Prop :=
  ∃ u1 u2, e = .returned (.tuple #[.agg #[u1, u2], .bool b]) ∧ OwnsP (w.heap.size ≤ ·) w' u1 u2 L ∧ Below w.heap.size w w'
theorem pair_chg (W : World) (b : Nat) (x y : Value) : Chg (fun g => g = b) W ((W.setCell ⟨b, 0, none⟩ x).setCell ⟨b, 1, none⟩ y) :=
  (Chg.set1 W ⟨b, 0, none⟩ x).setCell (p := ⟨b, 1, none⟩) (fun _ => rfl) y
theorem optMatch_none {w w1 : World} {b : Nat} (h1 : Below w.heap.size w w1) (hb : w.heap.size ≤ b) :
    OptMatch w false ([], []) (.returned (.tuple #[.agg #[.slice none 0 0, .slice none 0 0], .bool false])) ((w1.setCell ⟨b, 0, none⟩ (.slice none 0 0)).setCell ⟨b, 1, none⟩ (.slice none 0 0)) :=
  ⟨_, _, rfl, ownsP_nil _ _, h1.trans ((pair_chg w1 b _ _).below h1.size fun g e => by omega)⟩
theorem optMatch_put {w w1 w2 : World} {b : Nat} {u1 u2 : Value} {L : List Int × List Int} (h1 : Below w.heap.size w w1) (h2 : Below w1.heap.size w1 w2) (ho : OwnsP (w1.heap.size ≤ ·) w2 u1 u2 L) (hb : w.heap.size ≤ b) (hs : b < w1.heap.size) :
    OptMatch w true L (.returned (.tuple #[.agg #[u1, u2], .bool true])) ((w2.setCell ⟨b, 0, none⟩ u1).setCell ⟨b, 1, none⟩ u2) := by
  have hc2 := pair_chg w2 b u1 u2
  have s1 := h1.size
  have s2 := h2.size
  exact ⟨_, _, rfl, (ho.chg hc2 fun g hg e => by omega).mono fun g hg => by omega, (h1.trans (h2.mono s1)).trans (hc2.below (by omega) fun g e => by omega)⟩

end Ints
end Go.Proofs.Ytimjlcnljefbbaa
