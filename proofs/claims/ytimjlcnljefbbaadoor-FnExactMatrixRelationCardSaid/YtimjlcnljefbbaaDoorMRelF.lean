/- MatrixRelation, both. (Printed by wip/gen_mrel.py.) -/
import Derived.Test.YtimjlcnljefbbaaDoorJoined
import Derived.Test.YtimjlcnljefbbaaDoorMem4
import Derived.Test.YtimjlcnljefbbaaDoorPred
import Derived.Test.YtimjlcnljefbbaaDoorRelF
import Derived.Test.YtimjlcnljefbbaaDoorRel
import Derived.Deep.RegionLaw
import Derived.IntWalk
namespace Go.Proofs.YtimjlcnljefbbaaDoor
open Go.RowKit

/-- 'append(s, x...)' as one step of a region that draws its order. -/
theorem step_append_reads {P : Program} {w : World} {ops : Array Oper} {o : Oper} {a : Act} {K : Act → World → Prop} {Q : Exit → Act → World → Prop} {E : Prop} (hgd : o.guard = none) (s x : Operand) (t : TypeId)
    (ho : o.op = .call { callee := .builtin .append, args := #[s, x], argTypes := #[t, t] })
    (base : Nat) (e : TypeId) (z : Value) (size bytes : Nat) (ht : P.underlying t = some (.slice e)) (hinfo : (P.info? e).map (fun i => (i.zero, i.size, i.bytes)) = some (some z, size, bytes))
    (hzs : z.cells.size = size) (hsz : 0 < size) (v : Value) (n : Nat) (xs : List Value) (hown : w.ownsRow base e size v n xs)
    (sv : Value) (m : Nat) (news : List Value) (hsrc : Reads w size sv m news) (hs : a.eval s = v) (hx : a.eval x = sv) (h1 : ∀ u ∈ news, u.oneCell' = true)
    (h63 : n + m ≤ maxLen) (hbytes : (n + m) * bytes ≤ 140737488355328) (hbase : base ≤ w.heap.size)
    (h : ∀ v' w', w'.ownsRow base e size v' (n + m) (xs ++ news) → w.grownBy w' v.ownBlock → K (a.put o.dst v') w') :
    if Region.wanted o (yielded ops a.tmps) = true then Oper.wp P o a w K Q else E := by
  have hw : Region.wanted o (yielded ops a.tmps) = true := by simp [Region.wanted, hgd]
  rw [if_pos hw]
  obtain ⟨v', w', hr, h2, h3⟩ := run_append_reads (P := P) w base t o.type e z size bytes ht hinfo hzs hsz v n xs hown sv m news hsrc h1 h63 hbytes hbase
  unfold Oper.wp execOp
  simp only [ho, resolve, invoke, builtin, Sem.run_bind, Sem.run_pure, Result.andThen_ok, List.map_toArray, List.map_cons, List.map_nil, hs, hx, hr]
  exact h v' w' h2 h3

/-- A store into a row of the call's own. -/
theorem ownsRow_store {w : World} {base g n cap j : Nat} {e : TypeId} {xs : List Value} (u : Value) (h : w.ownsRow base e 1 (.slice (some ⟨g, 0, none⟩) n cap) n xs) :
    (w.setCell ⟨g, j, none⟩ u).ownsRow base e 1 (.slice (some ⟨g, 0, none⟩) n cap) n (xs.set j u) := by
  refine ⟨by rw [List.length_set]; exact h.1, ?_⟩
  rcases h.2 with ⟨e1, _⟩ | ⟨g', cap', cur, e1, hb, hg, hc, hm, hs, ht⟩
  · cases e1
  · simp only [Value.slice.injEq, Option.some.injEq, Addr.mk.injEq, and_true] at e1
    obtain ⟨rfl, -, rfl⟩ := e1
    refine .inr ⟨g, cap, cur.setIfInBounds j u, rfl, hb, heap_setCell_at u hg, hc, hm, by simpa using hs, ?_⟩
    rw [Array.toList_setIfInBounds, List.take_set, ht]

namespace Ints

def mrB (p c : Int) (A : List (List Int)) : Bool := matB p c A && decide ((A.length : Int) + c ≤ 24)
def unitL (n k : Nat) : List Int := rowT n fun j => if k = j then 1 else 0
def mrRows (A : List (List Int)) : List (List Int) := (List.range A.length).map fun k => unitL A.length k ++ lAt A k
def mrOut (p c : Int) (A : List (List Int)) : List (List Int) := if mrB p c A then mrRows A else []
def mrL (p c : Int) (A : List (List Int)) : Int := if mrB p c A then A.length else 0
def mrR (p c : Int) (A : List (List Int)) : Int := if mrB p c A then c else 0
theorem mrB_parts {p c : Int} {A : List (List Int)} (h : mrB p c A = true) : ∃ n : Nat, c = n ∧ A.length + n ≤ 24 ∧ Fld.goodB p = true ∧ ElemsT p A.length n A := by
  simp only [mrB, Bool.and_eq_true, decide_eq_true_eq] at h
  obtain ⟨n, e1, hn, hl, _, hA⟩ := mat_nats h.1
  exact ⟨n, e1, by omega, (mat_parts h.1).1, hA⟩
theorem mrRows_length (A : List (List Int)) : (mrRows A).length = A.length := by simp [mrRows]
theorem mrRows_take (A : List (List Int)) (k : Nat) (h : k < A.length) : (mrRows A).take (k + 1) = (mrRows A).take k ++ [unitL A.length k ++ lAt A k] := by
  rw [take_oneL _ k (by rw [mrRows_length]; exact h)]
  simp [mrRows, lAt, h]
theorem mrOut_ctr (p c : Int) (A : List (List Int)) : (1 : Int) + (sumL (mrOut p c A) : Int) ≤ 1000000000 := by
  unfold mrOut
  split
  · rename_i h
    obtain ⟨n, rfl, hn, hg, hA⟩ := mrB_parts h
    have h1 := sum_le_mul List.length 48 (mrRows A) (fun l hl => by
      simp only [mrRows, List.mem_map, List.mem_range] at hl
      obtain ⟨k, hk, rfl⟩ := hl
      have := (hA.2 k hk).1
      rw [List.length_append, unitL, rowT_length]
      omega)
    rw [mrRows_length] at h1
    unfold sumL
    omega
  · exact ctr_nil
theorem mr_none {p c : Int} {A : List (List Int)} (h : mrB p c A = false) : mrOut p c A = [] ∧ mrL p c A = 0 ∧ mrR p c A = 0 := by simp [mrOut, mrL, mrR, h]
theorem unitL_length (n k : Nat) : (unitL n k).length = n := rowT_length _ _
theorem unitL_set (n k : Nat) : (rowT n fun _ => (0 : Int)).set k 1 = unitL n k := by
  unfold unitL
  rw [rowT_set]
  apply rowT_congr
  intro j _
  by_cases e : j = k
  · subst e; simp
  · simp [e, show ¬ k = j from fun h => e h.symm]
theorem unit_facts {w2 : World} {base b n k : Nat} (h : w2.ownsRow base 3 1 (.slice (some ⟨b, 0, none⟩) n n) n (List.replicate n (.int .i64 0))) (hn : n ≤ maxLen) (hk : k < n) :
    w2.cell? ⟨b, k, none⟩ = some (.int .i64 0) ∧ w2.frozen? ⟨b, k, none⟩ = false ∧ (w2.setCell ⟨b, k, none⟩ (.int .i64 1)).ownsRow base 3 1 (.slice (some ⟨b, 0, none⟩) n n) n (ofL (unitL n k)) := by
  have ho := owns_of_row h hn
  obtain ⟨_, a3, c3, e3, _, hc3⟩ := open_owns (l := rowT n fun _ => 0) (by rw [ofL_replicate]; exact ho.1)
  simp only [Value.slice.injEq] at e3
  obtain ⟨rfl, -, rfl⟩ := e3
  obtain ⟨g3, off3, e4, hg3, hj3⟩ := hc3 (by omega)
  simp only [Option.some.injEq, Addr.mk.injEq, and_true] at e4
  obtain ⟨rfl, rfl⟩ := e4
  have hy := (hj3 k hk).1
  have hfy := (hj3 k hk).2.1
  rw [Nat.zero_add] at hy hfy
  rw [rowT_at hk] at hy
  refine ⟨hy, hfy, ?_⟩
  have hst := ownsRow_store (j := k) (.int .i64 1) h
  rw [← ofL_replicate, show (ofL (rowT n fun _ => 0)).set k (.int .i64 1) = ofL (unitL n k) by rw [← unitL_set]; simp [ofL, List.map_set]] at hst
  exact hst
theorem wf_small {n : Nat} (h : n ≤ 24) : (Lit.int .i64 (n : Int)).wf = true := by
  have h1 : IntKind.i64.min = -9223372036854775808 := rfl
  have h2 : IntKind.i64.max = 9223372036854775807 := rfl
  simp [Lit.wf, h1, h2]
  omega
theorem fits_eq {l : Nat} {c : Int} (hl : l ≤ 24) (hc : 0 ≤ c ∧ c ≤ 24) : fitsB l c = decide ((l : Int) + c ≤ 24) := by
  rw [Bool.eq_iff_iff]
  unfold fitsB Fld.inR
  simp
  omega

theorem below_via_alloc {w w6 : World} {o : Obj} (h : Below (w.alloc o).heap.size (w.alloc o) w6) : Below w.heap.size w w6 :=
  ((Below.refl w.heap.size w).alloc (Nat.le_refl _) o).trans (h.mono (by simp))
theorem two_flat (a b : List Int) : [a, b].flatten = a ++ b := by simp
theorem two_len (m n : Nat) (a b : List Int) (ha : a.length = m) (hb : b.length = n) : ([a, b].flatten).length = m + n := by simp [ha, hb]
/-- The call of 'joined' on two lists that lie side by side in a new block. -/
theorem joined_two (m n : Nat) (a b : List Int) (va vb : Value) (w : World) (ha : a.length = m) (hb : b.length = n) (h1 : Reads w 1 va m (ofL a)) (h2 : Reads w 1 vb n (ofL b)) (hs : m + n ≤ 1000) :
    Calls Tryd.prog 44 #[.slice (some ⟨w.heap.size, 0, none⟩) 2 2] (w.alloc (.cells #[va, vb] 41)) (NewInts (w.alloc (.cells #[va, vb] 41)) [a, b].flatten) := by
  have hB : Below w.heap.size w (w.alloc (.cells #[va, vb] 41)) := (Below.refl _ _).alloc (Nat.le_refl _) _
  refine joined_any _ [a, b] _ ⟨[va, vb], ⟨rfl, _, 2, rfl, Nat.le_refl _, by unfold maxLen; omega, fun _ => ⟨w.heap.size, 0, rfl, fun j hj => ?_⟩⟩, rfl, fun i hi => ?_⟩ (by simp [tot]; omega)
  · rw [cell_of_row (w.alloc _) w.heap.size (0 + j) #[va, vb] 41 (0, 0) (heap_alloc_new w _)]
    have hj2 : j < 2 := hj
    rcases Nat.lt_or_ge j 1 with h | h
    · obtain rfl : j = 0 := by omega
      rfl
    · obtain rfl : j = 1 := by omega
      rfl
  · have hi2 : i < 2 := hi
    rcases Nat.lt_or_ge i 1 with h | h
    · obtain rfl : i = 0 := by omega
      have := h1.below hB
      rw [← ha] at this
      exact this
    · obtain rfl : i = 1 := by omega
      have := h2.below hB
      rw [← hb] at this
      exact this

set_option maxHeartbeats 8000000 in
set_option maxRecDepth 100000 in
theorem rlMatrix_any (c : Nat) (hc : c ≤ 24) (u : Value) (A : List (List Int)) (w : World) (hl : A.length ≤ 24) (hA : ∀ i, i < A.length → (lAt A i).length = c) (hu : ReadsM w u A) :
    Calls Tryd.prog 40 #[.agg #[.int .i64 c, u]] w (NewRel w A.length c (mrRows A)) := by
  obtain ⟨ua, uc, rfl, hm, hcA⟩ := open_readsM hu
  obtain ⟨n, hn⟩ : ∃ n, A.length = n := ⟨_, rfl⟩
  have htk := Lib.hid (fun k (hk : k < n) => mrRows_take A k (by omega))
  have hml := Lib.hid (mrRows_length A)
  rw [hn] at htk hml
  obtain ⟨MR, hMR⟩ : ∃ M, mrRows A = M := ⟨_, rfl⟩
  rw [hMR] at htk hml ⊢
  rw [hn] at hm hcA hl hA ⊢
  obtain ⟨w1, hw1⟩ : ∃ W, W = (((w.alloc (.cells #[.int .i64 c, .slice ua n uc] 30)).alloc (.cells #[.int .i64 0, .int .i64 0, .slice none 0 0] 27)).alloc (.cells #[.int .i64 n, .int .i64 c, .slice none 0 0] 27)) := ⟨_, rfl⟩
  have hB1 : Below w.heap.size w w1 := by rw [hw1]; exact (((Below.refl w.heap.size w).alloc (by simp) _).alloc (by simp) _).alloc (by simp; omega) _
  have hs1 : w1.heap.size = w.heap.size + 3 := by rw [hw1]; simp
  have X1 : w1.cell? ⟨w.heap.size, 1, none⟩ = some (.slice ua n uc) := by rw [hw1]; simp [go_sem]
  have Q0 : w1.cell? ⟨w.heap.size + 1, 0, none⟩ = some (.int .i64 0) := by rw [hw1]; simp [go_sem]
  have Q1 : w1.cell? ⟨w.heap.size + 1, 1, none⟩ = some (.int .i64 0) := by rw [hw1]; simp [go_sem]
  have Q2 : w1.cell? ⟨w.heap.size + 1, 2, none⟩ = some (.slice none 0 0) := by rw [hw1]; simp [go_sem]
  have G0 : w1.frozen? ⟨w.heap.size + 1, 0, none⟩ = false := by rw [hw1]; simp [go_sem]
  have G1 : w1.frozen? ⟨w.heap.size + 1, 1, none⟩ = false := by rw [hw1]; simp [go_sem]
  have G2 : w1.frozen? ⟨w.heap.size + 1, 2, none⟩ = false := by rw [hw1]; simp [go_sem]
  have O0 : w1.cell? ⟨w.heap.size + 2, 0, none⟩ = some (.int .i64 n) := by rw [hw1]; simp [go_sem]
  have O1 : w1.cell? ⟨w.heap.size + 2, 1, none⟩ = some (.int .i64 c) := by rw [hw1]; simp [go_sem]
  have O2 : w1.cell? ⟨w.heap.size + 2, 2, none⟩ = some (.slice none 0 0) := by rw [hw1]; simp [go_sem]
  have F2 : w1.frozen? ⟨w.heap.size + 2, 2, none⟩ = false := by rw [hw1]; simp [go_sem]
  have hG0 : Gather w1 (w.heap.size + 2) (w.heap.size + 3) [] 0 (.slice none 0 0) [] w1 := Gather.start ⟨rfl, .inl ⟨rfl, rfl⟩⟩ (by simp [Value.ownBlock]) ⟨_, 27, (0, 0), by rw [hw1, show w.heap.size + 2 = ((w.alloc (.cells #[.int .i64 c, .slice ua n uc] 30)).alloc (.cells #[.int .i64 0, .int .i64 0, .slice none 0 0] 27)).heap.size by simp]; exact heap_alloc_new _ _, by decide⟩ (by omega)
  have HX1 := Lib.hid X1
  have HQ := Lib.hid (And.intro Q0 (And.intro Q1 Q2))
  have HGZ := Lib.hid (And.intro G0 (And.intro G1 G2))
  have HO := Lib.hid (And.intro O0 (And.intro O1 (And.intro O2 F2)))
  have HG := Lib.hid hG0
  have HW := Lib.hid hw1
  have HB1 := Lib.hid hB1
  have HS := Lib.hid hs1
  have HA := Lib.hid hA
  have HCA := Lib.hid (fun k hk => hcA k hk)
  have hfit := Lib.hid (show n ≤ maxLen by unfold maxLen; omega)
  have hmk1 := Lib.hid (show 8 * n ≤ 281474976710656 by omega)
  clear hw1 hB1 hs1 X1 Q0 Q1 Q2 G0 G1 G2 O0 O1 O2 F2 hG0 hA hu hcA hMR
  go_enter Tryd.func40, Tryd.ntmps40
  go_wp2
  rw [← HW.out]
  go_loopw [16] (fun i wr => ∃ (k : Nat) (rs : List Value) (o : Value), k ≤ n ∧ i = .int .i64 k ∧ Gather w1 (w.heap.size + 2) (w.heap.size + 3) (MR.take k) k o rs wr ∧ wr.cell? ⟨w.heap.size + 2, 0, none⟩ = some (.int .i64 n) ∧ wr.cell? ⟨w.heap.size + 2, 1, none⟩ = some (.int .i64 c) ∧ wr.cell? ⟨w.heap.size + 2, 2, none⟩ = some o ∧ wr.frozen? ⟨w.heap.size + 2, 2, none⟩ = false) (fun i _ => n + 1 - (intOf i).toNat)
  case atStart => exact ⟨0, [], _, by omega, rfl, HG.out, HO.out.1, HO.out.2.1, HO.out.2.2.1, HO.out.2.2.2⟩
  case round =>
    obtain ⟨k, rs, o, hk, rfl, hG, o0, o1, o2, f2⟩ := hrel
    by_cases hlt : k < n
    · obtain ⟨g, off, rv, rfl, hg, hcell, hrd⟩ := HCA.out k hlt
      have hBW : Below w.heap.size w wr := HB1.out.trans (hG.below (by omega) (by omega))
      have hrow : wr.cell? ⟨g, off + k, none⟩ = some rv := (hBW.cell (p := ⟨g, off + k, none⟩) hg).trans hcell
      have x1 : wr.cell? ⟨w.heap.size, 1, none⟩ = some (.slice (some ⟨g, off, none⟩) n uc) := hG.keep HX1.out (by simp) (by simp)
      have hlen := HA.out k hlt
      rw [hlen] at hrd
      have HRD := Lib.hid (hrd.below hBW)
      have HTK := Lib.hid (htk.out k hlt)
      have HGG := Lib.hid hG
      have HO0 := Lib.hid o0
      have HO1 := Lib.hid o1
      have HO2 := Lib.hid o2
      have HF2 := Lib.hid f2
      have HX := Lib.hid x1
      have hm3 := Lib.hid (show k + 1 ≤ maxLen by have := hfit.out; omega)
      have hm4 := Lib.hid (show (k + 1) * 24 ≤ 140737488355328 by omega)
      have hm5 := Lib.hid (show n + c ≤ maxLen by unfold maxLen; omega)
      have hm6 := Lib.hid (show (n + c) * 8 ≤ 140737488355328 by omega)
      have hone : Hid (∀ u ∈ ofL (lAt A k), u.oneCell' = true) := by intro u hu; simp [ofL] at hu; obtain ⟨x, _, rfl⟩ := hu; rfl
      obtain ⟨ao, co, rfl⟩ := hG.form
      obtain ⟨ar, cr, rfl⟩ := hrd.form
      have hk0 : 0 ≤ (k : Int) := by omega
      have hkn : (k : Int) < (n : Int) := by omega
      have hlen2 := Lib.hid hlen
      generalize lAt A k = row at *
      clear hG hcell hrd hlen hBW hg f2 o0 o1 o2
      obtain ⟨W0, hW0⟩ : ∃ W, W = wr := ⟨_, rfl⟩
      rw [← hW0] at HGG HO0 HO1 HO2 HF2 HX HRD hrow x1 ⊢
      clear hW0 wr
      go_wp2_with (at_make; refine wpList_make_one _ rfl _ _ 41 rfl 3 (.int .i64 0) 8 Tryd.underlying41 infoI rfl n rfl rfl hmk1.out hfit.out ?_; intro w2 hown2 hb2 hs2; have uf := unit_facts hown2 hfit.out hlt; have hy := uf.1; have hfy := uf.2.1)
      have hst := uf.2.2
      have hB3 : Below W0.heap.size W0 (w2.setCell ⟨W0.heap.size, k, none⟩ (.int .i64 1)) := hb2.setCell (p := ⟨W0.heap.size, k, none⟩) (Nat.le_refl _) _
      obtain ⟨w3, hw3⟩ : ∃ W, W = w2.setCell ⟨W0.heap.size, k, none⟩ (.int .i64 1) := ⟨_, rfl⟩
      rw [← hw3] at hst hB3
      have HST : Hid (w3.drew.ownsRow W0.heap.size 3 1 (.slice (some ⟨W0.heap.size, 0, none⟩) n n) n (ofL (unitL n k))) := ownsRow_below hst (Below.refl _ _).drew
      have HB3 := Lib.hid hB3.drew
      have HW3 := Lib.hid hw3
      have hsrc := Lib.hid (HRD.out.below hB3.drew)
      have hsz3 := Lib.hid hB3.drew.size
      have z2 := cell_old hB3.drew HO2.out
      clear hown2 uf hst hw3 hs2 hb2 hB3
      rw [← HW3.out]
      clear hy hfy
      go_region_law (first
        | (refine step_append_reads (by rfl) _ _ 41 (by rfl) W0.heap.size 3 (.int .i64 0) 1 8 Tryd.underlying41 infoI rfl (by decide) (.slice (some ⟨W0.heap.size, 0, none⟩) n n) n (ofL (unitL n k)) HST.out (.slice ar c cr) c (ofL row) hsrc.out (by rfl) (by rfl) hone.out hm5.out hm6.out hsz3.out ?_; intro v4 w4 hown4 hg4; obtain ⟨a4, c4, rfl⟩ := ownsRow_form hown4; have hb4 : Below W0.heap.size W0 w4 := Below.grownRow HB3.out HST.out hg4 hsz3.out; have z3 := cell_old hb4 HO2.out; have z4 := fun ob => cell_old (below_alloc (Below.refl w4.heap.size w4) (o := ob)) z3)
        | (refine step_append_one (by rfl) _ _ 22 (by rfl) (w.heap.size + 3) 41 (.slice none 0 0) 24 Tryd.underlying22 infoS rfl (.slice ao k co) k rs (.slice a4 (n + c) c4) (ownsRow_below HGG.out.own hb4) (by rfl) (by rfl) rfl hm3.out hm4.out (Nat.le_trans HGG.out.lt hb4.size) ?_; intro v5 w5 hown5 hg5; obtain ⟨a5, c5, rfl⟩ := ownsRow_form hown5; have q1 := HGG.out.after hb4 hg5 HO2.out; have p1 := HGG.out.afterF hb4 hg5 HF2.out))
      all_goals
        have ho4 := owns_of_row hown4 hm5.out
        rw [show ofL (unitL n k) ++ ofL row = ofL (unitL n k ++ row) by simp [ofL]] at ho4
        have hrl : (unitL n k ++ row).length = n + c := by rw [List.length_append, unitL_length, hlen2.out]
        have H1 := Lib.hid (HGG.out.push (hrl ▸ ho4.1) ho4.2 hb4 hown5 hg5 2)
        rw [← HTK.out] at H1
        have q0 := HGG.out.after hb4 hg5 HO0.out
        have q2 := HGG.out.after hb4 hg5 HO1.out
        have H2 := Lib.hid (show (w5.setCell ⟨w.heap.size + 2, 2, none⟩ (.slice a5 (k + 1) c5)).cell? ⟨w.heap.size + 2, 0, none⟩ = some (.int .i64 n) by simp [go_sem, q0])
        have H3 := Lib.hid (show (w5.setCell ⟨w.heap.size + 2, 2, none⟩ (.slice a5 (k + 1) c5)).cell? ⟨w.heap.size + 2, 1, none⟩ = some (.int .i64 c) by simp [go_sem, q2])
        have H4 := Lib.hid (show (w5.setCell ⟨w.heap.size + 2, 2, none⟩ (.slice a5 (k + 1) c5)).cell? ⟨w.heap.size + 2, 2, none⟩ = some (.slice a5 (k + 1) c5) by simp [go_sem, q1])
        have H5 := Lib.hid (show (w5.setCell ⟨w.heap.size + 2, 2, none⟩ (.slice a5 (k + 1) c5)).frozen? ⟨w.heap.size + 2, 2, none⟩ = false by simp [go_sem, p1])
        clear hown5 hg5 ho4 hown4 hg4 hb4 q0 q1 q2 p1
        go_wp2
        go_roundw
        case rel => exact ⟨k + 1, _, _, by omega, by go_num, H1.out, H2.out, H3.out, H4.out, H5.out⟩
        case measure => simp [intOf]; omega
    · have hkn : k = n := by omega
      rw [hkn] at hG hlt ⊢
      have q0 : wr.cell? ⟨w.heap.size + 1, 0, none⟩ = some (.int .i64 0) := hG.keep HQ.out.1 (by simp) (by simp)
      have q1 : wr.cell? ⟨w.heap.size + 1, 1, none⟩ = some (.int .i64 0) := hG.keep HQ.out.2.1 (by simp) (by simp)
      have q2 : wr.cell? ⟨w.heap.size + 1, 2, none⟩ = some (.slice none 0 0) := hG.keep HQ.out.2.2 (by simp) (by simp)
      have g0 : wr.frozen? ⟨w.heap.size + 1, 0, none⟩ = false := hG.keepF HGZ.out.1 (by simp) (by simp)
      have g1 : wr.frozen? ⟨w.heap.size + 1, 1, none⟩ = false := hG.keepF HGZ.out.2.1 (by simp) (by simp)
      have g2 : wr.frozen? ⟨w.heap.size + 1, 2, none⟩ = false := hG.keepF HGZ.out.2.2 (by simp) (by simp)
      rw [List.take_of_length_le (by rw [hml.out]; exact Nat.le_refl _)] at hG
      have ho := hG.owns hml.out hfit.out
      obtain ⟨ao, co, rfl⟩ := hG.form
      have hfin : Hid (NewRel w n c MR (.returned (.agg #[.int .i64 n, .int .i64 c, .slice ao n co])) (((wr.setCell ⟨w.heap.size + 1, 0, none⟩ (.int .i64 n)).setCell ⟨w.heap.size + 1, 1, none⟩ (.int .i64 c)).setCell ⟨w.heap.size + 1, 2, none⟩ (.slice ao n co))) := by
        have hc2 := relBox_chg wr (w.heap.size + 1) (.int .i64 n) (.int .i64 c) (.slice ao n co)
        have hl2 := hG.lt
        exact ⟨_, rfl, (ho.chg hc2 fun g hg e => by omega).mono fun g hg => by omega, (HB1.out.trans (hG.below (by omega) (by omega))).trans (hc2.below (by omega) fun g hg => by omega)⟩
      clear hG f2 ho
      go_wp2
      refine bodyPost_ret (v := .agg #[.int .i64 n, .int .i64 c, .slice ao n co]) (by simp [results, Tryd.results40, go_sem, q0, q1, q2]) rfl ?_
      exact hfin.out

set_option maxRecDepth 100000 in
set_option maxHeartbeats 4000000 in
theorem specMR_any (p c : Int) (u : Value) (A : List (List Int)) (w : World) (hu : ReadsM w u A) :
    Calls Tryd.prog 9 #[.int .i64 p, .agg #[.int .i64 c, u]] w (OptRel w (mrB p c A) (mrL p c A) (mrR p c A) (mrOut p c A)) := by
  obtain ⟨ua, uc, rfl⟩ := hu.form
  obtain ⟨w0, hw0⟩ : ∃ W, W = ((w.alloc (.cells #[.int .i64 c, .slice ua A.length uc] 30)).alloc (.cells #[.int .i64 0, .int .i64 0, .slice none 0 0] 27)) := ⟨_, rfl⟩
  have hB : Below w.heap.size w w0 := by rw [hw0]; exact (((Below.refl w.heap.size w).alloc (by simp) (.cells #[.int .i64 c, .slice ua A.length uc] 30)).alloc (by simp) (.cells #[.int .i64 0, .int .i64 0, .slice none 0 0] 27))
  have hs0 : w0.heap.size = w.heap.size + 2 := by rw [hw0]; simp
  have X0_0 : ∀ W, Below w0.heap.size w0 W → W.cell? ⟨w.heap.size, 0, none⟩ = some (.int .i64 c) := fun W hW => cell_old hW (by rw [hw0]; simp [go_sem])
  have X0_1 : ∀ W, Below w0.heap.size w0 W → W.cell? ⟨w.heap.size, 1, none⟩ = some (.slice ua A.length uc) := fun W hW => cell_old hW (by rw [hw0]; simp [go_sem])
  have Q0 : ∀ W, Below w0.heap.size w0 W → W.cell? ⟨w.heap.size + 1, 0, none⟩ = some (.int .i64 0) := fun W hW => cell_old hW (by rw [hw0]; simp [go_sem])
  have G0 : ∀ W, Below w0.heap.size w0 W → W.frozen? ⟨w.heap.size + 1, 0, none⟩ = false := fun W hW => frozen_old hW (by show w.heap.size + 1 < _; omega) (by rw [hw0]; simp [go_sem])
  have Q1 : ∀ W, Below w0.heap.size w0 W → W.cell? ⟨w.heap.size + 1, 1, none⟩ = some (.int .i64 0) := fun W hW => cell_old hW (by rw [hw0]; simp [go_sem])
  have G1 : ∀ W, Below w0.heap.size w0 W → W.frozen? ⟨w.heap.size + 1, 1, none⟩ = false := fun W hW => frozen_old hW (by show w.heap.size + 1 < _; omega) (by rw [hw0]; simp [go_sem])
  have Q2 : ∀ W, Below w0.heap.size w0 W → W.cell? ⟨w.heap.size + 1, 2, none⟩ = some (.slice none 0 0) := fun W hW => cell_old hW (by rw [hw0]; simp [go_sem])
  have G2 : ∀ W, Below w0.heap.size w0 W → W.frozen? ⟨w.heap.size + 1, 2, none⟩ = false := fun W hW => frozen_old hW (by show w.heap.size + 1 < _; omega) (by rw [hw0]; simp [go_sem])
  have HW := Lib.hid hw0
  have HB := Lib.hid hB
  have HS := Lib.hid hs0
  have HU := Lib.hid (hu.below hB)
  obtain ⟨b1, hb1⟩ : ∃ b, (matB p c A) = b := ⟨_, rfl⟩
  have Cb1 := Lib.hid (fun W (hW : Below w0.heap.size w0 W) => mxGood_any p c _ A W (HU.out.below hW))
  rw [hb1] at Cb1
  obtain ⟨b2, hb2⟩ : ∃ b, (decide ((A.length : Int) + c ≤ 24)) = b := ⟨_, rfl⟩
  have Eb2 : (decide ((24 : Int) < (A.length : Int) + c)) = !b2 := by rw [← hb2]; rw [Bool.eq_iff_iff]; simp
  clear hw0 hB hs0 hu
  cases b1 with
  | false =>
    have e0 : mrB p c A = false := by simp [mrB, hb1]
    rw [e0, (mr_none e0).1, (mr_none e0).2.1, (mr_none e0).2.2]
    clear e0
    clear hb1 hb2
    go_enter Tryd.func9, Tryd.ntmps9
    go_wp2_with fail
    rw [← HW.out]
    refine (Cb1.out w0 (Below.refl _ _)).mono ?_
    rintro e w1 ⟨rfl, hb1⟩
    have B1 : Below w0.heap.size w0 w1 := hb1
    clear hb1
    go_wp2
    refine bodyPost_ret (v := .tuple #[.agg #[.int .i64 0, .int .i64 0, .slice none 0 0], .bool false]) (by simp [results, Tryd.results9, go_sem, Q0 _ B1, Q1 _ B1, Q2 _ B1]) rfl ?_
    exact optRel_none (HB.out.trans (B1.mono HB.out.size)) (by omega)
  | true =>
    have hcb : 0 ≤ c ∧ c ≤ 24 ∧ A.length ≤ 24 := by obtain ⟨n, rfl, hn, hl, _⟩ := mat_nats hb1; omega
    have hw1 : IntKind.i64.wrap ((A.length : Int) + c) = (A.length : Int) + c := IntWalk.i64_in _ (by omega)
    cases b2 with
    | false =>
      have e0 : mrB p c A = false := by simp [mrB, hb1, hb2]
      rw [e0, (mr_none e0).1, (mr_none e0).2.1, (mr_none e0).2.2]
      clear e0
      clear hb1 hb2
      go_enter Tryd.func9, Tryd.ntmps9
      go_wp2_with fail
      rw [← HW.out]
      refine (Cb1.out w0 (Below.refl _ _)).mono ?_
      rintro e w1 ⟨rfl, hb1⟩
      have B1 : Below w0.heap.size w0 w1 := hb1
      clear hb1
      go_wp2
      refine bodyPost_ret (v := .tuple #[.agg #[.int .i64 0, .int .i64 0, .slice none 0 0], .bool false]) (by simp [results, Tryd.results9, go_sem, Q0 _ B1, Q1 _ B1, Q2 _ B1]) rfl ?_
      exact optRel_none (HB.out.trans (B1.mono HB.out.size)) (by omega)
    | true =>
      have e0 : mrB p c A = true := by simp only [mrB, hb1, hb2]; rfl
      obtain ⟨n, rfl, hn, hg, hA⟩ := mrB_parts e0
      have e1 : mrOut p n A = mrRows A := by simp [mrOut, e0]
      have e2 : mrL p n A = A.length := by simp [mrL, e0]
      have e3 : mrR p n A = n := by simp [mrR, e0]
      rw [e0, e1, e2, e3]
      have HA := Lib.hid hA
      have hml := Lib.hid (mrRows_length A)
      obtain ⟨R, hR⟩ : ∃ R, mrRows A = R := ⟨_, rfl⟩
      rw [hR] at hml ⊢
      have HR := Lib.hid hR
      clear e0 e1 e2 e3 hb1 hb2 hA hg hR
      go_enter Tryd.func9, Tryd.ntmps9
      go_wp2_with fail
      rw [← HW.out]
      refine (Cb1.out w0 (Below.refl _ _)).mono ?_
      rintro e w1 ⟨rfl, hb1⟩
      have B1 : Below w0.heap.size w0 w1 := hb1
      clear hb1
      have hrl := Lib.hid (fun W (hW : Below w0.heap.size w0 W) => HR.out ▸ rlMatrix_any n (by omega) (.slice ua A.length uc) A W (by omega) (fun i hi => (HA.out.2 i hi).1) (HU.out.below hW))
      have x0_0 := X0_0 _ B1
      have x0_1 := X0_1 _ B1
      go_wp2_with fail
      refine (hrl.out w1 B1).mono ?_
      rintro e w9 ⟨v9, rfl, ho9, hb9⟩
      obtain ⟨a9, c9, rfl⟩ := ho9.reads.form
      have B9 := below_step B1 hb9
      have q0 := Q0 _ B9
      have q1 := Q1 _ B9
      have q2 := Q2 _ B9
      have g0 := G0 _ B9
      have g1 := G1 _ B9
      have g2 := G2 _ B9
      have hfin := Lib.hid (optRel_put (HB.out.trans (B1.mono HB.out.size)) hb9 ho9 (b := w.heap.size + 1) (by omega) (by have h1 := B1.size; have h2 := HS.out; omega) (c := (A.length : Int)) (d := (n : Int)))
      clear ho9 hb9
      go_wp2
      refine bodyPost_ret (v := .tuple #[.agg #[.int .i64 (A.length : Int), .int .i64 (n : Int), .slice a9 R.length c9], .bool true]) (by simp [results, Tryd.results9, go_sem, q0, q1, q2]) rfl ?_
      exact hfin.out

set_option maxRecDepth 100000 in
set_option maxHeartbeats 4000000 in
theorem implMR_any (p c : Int) (u : Value) (A : List (List Int)) (w : World) (ht : Tab w) (hu : ReadsM w u A) :
    Calls Tryd.prog 11 #[.int .i64 p, .agg #[.int .i64 c, u]] w (OptRel w (mrB p c A) (mrL p c A) (mrR p c A) (mrOut p c A)) := by
  obtain ⟨ua, uc, rfl⟩ := hu.form
  obtain ⟨w0, hw0⟩ : ∃ W, W = ((w.alloc (.cells #[.int .i64 c, .slice ua A.length uc] 30)).alloc (.cells #[.int .i64 0, .int .i64 0, .slice none 0 0] 27)) := ⟨_, rfl⟩
  have hB : Below w.heap.size w w0 := by rw [hw0]; exact (((Below.refl w.heap.size w).alloc (by simp) (.cells #[.int .i64 c, .slice ua A.length uc] 30)).alloc (by simp) (.cells #[.int .i64 0, .int .i64 0, .slice none 0 0] 27))
  have hs0 : w0.heap.size = w.heap.size + 2 := by rw [hw0]; simp
  have X0_0 : ∀ W, Below w0.heap.size w0 W → W.cell? ⟨w.heap.size, 0, none⟩ = some (.int .i64 c) := fun W hW => cell_old hW (by rw [hw0]; simp [go_sem])
  have X0_1 : ∀ W, Below w0.heap.size w0 W → W.cell? ⟨w.heap.size, 1, none⟩ = some (.slice ua A.length uc) := fun W hW => cell_old hW (by rw [hw0]; simp [go_sem])
  have Q0 : ∀ W, Below w0.heap.size w0 W → W.cell? ⟨w.heap.size + 1, 0, none⟩ = some (.int .i64 0) := fun W hW => cell_old hW (by rw [hw0]; simp [go_sem])
  have G0 : ∀ W, Below w0.heap.size w0 W → W.frozen? ⟨w.heap.size + 1, 0, none⟩ = false := fun W hW => frozen_old hW (by show w.heap.size + 1 < _; omega) (by rw [hw0]; simp [go_sem])
  have Q1 : ∀ W, Below w0.heap.size w0 W → W.cell? ⟨w.heap.size + 1, 1, none⟩ = some (.int .i64 0) := fun W hW => cell_old hW (by rw [hw0]; simp [go_sem])
  have G1 : ∀ W, Below w0.heap.size w0 W → W.frozen? ⟨w.heap.size + 1, 1, none⟩ = false := fun W hW => frozen_old hW (by show w.heap.size + 1 < _; omega) (by rw [hw0]; simp [go_sem])
  have Q2 : ∀ W, Below w0.heap.size w0 W → W.cell? ⟨w.heap.size + 1, 2, none⟩ = some (.slice none 0 0) := fun W hW => cell_old hW (by rw [hw0]; simp [go_sem])
  have G2 : ∀ W, Below w0.heap.size w0 W → W.frozen? ⟨w.heap.size + 1, 2, none⟩ = false := fun W hW => frozen_old hW (by show w.heap.size + 1 < _; omega) (by rw [hw0]; simp [go_sem])
  have HW := Lib.hid hw0
  have HB := Lib.hid hB
  have HS := Lib.hid hs0
  have HU := Lib.hid (hu.below hB)
  have htB : Hid (Tab w0) := ht.below ht.size hB
  obtain ⟨b1, hb1⟩ : ∃ b, (matB p c A) = b := ⟨_, rfl⟩
  have Cb1 := Lib.hid (fun W (hW : Below w0.heap.size w0 W) => isMatrix_any p c _ A W (htB.out.below htB.out.size hW) (HU.out.below hW))
  rw [hb1] at Cb1
  obtain ⟨b2, hb2⟩ : ∃ b, (decide ((A.length : Int) + c ≤ 24)) = b := ⟨_, rfl⟩
  clear hw0 hB hs0 hu ht
  cases b1 with
  | false =>
    have e0 : mrB p c A = false := by simp [mrB, hb1]
    rw [e0, (mr_none e0).1, (mr_none e0).2.1, (mr_none e0).2.2]
    clear e0
    clear hb1 hb2
    go_enter Tryd.func11, Tryd.ntmps11
    go_wp2_with fail
    rw [← HW.out]
    refine (Cb1.out w0 (Below.refl _ _)).mono ?_
    rintro e w1 ⟨rfl, hb1⟩
    have B1 : Below w0.heap.size w0 w1 := hb1
    clear hb1
    go_wp2
    refine bodyPost_ret (v := .tuple #[.agg #[.int .i64 0, .int .i64 0, .slice none 0 0], .bool false]) (by simp [results, Tryd.results11, go_sem, Q0 _ B1, Q1 _ B1, Q2 _ B1]) rfl ?_
    exact optRel_none (HB.out.trans (B1.mono HB.out.size)) (by omega)
  | true =>
    have hcb : 0 ≤ c ∧ c ≤ 24 ∧ A.length ≤ 24 := by obtain ⟨n, rfl, hn, hl, _⟩ := mat_nats hb1; omega
    have Cb2 := Lib.hid (fun W (_ : Below w0.heap.size w0 W) => fits_any (A.length : Int) c (wf_small hcb.2.2) W)
    rw [fits_eq hcb.2.2 ⟨hcb.1, hcb.2.1⟩, hb2] at Cb2
    cases b2 with
    | false =>
      have e0 : mrB p c A = false := by simp [mrB, hb1, hb2]
      rw [e0, (mr_none e0).1, (mr_none e0).2.1, (mr_none e0).2.2]
      clear e0
      clear hb1 hb2
      go_enter Tryd.func11, Tryd.ntmps11
      go_wp2_with fail
      rw [← HW.out]
      refine (Cb1.out w0 (Below.refl _ _)).mono ?_
      rintro e w1 ⟨rfl, hb1⟩
      have B1 : Below w0.heap.size w0 w1 := hb1
      clear hb1
      go_wp2_with fail
      refine (Cb2.out w1 B1).mono ?_
      rintro e w2 ⟨rfl, rfl⟩
      go_wp2
      refine bodyPost_ret (v := .tuple #[.agg #[.int .i64 0, .int .i64 0, .slice none 0 0], .bool false]) (by simp [results, Tryd.results11, go_sem, Q0 _ B1, Q1 _ B1, Q2 _ B1]) rfl ?_
      exact optRel_none (HB.out.trans (B1.mono HB.out.size)) (by omega)
    | true =>
      have e0 : mrB p c A = true := by simp only [mrB, hb1, hb2]; rfl
      obtain ⟨n, rfl, hn, hg, hA⟩ := mrB_parts e0
      have e1 : mrOut p n A = mrRows A := by simp [mrOut, e0]
      have e2 : mrL p n A = A.length := by simp [mrL, e0]
      have e3 : mrR p n A = n := by simp [mrR, e0]
      rw [e0, e1, e2, e3]
      have HA := Lib.hid hA
      have hml := Lib.hid (mrRows_length A)
      obtain ⟨R, hR⟩ : ∃ R, mrRows A = R := ⟨_, rfl⟩
      rw [hR] at hml ⊢
      have HR := Lib.hid hR
      clear e0 e1 e2 e3 hb1 hb2 hA hg hR
      go_enter Tryd.func11, Tryd.ntmps11
      go_wp2_with fail
      rw [← HW.out]
      refine (Cb1.out w0 (Below.refl _ _)).mono ?_
      rintro e w1 ⟨rfl, hb1⟩
      have B1 : Below w0.heap.size w0 w1 := hb1
      clear hb1
      go_wp2_with fail
      refine (Cb2.out w1 B1).mono ?_
      rintro e w2 ⟨rfl, rfl⟩
      have htk := Lib.hid (fun k (hk : k < A.length) => mrRows_take A k hk)
      rw [HR.out] at htk
      obtain ⟨a0, cap0, e00, hm, hcA⟩ := open_readsM (HU.out.below B1)
      simp only [Value.slice.injEq] at e00
      obtain ⟨rfl, -, rfl⟩ := e00
      obtain ⟨m, hmn⟩ : ∃ m, A.length = m := ⟨_, rfl⟩
      have HMN := Lib.hid hmn
      have HCA := Lib.hid (fun k hk => hcA k hk)
      have HAL := Lib.hid (fun k (hk : k < A.length) => (HA.out.2 k hk).1)
      rw [hmn] at htk hml hm HCA HAL hn X0_1 ⊢
      have hunit := Lib.hid (fun k (hk : k < m) W => unit_any m k (by omega) hk W)
      have B1 := Lib.hid B1
      have x0_0 := X0_0 _ B1
      have x0_1 := X0_1 _ B1
      have HX0 := Lib.hid x0_0
      have HX1 := Lib.hid x0_1
      have HQA := Lib.hid (And.intro (Q0 _ B1) (And.intro (Q1 _ B1) (And.intro (Q2 _ B1) (And.intro (G0 _ B1) (And.intro (G1 _ B1) (G2 _ B1))))))
      obtain ⟨w4, hw4⟩ : ∃ W, W = w1.alloc (.cells #[.int .i64 m, .int .i64 n, .slice none 0 0] 27) := ⟨_, rfl⟩
      have hB4 : Below w1.heap.size w1 w4 := by rw [hw4]; exact (Below.refl _ _).alloc (Nat.le_refl _) _
      have HG := Lib.hid (show Gather w4 w1.heap.size (w1.heap.size + 1) [] 0 (.slice none 0 0) [] w4 from Gather.start ⟨rfl, .inl ⟨rfl, rfl⟩⟩ (by simp [Value.ownBlock]) ⟨_, 27, (0, 0), by rw [hw4]; exact heap_alloc_new _ _, by decide⟩ (by rw [hw4]; simp))
      have HO := Lib.hid (show w4.cell? ⟨w1.heap.size, 0, none⟩ = some (.int .i64 m) ∧ w4.cell? ⟨w1.heap.size, 1, none⟩ = some (.int .i64 n) ∧ w4.cell? ⟨w1.heap.size, 2, none⟩ = some (.slice none 0 0) ∧ w4.frozen? ⟨w1.heap.size, 2, none⟩ = false by rw [hw4]; simp [go_sem])
      have HS4 := Lib.hid (show w4.heap.size = w1.heap.size + 1 by rw [hw4]; simp)
      have HSZ := Lib.hid (show w.heap.size + 1 < w1.heap.size by have h1 := (B1).size; have h2 := HS.out; omega)
      have HW4 := Lib.hid hw4
      have HB4 := Lib.hid hB4
      have hfit := Lib.hid (show m ≤ maxLen by unfold maxLen; omega)
      have HN := Lib.hid hn
      have HBW := Lib.hid (HB.out.trans ((B1).mono HB.out.size))
      have y1 := cell_old hB4 HX1.out
      rw [hw4] at y1
      clear hw4 hB4 hcA hm hn X0_0 X0_1 Q0 Q1 Q2 G0 G1 G2 B1
      go_wp2
      rw [← HW4.out]
      clear x0_0 x0_1 y1
      go_loopw [32] (fun i wr => ∃ (k : Nat) (rs : List Value) (o : Value), k ≤ m ∧ i = .int .i64 k ∧ Gather w4 w1.heap.size (w1.heap.size + 1) (R.take k) k o rs wr ∧ wr.cell? ⟨w1.heap.size, 0, none⟩ = some (.int .i64 m) ∧ wr.cell? ⟨w1.heap.size, 1, none⟩ = some (.int .i64 n) ∧ wr.cell? ⟨w1.heap.size, 2, none⟩ = some o ∧ wr.frozen? ⟨w1.heap.size, 2, none⟩ = false) (fun i _ => m + 1 - (intOf i).toNat)
      case atStart => exact ⟨0, [], _, by omega, rfl, HG.out, HO.out.1, HO.out.2.1, HO.out.2.2.1, HO.out.2.2.2⟩
      case round =>
        obtain ⟨k, rs, o, hk, rfl, hG, o0, o1, o2, f2⟩ := hrel
        have hsz := HSZ.out
        have hs4 := HS4.out
        by_cases hlt : k < m
        · obtain ⟨g, off, rv, rfl, hg, hcell, hrd⟩ := HCA.out k hlt
          have hBW : Below w1.heap.size w1 wr := HB4.out.trans (hG.below (Nat.le_refl _) (by omega))
          have hrow : wr.cell? ⟨g, off + k, none⟩ = some rv := (hBW.cell (p := ⟨g, off + k, none⟩) hg).trans hcell
          have x1 : wr.cell? ⟨w.heap.size, 1, none⟩ = some (.slice (some ⟨g, off, none⟩) m uc) := (hBW.cell (p := ⟨w.heap.size, 1, none⟩) (by simp; omega)).trans HX1.out
          have hlen := HAL.out k hlt
          rw [hlen] at hrd
          have HRD := Lib.hid (hrd.below hBW)
          have HTK := Lib.hid (htk.out k hlt)
          have HGG := Lib.hid hG
          have HO0 := Lib.hid o0
          have HO1 := Lib.hid o1
          have HO2 := Lib.hid o2
          have HF2 := Lib.hid f2
          have HX := Lib.hid x1
          have hn24 := HN.out
          have hm3 := Lib.hid (show k + 1 ≤ maxLen by have := hfit.out; omega)
          have hm4 := Lib.hid (show (k + 1) * 24 ≤ 140737488355328 by omega)
          have hu := Lib.hid (fun W => hunit.out k hlt W)
          obtain ⟨ao, co, rfl⟩ := hG.form
          obtain ⟨ar, cr, rfl⟩ := hrd.form
          have hk0 : 0 ≤ (k : Int) := by omega
          have hkn : (k : Int) < (m : Int) := by omega
          have hlen2 := Lib.hid hlen
          generalize lAt A k = row at *
          clear hG hcell hrd hlen hBW hg f2 o0 o1 o2 hn24
          obtain ⟨W0, hW0⟩ : ∃ W, W = wr := ⟨_, rfl⟩
          rw [← hW0] at HGG HO0 HO1 HO2 HF2 HX HRD hrow x1 ⊢
          clear hW0 wr
          have x1d : W0.drew.cell? ⟨w.heap.size, 1, none⟩ = some (.slice (some ⟨g, off, none⟩) m uc) := HX.out
          have o2d : W0.drew.cell? ⟨w1.heap.size, 2, none⟩ = some (.slice ao k co) := HO2.out
          go_wp2
          go_region_law (first
            | (go_simp; go_at_call 45; (with_reducible refine (hu.out _).mono ?_); rintro e w5 ⟨v5, rfl, ho5, hf5, hb5⟩; rw [show (rowT m fun j => if k = j then (1 : Int) else 0).length = m from rowT_length _ _] at ho5; obtain ⟨a5, c5, rfl⟩ := ho5.form; have hb5' : Below W0.heap.size W0 w5 := ⟨hb5.os, hb5.tape, hb5.output, hb5.size, hb5.block⟩; have y1 := cell_old hb5' HX.out; have y2 := cell_old hb5' HO2.out; have y3 := fun ob => cell_old (below_alloc (Below.refl w5.heap.size w5) (o := ob)) y2; have hj := joined_two m n (unitL m k) row (.slice a5 m c5) (.slice ar n cr) w5 (unitL_length m k) hlen2.out ho5.reads (HRD.out.below hb5') (by have := HN.out; omega))
            | (go_simp; go_at_call 44; (with_reducible refine hj.mono ?_); rintro e w6 ⟨v6, rfl, ho6, hf6, hb6⟩; rw [two_len m n (unitL m k) row (unitL_length m k) hlen2.out] at ho6; obtain ⟨a6, c6, rfl⟩ := ho6.form; have hb6' : Below W0.heap.size W0 w6 := below_step hb5' (below_via_alloc hb6); have z1 := cell_old hb6' HX.out; have z2 := cell_old hb6' HO2.out; have z3 := fun ob => cell_old (below_alloc (Below.refl w6.heap.size w6) (o := ob)) z2)
            | (refine step_append_one (by rfl) _ _ 22 (by rfl) (w1.heap.size + 1) 41 (.slice none 0 0) 24 Tryd.underlying22 infoS rfl (.slice ao k co) k rs (.slice a6 (m + n) c6) (ownsRow_below HGG.out.own hb6') (by rfl) (by rfl) rfl hm3.out hm4.out (Nat.le_trans HGG.out.lt hb6'.size) ?_; intro v7 w7 hown7 hg7; obtain ⟨a7, c7, rfl⟩ := ownsRow_form hown7; have q1 := HGG.out.after hb6' hg7 HO2.out; have p1 := HGG.out.afterF hb6' hg7 HF2.out))
          all_goals
            have hrl := two_len m n (unitL m k) row (unitL_length m k) hlen2.out
            have H1 := Lib.hid (HGG.out.push (l := unitL m k ++ row) (by rw [two_flat] at ho6 hrl; rw [hrl]; exact ho6) (by rw [two_flat] at hf6; exact hf6.mono fun g hg => Nat.le_trans hb5'.size (Nat.le_trans (by simp) hg)) hb6' hown7 hg7 2)
            rw [← HTK.out] at H1
            have q0 := HGG.out.after hb6' hg7 HO0.out
            have q2 := HGG.out.after hb6' hg7 HO1.out
            have H2 := Lib.hid (show (w7.setCell ⟨w1.heap.size, 2, none⟩ (.slice a7 (k + 1) c7)).cell? ⟨w1.heap.size, 0, none⟩ = some (.int .i64 m) by simp [go_sem, q0])
            have H3 := Lib.hid (show (w7.setCell ⟨w1.heap.size, 2, none⟩ (.slice a7 (k + 1) c7)).cell? ⟨w1.heap.size, 1, none⟩ = some (.int .i64 n) by simp [go_sem, q2])
            have H4 := Lib.hid (show (w7.setCell ⟨w1.heap.size, 2, none⟩ (.slice a7 (k + 1) c7)).cell? ⟨w1.heap.size, 2, none⟩ = some (.slice a7 (k + 1) c7) by simp [go_sem, q1])
            have H5 := Lib.hid (show (w7.setCell ⟨w1.heap.size, 2, none⟩ (.slice a7 (k + 1) c7)).frozen? ⟨w1.heap.size, 2, none⟩ = false by simp [go_sem, p1])
            clear hown7 hg7 ho5 hf5 hb5 ho6 hf6 hb6 hb5' hb6' q0 q1 q2 p1 hj
            go_wp2
            go_roundw
            case rel => exact ⟨k + 1, _, _, by omega, by go_num, H1.out, H2.out, H3.out, H4.out, H5.out⟩
            case measure => simp [intOf]; omega
        · have hkn : k = m := by omega
          rw [hkn] at hG hlt ⊢
          have hBW : Below w1.heap.size w1 wr := HB4.out.trans (hG.below (Nat.le_refl _) (by omega))
          have q0 := cell_old hBW HQA.out.1
          have q1 := cell_old hBW HQA.out.2.1
          have q2 := cell_old hBW HQA.out.2.2.1
          have g0 := frozen_old hBW (lt_of_cell HQA.out.1) HQA.out.2.2.2.1
          have g1 := frozen_old hBW (lt_of_cell HQA.out.2.1) HQA.out.2.2.2.2.1
          have g2 := frozen_old hBW (lt_of_cell HQA.out.2.2.1) HQA.out.2.2.2.2.2
          rw [List.take_of_length_le (by rw [hml.out]; exact Nat.le_refl _)] at hG
          have ho := hG.owns hml.out hfit.out
          obtain ⟨ao, co, rfl⟩ := hG.form
          have hfin := Lib.hid (optRel_put HBW.out hBW (ho.mono fun g hg => by omega) (b := w.heap.size + 1) (by omega) (by omega) (c := (m : Int)) (d := (n : Int)))
          clear hG f2 ho hBW
          go_wp2
          refine bodyPost_ret (v := .tuple #[.agg #[.int .i64 (m : Int), .int .i64 (n : Int), .slice ao m co], .bool true]) (by simp [results, Tryd.results11, go_sem, q0, q1, q2]) rfl ?_
          rw [HMN.out]
          exact hfin.out

end Ints
end Go.Proofs.YtimjlcnljefbbaaDoor
