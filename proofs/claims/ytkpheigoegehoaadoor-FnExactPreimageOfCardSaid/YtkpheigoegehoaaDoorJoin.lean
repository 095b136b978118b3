/- Rows of two lists one behind the other: the reference's spJoin, the program's append; pairs of spaces. -/
import Derived.Test.YtkpheigoegehoaaDoorSpaceF
import Derived.Test.YtkpheigoegehoaaDoorSpPlain
import Derived.Test.YtkpheigoegehoaaDoorClones
import Derived.Test.YtkpheigoegehoaaDoorMem4
namespace Go.Proofs.YtkpheigoegehoaaDoor
open Go.RowKit

theorem step_append_reads {P : Program} {w : World} {ops : Array Oper} {o : Oper} {a : Act} {K : Act → World → Prop} {Q : Exit → Act → World → Prop} {E : Prop} (hgd : o.guard = none) (s x : Operand) (t : TypeId)
    (ho : o.op = .call { callee := .builtin .append, args := #[s, x], argTypes := #[t, t] })
    (base : Nat) (e : TypeId) (z : Value) (size bytes : Nat) (ht : P.underlying t = some (.slice e)) (hinfo : (P.info? e).map (fun i => (i.zero, i.size, i.bytes)) = some (some z, size, bytes))
    (hzs : z.cells.size = size) (hsz : 0 < size) (v : Value) (n : Nat) (xs : List Value) (hown : w.ownsRow base e size v n xs)
    (sv : Value) (m : Nat) (news : List Value) (hsrc : Reads w size sv m news) (hs : a.eval s = v) (hx : a.eval x = sv) (h1 : ∀ u ∈ news, u.oneCell' = true)
    (h63 : n + m ≤ maxLen) (hbytes : (n + m) * bytes ≤ 140737488355328) (hbase : base ≤ w.heap.size)
    (h : ∀ v' w', w'.ownsRow base e size v' (n + m) (xs ++ news) → w.grownBy w' v.ownBlock → K (a.put o.dst v') w') :
    if Region.wanted o (yielded ops a.tmps) = true then Oper.wp P o a w K Q else E := by
  have hw : Region.wanted o (yielded ops a.tmps) = true := by simp [Region.wanted, hgd]
  rw [if_pos hw]
  obtain ⟨v', w', hr, h2, h3⟩ := run_append_reads (P := P) w base t o.type e z size bytes ht hinfo hzs hsz v n xs hown sv m news hsrc h1 h63 hbytes hbase
  unfold Oper.wp execOp
  simp only [ho, resolve, invoke, builtin, Sem.run_bind, Sem.run_pure, Result.andThen_ok, List.map_toArray, List.map_cons, List.map_nil, hs, hx, hr]
  exact h v' w' h2 h3

namespace Ints
open Fld (tab_alloc)

/-- A list of lists in new memory, as what append may grow. -/
def OwnRows (w : World) (L : List (List Int)) (e : Ending) (w' : World) : Prop :=
  ∃ v rs, e = .returned v ∧ w'.ownsRow w.heap.size 67 1 v L.length rs ∧ RowsOwn (w.heap.size ≤ ·) w' rs L ∧ Below w.heap.size w w'

set_option maxHeartbeats 2000000 in
theorem clonesRow_any (v : Value) (L : List (List Int)) (w : World) (h : ReadsM w v L) (hs : tot L ≤ 1048576) : Calls Tryd.prog 82 #[v] w (OwnRows w L) := by
  obtain ⟨a, cap, rfl, hm, hc⟩ := open_readsM h
  obtain ⟨n, hn⟩ : ∃ n, L.length = n := ⟨_, rfl⟩
  have hnt : n ≤ 1048576 := by unfold tot at hs; omega
  have hrow : Hid (∀ k, k < n → (lAt L k).length ≤ 1048576) := by
    intro k hk
    have h1 := sum_take_succ L k (by omega)
    have h2 := sum_take_le L (k + 1)
    unfold tot at hs
    omega
  have hn' := Lib.hid hn
  have hc' := Lib.hid hc
  rw [hn] at hm ⊢
  clear h hc hn hs
  have hm1 := Lib.hid (show 24 * n ≤ 281474976710656 by omega)
  have hm2 := Lib.hid (show n ≤ maxLen by unfold maxLen; omega)
  go_enter Tryd.func82, Tryd.ntmps82
  go_wp2_with (at_make; refine wpList_make_room _ rfl _ _ 22 rfl 67 (.slice none 0 0) 24 Tryd.underlying22 infoS n rfl rfl hm1.out hm2.out ?_; intro w1 hown1 hb1)
  have hown1' := Lib.hid hown1
  have hb1' := Lib.hid hb1
  clear hown1 hb1
  go_wp2
  go_loopw [3, 11] (fun o i wr => ∃ (k : Nat) (rs : List Value) (ov : Value), k ≤ n ∧ i = .int .i64 k ∧ o = ov ∧ wr.ownsRow w.heap.size 67 1 ov k rs ∧ RowsOwn (w.heap.size ≤ ·) wr rs (L.take k) ∧ Below w.heap.size w wr) (fun _ i _ => n + 1 - (intOf i).toNat)
  case atStart => exact ⟨0, [], _, by omega, rfl, rfl, hown1'.out, RowsOwn.nil _ _, hb1'.out⟩
  case round =>
    obtain ⟨k, rs, ov, hk, rfl, rfl, hown, hrows, hb⟩ := hrel
    by_cases hlt : k < n
    · obtain ⟨g, off, r, rfl, hg, hcell, hrd⟩ := hc'.out k (by rw [hn'.out]; exact hlt)
      have hx : wr.cell? ⟨g, off + k, none⟩ = some r := (hb.cell hg).trans hcell
      have hcall := Lib.hid (clone_any r _ (lAt L k) wr (hrd.below (hb.mono (Nat.le_refl _))) (hrow.out k hlt))
      have HO := Lib.hid hown
      have HR := Lib.hid hrows
      have HB := Lib.hid hb
      have htk := Lib.hid (take_oneL L k (by rw [hn'.out]; exact hlt))
      have hsz := Lib.hid hb.size
      clear hown hrows hb hcell hrd hc'
      have hk0 : 0 ≤ (k : Int) := by omega
      have hkn : (k : Int) < (n : Int) := by omega
      obtain ⟨W0, hW0⟩ : ∃ W, W = wr := ⟨_, rfl⟩
      rw [← hW0] at HO HR HB hsz hcall hx ⊢
      clear hW0 wr
      go_wp2_with fail
      refine hcall.out.mono ?_
      rintro e w2 ⟨v2, rfl, ho2, hf2, hb2⟩
      obtain ⟨a2, c2, rfl⟩ := ho2.form
      have hown2 := Lib.hid (ownsRow_below HO.out hb2)
      have ho2' := Lib.hid ho2
      have hf2' := Lib.hid hf2
      have hb2' := Lib.hid hb2
      have hm3 := Lib.hid (show k + 1 ≤ maxLen by have := hm2.out; omega)
      have hm4 := Lib.hid (show (k + 1) * 24 ≤ 140737488355328 by omega)
      have hsz2 := Lib.hid (show w.heap.size ≤ w2.heap.size from Nat.le_trans hsz.out hb2.size)
      clear ho2 hf2 hb2 hx
      generalize hlen : (lAt L k).length = len at *
      have hlen' := Lib.hid hlen
      clear hlen
      go_wp2_with (at_builtin; go_must (refine wpList_append_one _ rfl _ _ 22 rfl w.heap.size 67 (.slice none 0 0) 24 Tryd.underlying22 infoS rfl _ _ _ (.slice a2 len c2) hown2.out rfl rfl rfl hm3.out hm4.out hsz2.out ?_); intro v' w3 hown3 hg3)
      have hpush := push_row HO.out HR.out HB.out (fun g hg => Nat.le_trans hsz.out hg) hsz.out (hlen'.out ▸ ho2'.out) hf2'.out hb2'.out hg3
      rw [← htk.out] at hpush
      have H1 := Lib.hid hown3
      have H2 := Lib.hid hpush.1
      have H3 := Lib.hid hpush.2
      clear hown3 hg3 hpush
      go_wp2
      go_roundw
      case rel => exact ⟨k + 1, _, _, by omega, by go_num, rfl, H1.out, H2.out, H3.out⟩
      case measure => simp [intOf]; omega
    · obtain rfl : k = n := by omega
      rw [← hn'.out, List.take_length] at hrows
      have hfin : Hid (OwnRows w L (.returned u3) wr) := ⟨_, rs, rfl, by rw [hn'.out]; exact hown, hrows, hb⟩
      clear hown hrows hb
      go_wp2
      go_ret
      exact hfin.out


theorem vAt_app (rs ss : List Value) (k : Nat) : vAt (rs ++ ss) k = if k < rs.length then vAt rs k else vAt ss (k - rs.length) := by
  unfold vAt
  rw [List.getElem?_append]
  split <;> rfl
theorem RowsRead.app {w : World} {rs ss : List Value} {A B : List (List Int)} (h : RowsRead w rs A) (k : RowsRead w ss B) : RowsRead w (rs ++ ss) (A ++ B) := by
  refine ⟨by rw [List.length_append, List.length_append, h.1, k.1], fun i hi => ?_⟩
  rw [vAt_app, Lin.lAt_app, h.1]
  split
  · rename_i hlt; exact h.2 i hlt
  · rw [List.length_append] at hi
    exact k.2 (i - A.length) (by omega)
theorem rows_one {w : World} {rs : List Value} {A : List (List Int)} (h : RowsRead w rs A) : ∀ u ∈ rs, u.oneCell' = true := by
  intro u hu
  obtain ⟨i, hi, rfl⟩ := List.getElem_of_mem hu
  obtain ⟨_, a, c, e, _⟩ := h.2 i (by rw [← h.1]; exact hi)
  have : vAt rs i = rs[i] := by simp [vAt, hi]
  rw [← this, e]
  rfl
/-- Behind the append: the rows of both. -/
theorem join_reads {w0 w1 w2 : World} {A B : List (List Int)} {v v' : Value} {rs ss : List Value} (hown : w1.ownsRow w0.heap.size 67 1 v A.length rs) (hrows : RowsOwn (w0.heap.size ≤ ·) w1 rs A) (hb : Below w0.heap.size w0 w1)
    (hB : RowsRead w0 ss B) (hm : A.length + B.length ≤ maxLen) (hown2 : w2.ownsRow w0.heap.size 67 1 v' (A.length + B.length) (rs ++ ss)) (hg : w1.grownBy w2 v.ownBlock) : ReadsM w2 v' (A ++ B) ∧ Below w0.heap.size w0 w2 := by
  have hb2 : Below w0.heap.size w0 w2 := Below.grownRow hb hown hg hb.size
  refine ⟨⟨rs ++ ss, ?_, RowsRead.app (hrows.grown hown hg).reads (hB.below hb2)⟩, hb2⟩
  rw [List.length_append]
  exact (owns_of_row hown2 hm).1.reads

set_option maxHeartbeats 2000000 in
theorem spJoin_any (va vb : Value) (A B : List (List Int)) (w : World) (hA : ReadsM w va A) (hB : ReadsM w vb B) (hl : A.length + B.length ≤ 100000) :
    Calls Tryd.prog 101 #[va, vb] w fun e w' => ∃ v, e = .returned v ∧ ReadsM w' v (A ++ B) ∧ Below w.heap.size w w' := by
  obtain ⟨rs, hra, hrra⟩ := hA
  obtain ⟨ss, hrb, hrrb⟩ := hB
  have hown0 := Lib.hid (World.ownsRow_lit (base := w.heap.size) (size := 1) (e := 67) w #[] 0 (Nat.le_refl _) (Nat.zero_le _) (by simp))
  have hb0 := Lib.hid ((Below.refl w.heap.size w).alloc (Nat.le_refl _) (.cells #[] 67))
  have ra := Lib.hid (hra.below hb0.out)
  have rb := Lib.hid (fun W (hW : Below w.heap.size w W) => hrb.below hW)
  have o1 := Lib.hid (rows_one hrra)
  have o2 := Lib.hid (rows_one hrrb)
  have hm1 := Lib.hid (show 0 + A.length ≤ maxLen by unfold maxLen; omega)
  have hm2 := Lib.hid (show (0 + A.length) * 24 ≤ 140737488355328 by omega)
  have hm3 := Lib.hid (show 0 + A.length + B.length ≤ maxLen by unfold maxLen; omega)
  have hm4 := Lib.hid (show (0 + A.length + B.length) * 24 ≤ 140737488355328 by omega)
  have hs0 := Lib.hid hb0.out.size
  obtain ⟨aa, ca, rfl⟩ := hra.form
  obtain ⟨ab, cb, rfl⟩ := hrb.form
  have HRA := Lib.hid hrra
  have HRB := Lib.hid hrrb
  clear hra hrb hrra hrrb
  go_enter Tryd.func101, Tryd.ntmps101
  go_wp2_with (at_builtin; first
    | (refine wpList_append_reads _ rfl _ _ 22 rfl w.heap.size 67 (.slice none 0 0) 1 24 Tryd.underlying22 infoS rfl (by decide) _ _ _ hown0.out _ _ _ ra.out rfl rfl o1.out hm1.out hm2.out hs0.out ?_; intro v1 w1 hown1 hg1; have hb1 := Below.grownRow hb0.out hown0.out hg1 hs0.out; have rb1 := rb.out w1 hb1)
    | (refine wpList_append_reads _ rfl _ _ 22 rfl w.heap.size 67 (.slice none 0 0) 1 24 Tryd.underlying22 infoS rfl (by decide) _ _ _ hown1 _ _ _ rb1 rfl rfl o2.out hm3.out hm4.out hb1.size ?_; intro v2 w2 hown2 hg2; have hb2 := Below.grownRow hb1 hown1 hg2 hb1.size))
  have hfin : Hid (ReadsM w2 v2 (A ++ B) ∧ Below w.heap.size w w2) := by
    refine ⟨⟨rs ++ ss, ?_, RowsRead.app (HRA.out.below hb2) (HRB.out.below hb2)⟩, hb2⟩
    rw [List.length_append]
    have h := owns_of_row hown2 hm3.out
    rw [Nat.zero_add] at h
    exact h.1.reads
  clear hown1 hg1 hown2 hg2 hb1 rb1 hb2
  go_wp2
  go_ret
  exact ⟨_, rfl, hfin.out.1, hfin.out.2⟩

end Ints
end Go.Proofs.YtkpheigoegehoaaDoor
