/- Copies of terms and libraries: the program's and the reference's. -/
import Derived.Test.YtlfcmlbffpmhkaaDoorNodeE
import Derived.Test.YtlfcmlbffpmhkaaDoorStack
import Derived.Lib.SliceRun
namespace Go.Proofs.YtlfcmlbffpmhkaaDoor
open Go.RowKit
namespace Ints

theorem ofN_take_succ (ns : List NodeL) (k : Nat) (h : k < ns.length) : ofN (ns.take (k + 1)) = ofN (ns.take k) ++ cellsN (nAt ns k) := by
  rw [take_oneN ns k h, ofN_append]
  simp [ofN]
/-- A row of nodes of the call's own, as an owned slice. -/
theorem ownsN_row {w : World} {base : Nat} {v : Value} {ns : List NodeL} {n : Nat} (h : w.ownsRow base 73 3 v n (ofN ns)) (hn : ns.length = n) (hm : n ≤ maxLen) : OwnsN (base ≤ ·) w v ns := by
  subst hn
  exact owns_of_row h hm

/-- What 'append([]Node{}, nodes...)' starts from, and what it leaves. -/
theorem own_lit {W : World} {b : Nat} (e : TypeId) (size : Nat) (hs : W.heap.size = b) : (W.alloc (.cells #[] e)).ownsRow b e size (.slice (some ⟨b, 0, none⟩) 0 0) 0 [] := by
  subst hs
  exact World.ownsRow_lit (base := W.heap.size) (size := size) (e := e) W #[] 0 (Nat.le_refl _) (Nat.zero_le _) (by simp)

set_option maxRecDepth 100000 in
set_option maxHeartbeats 1000000 in
theorem tmOwn_any (v : Value) (ns : List NodeL) (w : World) (h : ReadsN w v ns) (hn : ns.length ≤ 1000000000) : Calls Tryd.prog 72 #[v] w (NewTerm w ns) := by
  obtain ⟨w0, hw0⟩ : ∃ W, W = w.alloc (.cells #[.slice none 0 0] 34) := ⟨_, rfl⟩
  have hB0 : Below w.heap.size w w0 := by rw [hw0]; exact below_alloc (Below.refl _ _)
  have hs0 : w0.heap.size = w.heap.size + 1 := by rw [hw0]; simp
  have hown := Lib.hid (own_lit 73 3 hs0)
  obtain ⟨w1, hw1⟩ : ∃ W, W = w0.alloc (.cells #[] 73) := ⟨_, rfl⟩
  have hb : Below w0.heap.size w0 w1 := by rw [hw1]; exact below_alloc (Below.refl _ _)
  rw [← hw1] at hown
  have hsrc := h.below (below_step hB0 hb)
  obtain ⟨n, hl⟩ : ∃ n, ns.length = n := ⟨_, rfl⟩
  rw [hl] at hn
  have hm1 := Lib.hid (show 0 + n ≤ maxLen by unfold maxLen; omega)
  have hm2 := Lib.hid (show (0 + n) * 32 ≤ 140737488355328 by omega)
  have hone := Lib.hid (ofN_one ns)
  obtain ⟨a, cap, rfl⟩ := h.form
  have hsrc2 : Hid (Reads w1 3 (.slice a n cap) n (ofN ns)) := by
    unfold ReadsN at hsrc
    rw [hl] at hsrc
    exact Lib.hid hsrc
  have HL := Lib.hid hl
  have HB := Lib.hid (show Below w.heap.size w w1 from below_step hB0 hb)
  have hx : w1.heap[w.heap.size]? = some (.cells #[.slice none 0 0] 34 (0, 0)) := by
    refine block_old ?_ hb
    rw [hw0]
    exact heap_alloc_new w _
  have hsz := Lib.hid (show w.heap.size + 1 ≤ w1.heap.size by have := hb.size; omega)
  have HX := Lib.hid hx
  have HW := Lib.hid (show w1 = (w.alloc (.cells #[.slice none 0 0] 34)).alloc (.cells #[] 73) by rw [hw1, hw0])
  rw [hl]
  clear h hw0 hB0 hs0 hb hl hsrc hx hw1
  go_enter Tryd.func72, Tryd.ntmps72
  go_wp2_with (at_builtin; rw [← HW.out]; refine wpList_append_reads _ rfl _ _ 32 rfl (w.heap.size + 1) 73 (.agg #[.int .i64 0, .int .i64 0, .string ByteArray.empty]) 3 32 Tryd.underlying32 infoNode rfl (by decide) _ 0 [] hown.out _ n (ofN ns) hsrc2.out rfl rfl hone.out hm1.out hm2.out hsz.out ?_; intro v' w2 hown1 hg1; rw [Nat.zero_add, List.nil_append] at hown1; obtain ⟨av, cv, rfl⟩ := ownsRow_form' hown1; have hx2 := ((Below.grownRow (Below.refl _ _) hown.out hg1 hsz.out).block w.heap.size (Nat.lt_succ_self _)).trans HX.out; have y0 := (Go.Joins.cell_of_block hx2 0).trans rfl; have f0 := Go.Joins.unfrozen_of_block hx2 0)
  refine bodyPost_ret (v := .agg #[.slice av n cv]) (by simp [results, Tryd.results72, go_sem, y0]) rfl ?_
  have hch : Below (w.heap.size + 1) w1 w2 := Below.grownRow (Below.refl _ _) hown.out hg1 hsz.out
  have hb2 : Below w.heap.size w w2 := (HB.out.mono (Nat.le_refl _)).trans (hch.mono (by omega))
  have ho2 : OwnsN (w.heap.size + 1 ≤ ·) w2 (.slice av n cv) ns := ownsN_row hown1 HL.out (by have := hm1.out; omega)
  have hc3 := Chg.set1 w2 ⟨w.heap.size, 0, none⟩ (.slice av n cv)
  exact ⟨_, rfl, (ho2.chg hc3 fun g hg e => by simp only at e; omega).mono fun g hg => by omega, hb2.trans (hc3.below hb2.size fun g hg => by simp only at hg; omega)⟩


set_option maxRecDepth 100000 in
set_option maxHeartbeats 1000000 in
theorem cloneN_any (v : Value) (ns : List NodeL) (w : World) (h : ReadsN w v ns) (hn : ns.length ≤ 1000000000) : Calls Tryd.prog 87 #[v] w (NewNodes w ns) := by
  have qT : ∀ (w : World) (a : Option Addr) (n c n' c' : Nat), (binOp .eql 32 (.slice a n c) (.slice none n' c')).run Tryd.prog w = .ok (.bool a.isNone) w := fun w a n c n' c' => Lib.run_eql_slice_nil w _ _ a n c n' c' Tryd.underlying32
  obtain ⟨a, cap, rfl⟩ := h.form
  cases a with
  | none =>
    have h0 : ns = [] := by
      cases ns with
      | nil => rfl
      | cons n ns =>
        obtain ⟨_, a', c', e, _, _, h4⟩ := h
        simp only [Value.slice.injEq] at e
        obtain ⟨g, off, e2, _⟩ := h4 (by rw [ofN_length]; simp)
        rw [← e.1] at e2
        cases e2
    subst h0
    have hr : Hid (NewNodes w [] (.returned (.slice none 0 0)) w) := ⟨_, rfl, ownsN_nil _ _, Below.refl _ _⟩
    clear h
    go_enter Tryd.func87, Tryd.ntmps87
    go_wp2
    go_ret
    exact hr.out
  | some ad =>
    obtain ⟨w1, hw1⟩ : ∃ W, W = w.alloc (.cells #[] 73) := ⟨_, rfl⟩
    have hb : Below w.heap.size w w1 := by rw [hw1]; exact below_alloc (Below.refl _ _)
    have hown := Lib.hid (own_lit (W := w) 73 3 rfl)
    rw [← hw1] at hown
    obtain ⟨n, hl⟩ : ∃ n, ns.length = n := ⟨_, rfl⟩
    have hsrc := h.below hb
    unfold ReadsN at hsrc
    rw [hl] at hn hsrc ⊢
    have HSRC := Lib.hid hsrc
    have hm1 := Lib.hid (show 0 + n ≤ maxLen by unfold maxLen; omega)
    have hm2 := Lib.hid (show (0 + n) * 32 ≤ 140737488355328 by omega)
    have hone := Lib.hid (ofN_one ns)
    have HL := Lib.hid hl
    have hsz := Lib.hid hb.size
    have HB := Lib.hid hb
    have HW := Lib.hid hw1
    clear h hb hl hsrc hw1
    go_enter Tryd.func87, Tryd.ntmps87
    go_wp2_with (at_builtin; rw [← HW.out]; refine wpList_append_reads _ rfl _ _ 32 rfl w.heap.size 73 (.agg #[.int .i64 0, .int .i64 0, .string ByteArray.empty]) 3 32 Tryd.underlying32 infoNode rfl (by decide) _ 0 [] hown.out _ n (ofN ns) HSRC.out rfl rfl hone.out hm1.out hm2.out hsz.out ?_; intro v' w2 hown1 hg1; rw [Nat.zero_add, List.nil_append] at hown1; obtain ⟨av, cv, rfl⟩ := ownsRow_form' hown1)
    go_ret
    exact ⟨_, rfl, ownsN_row hown1 HL.out (by have := hm1.out; omega), Below.grownRow HB.out hown.out hg1 hsz.out⟩

set_option maxRecDepth 100000 in
set_option maxHeartbeats 1000000 in
theorem copyTerm_any (v : Value) (ns : List NodeL) (w : World) (h : ReadsN w v ns) (hn : ns.length ≤ 1000000000) : Calls Tryd.prog 73 #[.agg #[v]] w (NewTerm w ns) := by
  obtain ⟨w0, hw0⟩ : ∃ W, W = (w.alloc (.cells #[v] 34)).alloc (.cells #[.slice none 0 0] 34) := ⟨_, rfl⟩
  have hB0 : Below w.heap.size w w0 := by rw [hw0]; exact below_alloc (below_alloc (Below.refl _ _))
  have hs0 : w0.heap.size = w.heap.size + 2 := by rw [hw0]; simp
  have hcall := Lib.hid (cloneN_any v ns w0 (h.below hB0) hn)
  obtain ⟨a, cap, rfl⟩ := h.form
  have hx : w0.heap[w.heap.size + 1]? = some (.cells #[.slice none 0 0] 34 (0, 0)) := by
    rw [hw0]
    have := heap_alloc_new (w.alloc (.cells #[.slice a ns.length cap] 34)) (.cells #[.slice none 0 0] 34)
    simpa using this
  have HX := Lib.hid hx
  have HB := Lib.hid hB0
  have HS := Lib.hid hs0
  have HW := Lib.hid hw0
  clear h hn hw0 hB0 hs0 hx
  go_enter Tryd.func73, Tryd.ntmps73
  go_wp2_with fail
  rw [← HW.out]
  refine hcall.out.mono ?_
  rintro e w1 ⟨u1, rfl, ho1, hb1⟩
  obtain ⟨k1, j1, rfl⟩ := ho1.reads.form
  have hx1 := block_old HX.out hb1
  have y0 := (Go.Joins.cell_of_block hx1 0).trans rfl
  have f0 := Go.Joins.unfrozen_of_block hx1 0
  have hc3 := Chg.set1 w1 ⟨w.heap.size + 1, 0, none⟩ (.slice k1 ns.length j1)
  have hfin : Hid (NewTerm w ns (.returned (.agg #[.slice k1 ns.length j1])) (w1.setCell ⟨w.heap.size + 1, 0, none⟩ (.slice k1 ns.length j1))) := by
    have h1 := HS.out
    have h2 := below_step HB.out hb1
    exact ⟨_, rfl, (ho1.chg hc3 fun g hg e => by simp only at e; omega).mono fun g hg => by omega, h2.trans (hc3.below h2.size fun g hg => by simp only at hg; omega)⟩
  clear ho1 hb1 hx1 hc3
  go_wp2
  refine bodyPost_ret (v := .agg #[.slice k1 ns.length j1]) (by simp [results, Tryd.results73, go_sem, y0]) rfl ?_
  exact hfin.out

set_option maxRecDepth 100000 in
set_option maxHeartbeats 1000000 in
theorem copyDef_any (d : DefL) (v : Value) (w : World) (h : ReadsN w v d.body) (hn : d.body.length ≤ 1000000000) :
    Calls Tryd.prog 54 #[.agg #[.string d.name, .int .i64 d.inp, .int .i64 d.out, v]] w (NewDef w d) := by
  obtain ⟨w0, hw0⟩ : ∃ W, W = (w.alloc (.cells #[.string d.name, .int .i64 d.inp, .int .i64 d.out, v] 44)).alloc (.cells #[.string ⟨#[]⟩, .int .i64 0, .int .i64 0, .slice none 0 0] 44) := ⟨_, rfl⟩
  have hB0 : Below w.heap.size w w0 := by rw [hw0]; exact below_alloc (below_alloc (Below.refl _ _))
  have hs0 : w0.heap.size = w.heap.size + 2 := by rw [hw0]; simp
  have hcall := Lib.hid (copyTerm_any v d.body w0 (h.below hB0) hn)
  obtain ⟨a, cap, rfl⟩ := h.form
  have hx : w0.heap[w.heap.size]? = some (.cells #[.string d.name, .int .i64 d.inp, .int .i64 d.out, .slice a d.body.length cap] 44 (0, 0)) := by
    rw [hw0]
    exact block_old (heap_alloc_new w _) (below_alloc (Below.refl _ _))
  have hx2 : w0.heap[w.heap.size + 1]? = some (.cells #[.string ⟨#[]⟩, .int .i64 0, .int .i64 0, .slice none 0 0] 44 (0, 0)) := by
    rw [hw0]
    have := heap_alloc_new (w.alloc (.cells #[.string d.name, .int .i64 d.inp, .int .i64 d.out, .slice a d.body.length cap] 44)) (.cells #[.string ⟨#[]⟩, .int .i64 0, .int .i64 0, .slice none 0 0] 44)
    simpa using this
  have HX := Lib.hid (And.intro hx hx2)
  have HB := Lib.hid hB0
  have HS := Lib.hid hs0
  have HW := Lib.hid hw0
  clear h hn hw0 hB0 hs0 hx hx2
  go_enter Tryd.func54, Tryd.ntmps54
  go_wp2_with fail
  rw [← HW.out]
  refine hcall.out.mono ?_
  rintro e w1 ⟨u1, rfl, ho1, hb1⟩
  obtain ⟨k1, j1, rfl⟩ := ho1.reads.form
  have d1 := block_old HX.out.1 hb1
  have d2 := block_old HX.out.2 hb1
  obtain ⟨p0, p1, p2, p3⟩ := cells4 d1
  obtain ⟨n0, n1, n2, n3⟩ := frees4 d1
  obtain ⟨q0, q1, q2, q3⟩ := cells4 d2
  obtain ⟨r0, r1, r2, r3⟩ := frees4 d2
  have HFin : Hid (∀ W, Chg (fun g => g = w.heap.size ∨ g = w.heap.size + 1) w1 W → NewDef w d (.returned (.agg #[.string d.name, .int .i64 d.inp, .int .i64 d.out, .slice k1 d.body.length j1])) W) := by
    intro W hch
    have h1 := HS.out
    have h2 := below_step HB.out hb1
    exact ⟨_, rfl, (ho1.chg hch fun g hg e => by omega).mono fun g hg => by omega, h2.trans (hch.below h2.size fun g hg => by omega)⟩
  clear ho1 hb1 d1 d2
  go_wp2
  refine bodyPost_ret (v := .agg #[.string d.name, .int .i64 d.inp, .int .i64 d.out, .slice k1 d.body.length j1]) (by simp [results, Tryd.results54, go_sem, q0, q1, q2, q3]) rfl ?_
  refine HFin.out _ ?_
  exact ((((((Chg.refl _ w1).setCell (fun _ => by simp) _).setCell (fun _ => by simp) _).setCell (fun _ => by simp) _).setCell (fun _ => by simp) _).setCell (fun _ => by simp) _)

end Ints
end Go.Proofs.YtlfcmlbffpmhkaaDoor
