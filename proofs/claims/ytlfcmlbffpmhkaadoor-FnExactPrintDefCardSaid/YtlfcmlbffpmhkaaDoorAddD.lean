/- A library with one more definition: the reference and the program. -/
import Derived.Test.YtlfcmlbffpmhkaaDoorCopyD
import Derived.Test.YtlfcmlbffpmhkaaDoorGoodS
import Derived.Test.YtlfcmlbffpmhkaaDoorGoodI
import Derived.Test.YtlfcmlbffpmhkaaDoorLibBase
import Derived.Test.YtlfcmlbffpmhkaaDoorBoxN
namespace Go.Proofs.YtlfcmlbffpmhkaaDoor
open Go.RowKit
namespace Ints

/-- 'append(s, ..)' as one step of a region that draws its order. -/
theorem step_append_readsD {P : Program} {w : World} {ops : Array Oper} {o : Oper} {a : Act} {K : Act → World → Prop} {Q : Exit → Act → World → Prop} {E : Prop} (hgd : o.guard = none) (s x : Operand) (t : TypeId)
    (ho : o.op = .call { callee := .builtin .append, args := #[s, x], argTypes := #[t, t] })
    (base : Nat) (e : TypeId) (z : Value) (size bytes : Nat) (ht : P.underlying t = some (.slice e)) (hinfo : (P.info? e).map (fun i => (i.zero, i.size, i.bytes)) = some (some z, size, bytes))
    (hzs : z.cells.size = size) (h0 : 0 < size) (v : Value) (n : Nat) (xs : List Value)
    (hown : w.ownsRow base e size v n xs) (v2 : Value) (m : Nat) (ys : List Value) (hrd : Reads w size v2 m ys) (hs : a.eval s = v) (hx : a.eval x = v2) (h1 : ∀ u ∈ ys, u.oneCell' = true) (h63 : n + m ≤ maxLen) (hbytes : (n + m) * bytes ≤ 140737488355328) (hbase : base ≤ w.heap.size)
    (h : ∀ v' w', w'.ownsRow base e size v' (n + m) (xs ++ ys) → w.grownBy w' v.ownBlock → K (a.put o.dst v') w') :
    if Region.wanted o (yielded ops a.tmps) = true then Oper.wp P o a w K Q else E := by
  have hw : Region.wanted o (yielded ops a.tmps) = true := by simp [Region.wanted, hgd]
  rw [if_pos hw]
  obtain ⟨v', w', hr, h2, h3⟩ := run_append_reads (P := P) w base t o.type e z size bytes ht hinfo hzs h0 v n xs hown v2 m ys hrd h1 h63 hbytes hbase
  unfold Oper.wp execOp
  simp only [ho, resolve, invoke, builtin, Sem.run_bind, Sem.run_pure, Result.andThen_ok, List.map_toArray, List.map_cons, List.map_nil, hs, hx, hr]
  exact h v' w' h2 h3
theorem ownsD_nil (S : Nat → Prop) (w : World) : OwnsD S w (.slice none 0 0) [] :=
  ⟨none, 0, [], rfl, Nat.le_refl _, Nat.zero_le _, fun k hk => by simp at hk, fun i j _ hj => by simp at hj⟩
def LibOut (w : World) (b : Bool) (R : List DefL) (e : Ending) (w' : World) : Prop := ∃ v, e = .returned (.tuple #[v, .bool b]) ∧ OwnsD (w.heap.size ≤ ·) w' v R ∧ Below w.heap.size w w'
/-- A library that is checked at the end. -/
def libO (ds : List DefL) : List DefL := if libB ds = true then ds else []
theorem libO_own {S : Nat → Prop} {w : World} {v : Value} {ds : List DefL} (h : OwnsD S w v ds) : OwnsD S w (if libB ds = true then v else .slice none 0 0) (libO ds) := by
  unfold libO
  split
  · exact h
  · exact ownsD_nil _ _

set_option maxHeartbeats 1000000 in
theorem lbIf_any (v : Value) (ds : List DefL) (w : World) (h : ReadsD w v ds) :
    Calls Tryd.prog 50 #[v] w fun e w' => ∃ v', e = .returned (.tuple #[v', .bool (libB ds)]) ∧ v' = (if libB ds = true then v else .slice none 0 0) ∧ Below w.heap.size w w' := by
  have hg := Lib.hid (lbGood_any v ds w h)
  obtain ⟨a, cap, rfl⟩ := h.form
  clear h
  obtain ⟨b, hb⟩ : ∃ b, libB ds = b := ⟨_, rfl⟩
  rw [hb] at hg ⊢
  clear hb
  cases b with
  | false =>
    go_enter Tryd.func50, Tryd.ntmps50
    go_wp2_with fail
    refine hg.out.mono ?_
    rintro e w1 ⟨rfl, hb1⟩
    have HB1 := Lib.hid hb1
    clear hb1
    go_wp2
    go_ret2
    exact ⟨_, rfl, rfl, HB1.out⟩
  | true =>
    go_enter Tryd.func50, Tryd.ntmps50
    go_wp2_with fail
    refine hg.out.mono ?_
    rintro e w1 ⟨rfl, hb1⟩
    have HB1 := Lib.hid hb1
    clear hb1
    go_wp2
    go_ret2
    exact ⟨_, rfl, rfl, HB1.out⟩

set_option maxHeartbeats 1000000 in
theorem validLibrary_any (v : Value) (ds : List DefL) (hbig : totD ds ≤ 10000000000000) (w : World) (h : ReadsD w v ds) :
    Calls Tryd.prog 52 #[v] w fun e w' => ∃ v', e = .returned (.tuple #[v', .bool (libB ds)]) ∧ v' = (if libB ds = true then v else .slice none 0 0) ∧ Below w.heap.size w w' := by
  have hg := Lib.hid (isLibrary_any v ds hbig w h)
  obtain ⟨a, cap, rfl⟩ := h.form
  clear h
  obtain ⟨b, hb⟩ : ∃ b, libB ds = b := ⟨_, rfl⟩
  rw [hb] at hg ⊢
  clear hb
  cases b with
  | false =>
    go_enter Tryd.func52, Tryd.ntmps52
    go_wp2_with fail
    refine hg.out.mono ?_
    rintro e w1 ⟨rfl, hb1⟩
    have HB1 := Lib.hid hb1
    clear hb1
    go_wp2
    go_ret2
    exact ⟨_, rfl, rfl, HB1.out⟩
  | true =>
    go_enter Tryd.func52, Tryd.ntmps52
    go_wp2_with fail
    refine hg.out.mono ?_
    rintro e w1 ⟨rfl, hb1⟩
    have HB1 := Lib.hid hb1
    clear hb1
    go_wp2
    go_ret2
    exact ⟨_, rfl, rfl, HB1.out⟩

/-- The cells of a slice of definitions. -/
theorem cells_of {w : World} {v : Value} {ds : List DefL} (h : ReadsD w v ds) : ∃ Bs, Bs.length = ds.length ∧ Reads w 4 v ds.length (ofD ds Bs) ∧ ∀ k, k < ds.length → ReadsN w (vAt Bs k) (dAt ds k).body := by
  obtain ⟨a, cap, rfl, h2, h3, h4⟩ := h
  have hex : ∀ k, ∃ B, k < ds.length → ∃ g off, a = some ⟨g, off, none⟩ ∧ DefAt w g (off + k * 4) (dAt ds k) B := by
    intro k
    by_cases hk : k < ds.length
    · obtain ⟨g, off, B, q1, q2⟩ := h4 k hk
      exact ⟨B, fun _ => ⟨g, off, q1, q2⟩⟩
    · exact ⟨undef, fun e => absurd e hk⟩
  obtain ⟨f, hf⟩ := Classical.axiomOfChoice hex
  have hlen : ((List.range ds.length).map f).length = ds.length := by simp
  have hvat : ∀ k, k < ds.length → vAt ((List.range ds.length).map f) k = f k := fun k hk => by simp [vAt, hk]
  refine ⟨(List.range ds.length).map f, hlen, ⟨ofD_length ds _ hlen, a, cap, rfl, h2, h3, fun hp => ?_⟩, fun k hk => ?_⟩
  · rw [ofD_length ds _ hlen] at hp
    obtain ⟨g, off, rfl, _⟩ := hf 0 (by omega)
    refine ⟨g, off, rfl, fun j hj => ?_⟩
    rw [ofD_length ds _ hlen] at hj
    have hk : j / 4 < ds.length := by omega
    obtain ⟨g', off', e, k0, k1, k2, k3, _⟩ := hf (j / 4) hk
    simp only [Option.some.injEq, Addr.mk.injEq, and_true] at e
    obtain ⟨rfl, rfl⟩ := e
    have hj4 : j = j / 4 * 4 + j % 4 := by omega
    have hm : j % 4 < 4 := Nat.mod_lt _ (by omega)
    rw [hj4, ofD_at ds _ (j / 4) (j % 4) hlen hk hm, hvat _ hk, ← Nat.add_assoc]
    rcases (by omega : j % 4 = 0 ∨ j % 4 = 1 ∨ j % 4 = 2 ∨ j % 4 = 3) with e | e | e | e <;> rw [e]
    · exact k0
    · exact k1
    · exact k2
    · exact k3
  · rw [hvat k hk]
    obtain ⟨g, off, _, q⟩ := hf k hk
    exact q.2.2.2.2
theorem reads_one {w : World} {v : Value} {ns : List NodeL} (h : ReadsN w v ns) : v.oneCell' = true := by
  obtain ⟨a, c, rfl⟩ := h.form
  rfl
/-- Definitions that read in a row. -/
theorem readsD_row {w : World} {base n : Nat} {v : Value} {ds : List DefL} {Bs : List Value} (h : w.ownsRow base 44 4 v n (ofD ds Bs)) (hn : ds.length = n) (hm : n ≤ maxLen) (hl : Bs.length = ds.length) (hb : ∀ k, k < ds.length → ReadsN w (vAt Bs k) (dAt ds k).body) : ReadsD w v ds := by
  subst hn
  obtain ⟨⟨_, a, cap, rfl, h2, h3, h4⟩, _⟩ := owns_of_row h hm
  have hll := ofD_length ds Bs hl
  refine ⟨a, cap, rfl, h2, h3, fun k hk => ?_⟩
  obtain ⟨g, off, cs, rfl, hg, hc⟩ := h4 (by omega)
  have c0 := hc (k * 4 + 0) (by omega)
  have c1 := hc (k * 4 + 1) (by omega)
  have c2 := hc (k * 4 + 2) (by omega)
  have c3 := hc (k * 4 + 3) (by omega)
  rw [ofD_at ds Bs k 0 hl hk (by omega)] at c0
  rw [ofD_at ds Bs k 1 hl hk (by omega)] at c1
  rw [ofD_at ds Bs k 2 hl hk (by omega)] at c2
  rw [ofD_at ds Bs k 3 hl hk (by omega)] at c3
  rw [← Nat.add_assoc] at c1 c2 c3
  exact ⟨g, off, _, rfl, (Go.Joins.cell_of_block hg _).trans c0, (Go.Joins.cell_of_block hg _).trans c1, (Go.Joins.cell_of_block hg _).trans c2, (Go.Joins.cell_of_block hg _).trans c3, hb k hk⟩
theorem bods_one {w : World} {ds : List DefL} {Bs : List Value} (hl : Bs.length = ds.length) (hb : ∀ k, k < ds.length → ReadsN w (vAt Bs k) (dAt ds k).body) : ∀ u ∈ ofD ds Bs, u.oneCell' = true :=
  ofD_one ds Bs fun B hB => by
    obtain ⟨k, hk, rfl⟩ := List.mem_iff_getElem.1 hB
    have h1 := hb k (by omega)
    have : vAt Bs k = Bs[k] := by simp [vAt, hk]
    rw [← this]
    obtain ⟨a, c, e⟩ := h1.form
    rw [e]
    rfl

def At4 (w : World) (b : Nat) (x0 x1 x2 x3 : Value) : Prop := w.cell? ⟨b, 0, none⟩ = some x0 ∧ w.cell? ⟨b, 1, none⟩ = some x1 ∧ w.cell? ⟨b, 2, none⟩ = some x2 ∧ w.cell? ⟨b, 3, none⟩ = some x3
theorem keep4 {w w' : World} {b : Nat} {x0 x1 x2 x3 : Value} (h : w.cell? ⟨b, 0, none⟩ = some x0 ∧ w.cell? ⟨b, 1, none⟩ = some x1 ∧ w.cell? ⟨b, 2, none⟩ = some x2 ∧ w.cell? ⟨b, 3, none⟩ = some x3) (hb : Below w.heap.size w w') : At4 w' b x0 x1 x2 x3 :=
  ⟨cell_old hb h.1, cell_old hb h.2.1, cell_old hb h.2.2.1, cell_old hb h.2.2.2⟩
theorem keep4g {w w' : World} {b : Nat} {x0 x1 x2 x3 v : Value} (h : w.cell? ⟨b, 0, none⟩ = some x0 ∧ w.cell? ⟨b, 1, none⟩ = some x1 ∧ w.cell? ⟨b, 2, none⟩ = some x2 ∧ w.cell? ⟨b, 3, none⟩ = some x3) (hg : w.grownBy w' v.ownBlock) (hn : ¬ v.ownBlock = some b) : At4 w' b x0 x1 x2 x3 :=
  ⟨(chg_of_grown hg).keep h.1 hn, (chg_of_grown hg).keep h.2.1 hn, (chg_of_grown hg).keep h.2.2.1 hn, (chg_of_grown hg).keep h.2.2.2 hn⟩
/-- One definition more behind a copied library. -/
theorem snoc_lib {w1 w2 w3 w4 : World} {a2 : Option Addr} {c2 : Nat} {Bs : List Value} {ds D : List DefL} {d : DefL} {u v4 : Value} (hown2 : w2.ownsRow w1.heap.size 44 4 (.slice a2 ds.length c2) ds.length (ofD ds Bs)) (hbo2 : BodsOwn (w1.heap.size ≤ ·) w2 Bs ds) (hb2 : Below w1.heap.size w1 w2)
    (hb3 : Below w2.heap.size w2 w3) (ho3 : OwnsN (w2.heap.size ≤ ·) w3 u d.body) (hown4 : w4.ownsRow w1.heap.size 44 4 v4 (ds.length + 1) (ofD ds Bs ++ cellsV d u)) (hg4 : w3.grownBy w4 (Value.slice a2 ds.length c2).ownBlock) (hD : ds ++ [d] = D) (hm : ds.length + 1 ≤ maxLen) :
    OwnsD (w1.heap.size ≤ ·) w4 v4 D ∧ Below w1.heap.size w1 w4 ∧ ds.length + 1 = D.length := by
  subst hD
  have q3 := ownsRow_below hown2 hb3
  have hs : w1.heap.size ≤ w3.heap.size := Nat.le_trans hb2.size hb3.size
  refine ⟨ownsD_row (Bs := Bs ++ [u]) ?_ (by simp) hm ((hbo2.snoc hb3 ho3 (fun g hg => Nat.le_trans hb2.size hg)).grown q3 hg4) (fun _ h => h), Below.grownRow (below_step hb2 hb3) q3 hg4 hs, by simp⟩
  rw [ofD_snoc _ _ _ _ hbo2.1]
  exact hown4

/-- A library with one more definition. -/
def addR (ds : List DefL) (d : DefL) : List DefL := if libB ds = true then libO (ds ++ [d]) else []
def addB (ds : List DefL) (d : DefL) : Bool := libB ds && libB (ds ++ [d])
theorem totD_snoc (ds : List DefL) (d : DefL) : totD (ds ++ [d]) = totD ds + 1 + cellsD d := by
  unfold totD
  simp
  omega

set_option maxRecDepth 100000 in
set_option maxHeartbeats 2000000 in
theorem implAD_any (vd vb : Value) (ds : List DefL) (d : DefL) (hbd : totD ds ≤ 1048576) (hbn : cellsD d ≤ 1048576) (w : World) (hd : ReadsD w vd ds) (h : ReadsN w vb d.body) :
    Calls Tryd.prog 34 #[vd, .agg #[.string d.name, .int .i64 d.inp, .int .i64 d.out, vb]] w (LibOut w (addB ds d) (addR ds d)) := by
  obtain ⟨w0, hw0⟩ : ∃ W, W = w.alloc (.cells #[.string d.name, .int .i64 d.inp, .int .i64 d.out, vb] 44) := ⟨_, rfl⟩
  have hB : Below w.heap.size w w0 := by rw [hw0]; exact below_alloc (Below.refl _ _)
  have HG := Lib.hid (isLibrary_any vd ds (by omega) w0 (hd.below hB))
  have HCL := Lib.hid (fun W (hW : Below w.heap.size w W) => copyLibrary_any vd ds W (hd.below hW) (by omega))
  have HCD := Lib.hid (fun W (hW : Below w.heap.size w W) => copyDef_any d vb W (h.below hW) (by unfold cellsD totN at hbn; omega))
  have HV := Lib.hid (fun v W hv => validLibrary_any v (ds ++ [d]) (by rw [totD_snoc]; omega) W hv)
  have hx : w0.heap[w.heap.size]? = some (.cells #[.string d.name, .int .i64 d.inp, .int .i64 d.out, vb] 44 (0, 0)) := by
    rw [hw0]
    exact heap_alloc_new w _
  obtain ⟨ab, cb, rfl⟩ := h.form
  obtain ⟨ad, cd, rfl⟩ := hd.form
  have HB := Lib.hid hB
  have HX := Lib.hid hx
  have HW := Lib.hid hw0
  have HN12 : Hid (libB ds = true → ds.length ≤ 12) := fun e => (libB_all e).1
  obtain ⟨bl, hbl⟩ : ∃ b, libB ds = b := ⟨_, rfl⟩
  unfold addB addR
  rw [hbl] at HG HN12 ⊢
  obtain ⟨n, hn⟩ : ∃ n, ds.length = n := ⟨_, rfl⟩
  have HNL := Lib.hid hn
  clear hd h hw0 hB hx hbl hn
  cases bl with
  | false =>
    go_enter Tryd.func34, Tryd.ntmps34
    go_wp2_with fail
    rw [← HW.out]
    refine HG.out.mono ?_
    rintro e w1 ⟨rfl, hb1⟩
    have HB1 := Lib.hid (below_step HB.out hb1)
    clear hb1
    go_wp2
    go_ret2
    exact ⟨_, rfl, ownsD_nil _ _, HB1.out⟩
  | true =>
    rw [Bool.true_and, if_pos rfl]
    have hn12 := HN12.out rfl
    obtain ⟨D, hD⟩ : ∃ D, ds ++ [d] = D := ⟨_, rfl⟩
    have HD := Lib.hid hD
    rw [hD] at HV ⊢
    have hm3 := Lib.hid (show ds.length + 1 ≤ maxLen by unfold maxLen; omega)
    have hm4 := Lib.hid (show (ds.length + 1) * 56 ≤ 140737488355328 by omega)
    clear hn12 HN12 hD
    go_enter Tryd.func34, Tryd.ntmps34
    go_wp2_with fail
    rw [← HW.out]
    refine HG.out.mono ?_
    rintro e w1 ⟨rfl, hb1⟩
    have HB1 := Lib.hid (below_drewB (below_step HB.out hb1))
    have hx1 := block_old HX.out hb1
    have hlt1 := (Array.getElem?_eq_some_iff.1 hx1).1
    have hx1d : w1.drew.heap[w.heap.size]? = some (.cells #[.string d.name, .int .i64 d.inp, .int .i64 d.out, .slice ab d.body.length cb] 44 (0, 0)) := hx1
    have HLT : Hid (w.heap.size < w1.drew.heap.size) := Lib.hid hlt1
    have S6 := Lib.hid (cells4 hx1d)
    clear hb1 hx1 hx1d hlt1
    go_upto_region 3 with fail
    go_region_held3 (fun W => W.cell? ⟨w.heap.size, 0, none⟩ = some (.string d.name) ∧ W.cell? ⟨w.heap.size, 1, none⟩ = some (.int .i64 d.inp) ∧ W.cell? ⟨w.heap.size, 2, none⟩ = some (.int .i64 d.out) ∧ W.cell? ⟨w.heap.size, 3, none⟩ = some (.slice ab d.body.length cb))
      (first | exact S10.out | exact S9.out | exact S8.out | exact S7.out | exact S6.out | go_keep)
      (first | (go_at_call 53; (with_reducible refine (HCL.out _ HB1.out).mono ?_); rintro e w2 ⟨v2, Bs, rfl, hown2, hbo2, hb2⟩; obtain ⟨a2, c2, rfl⟩ := ownsRow_form' hown2; have HB2 := Lib.hid (below_step HB1.out hb2); have S7 := Lib.hid (keep4 S6.out hb2)) | (go_at_call 54; (with_reducible refine (HCD.out _ HB2.out).mono ?_); rintro e w3 ⟨u3, rfl, ho3, hb3⟩; obtain ⟨a3, c3, rfl⟩ := ho3.reads.form; have HB3 := Lib.hid (below_step HB2.out hb3); have S8 := Lib.hid (keep4 S7.out hb3)) | (refine step_append_many (by rfl) _ _ 30 (by rfl) w1.drew.heap.size 44 (.agg #[.string ByteArray.empty, .int .i64 0, .int .i64 0, .slice none 0 0]) 4 56 Tryd.underlying30 infoDef rfl (by decide) _ _ _ #[.string d.name, .int .i64 d.inp, .int .i64 d.out, .slice a3 d.body.length c3] rfl (ownsRow_below hown2 hb3) (by rfl) (by rfl) (by intro u hu; simp at hu; rcases hu with rfl | rfl | rfl | rfl <;> rfl) hm3.out hm4.out (Nat.le_trans hb2.size hb3.size) ?_; intro v4 w4 hown4 hg4; have S9 := Lib.hid (keep4g S8.out hg4 (fun e => Nat.not_le.2 HLT.out (ownsRow_ge hown2 e))); obtain ⟨h41, h42, -⟩ := snoc_lib hown2 hbo2 hb2 hb3 ho3 hown4 hg4 HD.out hm3.out; obtain ⟨a4, c4, rfl⟩ := ownsRow_form' hown4) | (go_at_call 52; (with_reducible refine (HV.out _ _ h41.reads).mono ?_); rintro e w5 ⟨v5, rfl, hv5, hb5⟩; have HV5 := Lib.hid hv5; clear hv5; have S10 := Lib.hid (keep4 S9.out hb5)))
    have hfin : Hid (LibOut w (libB D) (libO D) (.returned (.tuple #[v5, .bool (libB D)])) w5) := by
      have q := libO_own (h41.below hb5)
      rw [← HV5.out] at q
      exact Lib.hid ⟨v5, rfl, q.mono (fun g hg => Nat.le_trans HB1.out.size hg), below_step (below_step HB1.out h42) hb5⟩
    clear h41 h42 hown4 hg4 ho3 hb3 hbo2 hown2 hb2 hb5
    go_wp2
    go_ret2
    exact hfin.out

/-- What the reference's two appends leave: the definitions, their bodies where they were. -/
theorem snoc_reads {w0 w3 w4 : World} {base : Nat} {v3 v4 : Value} {Bs : List Value} {ds D : List DefL} {d : DefL} {u : Value} (hown3 : w3.ownsRow base 44 4 v3 ds.length (ofD ds Bs)) (hl : Bs.length = ds.length) (hb : ∀ k, k < ds.length → ReadsN w0 (vAt Bs k) (dAt ds k).body) (hu : ReadsN w0 u d.body)
    (hc : Chg (fun g => base ≤ g) w0 w4) (hlt : w0.heap.size ≤ base) (hown4 : w4.ownsRow base 44 4 v4 (ds.length + 1) (ofD ds Bs ++ cellsV d u)) (hD : ds ++ [d] = D) (hm : ds.length + 1 ≤ maxLen) : ReadsD w4 v4 D := by
  have _ := hown3
  subst hD
  have keep : ∀ {v : Value} {ns : List NodeL}, ReadsN w0 v ns → ReadsN w4 v ns := fun h => Reads.chg h hc fun g hx hg hS => by
    have := Reads.lt h g hx hg
    omega
  refine readsD_row (Bs := Bs ++ [u]) (by rw [ofD_snoc _ _ _ _ hl]; exact hown4) (by simp) hm (by simp [hl]) fun k hk => ?_
  simp only [List.length_append, List.length_singleton] at hk
  by_cases hkl : k < ds.length
  · rw [dAt_snoc_lt hkl, vAt_snoc_lt (by omega)]
    exact keep (hb k hkl)
  · obtain rfl : k = ds.length := by omega
    rw [dAt_snoc_at, ← hl, vAt_snoc_at]
    exact keep hu

set_option maxRecDepth 100000 in
set_option maxHeartbeats 2000000 in
theorem specAD_any (vd vb : Value) (ds : List DefL) (d : DefL) (hbd : totD ds ≤ 1048576) (hbn : cellsD d ≤ 1048576) (w : World) (hd : ReadsD w vd ds) (h : ReadsN w vb d.body) :
    Calls Tryd.prog 32 #[vd, .agg #[.string d.name, .int .i64 d.inp, .int .i64 d.out, vb]] w (LibOut w (addB ds d) (addR ds d)) := by
  obtain ⟨w0, hw0⟩ : ∃ W, W = w.alloc (.cells #[.string d.name, .int .i64 d.inp, .int .i64 d.out, vb] 44) := ⟨_, rfl⟩
  have hB : Below w.heap.size w w0 := by rw [hw0]; exact below_alloc (Below.refl _ _)
  have HG := Lib.hid (lbGood_any vd ds w0 (hd.below hB))
  have HO := Lib.hid (fun v W hv => lbOwn_any v (ds ++ [d]) W hv (by rw [totD_snoc]; omega))
  have HV := Lib.hid (fun v W hv => lbIf_any v (ds ++ [d]) W hv)
  have hx : w0.heap[w.heap.size]? = some (.cells #[.string d.name, .int .i64 d.inp, .int .i64 d.out, vb] 44 (0, 0)) := by
    rw [hw0]
    exact heap_alloc_new w _
  have HRB := Lib.hid h
  have HRD := Lib.hid hd
  obtain ⟨ab, cb, rfl⟩ := h.form
  obtain ⟨ad, cd, rfl⟩ := hd.form
  have HB := Lib.hid hB
  have HX := Lib.hid hx
  have HW := Lib.hid hw0
  have HN12 : Hid (libB ds = true → ds.length ≤ 12) := fun e => (libB_all e).1
  obtain ⟨bl, hbl⟩ : ∃ b, libB ds = b := ⟨_, rfl⟩
  unfold addB addR
  rw [hbl] at HG HN12 ⊢
  clear hd h hw0 hB hx hbl
  cases bl with
  | false =>
    go_enter Tryd.func32, Tryd.ntmps32
    go_wp2_with fail
    rw [← HW.out]
    refine HG.out.mono ?_
    rintro e w1 ⟨rfl, hb1⟩
    have HB1 := Lib.hid (below_step HB.out hb1)
    clear hb1
    go_wp2
    go_ret2
    exact ⟨_, rfl, ownsD_nil _ _, HB1.out⟩
  | true =>
    rw [Bool.true_and, if_pos rfl]
    have hn12 := HN12.out rfl
    obtain ⟨D, hD⟩ : ∃ D, ds ++ [d] = D := ⟨_, rfl⟩
    have HD := Lib.hid hD
    rw [hD] at HV HO ⊢
    have hm1 := Lib.hid (show 0 + ds.length ≤ maxLen by unfold maxLen; omega)
    have hm2 := Lib.hid (show (0 + ds.length) * 56 ≤ 140737488355328 by omega)
    have hm3 := Lib.hid (show ds.length + 1 ≤ maxLen by unfold maxLen; omega)
    have hm4 := Lib.hid (show (ds.length + 1) * 56 ≤ 140737488355328 by omega)
    clear hn12 HN12 hD
    go_enter Tryd.func32, Tryd.ntmps32
    go_wp2_with fail
    rw [← HW.out]
    refine HG.out.mono ?_
    rintro e w1 ⟨rfl, hb1⟩
    have hbw := below_drewB (below_step HB.out hb1)
    have HB1 := Lib.hid hbw
    have hx1 := block_old HX.out hb1
    have hlt1 := (Array.getElem?_eq_some_iff.1 hx1).1
    have hx1d : w1.drew.heap[w.heap.size]? = some (.cells #[.string d.name, .int .i64 d.inp, .int .i64 d.out, .slice ab d.body.length cb] 44 (0, 0)) := hx1
    have HLT : Hid (w.heap.size < w1.drew.heap.size) := Lib.hid hlt1
    have S6 := Lib.hid (cells4 hx1d)
    obtain ⟨Bs, hbl, hbr, hbn2⟩ := cells_of (HRD.out.below hbw)
    have HBL := Lib.hid hbl
    have HBN := Lib.hid hbn2
    have HRU := Lib.hid (HRB.out.below hbw)
    have hX1 : Below w1.drew.heap.size w1.drew (w1.drew.alloc (.cells #[] 44)) := below_alloc (Below.refl _ _)
    have hX2 : Below (w1.drew.alloc (.cells #[] 44)).heap.size (w1.drew.alloc (.cells #[] 44)) ((w1.drew.alloc (.cells #[] 44)).alloc (.cells #[.string d.name, .int .i64 d.inp, .int .i64 d.out, .slice ab d.body.length cb] 44)) := below_alloc (Below.refl _ _)
    have HBRa : Hid (Reads (w1.alloc (.cells #[] 44)).drew 4 (.slice ad ds.length cd) ds.length (ofD ds Bs)) := Lib.hid (hbr.below hX1)
    have HBRb : Hid (Reads ((w1.alloc (.cells #[] 44)).alloc (.cells #[.string d.name, .int .i64 d.inp, .int .i64 d.out, .slice ab d.body.length cb] 44)).drew 4 (.slice ad ds.length cd) ds.length (ofD ds Bs)) := Lib.hid ((hbr.below hX1).below hX2)
    have HOa : Hid ((w1.alloc (.cells #[] 44)).drew.ownsRow w1.drew.heap.size 44 4 (.slice (some ⟨w1.heap.size, 0, none⟩) 0 0) 0 []) := Lib.hid (own_lit (W := w1.drew) 44 4 rfl)
    have HOb : Hid (((w1.alloc (.cells #[] 44)).alloc (.cells #[.string d.name, .int .i64 d.inp, .int .i64 d.out, .slice ab d.body.length cb] 44)).drew.ownsRow w1.drew.heap.size 44 4 (.slice (some ⟨w1.heap.size, 0, none⟩) 0 0) 0 []) := Lib.hid (ownsRow_below (own_lit (W := w1.drew) 44 4 rfl) hX2)
    have HBa : Hid (Below w1.drew.heap.size w1.drew (w1.alloc (.cells #[] 44)).drew) := Lib.hid hX1
    have HR1 : Hid (Reads ((w1.alloc (.cells #[] 44)).alloc (.cells #[.string d.name, .int .i64 d.inp, .int .i64 d.out, .slice ab d.body.length cb] 44)).drew 4 (.slice (some ⟨w1.heap.size + 1, 0, none⟩) 1 1) 1 [.string d.name, .int .i64 d.inp, .int .i64 d.out, .slice ab d.body.length cb]) := by
      have := reads_new_many (size := 4) (w1.drew.alloc (.cells #[] 44)) #[.string d.name, .int .i64 d.inp, .int .i64 d.out, .slice ab d.body.length cb] 44 rfl (by omega)
      rw [show (w1.drew.alloc (.cells #[] 44)).heap.size = w1.heap.size + 1 by simp] at this
      exact Lib.hid this
    have HBb : Hid (Below w1.drew.heap.size w1.drew ((w1.alloc (.cells #[] 44)).alloc (.cells #[.string d.name, .int .i64 d.inp, .int .i64 d.out, .slice ab d.body.length cb] 44)).drew) := Lib.hid (below_step hX1 hX2)
    have hY1 : Below w1.drew.heap.size w1.drew (w1.drew.alloc (.cells #[.string d.name, .int .i64 d.inp, .int .i64 d.out, .slice ab d.body.length cb] 44)) := below_alloc (Below.refl _ _)
    have hY2 : Below (w1.drew.alloc (.cells #[.string d.name, .int .i64 d.inp, .int .i64 d.out, .slice ab d.body.length cb] 44)).heap.size (w1.drew.alloc (.cells #[.string d.name, .int .i64 d.inp, .int .i64 d.out, .slice ab d.body.length cb] 44)) ((w1.drew.alloc (.cells #[.string d.name, .int .i64 d.inp, .int .i64 d.out, .slice ab d.body.length cb] 44)).alloc (.cells #[] 44)) := below_alloc (Below.refl _ _)
    have HBRc : Hid (Reads ((w1.alloc (.cells #[.string d.name, .int .i64 d.inp, .int .i64 d.out, .slice ab d.body.length cb] 44)).alloc (.cells #[] 44)).drew 4 (.slice ad ds.length cd) ds.length (ofD ds Bs)) := Lib.hid ((hbr.below hY1).below hY2)
    have HOc : Hid (((w1.alloc (.cells #[.string d.name, .int .i64 d.inp, .int .i64 d.out, .slice ab d.body.length cb] 44)).alloc (.cells #[] 44)).drew.ownsRow w1.drew.heap.size 44 4 (.slice (some ⟨w1.heap.size + 1, 0, none⟩) 0 0) 0 []) := by
      have := World.ownsRow_lit (base := w1.drew.heap.size) (size := 4) (e := 44) (w1.drew.alloc (.cells #[.string d.name, .int .i64 d.inp, .int .i64 d.out, .slice ab d.body.length cb] 44)) #[] 0 hY1.size (Nat.zero_le _) (by simp)
      rw [show (w1.drew.alloc (.cells #[.string d.name, .int .i64 d.inp, .int .i64 d.out, .slice ab d.body.length cb] 44)).heap.size = w1.heap.size + 1 by simp] at this
      exact Lib.hid this
    have HR1c : Hid (Reads ((w1.alloc (.cells #[.string d.name, .int .i64 d.inp, .int .i64 d.out, .slice ab d.body.length cb] 44)).alloc (.cells #[] 44)).drew 4 (.slice (some ⟨w1.heap.size, 0, none⟩) 1 1) 1 [.string d.name, .int .i64 d.inp, .int .i64 d.out, .slice ab d.body.length cb]) := 
      Lib.hid ((reads_new_many (size := 4) w1.drew #[.string d.name, .int .i64 d.inp, .int .i64 d.out, .slice ab d.body.length cb] 44 rfl (by omega)).below hY2)
    have HBc : Hid (Below w1.drew.heap.size w1.drew ((w1.alloc (.cells #[.string d.name, .int .i64 d.inp, .int .i64 d.out, .slice ab d.body.length cb] 44)).alloc (.cells #[] 44)).drew) := Lib.hid (below_step hY1 hY2)
    have S63 := Lib.hid (keep4 S6.out hY1)
    have S66 := Lib.hid (keep4 S6.out HBc.out)
    clear hY1 hY2
    have S64 := Lib.hid (keep4 S6.out hX1)
    have S65 := Lib.hid (keep4 S6.out HBb.out)
    clear hX1 hX2
    have HON := Lib.hid (bods_one hbl hbn2)
    clear hb1 hx1 hx1d hlt1 hbl hbr hbn2 hbw
    go_upto_region 3 with fail
    go_region_held3 (fun W => W.cell? ⟨w.heap.size, 0, none⟩ = some (.string d.name) ∧ W.cell? ⟨w.heap.size, 1, none⟩ = some (.int .i64 d.inp) ∧ W.cell? ⟨w.heap.size, 2, none⟩ = some (.int .i64 d.out) ∧ W.cell? ⟨w.heap.size, 3, none⟩ = some (.slice ab d.body.length cb))
      (first | exact S10.out | exact S9.out | exact S8.out | exact S75.out | exact S7.out | exact S66.out | exact S65.out | exact S63.out | exact S64.out | exact S6.out | go_keep)
      (first | (refine step_append_readsD (by rfl) _ _ 30 (by rfl) w1.drew.heap.size 44 (.agg #[.string ByteArray.empty, .int .i64 0, .int .i64 0, .slice none 0 0]) 4 56 Tryd.underlying30 infoDef rfl (by decide) _ 0 [] HOa.out _ ds.length (ofD ds Bs) HBRa.out (by rfl) (by rfl) HON.out hm1.out hm2.out HBa.out.size ?_; intro v2 w2 hown2 hg2; rw [Nat.zero_add, List.nil_append] at hown2; obtain ⟨a2, c2, rfl⟩ := ownsRow_form' hown2; have HB3 := Lib.hid (Below.grownRow HBa.out HOa.out hg2 HBa.out.size); have S7 := Lib.hid (keep4 S6.out HB3.out); have S75 := Lib.hid (keep4 S6.out (below_alloc (o := .cells #[.string d.name, .int .i64 d.inp, .int .i64 d.out, .slice ab d.body.length cb] 44) HB3.out))) | (refine step_append_readsD (by rfl) _ _ 30 (by rfl) w1.drew.heap.size 44 (.agg #[.string ByteArray.empty, .int .i64 0, .int .i64 0, .slice none 0 0]) 4 56 Tryd.underlying30 infoDef rfl (by decide) _ 0 [] HOb.out _ ds.length (ofD ds Bs) HBRb.out (by rfl) (by rfl) HON.out hm1.out hm2.out HBb.out.size ?_; intro v2 w2 hown2 hg2; rw [Nat.zero_add, List.nil_append] at hown2; obtain ⟨a2, c2, rfl⟩ := ownsRow_form' hown2; have HB3 := Lib.hid (Below.grownRow HBb.out HOb.out hg2 HBb.out.size); have S7 := Lib.hid (keep4 S6.out HB3.out); have hr2 := Reads.chg HR1.out (chg_of_grown hg2) (fun g hx hg hS => by simp [Value.ownBlock] at hg hS; omega)) | (refine step_append_readsD (by rfl) _ _ 30 (by rfl) w1.drew.heap.size 44 (.agg #[.string ByteArray.empty, .int .i64 0, .int .i64 0, .slice none 0 0]) 4 56 Tryd.underlying30 infoDef rfl (by decide) _ 0 [] HOc.out _ ds.length (ofD ds Bs) HBRc.out (by rfl) (by rfl) HON.out hm1.out hm2.out HBc.out.size ?_; intro v2 w2 hown2 hg2; rw [Nat.zero_add, List.nil_append] at hown2; obtain ⟨a2, c2, rfl⟩ := ownsRow_form' hown2; have HB3 := Lib.hid (Below.grownRow HBc.out HOc.out hg2 HBc.out.size); have S7 := Lib.hid (keep4 S6.out HB3.out); have hr2 := Reads.chg HR1c.out (chg_of_grown hg2) (fun g hx hg hS => by simp [Value.ownBlock] at hg hS; omega)) | (refine step_append_many (by rfl) _ _ 30 (by rfl) w1.drew.heap.size 44 (.agg #[.string ByteArray.empty, .int .i64 0, .int .i64 0, .slice none 0 0]) 4 56 Tryd.underlying30 infoDef rfl (by decide) _ _ _ #[.string d.name, .int .i64 d.inp, .int .i64 d.out, .slice ab d.body.length cb] rfl hown2 (by rfl) (by rfl) (by intro u hu; simp at hu; rcases hu with rfl | rfl | rfl | rfl <;> rfl) hm3.out hm4.out HB3.out.size ?_; intro v4 w4 hown4 hg4; have HB4 := Lib.hid (Below.grownRow HB3.out hown2 hg4 HB3.out.size); have S8 := Lib.hid (keep4 S6.out HB4.out); have hrd4 := snoc_reads hown2 HBL.out HBN.out HRU.out (Chg.of_below HB4.out fun _ _ h => h) (Nat.le_refl _) hown4 HD.out hm3.out; obtain ⟨a4, c4, rfl⟩ := ownsRow_form' hown4) | (refine step_append_readsD (by rfl) _ _ 30 (by rfl) w1.drew.heap.size 44 (.agg #[.string ByteArray.empty, .int .i64 0, .int .i64 0, .slice none 0 0]) 4 56 Tryd.underlying30 infoDef rfl (by decide) _ _ _ hown2 _ 1 [.string d.name, .int .i64 d.inp, .int .i64 d.out, .slice ab d.body.length cb] hr2 (by rfl) (by rfl) (by intro u hu; simp at hu; rcases hu with rfl | rfl | rfl | rfl <;> rfl) hm3.out hm4.out HB3.out.size ?_; intro v4 w4 hown4 hg4; have HB4 := Lib.hid (Below.grownRow HB3.out hown2 hg4 HB3.out.size); have S8 := Lib.hid (keep4 S6.out HB4.out); have hrd4 := snoc_reads hown2 HBL.out HBN.out HRU.out (Chg.of_below HB4.out fun _ _ h => h) (Nat.le_refl _) hown4 HD.out hm3.out; obtain ⟨a4, c4, rfl⟩ := ownsRow_form' hown4) | (go_at_call 51; (with_reducible refine (HO.out _ _ hrd4).mono ?_); rintro e w5 ⟨v5, Cs, rfl, hown5, hbo5, hb5⟩; have hod5 := ownsD_row hown5 rfl (by have := hm3.out; have e := HD.out; rw [← e]; simp; omega) hbo5 (fun _ h => h); obtain ⟨a5, c5, rfl⟩ := ownsRow_form' hown5; have HB5 := Lib.hid (below_step HB4.out hb5); have S9 := Lib.hid (keep4 S6.out HB5.out)) | (go_at_call 50; (with_reducible refine (HV.out _ _ hod5.reads).mono ?_); rintro e w6 ⟨v6, rfl, hv6, hb6⟩; have HV6 := Lib.hid hv6; clear hv6; have HB6 := Lib.hid (below_step HB5.out hb6); have S10 := Lib.hid (keep4 S6.out HB6.out)))
    all_goals
      have hfin : Hid (LibOut w (libB D) (libO D) (.returned (.tuple #[v6, .bool (libB D)])) w6) := by
        have q := libO_own (hod5.below hb6)
        rw [← HV6.out] at q
        exact Lib.hid ⟨v6, rfl, q.mono (fun g hg => Nat.le_trans (Nat.le_trans HB1.out.size HB4.out.size) hg), below_step HB1.out HB6.out⟩
      clear hod5 hbo5 hown5 hb5 hb6 hown4 hg4 hown2 hg2 hrd4
      go_wp2
      go_ret2
      exact hfin.out

end Ints
end Go.Proofs.YtlfcmlbffpmhkaaDoor
