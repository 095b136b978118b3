/- The program's typing of a term: joinWires, the closure that types leaves, the stack. -/
import Derived.Test.YtoegbphkheohoaaScanP
import Derived.Test.YtoegbphkheohoaaMapS
namespace Go.Proofs.Ytoegbphkheohoaa
open Go.RowKit
namespace Ints
open Fld (inR l1In_any)

set_option maxHeartbeats 1000000 in
theorem fit_any (a b : Int) (w : World) : Calls Try.prog 67 #[.agg #[.int .i64 a, .int .i64 b]] w fun e w' => e = .returned (.bool (decide (a ≤ 12 ∧ b ≤ 12))) ∧ Below w.heap.size w w' := by
  have hB := Lib.hid ((Below.refl w.heap.size w).alloc (Nat.le_refl _) (.cells #[.int .i64 a, .int .i64 b] 83))
  by_cases h1 : a ≤ 12
  · have b1 : decide (a ≤ 12) = true := by simpa using h1
    have e : decide (a ≤ 12 ∧ b ≤ 12) = decide (b ≤ 12) := by simp [h1]
    rw [e]
    clear e h1
    go_enter Try.func67, Try.ntmps67
    go_wp2
    go_ret
    exact ⟨rfl, hB.out⟩
  · have b1 : decide (a ≤ 12) = false := by simpa using h1
    have e : decide (a ≤ 12 ∧ b ≤ 12) = false := by simp [h1]
    rw [e]
    clear e h1
    go_enter Try.func67, Try.ntmps67
    go_wp2
    go_ret
    exact ⟨rfl, hB.out⟩

/-- What joining returns. -/
def JoinOut (w : World) (o : Option (Int × Int)) (e : Ending) (w' : World) : Prop :=
  ∃ a b, e = .returned (.tuple #[.agg #[.int .i64 a, .int .i64 b], .bool o.isSome]) ∧ (∀ p, o = some p → (a, b) = p) ∧ Below w.heap.size w w'

set_option maxRecDepth 100000 in
set_option maxHeartbeats 1000000 in
theorem joinWires_any (k : Int) (hk : k = 15 ∨ k = 16) (a b : Int × Int) (ha : bnd a) (hb : bnd b) (w : World) :
    Calls Try.prog 57 #[.int .i64 k, .agg #[.int .i64 a.1, .int .i64 a.2], .agg #[.int .i64 b.1, .int .i64 b.2]] w (JoinOut w (joinW k a b)) := by
  obtain ⟨a1, a2⟩ := a
  obtain ⟨b1, b2⟩ := b
  obtain ⟨w0, hw0⟩ : ∃ W, W = ((w.alloc (.cells #[.int .i64 a1, .int .i64 a2] 83)).alloc (.cells #[.int .i64 b1, .int .i64 b2] 83)).alloc (.cells #[.int .i64 0, .int .i64 0] 83) := ⟨_, rfl⟩
  have hB := Lib.hid (show Below w.heap.size w w0 by rw [hw0]; exact (((Below.refl w.heap.size w).alloc (Nat.le_refl _) _).alloc (by simp) _).alloc (by simp; omega) _)
  obtain ⟨q1, q2, q3⟩ := three_blocks w (.cells #[.int .i64 a1, .int .i64 a2] 83) (.cells #[.int .i64 b1, .int .i64 b2] 83) (.cells #[.int .i64 0, .int .i64 0] 83)
  rw [← hw0] at q1 q2 q3
  have HQ := Lib.hid (And.intro q1 (And.intro q2 q3))
  have HW := Lib.hid hw0
  have HS := Lib.hid (show w0.heap.size = w.heap.size + 3 by rw [hw0]; simp)
  have hj : Hid (∀ k, joinW k (a1, a2) (b1, b2) = if k = 15 then (if a2 = b1 then some (a1, b2) else none) else (if a1 + b1 ≤ 12 ∧ a2 + b2 ≤ 12 then some (a1 + b1, a2 + b2) else none)) := fun k => rfl
  unfold bnd at ha hb
  dsimp only at ha hb
  clear hw0 q1 q2 q3
  rcases hk with rfl | rfl
  · obtain ⟨o, ho⟩ : ∃ o, joinW 15 (a1, a2) (b1, b2) = o := ⟨_, rfl⟩
    rw [ho]
    have ho2 := ho.symm.trans (hj.out 15)
    rw [if_pos rfl] at ho2
    have hok : Hid (o.isSome = (a2 == b1)) := by
      show _ = _
      rw [ho2]
      by_cases h : a2 = b1 <;> simp [h]
    have hv : Hid (∀ p, o = some p → (a1, b2) = p) := by
      show ∀ p, _
      intro p hp
      rw [ho2] at hp
      split at hp
      · exact Option.some.inj hp
      · cases hp
    clear ho ho2 ha hb
    unfold JoinOut
    rw [hok.out]
    go_enter Try.func57, Try.ntmps57
    go_wp2
    rw [← HW.out]
    have x0 := (Go.Joins.cell_of_block HQ.out.1 0).trans rfl
    have x1 := (Go.Joins.cell_of_block HQ.out.1 1).trans rfl
    have y0 := (Go.Joins.cell_of_block HQ.out.2.1 0).trans rfl
    have y1 := (Go.Joins.cell_of_block HQ.out.2.1 1).trans rfl
    have z0 := (Go.Joins.cell_of_block HQ.out.2.2 0).trans rfl
    have z1 := (Go.Joins.cell_of_block HQ.out.2.2 1).trans rfl
    have f0 := Go.Joins.unfrozen_of_block HQ.out.2.2 0
    have f1 := Go.Joins.unfrozen_of_block HQ.out.2.2 1
    have HB2 := Lib.hid (((hB.out.setCell (p := ⟨w.heap.size + 2, 0, none⟩) (by simp) (.int .i64 a1)).setCell (p := ⟨w.heap.size + 2, 1, none⟩) (by simp) (.int .i64 b2)).drew)
    go_region
    all_goals
      go_wp2
      refine bodyPost_ret (v := .tuple #[.agg #[.int .i64 a1, .int .i64 b2], .bool (a2 == b1)]) (by simp [results, Try.results57, go_sem, z0, z1]) rfl ?_
      exact ⟨_, _, rfl, hv.out, HB2.out⟩
  · obtain ⟨o, ho⟩ : ∃ o, joinW 16 (a1, a2) (b1, b2) = o := ⟨_, rfl⟩
    rw [ho]
    have ho2 := ho.symm.trans (hj.out 16)
    rw [if_neg (by decide)] at ho2
    have hok : Hid (o.isSome = decide (a1 + b1 ≤ 12 ∧ a2 + b2 ≤ 12)) := by
      show _ = _
      rw [ho2]
      by_cases h : a1 + b1 ≤ 12 ∧ a2 + b2 ≤ 12
      · rw [if_pos h, decide_eq_true h]; rfl
      · rw [if_neg h, decide_eq_false h]; rfl
    have hv : Hid (∀ p, o = some p → (a1 + b1, a2 + b2) = p) := by
      show ∀ p, _
      intro p hp
      rw [ho2] at hp
      split at hp
      · exact Option.some.inj hp
      · cases hp
    have hw1 : IntKind.i64.wrap (a1 + b1) = a1 + b1 := IntWalk.i64_in _ (by omega)
    have hw2 : IntKind.i64.wrap (a2 + b2) = a2 + b2 := IntWalk.i64_in _ (by omega)
    have hfit := Lib.hid (fun W => fit_any (a1 + b1) (a2 + b2) W)
    rw [← hok.out] at hfit
    clear ho ho2 ha hb
    obtain ⟨s1, hs1⟩ : ∃ x, a1 + b1 = x := ⟨_, rfl⟩
    obtain ⟨s2, hs2⟩ : ∃ x, a2 + b2 = x := ⟨_, rfl⟩
    rw [hs1, hs2] at hv hfit
    replace hw1 := hw1.trans hs1
    replace hw2 := hw2.trans hs2
    clear hs1 hs2
    obtain ⟨r, hr⟩ : ∃ r, o.isSome = r := ⟨_, rfl⟩
    unfold JoinOut
    rw [hr] at hfit ⊢
    clear hr hok
    go_enter Try.func57, Try.ntmps57
    go_wp2
    rw [← HW.out]
    obtain ⟨w4, hw4⟩ : ∃ W, W = w0.alloc (.cells #[.int .i64 s1, .int .i64 s2] 83) := ⟨_, rfl⟩
    have hb4 : Below w0.heap.size w0 w4 := by rw [hw4]; exact (Below.refl _ _).alloc (Nat.le_refl _) _
    have hblk4 : w4.heap[w.heap.size + 3]? = some (.cells #[.int .i64 s1, .int .i64 s2] 83 (0, 0)) := by
      rw [hw4, ← HS.out]
      exact heap_alloc_new _ _
    have HX := Lib.hid (show ∀ W, Below w4.heap.size w4 W → (W.cell? ⟨w.heap.size + 1 + 1 + 1, 0, none⟩ = some (.int .i64 s1) ∧ W.cell? ⟨w.heap.size + 1 + 1 + 1, 1, none⟩ = some (.int .i64 s2)) ∧ W.heap[w.heap.size + 2]? = some (.cells #[.int .i64 0, .int .i64 0] 83 (0, 0)) from
      fun W hW => ⟨⟨(Go.Joins.cell_of_block (block_old hblk4 hW) 0).trans rfl, (Go.Joins.cell_of_block (block_old hblk4 hW) 1).trans rfl⟩, block_old (block_old HQ.out.2.2 hb4) hW⟩)
    have HB4 := Lib.hid (hB.out.trans (hb4.mono hB.out.size))
    rw [← hw4]
    have S0 := Lib.hid (HX.out w4.drew (Below.refl _ _).drew).1
    clear hw4 hb4 hblk4
    go_region_held3 (fun W => W.cell? ⟨w.heap.size + 1 + 1 + 1, 0, none⟩ = some (.int .i64 s1) ∧ W.cell? ⟨w.heap.size + 1 + 1 + 1, 1, none⟩ = some (.int .i64 s2))
      (first | exact S0.out | exact S7.out | go_keep)
      (first | (go_at_call 67; (with_reducible refine (hfit.out _).mono ?_); rintro e w7 ⟨rfl, hb7⟩; have hbb := below_step (w := w4) (w1 := w4.drew) (Below.refl _ _).drew hb7; have S7 := Lib.hid (HX.out w7 hbb).1; have hblk := (HX.out w7 hbb).2; have y0 := (Go.Joins.cell_of_block hblk 0).trans rfl; have y1 := (Go.Joins.cell_of_block hblk 1).trans rfl; have f0 := Go.Joins.unfrozen_of_block hblk 0; have f1 := Go.Joins.unfrozen_of_block hblk 1; have HB7 := Lib.hid (HB4.out.trans (hbb.mono HB4.out.size)); clear hblk hbb hb7))
    have HB2 := Lib.hid ((HB7.out.setCell (p := ⟨w.heap.size + 1 + 1, 0, none⟩) (by simp; omega) (.int .i64 s1)).setCell (p := ⟨w.heap.size + 1 + 1, 1, none⟩) (by simp; omega) (.int .i64 s2))
    go_wp2
    refine bodyPost_ret (v := .tuple #[.agg #[.int .i64 s1, .int .i64 s2], .bool r]) (by simp [results, Try.results57, go_sem, y0, y1]) rfl ?_
    exact ⟨_, _, rfl, hv.out, HB2.out⟩

/-- What a library's map of types says. -/
def lookD (ds : List DefL) (x : List UInt8) : Option (Int × Int) := (ds.find? fun d => d.name.toList == x).map fun d => (d.inp, d.out)
theorem find_idx (ds : List DefL) (s : ByteArray) : lookD ds s.toList = (findD ds s).map fun i => ((dAt ds i).inp, (dAt ds i).out) := by
  unfold lookD findD
  cases h : ds.findIdx? (fun d => d.name.toList == s.toList) with
  | none =>
    rw [List.findIdx?_eq_none_iff] at h
    have : ds.find? (fun d => d.name.toList == s.toList) = none := by
      rw [List.find?_eq_none]
      intro x hx
      simp [h x hx]
    rw [this]
    rfl
  | some i =>
    rw [List.findIdx?_eq_some_iff_getElem] at h
    obtain ⟨hi, h1, h2⟩ := h
    have : ds.find? (fun d => d.name.toList == s.toList) = some ds[i] := by
      rw [List.find?_eq_some_iff_getElem]
      exact ⟨h1, i, hi, rfl, fun j hj => by simpa using h2 j hj⟩
    rw [this, Option.map_some, Option.map_some, dAt_eq ds i hi]
def newN (ds : List DefL) : Prop := ∀ k, k < ds.length → findD (ds.take k) (dAt ds k).name = none
theorem lookD_succ {ds : List DefL} (h : newN ds) (k : Nat) (hk : k < ds.length) : lookD (ds.take (k + 1)) = putL (lookD (ds.take k)) (dAt ds k).name.toList ((dAt ds k).inp, (dAt ds k).out) := by
  funext x
  have h1 := h k hk
  unfold findD at h1
  rw [List.findIdx?_eq_none_iff] at h1
  unfold lookD putL
  rw [take_oneD ds k hk, List.find?_append]
  by_cases hx : x = (dAt ds k).name.toList
  · subst hx
    have h2 : (ds.take k).find? (fun d => d.name.toList == (dAt ds k).name.toList) = none := by
      rw [List.find?_eq_none]
      intro y hy
      simp [h1 y hy]
    rw [h2, if_pos rfl]
    simp
  · rw [if_neg hx]
    have h2 : [dAt ds k].find? (fun d => d.name.toList == x) = none := by
      rw [List.find?_eq_none]
      intro y hy
      simp only [List.mem_singleton] at hy
      subst hy
      simpa using fun e => hx e.symm
    rw [h2]
    simp

def TypSt (W : World) (g b : Nat) (ds : List DefL) : Prop := W.cell? ⟨g, 0, none⟩ = some (.map (some b)) ∧ MapOf wiresE W b ds.length (lookD ds)
theorem TypSt.below {W W' : World} {g b : Nat} {ds : List DefL} (h : TypSt W g b ds) (hb : Below W.heap.size W W') : TypSt W' g b ds := ⟨cell_old hb h.1, h.2.below hb⟩
def bigNames (ds : List DefL) : Prop := ds.length ≤ 1000000 ∧ ∀ k, k < ds.length → (dAt ds k).name.size ≤ maxLen
theorem bigNames_of {ds : List DefL} (h : totD ds ≤ 10000000000000) (hl : ds.length ≤ 1000000) : bigNames ds := by
  refine ⟨hl, fun k hk => ?_⟩
  have := cellsD_le ds k hk
  unfold cellsD at this
  unfold maxLen
  omega

set_option maxRecDepth 100000 in
set_option maxHeartbeats 1000000 in
theorem typingIn_any (v : Value) (ds : List DefL) (w : World) (h : ReadsD w v ds) (hn : newN ds) (hbig : bigNames ds) :
    Calls Try.prog 45 #[v] w fun e w' => ∃ g b, e = .returned (.func (.func 58) #[] #[.pointer (some ⟨g, 0, none⟩)]) ∧ TypSt w' g b ds ∧ Below w.heap.size w w' := by
  obtain ⟨a, cap, rfl, hm, hc⟩ := open_readsD h
  obtain ⟨n, hnn⟩ : ∃ n, ds.length = n := ⟨_, rfl⟩
  have HN := Lib.hid hnn
  have HC := Lib.hid hc
  have HNW := Lib.hid hn
  have HBG := Lib.hid hbig
  have HM0 := Lib.hid (MapOf.made wiresE w)
  have hmm := @run_makeMap Try.prog
  rw [hnn] at hm ⊢
  clear h hc hn hbig hnn
  go_enter Try.func45, Try.ntmps45
  go_wp2
  go_loopw [9, 5] (fun i q wr => ∃ k : Nat, k ≤ n ∧ i = .int .i64 k ∧ Hid (MapOf wiresE wr w.heap.size k (lookD (ds.take k)) ∧ wr.cell? ⟨w.heap.size + 1, 0, none⟩ = some (.map (some w.heap.size)) ∧ Below w.heap.size w wr)) (fun i _ _ => n + 1 - (intOf i).toNat)
  case atStart =>
    refine ⟨0, by omega, rfl, Lib.hid ⟨?_, by simp [go_sem], ((Below.refl _ _).alloc (Nat.le_refl _) _).alloc (by simp) _⟩⟩
    have : lookD (ds.take 0) = fun _ => none := by funext x; rfl
    rw [this]
    exact HM0.out.below ((Below.refl _ _).alloc (Nat.le_refl _) _)
  case round =>
    obtain ⟨k, hk, rfl, H⟩ := hrel
    by_cases hlt : k < n
    · obtain ⟨g, off, a1, c1, rfl, hg, hE⟩ := HC.out k (by rw [HN.out]; exact hlt)
      obtain ⟨x0, x1, x2, x3, -⟩ := hE.below H.out.2.2
      have hk0 : 0 ≤ (k : Int) := by omega
      have hkn : (k : Int) < (n : Int) := by omega
      have hs := HBG.out.2 k (by rw [HN.out]; exact hlt)
      have hls := lookD_succ HNW.out k (by rw [HN.out]; exact hlt)
      have hkm : k < maxLen := by have := HBG.out.1; have := HN.out; unfold maxLen; omega
      obtain ⟨d, hd⟩ : ∃ d, dAt ds k = d := ⟨_, rfl⟩
      rw [hd] at x0 x1 x2 x3 hs hls
      obtain ⟨W1, hW1⟩ : ∃ W, W = wr.alloc (.cells #[.string d.name, .int .i64 d.inp, .int .i64 d.out, .slice a1 d.body.length c1] 55) := ⟨_, rfl⟩
      have hb1 : Below wr.heap.size wr W1 := by rw [hW1]; exact (Below.refl _ _).alloc (Nat.le_refl _) _
      obtain ⟨w2, hrun, hM2, hch⟩ := (H.out.1.below hb1).put d.name hs hkm (d.inp, d.out) trivial
      have hlt2 := H.out.1.lt
      have hx := cell_old hb1 H.out.2.1
      have hnew := Lib.hid (show MapOf wiresE w2 w.heap.size (k + 1) (lookD (ds.take (k + 1))) ∧ w2.cell? ⟨w.heap.size + 1, 0, none⟩ = some (.map (some w.heap.size)) ∧ Below w.heap.size w w2 from
        ⟨by rw [hls]; exact hM2, hch.keep hx (by simp), (H.out.2.2.trans (hb1.mono H.out.2.2.size)).trans (hch.below (Nat.le_trans (Nat.le_of_lt hlt2) hb1.size) fun g hg => by omega)⟩)
      replace hrun : (Instr.mapUpdate 108 (.map (some w.heap.size)) (.string d.name) (.agg #[.int .i64 d.inp, .int .i64 d.out])).run Try.prog (wr.alloc (.cells #[.string d.name, .int .i64 d.inp, .int .i64 d.out, .slice a1 d.body.length c1] 55)) = .ok () w2 := by rw [← hW1]; exact hrun
      rw [hW1] at hx
      clear hE hM2 hch hls hd hW1 hb1
      go_wp2
      go_roundw
      case rel => exact ⟨k + 1, by omega, by go_num, hnew⟩
      case measure => simp [intOf]; omega
    · obtain rfl : k = n := by omega
      have hfin := H.out
      rw [← HN.out, List.take_length, HN.out] at hfin
      have HF := Lib.hid hfin
      clear hfin
      go_wp2
      go_ret
      exact ⟨_, _, rfl, ⟨HF.out.2.1, by rw [HN.out]; exact HF.out.1⟩, HF.out.2.2⟩

theorem wireOf_name {ds : List DefL} {n : NodeL} (h : n.kind = 17) : wireOf ds n = if n.value = 0 then lookD ds n.name.toList else none := by
  unfold wireOf
  rw [if_pos h, find_idx]
  cases findD ds n.name with
  | none => simp
  | some i => rfl
theorem wireOf_leaf {ds : List DefL} {n : NodeL} (h : n.kind ≠ 17) : wireOf ds n = if leafB n = true then some (leafW n) else none := by
  unfold wireOf
  rw [if_neg h]

set_option maxRecDepth 100000 in
set_option maxHeartbeats 2000000 in
theorem typingIn1_any (n : NodeL) (ds : List DefL) (g b : Nat) (hs : n.name.size ≤ maxLen) (w : World) (hT : TypSt w g b ds) :
    Calls Try.prog 58 #[.agg #[.int .i64 n.kind, .int .i64 n.value, .string n.name], .pointer (some ⟨g, 0, none⟩)] w (JoinOut w (wireOf ds n)) := by
  obtain ⟨w0, hw0⟩ : ∃ W, W = (w.alloc (.cells #[.int .i64 n.kind, .int .i64 n.value, .string n.name] 71)).alloc (.cells #[.int .i64 0, .int .i64 0] 83) := ⟨_, rfl⟩
  have hB := Lib.hid (show Below w.heap.size w w0 by rw [hw0]; exact ((Below.refl w.heap.size w).alloc (Nat.le_refl _) _).alloc (by simp) _)
  have HW := Lib.hid hw0
  have HX := Lib.hid (show ∀ W, Below w0.heap.size w0 W → W.heap[w.heap.size + 1]? = some (.cells #[.int .i64 0, .int .i64 0] 83 (0, 0)) from by
    intro W hW
    refine block_old ?_ hW
    rw [hw0]
    have := heap_alloc_new (w.alloc (.cells #[.int .i64 n.kind, .int .i64 n.value, .string n.name] 71)) (.cells #[.int .i64 0, .int .i64 0] 83)
    simpa using this)
  have HT0 := Lib.hid (hT.below hB.out)
  have HT := Lib.hid hT
  clear hw0 hT
  by_cases h17 : n.kind = 17
  · have hwo := wireOf_name (ds := ds) h17
    have b17 : (n.kind != 17) = false := by simp [h17]
    have hget := HT0.out.2.get_ok n.name hs
    have hx := HT0.out.1
    obtain ⟨o, ho⟩ : ∃ o, lookD ds n.name.toList = o := ⟨_, rfl⟩
    rw [ho] at hget hwo
    obtain ⟨p, hp⟩ : ∃ p, o.getD wiresE.z = p := ⟨_, rfl⟩
    obtain ⟨r, hr⟩ : ∃ r, o.isSome = r := ⟨_, rfl⟩
    rw [hp, hr] at hget
    have hpv : Hid (∀ q, o = some q → p = q) := by
      show ∀ q, _
      intro q hq
      rw [← hp, hq]
      rfl
    have HR := Lib.hid hr
    have HWO := Lib.hid hwo
    replace hget : (Instr.lookup 108 (.map (some b)) (.string n.name) true).run Try.prog w0 = .ok (.tuple #[.agg #[.int .i64 p.1, .int .i64 p.2], .bool r]) w0 := hget
    obtain ⟨k, v, s⟩ := n
    dsimp only at h17 b17 hget HW HX HWO ⊢
    subst h17
    obtain ⟨w5, hw5⟩ : ∃ W, W = w0.alloc (.cells #[.int .i64 p.1, .int .i64 p.2] 83) := ⟨_, rfl⟩
    have hb5 : Below w0.heap.size w0 w5 := by rw [hw5]; exact (Below.refl _ _).alloc (Nat.le_refl _) _
    have hs0 : w0.heap.size = w.heap.size + 1 + 1 := by rw [HW.out]; simp
    have x1 : w5.cell? ⟨w.heap.size, 1, none⟩ = some (.int .i64 v) := cell_old hb5 (by rw [HW.out]; simp [go_sem])
    have z5 : w5.heap[w.heap.size + 1 + 1]? = some (.cells #[.int .i64 p.1, .int .i64 p.2] 83 (0, 0)) := by rw [hw5, ← hs0]; exact heap_alloc_new _ _
    have HZ := Lib.hid (And.intro x1 (And.intro ((Go.Joins.cell_of_block z5 0).trans rfl) ((Go.Joins.cell_of_block z5 1).trans rfl)))
    have hblk := HX.out w5 hb5
    have HY := Lib.hid (And.intro ((Go.Joins.cell_of_block hblk 0).trans rfl) ((Go.Joins.cell_of_block hblk 1).trans rfl))
    have HF := Lib.hid (And.intro (Go.Joins.unfrozen_of_block hblk 0) (Go.Joins.unfrozen_of_block hblk 1))
    have HB5 := Lib.hid (((hB.out.trans (hb5.mono hB.out.size)).setCell (p := ⟨w.heap.size + 1, 0, none⟩) (by simp) (.int .i64 p.1)).setCell (p := ⟨w.heap.size + 1, 1, none⟩) (by simp) (.int .i64 p.2)).drew
    have HW5 := Lib.hid hw5
    rw [HW.out] at hget hx
    clear hw5 hb5 hs0 x1 z5 hblk hwo ho hp
    cases r with
    | false =>
      have hno : Hid (wireOf ds ⟨17, v, s⟩ = none) := by
        show _ = _
        rw [HWO.out]
        cases o with
        | none => simp
        | some q => have := HR.out; simp at this
      rw [hno.out]
      clear HT0 HT
      go_enter Try.func58, Try.ntmps58
      go_wp2
      rw [← HW.out, ← HW5.out]
      obtain ⟨x1, z0, z1⟩ := HZ.out
      obtain ⟨y0, y1⟩ := HY.out
      obtain ⟨f0, f1⟩ := HF.out
      go_region
      all_goals
        go_wp2
        refine bodyPost_ret (v := .tuple #[.agg #[.int .i64 p.1, .int .i64 p.2], .bool false]) (by simp [results, Try.results58, go_sem, y0, y1]) rfl ?_
        exact ⟨_, _, rfl, (fun q hq => by cases hq), HB5⟩
    | true =>
      have hyes : Hid ((wireOf ds ⟨17, v, s⟩).isSome = (v == 0) ∧ ∀ q, wireOf ds ⟨17, v, s⟩ = some q → p = q) := by
        rw [HWO.out]
        refine ⟨?_, fun q hq => ?_⟩
        · by_cases hv : v = 0
          · rw [if_pos hv, HR.out, hv]; rfl
          · rw [if_neg hv]
            simp [hv]
        · split at hq
          · exact hpv.out q hq
          · cases hq
      unfold JoinOut
      rw [hyes.out.1]
      clear HT0 HT
      go_enter Try.func58, Try.ntmps58
      go_wp2
      rw [← HW.out, ← HW5.out]
      obtain ⟨x1, z0, z1⟩ := HZ.out
      obtain ⟨y0, y1⟩ := HY.out
      obtain ⟨f0, f1⟩ := HF.out
      go_region
      all_goals
        go_wp2
        refine bodyPost_ret (v := .tuple #[.agg #[.int .i64 p.1, .int .i64 p.2], .bool (v == 0)]) (by simp [results, Try.results58, go_sem, y0, y1]) rfl ?_
        exact ⟨_, _, rfl, (fun q hq => hyes.out.2 q hq), HB5⟩
  · have hwo := wireOf_leaf (ds := ds) h17
    have b17 : (n.kind != 17) = true := by simpa using h17
    have hlw := Lib.hid (fun W => leafWires_any n W)
    obtain ⟨k, v, s⟩ := n
    dsimp only at h17 b17 HW HX hlw ⊢
    have HWO := Lib.hid hwo
    clear hwo h17
    go_enter Try.func58, Try.ntmps58
    go_wp2_with fail
    rw [← HW.out]
    refine (hlw.out w0).mono ?_
    rintro e w1 ⟨a, c, rfl, hq, hb1⟩
    have hblk := HX.out w1 hb1
    have y0 := (Go.Joins.cell_of_block hblk 0).trans rfl
    have y1 := (Go.Joins.cell_of_block hblk 1).trans rfl
    have f0 := Go.Joins.unfrozen_of_block hblk 0
    have f1 := Go.Joins.unfrozen_of_block hblk 1
    have HB1 := Lib.hid (((hB.out.trans (hb1.mono hB.out.size)).setCell (p := ⟨w.heap.size + 1, 0, none⟩) (by simp) (.int .i64 a)).setCell (p := ⟨w.heap.size + 1, 1, none⟩) (by simp) (.int .i64 c))
    have HQ := Lib.hid hq
    clear hblk hb1 hq
    go_wp2
    refine bodyPost_ret (v := .tuple #[.agg #[.int .i64 a, .int .i64 c], .bool (leafB ⟨k, v, s⟩)]) (by simp [results, Try.results58, go_sem, y0, y1]) rfl ?_
    unfold JoinOut
    rw [HWO.out]
    cases hl : leafB ⟨k, v, s⟩ with
    | false => exact ⟨_, _, rfl, (fun q hq => by cases hq), HB1.out⟩
    | true => exact ⟨_, _, rfl, (fun q hq => (HQ.out hl).trans (Option.some.inj hq)), HB1.out⟩

end Ints
end Go.Proofs.Ytoegbphkheohoaa
