/- The laws' helpers that write into results and look whether it stands there: definitions. -/
import Derived.Test.YtoegbphkheohoaaMark
namespace Go.Proofs.Ytoegbphkheohoaa
open Go.RowKit
namespace Ints

def sumDS (ds : List DefL) : Nat := (ds.map fun d => 3 + sumN d.body).sum
def markD (k : Int) (d : DefL) : DefL := ⟨mtx k, k + 1, k + 2, marksN (k + 3) d.body⟩
def marksD (k : Int) : List DefL → List DefL
  | [] => []
  | d :: ds => markD k d :: marksD (k + (3 + sumN d.body : Nat)) ds
theorem marksD_length (ds : List DefL) : ∀ k, (marksD k ds).length = ds.length := by
  induction ds with
  | nil => intro _; rfl
  | cons d ds ih => intro k; simp [marksD, ih]
theorem marksD_at (ds : List DefL) : ∀ k j, j < ds.length → dAt (marksD k ds) j = markD (k + sumDS (ds.take j)) (dAt ds j) := by
  induction ds with
  | nil => intro _ _ h; simp at h
  | cons d ds ih =>
    intro k j hj
    cases j with
    | zero => simp [marksD, dAt, sumDS]
    | succ j =>
      have hj2 : j < ds.length := by simpa using hj
      have h1 := ih (k + (3 + sumN d.body : Nat)) j hj2
      have h2 : dAt (marksD k (d :: ds)) (j + 1) = dAt (marksD (k + (3 + sumN d.body : Nat)) ds) j := by simp [marksD, dAt]
      have h3 : dAt (d :: ds) (j + 1) = dAt ds j := by simp [dAt]
      have h4 : sumDS ((d :: ds).take (j + 1)) = 3 + sumN d.body + sumDS (ds.take j) := by simp only [sumDS, List.take_succ_cons, List.map_cons, List.sum_cons]
      rw [h2, h1, h3, h4]
      congr 1
      omega
theorem sumDS_succ (ds : List DefL) (j : Nat) (h : j < ds.length) : sumDS (ds.take (j + 1)) = sumDS (ds.take j) + 3 + 3 * (dAt ds j).body.length := by
  unfold sumDS
  rw [take_oneD ds j h]
  simp [sumN]
  omega
theorem sumDS_le (ds : List DefL) (j : Nat) : sumDS (ds.take j) ≤ sumDS ds := by
  have h : sumDS ds = sumDS (ds.take j) + sumDS (ds.drop j) := by
    unfold sumDS
    conv => lhs; rw [← List.take_append_drop j ds]
    rw [List.map_append, List.sum_append_nat]
  omega
theorem sumN_tot (ns : List NodeL) : sumN ns ≤ 3 * totN ns := by unfold sumN totN; omega
theorem sumDS_tot (ds : List DefL) : sumDS ds ≤ 3 * totD ds := by
  induction ds with
  | nil => simp [sumDS]
  | cons d ds ih =>
    unfold sumDS totD cellsD totN sumN at *
    simp only [List.map_cons, List.sum_cons, List.length_cons]
    omega
def halfD (k : Int) (ds : List DefL) (j : Nat) : List DefL := (marksD k ds).take j ++ ds.drop j
theorem halfD_zero (k : Int) (ds : List DefL) : halfD k ds 0 = ds := by simp [halfD]
theorem halfD_all (k : Int) (ds : List DefL) : halfD k ds ds.length = marksD k ds := by
  unfold halfD
  rw [List.drop_length, List.append_nil, ← marksD_length ds k, List.take_length]
theorem halfD_length (k : Int) (ds : List DefL) (j : Nat) (h : j ≤ ds.length) : (halfD k ds j).length = ds.length := by
  unfold halfD
  rw [List.length_append, List.length_take, List.length_drop, marksD_length]
  omega
theorem halfD_at (k : Int) (ds : List DefL) (j : Nat) (h : j < ds.length) : dAt (halfD k ds j) j = dAt ds j := by
  unfold halfD dAt
  have hl : ((marksD k ds).take j).length = j := by rw [List.length_take, marksD_length]; omega
  rw [List.getElem?_append_right (by omega), hl, Nat.sub_self, List.getElem?_drop, Nat.add_zero]
theorem halfD_succ (k : Int) (ds : List DefL) (j : Nat) (h : j < ds.length) : (halfD k ds j).set j (dAt (marksD k ds) j) = halfD k ds (j + 1) := by
  unfold halfD
  have hl : ((marksD k ds).take j).length = j := by rw [List.length_take, marksD_length]; omega
  rw [List.set_append, if_neg (by omega), hl, Nat.sub_self, take_oneD _ j (by rw [marksD_length]; exact h), List.drop_eq_getElem_cons h, List.set_cons_zero, List.append_assoc]
  rfl
theorem dAt_set (ds : List DefL) (i j : Nat) (d : DefL) (h : i < ds.length) : dAt (ds.set i d) j = if i = j then d else dAt ds j := by
  unfold dAt
  rw [List.getElem?_set]
  by_cases e : i = j
  · subst e
    rw [if_pos rfl, if_pos rfl, if_pos h]
    rfl
  · rw [if_neg e, if_neg e]
theorem OwnsN.blk {S : Nat → Prop} {w : World} {v : Value} {ns : List NodeL} (h : OwnsN S w v ns) (hne : ns ≠ []) : ∃ g cs, v.ownBlock = some g ∧ S g ∧ w.heap[g]? = some (.cells cs 71 (0, 0)) := by
  obtain ⟨⟨_, a, cap, rfl, _, _, h4⟩, hb⟩ := h
  have hp := List.length_pos_iff.2 (ofN_ne.2 hne)
  obtain ⟨g, off, cs, rfl, hg, _⟩ := h4 hp
  exact ⟨g, cs, rfl, hb g (ofN_ne.2 hne) rfl, hg⟩
/-- One definition of a slice of the call's own: its cells, its body, and what stores leave. -/
theorem OwnsD.openAt {S : Nat → Prop} {w : World} {v : Value} {ds : List DefL} (h : OwnsD S w v ds) {j : Nat} (hj : j < ds.length) :
    ∃ g off cap cs B, v = .slice (some ⟨g, off, none⟩) ds.length cap ∧ ds.length ≤ 9223372036854775807 ∧ S g ∧ w.heap[g]? = some (.cells cs 55 (0, 0)) ∧
      cs[off + j * 4]? = some (.string (dAt ds j).name) ∧ cs[off + j * 4 + 1]? = some (.int .i64 (dAt ds j).inp) ∧ cs[off + j * 4 + 2]? = some (.int .i64 (dAt ds j).out) ∧ cs[off + j * 4 + 3]? = some B ∧
      OwnsN S w B (dAt ds j).body ∧ (∀ g', B.ownBlock = some g' → (dAt ds j).body ≠ [] → g' ≠ g) ∧
      ∀ w' d, d.body.length = (dAt ds j).body.length → w'.heap[g]? = some (.cells (((cs.setIfInBounds (off + j * 4) (.string d.name)).setIfInBounds (off + j * 4 + 1) (.int .i64 d.inp)).setIfInBounds (off + j * 4 + 2) (.int .i64 d.out)) 55 (0, 0)) →
        OwnsN S w' B d.body → Chg (fun g' => g' = g ∨ (B.ownBlock = some g' ∧ (dAt ds j).body ≠ [])) w w' → OwnsD S w' v (ds.set j d) := by
  obtain ⟨a, cap, Bs, rfl, h2, h3, h4, h5⟩ := h
  obtain ⟨g, off, cs, e, hS, hg, c0, c1, c2, c3, h6⟩ := h4 j hj
  subst e
  have hne : ∀ i (hi : i < ds.length) g', (vAt Bs i).ownBlock = some g' → (dAt ds i).body ≠ [] → g' ≠ g := by
    intro i hi g' hg' hb e
    subst e
    obtain ⟨g2, off2, cs2, e2, _, hg2, _, _, _, _, h7⟩ := h4 i hi
    obtain ⟨g3, cs3, q1, _, q3⟩ := h7.blk hb
    rw [hg'] at q1
    obtain rfl := Option.some.inj q1
    rw [hg] at q3
    simp at q3
  have hm : ds.length ≤ 9223372036854775807 := by unfold maxLen at h3; omega
  refine ⟨g, off, cap, cs, vAt Bs j, rfl, hm, hS, hg, c0, c1, c2, c3, h6, hne j hj, fun w' d hl hg' ho hc => ⟨_, cap, Bs, by rw [List.length_set], by rw [List.length_set]; exact h2, h3, fun i hi => ?_, ?_⟩⟩
  · rw [List.length_set] at hi
    rw [dAt_set ds j i d hj]
    have i0 := (Array.getElem?_eq_some_iff.1 c0).1
    have i1 := (Array.getElem?_eq_some_iff.1 c1).1
    have i2 := (Array.getElem?_eq_some_iff.1 c2).1
    refine ⟨g, off, _, rfl, hS, hg', ?_⟩
    by_cases e : j = i
    · subst e
      rw [if_pos rfl]
      refine ⟨?_, ?_, ?_, ?_, ho⟩
      · rw [Array.getElem?_setIfInBounds_ne (by omega), Array.getElem?_setIfInBounds_ne (by omega)]
        exact Array.getElem?_setIfInBounds_self_of_lt i0
      · rw [Array.getElem?_setIfInBounds_ne (by omega)]
        exact Array.getElem?_setIfInBounds_self_of_lt (by simp; omega)
      · exact Array.getElem?_setIfInBounds_self_of_lt (by simp; omega)
      · rw [Array.getElem?_setIfInBounds_ne (by omega), Array.getElem?_setIfInBounds_ne (by omega), Array.getElem?_setIfInBounds_ne (by omega)]
        exact c3
    · rw [if_neg e]
      obtain ⟨g2, off2, cs2, e2, _, hg2, k0, k1, k2, k3, h7⟩ := h4 i hi
      simp only [Option.some.injEq, Addr.mk.injEq, and_true] at e2
      obtain ⟨rfl, rfl⟩ := e2
      rw [hg] at hg2
      simp only [Option.some.injEq, Obj.cells.injEq, and_true] at hg2
      subst hg2
      refine ⟨?_, ?_, ?_, ?_, ?_⟩
      · rw [Array.getElem?_setIfInBounds_ne (by omega), Array.getElem?_setIfInBounds_ne (by omega), Array.getElem?_setIfInBounds_ne (by omega)]; exact k0
      · rw [Array.getElem?_setIfInBounds_ne (by omega), Array.getElem?_setIfInBounds_ne (by omega), Array.getElem?_setIfInBounds_ne (by omega)]; exact k1
      · rw [Array.getElem?_setIfInBounds_ne (by omega), Array.getElem?_setIfInBounds_ne (by omega), Array.getElem?_setIfInBounds_ne (by omega)]; exact k2
      · rw [Array.getElem?_setIfInBounds_ne (by omega), Array.getElem?_setIfInBounds_ne (by omega), Array.getElem?_setIfInBounds_ne (by omega)]; exact k3
      · refine ⟨h7.1.chg hc fun g' hx hg3 => ?_, h7.2⟩
        rintro (q | ⟨q, hb⟩)
        · exact hne i hi g' hg3 (ofN_ne.1 hx) q
        · rcases Nat.lt_or_gt_of_ne e with q2 | q2
          · exact h5 j i q2 hi hb (ofN_ne.1 hx) (q.trans hg3.symm)
          · exact h5 i j q2 hj (ofN_ne.1 hx) hb (hg3.trans q.symm)
  · have hemp : ∀ x, (dAt (ds.set j d) x).body ≠ [] → (dAt ds x).body ≠ [] := by
      intro x hx
      rw [dAt_set ds j x d hj] at hx
      by_cases e : j = x
      · subst e
        rw [if_pos rfl] at hx
        rw [← List.length_pos_iff] at hx ⊢
        omega
      · rw [if_neg e] at hx
        exact hx
    intro x y hxy hy hx' hy'
    rw [List.length_set] at hy
    exact h5 x y hxy hy (hemp x hx') (hemp y hy')

set_option maxRecDepth 100000 in
set_option maxHeartbeats 2000000 in
theorem markDefS_any (S : Nat → Prop) (v : Value) (ds : List DefL) (k : Int) (hk : 0 ≤ k) (hb : k + sumDS ds ≤ 1000000000) (w : World) (h : OwnsD S w v ds) :
    Calls Try.prog 14 #[v, .int .i64 k] w fun e w' => e = .returned (.int .i64 (k + sumDS ds)) ∧ OwnsD S w' v (marksD k ds) ∧ Chg S w w' := by
  have HO := Lib.hid h
  obtain ⟨a, cap, rfl⟩ := h.reads.form
  obtain ⟨n, hn⟩ : ∃ n, ds.length = n := ⟨_, rfl⟩
  have HN := Lib.hid hn
  have HSB := Lib.hid hb
  obtain ⟨t, ht⟩ : ∃ t, k + (sumDS ds : Int) = t := ⟨_, rfl⟩
  have HT := Lib.hid ht
  rw [ht]
  rw [hn] at HO ⊢
  have hmt := Lib.hid (fun k h1 h2 W => markText_any k h1 h2 W)
  clear h hn hb ht
  go_enter Try.func14, Try.ntmps14
  go_wp2
  go_loopw [1, 5] (fun c i wr => ∃ (j : Nat) (q : Int), j ≤ n ∧ i = .int .i64 j ∧ c = .int .i64 q ∧ 0 ≤ q ∧ q ≤ 1000000000 ∧ Hid (q = k + sumDS (ds.take j) ∧ OwnsD S wr (.slice a n cap) (halfD k ds j) ∧ Chg S w wr)) (fun _ i _ => n + 1 - (intOf i).toNat)
  case atStart => exact ⟨0, k, by omega, rfl, rfl, hk, by have := HSB.out; omega, Lib.hid ⟨by simp [sumDS], by rw [halfD_zero]; exact HO.out, Chg.refl _ _⟩⟩
  case round =>
    obtain ⟨j, q, hj, rfl, rfl, hq0, hq1, H⟩ := hrel
    by_cases hlt : j < n
    · have hlen : (halfD k ds j).length = n := by rw [halfD_length k ds j (by rw [HN.out]; omega)]; exact HN.out
      have hat := halfD_at k ds j (by rw [HN.out]; exact hlt)
      obtain ⟨g, off, cap', cs, B, e, hm, hS, hg, c0, c1, c2, c3, hbd, hbg, hK⟩ := H.out.2.1.openAt (j := j) (by rw [hlen]; exact hlt)
      rw [hlen] at hm
      simp only [Value.slice.injEq, hlen, true_and] at e
      obtain ⟨rfl, rfl⟩ := e
      rw [hat] at c0 c1 c2 hbd hbg hK
      have hnx := halfD_succ k ds j (by rw [HN.out]; exact hlt)
      rw [marksD_at ds k j (by rw [HN.out]; exact hlt), ← H.out.1] at hnx
      have hsum := sumDS_succ ds j (by rw [HN.out]; exact hlt)
      have hsle := sumDS_le ds (j + 1)
      have HK := Lib.hid (fun w' h1 h2 h3 => hK w' (markD q (dAt ds j)) (by simp [markD, marksN_length]) h1 h2 h3)
      rw [hnx] at HK
      obtain ⟨z0, e0⟩ : ∃ z, Value.string (dAt ds j).name = z := ⟨_, rfl⟩
      obtain ⟨z1, e1⟩ : ∃ z, Value.int .i64 (dAt ds j).inp = z := ⟨_, rfl⟩
      obtain ⟨z2, e2⟩ : ∃ z, Value.int .i64 (dAt ds j).out = z := ⟨_, rfl⟩
      rw [e0] at c0
      rw [e1] at c1
      rw [e2] at c2
      obtain ⟨body, hbody⟩ : ∃ b, (dAt ds j).body = b := ⟨_, rfl⟩
      have hmk : markD q (dAt ds j) = ⟨mtx q, q + 1, q + 2, marksN (q + 3) body⟩ := by unfold markD; rw [hbody]
      rw [hmk] at HK
      dsimp only at HK
      rw [hbody] at hbd hbg HK hsum
      have hq3 : q + 3 + 3 * (body.length : Int) ≤ 1000000000 := by have := H.out.1; have := HSB.out; omega
      have hwq1 : IntKind.i64.wrap (q + 1) = q + 1 := IntWalk.i64_in _ (by omega)
      have hwq2 : IntKind.i64.wrap (q + 1 + 1) = q + 2 := by rw [show q + 1 + 1 = q + 2 by omega]; exact IntWalk.i64_in _ (by omega)
      have hwq3 : IntKind.i64.wrap (q + 2 + 1) = q + 3 := by rw [show q + 2 + 1 = q + 3 by omega]; exact IntWalk.i64_in _ (by omega)
      obtain ⟨kb, jb, rfl⟩ := hbd.reads.form
      have HSE : Hid (q + 3 + (sumN body : Int) = k + sumDS (ds.take (j + 1)) ∧ q + 3 + (sumN body : Int) ≤ 1000000000 ∧ 0 ≤ q + 3 + (sumN body : Int)) := by
        have := H.out.1
        unfold sumN
        exact Lib.hid ⟨by omega, by omega, by omega⟩
      have hcall0 := Lib.hid (hmt.out q hq0 (by omega) wr)
      have hbdo : OwnsN (fun g' => S g' ∧ ((Value.slice kb body.length jb).ownBlock = some g' ∧ body ≠ [])) wr (.slice kb body.length jb) body := ⟨hbd.1, fun g' hx hg' => ⟨hbd.2 g' hx hg', hg', ofN_ne.1 hx⟩⟩
      have HBD := Lib.hid hbdo
      have HBG := Lib.hid hbg
      have HG := Lib.hid hg
      have HC := Lib.hid (And.intro c0 (And.intro c1 (And.intro c2 c3)))
      have HSg := Lib.hid hS
      have HQ := Lib.hid H.out.1
      have HCH := Lib.hid H.out.2.2
      have hk0 : 0 ≤ (j : Int) := by omega
      have hkn : (j : Int) < (n : Int) := by omega
      clear hK hnx hg c0 c1 c2 c3 e0 e1 e2 hat hlen hbd hbg hbody hmk hsum hsle hbdo hS H
      go_wp2_with fail
      refine hcall0.out.mono ?_
      rintro e w1 ⟨rfl, hb1⟩
      have hg1 := block_old HG.out hb1
      have y0 : w1.cell? ⟨g, off + j * 4, none⟩ = some z0 := (Go.Joins.cell_of_block hg1 _).trans HC.out.1
      have y1 : w1.cell? ⟨g, off + j * 4 + 1, none⟩ = some z1 := (Go.Joins.cell_of_block hg1 _).trans HC.out.2.1
      have y2 : w1.cell? ⟨g, off + j * 4 + 2, none⟩ = some z2 := (Go.Joins.cell_of_block hg1 _).trans HC.out.2.2.1
      have y3 : w1.cell? ⟨g, off + j * 4 + 3, none⟩ = some (.slice kb body.length jb) := (Go.Joins.cell_of_block hg1 _).trans HC.out.2.2.2
      have f0 : w1.frozen? ⟨g, off + j * 4, none⟩ = false := Go.Joins.unfrozen_of_block hg1 _
      have f1 : w1.frozen? ⟨g, off + j * 4 + 1, none⟩ = false := Go.Joins.unfrozen_of_block hg1 _
      have f2 : w1.frozen? ⟨g, off + j * 4 + 2, none⟩ = false := Go.Joins.unfrozen_of_block hg1 _
      obtain ⟨W2, hW2⟩ : ∃ W, W = ((w1.setCell ⟨g, off + j * 4, none⟩ (.string (mtx q))).setCell ⟨g, off + j * 4 + 1, none⟩ (.int .i64 (q + 1))).setCell ⟨g, off + j * 4 + 2, none⟩ (.int .i64 (q + 2)) := ⟨_, rfl⟩
      have hg2 : W2.heap[g]? = some (.cells (((cs.setIfInBounds (off + j * 4) (.string (mtx q))).setIfInBounds (off + j * 4 + 1) (.int .i64 (q + 1))).setIfInBounds (off + j * 4 + 2) (.int .i64 (q + 2))) 55 (0, 0)) := by
        rw [hW2]
        exact Go.Joins.block_setCell (g := g) (i := off + j * 4 + 2) (Go.Joins.block_setCell (g := g) (i := off + j * 4 + 1) (Go.Joins.block_setCell (g := g) (i := off + j * 4) hg1 _) _) _
      have hc2 : Chg (fun g' => g' = g) w1 W2 := by
        rw [hW2]
        exact (((Chg.refl (fun g' => g' = g) w1).setCell (p := ⟨g, off + j * 4, none⟩) (fun _ => rfl) _).setCell (p := ⟨g, off + j * 4 + 1, none⟩) (fun _ => rfl) _).setCell (p := ⟨g, off + j * 4 + 2, none⟩) (fun _ => rfl) _
      have hbd2 := (HBD.out.below hb1).chg hc2 (fun g' h1 h2 => HBG.out g' h1.2.1 h1.2.2 h2)
      have hcall := Lib.hid (markNodeS_any _ _ body (q + 3) (by omega) HSE.out.2.1 W2 hbd2)
      have HG2 := Lib.hid hg2
      have HC2 : Hid (Chg (fun g' => g' = g) wr W2) := Lib.hid ((Below.chg hb1 _).trans hc2)
      have HW2 := Lib.hid hW2
      clear hb1 hg1 hg2 hc2 hbd2 hW2
      go_wp2_with fail
      rw [← HW2.out]
      refine hcall.out.mono ?_
      rintro e w3 ⟨rfl, ho3, hc3⟩
      have hg3 : w3.heap[g]? = _ := (hc3.block g (Array.getElem?_eq_some_iff.1 HG2.out).1 (fun hx => HBG.out g hx.2.1 hx.2.2 rfl)).trans HG2.out
      have hch : Chg (fun g' => g' = g ∨ ((Value.slice kb body.length jb).ownBlock = some g' ∧ body ≠ [])) wr w3 :=
        (HC2.out.mono fun _ _ h => .inl h).trans (hc3.mono fun _ _ h => .inr h.2)
      have HFin : Hid (OwnsD S w3 (.slice (some ⟨g, off, none⟩) n cap) (halfD k ds (j + 1)) ∧ Chg S w w3) := by
        refine Lib.hid ⟨HK.out w3 hg3 ⟨ho3.1, fun g' hx hg' => (ho3.2 g' hx hg').1⟩ hch, HCH.out.trans ((HC2.out.mono fun g' _ h => by rw [h]; exact HSg.out).trans (hc3.mono fun _ _ h => h.1))⟩
      have hn1 := HSE.out.2.1
      have hn2 := HSE.out.2.2
      have HSE1 := Lib.hid HSE.out.1
      obtain ⟨q4, hq4⟩ : ∃ q4, q + 3 + (sumN body : Int) = q4 := ⟨_, rfl⟩
      rw [hq4] at hn1 hn2 HSE1 ⊢
      clear hg3 hch ho3 hc3 y0 y1 y2 y3 f0 f1 f2 hq4
      go_wp2
      go_roundw
      case rel => exact ⟨j + 1, q4, by omega, by go_num, rfl, hn2, hn1, Lib.hid ⟨HSE1.out, HFin.out.1, HFin.out.2⟩⟩
      case measure => simp [intOf]; omega
    · obtain rfl : j = n := by omega
      have hfin : Hid (OwnsD S wr (.slice a j cap) (marksD k ds) ∧ Chg S w wr ∧ q = t) := by
        obtain ⟨h1, h2, h3⟩ := H.out
        have h4 := HN.out
        rw [← h4, halfD_all, h4] at h2
        rw [← h4, List.take_length] at h1
        exact Lib.hid ⟨h2, h3, h1.trans HT.out⟩
      go_wp2
      go_ret
      exact ⟨ret_int hfin.out.2.2, hfin.out.1, hfin.out.2.1⟩

end Ints
end Go.Proofs.Ytoegbphkheohoaa
