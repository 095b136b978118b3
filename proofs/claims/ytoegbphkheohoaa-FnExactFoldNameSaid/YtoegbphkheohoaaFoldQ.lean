/- Folding: the reference's table of parts against the trees, and what FoldName returns. -/
import Derived.Test.YtoegbphkheohoaaFoldP
import Derived.Test.YtoegbphkheohoaaInlS
import Derived.Test.YtoegbphkheohoaaMarkD
namespace Go.Proofs.Ytoegbphkheohoaa
open Go.RowKit
namespace Ints

theorem nodesT_pos : ∀ t : TreeL, 1 ≤ (nodesT t).length
  | .leaf _ => Nat.le_refl 1
  | .seq a b => by simp [nodesT]; omega
  | .par a b => by simp [nodesT]; omega
theorem fold_len (body : List NodeL) (s : ByteArray) : ∀ t : TreeL, (nodesT (foldT body s t)).length ≤ (nodesT t).length
  | .leaf n => by
    by_cases he : eqL (nodesT (.leaf n)) body = true
    · rw [foldT_pos he]; exact nodesT_pos _
    · rw [foldT_leaf he]; exact Nat.le_refl _
  | .seq a b => by
    by_cases he : eqL (nodesT (.seq a b)) body = true
    · rw [foldT_pos he]; exact nodesT_pos _
    · rw [foldT_seq he]
      have h1 := fold_len body s a
      have h2 := fold_len body s b
      simp only [nodesT, List.length_append, List.length_singleton]
      omega
  | .par a b => by
    by_cases he : eqL (nodesT (.par a b)) body = true
    · rw [foldT_pos he]; exact nodesT_pos _
    · rw [foldT_par he]
      have h1 := fold_len body s a
      have h2 := fold_len body s b
      simp only [nodesT, List.length_append, List.length_singleton]
      omega
theorem flat_len (body : List NodeL) (s : ByteArray) : ∀ st : List TreeL, (flatT (st.map (foldT body s))).length ≤ (flatT st).length
  | [] => Nat.le_refl _
  | t :: st => by
    have h1 := flat_len body s st
    have h2 := fold_len body s t
    simp only [List.map_cons, flatT, List.length_append]
    omega

/-- The table's row of a node tells where the part begins that ends there. -/
inductive ChainR (tr : Tri) : Nat → List TreeL → Prop
  | nil : ChainR tr 0 []
  | cons {i j : Nat} {p : Int × Int} {t : TreeL} {st : List TreeL} (h : tr[i]? = some (j, p)) (hj : i + 1 = j + (nodesT t).length) (hc : ChainR tr j st) : ChainR tr (i + 1) (t :: st)
theorem ChainR.app {tr l : Tri} {i : Nat} {st : List TreeL} (h : ChainR tr i st) : ChainR (tr ++ l) i st := by
  induction h with
  | nil => exact .nil
  | @cons i j p t st h hj _ ih =>
    refine .cons (p := p) ?_ hj ih
    rw [List.getElem?_append_left (List.getElem?_eq_some_iff.1 h).1]
    exact h
theorem chain_step {ds : List DefL} {tr tr' : Tri} {st : List TreeL} {n : NodeL} (hc : ChainR tr tr.length st) (h : stepS ds tr n = some tr') :
    (∃ x, tr' = tr ++ [x]) ∧ ChainR tr' tr'.length (stepR st n) := by
  unfold stepS at h
  split at h
  · rename_i hl
    have hk : ¬ n.kind = 15 ∧ ¬ n.kind = 16 := by
      rcases hl with h | h
      · have := leaf_kind h; omega
      · omega
    cases hw : wireOf ds n with
    | none => rw [hw] at h; cases h
    | some p =>
      rw [hw] at h
      simp only [Option.map_some, Option.some.injEq] at h
      subst h
      refine ⟨⟨_, rfl⟩, ?_⟩
      have e : stepR st n = .leaf n :: st := by unfold stepR; rw [if_neg hk.1, if_neg hk.2]
      rw [e, List.length_append, List.length_singleton]
      exact .cons (j := tr.length) (p := p) (by simp) rfl hc.app
  · split at h
    · cases h
    · rename_i hcond
      have hk : n.kind = 15 ∨ n.kind = 16 := by
        by_cases hk : n.kind = 15 ∨ n.kind = 16
        · exact hk
        · exact absurd (.inl hk) hcond
      have h2 : ¬ tr.length < 2 := fun e => hcond (.inr (.inr (.inr (.inl e))))
      have h3 : ¬ frAt tr (tr.length - 1) < 1 := fun e => hcond (.inr (.inr (.inr (.inr e))))
      cases hj : joinS n.kind (wiAt tr (frAt tr (tr.length - 1) - 1)) (wiAt tr (tr.length - 1)) with
      | none => rw [hj] at h; cases h
      | some p =>
        rw [hj] at h
        simp only [Option.map_some, Option.some.injEq] at h
        subst h
        refine ⟨⟨_, rfl⟩, ?_⟩
        obtain ⟨m, hm⟩ : ∃ m, tr.length = m := ⟨_, rfl⟩
        rw [List.length_append, List.length_singleton]
        rw [hm] at hc h2 h3 ⊢
        cases hc with
        | nil => omega
        | @cons i j pb b st1 h hj hc' =>
          have e1 : i + 1 - 1 = i := by omega
          have hfr : frAt tr i = j := by unfold frAt; rw [h]; rfl
          rw [e1, hfr] at h3 ⊢
          cases hc' with
          | nil => omega
          | @cons i2 j2 pa a st2 g gj gc =>
            have e2 : i2 + 1 - 1 = i2 := by omega
            have hfr2 : frAt tr i2 = j2 := by unfold frAt; rw [g]; rfl
            rw [e2, hfr2]
            rcases hk with hk | hk
            · have e : stepR (b :: a :: st2) n = .seq a b :: st2 := by unfold stepR; rw [if_pos hk]
              rw [e]
              refine .cons (j := j2) (p := p) ?_ ?_ gc.app
              · rw [← hm]; simp
              · simp only [nodesT, List.length_append, List.length_singleton]; omega
            · have e : stepR (b :: a :: st2) n = .par a b :: st2 := by unfold stepR; rw [if_neg (by omega), if_pos hk]
              rw [e]
              refine .cons (j := j2) (p := p) ?_ ?_ gc.app
              · rw [← hm]; simp
              · simp only [nodesT, List.length_append, List.length_singleton]; omega
/-- The run of the table, beside the run of the trees. -/
theorem chain_run {ds : List DefL} {ns : List NodeL} {tr : Tri} (h : runS ds ns = some tr) : ∀ k, k ≤ ns.length → ∃ tk, runS ds (ns.take k) = some tk ∧ tk.length = k ∧ ChainR tk k (runR (ns.take k)) := by
  intro k
  induction k with
  | zero => intro _; exact ⟨[], by simp [runS], rfl, .nil⟩
  | succ k ih =>
    intro hk
    obtain ⟨tk, h1, h2, h3⟩ := ih (by omega)
    cases hr : runS ds (ns.take (k + 1)) with
    | none => rw [runS_none hr] at h; cases h
    | some t2 =>
      have hs := hr
      rw [runS_succ ds ns k (by omega), h1, Option.bind_some] at hs
      obtain ⟨⟨x, hx⟩, hc⟩ := chain_step (by rw [h2]; exact h3) hs
      have hl : t2.length = k + 1 := by rw [hx]; simp [h2]
      refine ⟨t2, rfl, hl, ?_⟩
      rw [runR_succ ns k (by omega)]
      rw [hl] at hc
      exact hc
theorem run_pref {ds : List DefL} {ns : List NodeL} {tr : Tri} (h : runS ds ns = some tr) {k : Nat} {tk : Tri} (hk : runS ds (ns.take k) = some tk) : ∀ m, k + m ≤ ns.length → ∃ l tm, runS ds (ns.take (k + m)) = some tm ∧ tm = tk ++ l := by
  intro m
  induction m with
  | zero => intro _; exact ⟨[], tk, hk, by simp⟩
  | succ m ih =>
    intro hm
    obtain ⟨l, tm, h1, h2⟩ := ih (by omega)
    obtain ⟨t1, g1, g2, g3⟩ := chain_run h (k + m) (by omega)
    rw [h1] at g1
    cases g1
    cases hr : runS ds (ns.take (k + m + 1)) with
    | none => rw [runS_none hr] at h; cases h
    | some t2 =>
      have hs := hr
      rw [runS_succ ds ns (k + m) (by omega), h1, Option.bind_some] at hs
      obtain ⟨⟨x, hx⟩, _⟩ := chain_step (by rw [g2]; exact g3) hs
      exact ⟨l ++ [x], t2, rfl, by rw [hx, h2, List.append_assoc]⟩
/-- Where the part begins that ends at a node. -/
theorem from_of {ds : List DefL} {ns : List NodeL} {tr : Tri} (h : runS ds ns = some tr) {k : Nat} (hk : k < ns.length) {top : TreeL} {rest : List TreeL} (hr : runR (ns.take (k + 1)) = top :: rest) :
    k + 1 = frAt tr k + (nodesT top).length := by
  obtain ⟨tk, h1, h2, h3⟩ := chain_run h (k + 1) (by omega)
  obtain ⟨l, tm, g1, g2⟩ := run_pref h h1 (ns.length - (k + 1)) (by omega)
  rw [show k + 1 + (ns.length - (k + 1)) = ns.length by omega, List.take_length, h] at g1
  cases g1
  rw [hr] at h3
  cases h3 with
  | @cons i j p t st q qj qc =>
    have : frAt tr k = j := by
      unfold frAt
      rw [g2, List.getElem?_append_left (by omega), q]
      rfl
    omega

/-- The nodes that the reference has written behind k nodes. -/
def folK (body : List NodeL) (s : ByteArray) (ns : List NodeL) (k : Nat) : List NodeL := flatT ((runR (ns.take k)).map (foldT body s))
/-- Whether the last nodes in front of a node are the body. -/
def sameF (body ns : List NodeL) (fr k : Nat) : Prop := ∀ j, j < k → eqNd (nAt body j) (nAt ns (fr + j)) = true
theorem eqNd_comm (a b : NodeL) : eqNd a b = eqNd b a := by
  unfold eqNd
  rw [Bool.beq_comm (a := a.kind), Bool.beq_comm (a := a.value), Bool.beq_comm (a := a.name.toList)]
theorem fold_pre {body : List NodeL} {s : ByteArray} {st rest : List TreeL} {n : NodeL} {top : TreeL} (hf : flatT (stepR st n) = flatT st ++ [n]) (h2 : (n.kind = 15 ∨ n.kind = 16) → 2 ≤ st.length) (ht : stepR st n = top :: rest)
    (he : eqL (nodesT top) body = true) : body.length ≤ (flatT (st.map (foldT body s))).length + 1 := by
  have hb := eqL_len he
  by_cases h15 : n.kind = 15
  · match st, h2 (.inl h15), hf, ht with
    | b :: a :: st2, _, hf, ht =>
      have e : stepR (b :: a :: st2) n = .seq a b :: st2 := by unfold stepR; rw [if_pos h15]
      rw [e] at ht
      cases ht
      have hl : (nodesT (.seq a b)).length = (nodesT a).length + (nodesT b).length + 1 := by simp [nodesT]; omega
      rw [List.map_cons, List.map_cons, fold_short body s a (by omega), fold_short body s b (by omega)]
      simp only [flatT, List.length_append]
      omega
  · by_cases h16 : n.kind = 16
    · match st, h2 (.inr h16), hf, ht with
      | b :: a :: st2, _, hf, ht =>
        have e : stepR (b :: a :: st2) n = .par a b :: st2 := by unfold stepR; rw [if_neg h15, if_pos h16]
        rw [e] at ht
        cases ht
        have hl : (nodesT (.par a b)).length = (nodesT a).length + (nodesT b).length + 1 := by simp [nodesT]; omega
        rw [List.map_cons, List.map_cons, fold_short body s a (by omega), fold_short body s b (by omega)]
        simp only [flatT, List.length_append]
        omega
    · have e : stepR st n = .leaf n :: st := by unfold stepR; rw [if_neg h15, if_neg h16]
      rw [e] at ht
      cases ht
      have hl : (nodesT (.leaf n)).length = 1 := rfl
      omega
/-- One node of the reference's loop. -/
theorem fold_walk {ds : List DefL} {ns : List NodeL} {p : Int × Int} {tr : Tri} (body : List NodeL) (s : ByteArray) (ht : typeOf ds ns = some p) (hs : runS ds ns = some tr) {k : Nat} (hk : k < ns.length) :
    frAt tr k ≤ k ∧ (folK body s ns k).length ≤ k ∧
    (frAt tr k + body.length = k + 1 → sameF body ns (frAt tr k) body.length → body.length ≤ (folK body s ns k).length + 1 ∧ folK body s ns (k + 1) = (folK body s ns k ++ [nAt ns k]).take ((folK body s ns k).length + 1 - body.length) ++ [nameN s]) ∧
    (¬ (frAt tr k + body.length = k + 1 ∧ sameF body ns (frAt tr k) body.length) → folK body s ns (k + 1) = folK body s ns k ++ [nAt ns k]) := by
  obtain ⟨-, -, -, -, -, sw, hsw⟩ := tree_of ht
  have hr1 : ∃ sk, runT ds (ns.take (k + 1)) = some sk := by
    cases hr : runT ds (ns.take (k + 1)) with
    | none => rw [runT_none hr] at hsw; cases hsw
    | some sk => exact ⟨sk, rfl⟩
  obtain ⟨sk, hsk⟩ := hr1
  obtain ⟨-, hfl1, -⟩ := run_trees ns (k + 1) (by omega) sk hsk
  have hr0 : ∃ sk, runT ds (ns.take k) = some sk := by
    cases hr : runT ds (ns.take k) with
    | none => rw [runT_none hr] at hsw; cases hsw
    | some sk => exact ⟨sk, rfl⟩
  obtain ⟨sk0, hsk0⟩ := hr0
  obtain ⟨-, hfl0, -⟩ := run_trees ns k (by omega) sk0 hsk0
  have hsucc := runR_succ ns k hk
  have h2 := run_two ns hsw k hk
  have hf : flatT (stepR (runR (ns.take k)) (nAt ns k)) = flatT (runR (ns.take k)) ++ [nAt ns k] := by
    rw [← hsucc, hfl1, hfl0, take_oneN ns k hk]
  obtain ⟨top, rest, ht1, ht2⟩ := fold_step (body := body) (s := s) hf h2
  have hfr := from_of hs hk (hsucc.trans ht1)
  have hpos := nodesT_pos top
  have hlen : (folK body s ns k).length ≤ k := by
    have := flat_len body s (runR (ns.take k))
    rw [hfl0, List.length_take] at this
    unfold folK
    omega
  have hnext : folK body s ns (k + 1) = wrF body s top (folK body s ns k) (nAt ns k) := by
    unfold folK
    rw [hsucc]
    exact ht2
  have hns : ns.take (k + 1) = flatT rest ++ nodesT top := by
    rw [← hfl1, hsucc, ht1]
    rfl
  have hrl : (flatT rest).length = frAt tr k := by
    have := congrArg List.length hns
    rw [List.length_take, List.length_append] at this
    omega
  have hat : ∀ j, j < (nodesT top).length → nAt (nodesT top) j = nAt ns (frAt tr k + j) := by
    intro j hj
    have e1 : (ns.take (k + 1))[frAt tr k + j]? = (nodesT top)[j]? := by
      rw [hns, List.getElem?_append_right (by omega), hrl]
      congr 1
      omega
    rw [List.getElem?_take_of_lt (by omega)] at e1
    unfold nAt
    rw [e1]
  have hiff : eqL (nodesT top) body = true ↔ (frAt tr k + body.length = k + 1 ∧ sameF body ns (frAt tr k) body.length) := by
    unfold eqL
    rw [Bool.and_eq_true, beq_iff_eq, List.all_eq_true]
    constructor
    · rintro ⟨e1, e2⟩
      refine ⟨by omega, fun j hj => ?_⟩
      rw [← hat j (by omega), eqNd_comm]
      exact e2 j (List.mem_range.2 (by omega))
    · rintro ⟨e1, e2⟩
      refine ⟨by omega, fun j hj => ?_⟩
      have hj2 := List.mem_range.1 hj
      rw [hat j hj2, eqNd_comm]
      exact e2 j (by omega)
  refine ⟨by omega, hlen, fun q1 q2 => ?_, fun q => ?_⟩
  · have he := hiff.2 ⟨q1, q2⟩
    refine ⟨fold_pre hf h2 ht1 he, ?_⟩
    rw [hnext]
    unfold wrF
    rw [if_pos he, List.length_append, List.length_singleton]
  · rw [hnext]
    unfold wrF
    rw [if_neg fun e => q (hiff.1 e)]
theorem folK_end {ds : List DefL} {ns : List NodeL} {p : Int × Int} (body : List NodeL) (s : ByteArray) (ht : typeOf ds ns = some p) : folK body s ns ns.length = folR body s ns := by
  obtain ⟨h1, -⟩ := tree_of ht
  unfold folK folR
  rw [List.take_length, h1]
  rfl
theorem folR_len {ds : List DefL} {ns : List NodeL} {p : Int × Int} (body : List NodeL) (s : ByteArray) (ht : typeOf ds ns = some p) : (folR body s ns).length ≤ 400 := by
  obtain ⟨-, h2, -, -, h4, -⟩ := tree_of ht
  have := fold_len body s (treeN ns)
  rw [h2] at this
  unfold folR
  omega

/-- What FoldName returns. -/
def fnO (ds : List DefL) (ns : List NodeL) (s : ByteArray) : Option (List NodeL) := if (typI ds ns).isSome = true then (match findD ds s with
  | some k => some (folR (dAt ds k).body s ns)
  | none => none) else none
def fnR (ds : List DefL) (ns : List NodeL) (s : ByteArray) : List NodeL := (fnO ds ns s).getD []
def fnB (ds : List DefL) (ns : List NodeL) (s : ByteArray) : Bool := (fnO ds ns s).isSome
theorem fnR_ctr (ds : List DefL) (ns : List NodeL) (s : ByteArray) : (1 : Int) + (sumN (fnR ds ns s) : Int) ≤ 1000000000 := by
  have h : (fnR ds ns s).length ≤ 400 := by
    unfold fnR fnO
    cases ht : typI ds ns with
    | none => exact Nat.zero_le _
    | some p =>
      obtain ⟨-, h2⟩ := typI_lib ht
      rw [if_pos (show (some p).isSome = true from rfl)]
      split
      · exact folR_len _ _ h2
      · exact Nat.zero_le _
  unfold sumN
  omega

end Ints
end Go.Proofs.Ytoegbphkheohoaa
