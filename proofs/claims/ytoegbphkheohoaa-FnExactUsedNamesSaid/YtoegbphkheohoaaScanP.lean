/- The type of a term: a stack of wires, and the reference's table of parts; that both say the same. -/
import Derived.Test.YtoegbphkheohoaaLeafs
namespace Go.Proofs.Ytoegbphkheohoaa
open Go.RowKit
namespace Ints
open Fld (inR)

/-- The wires of a leaf in a library. -/
def wireOf (ds : List DefL) (n : NodeL) : Option (Int × Int) :=
  if n.kind = 17 then (match findD ds n.name with
    | some i => if n.value = 0 then some ((dAt ds i).inp, (dAt ds i).out) else none
    | none => none)
  else if leafB n = true then some (leafW n) else none
def joinW (k : Int) (a b : Int × Int) : Option (Int × Int) :=
  if k = 15 then (if a.2 = b.1 then some (a.1, b.2) else none)
  else (if a.1 + b.1 ≤ 12 ∧ a.2 + b.2 ≤ 12 then some (a.1 + b.1, a.2 + b.2) else none)
/-- One node; the stack's top comes first. -/
def stepT (ds : List DefL) (st : List (Int × Int)) (n : NodeL) : Option (List (Int × Int)) :=
  if n.kind = 15 ∨ n.kind = 16 then
    (if n.value = 0 ∧ emptyB n.name = true then (match st with
      | b :: a :: st' => (joinW n.kind a b).map (· :: st')
      | _ => none) else none)
  else (wireOf ds n).map (· :: st)
def runT (ds : List DefL) (ns : List NodeL) : Option (List (Int × Int)) := ns.foldl (fun o n => o.bind fun st => stepT ds st n) (some [])
def typeOf (ds : List DefL) (ns : List NodeL) : Option (Int × Int) :=
  if 1 ≤ ns.length ∧ ns.length ≤ 400 then (match runT ds ns with
    | some [p] => some p
    | _ => none) else none

theorem runT_succ (ds : List DefL) (ns : List NodeL) (k : Nat) (h : k < ns.length) : runT ds (ns.take (k + 1)) = (runT ds (ns.take k)).bind fun st => stepT ds st (nAt ns k) := by
  unfold runT
  rw [take_oneN ns k h, List.foldl_append]
  rfl
theorem foldl_none (ds : List DefL) (ns : List NodeL) : ns.foldl (fun o n => o.bind fun st => stepT ds st n) none = none := by
  induction ns with
  | nil => rfl
  | cons n ns ih => exact ih
theorem runT_none {ds : List DefL} {ns : List NodeL} {k : Nat} (h : runT ds (ns.take k) = none) : runT ds ns = none := by
  have e : runT ds ns = (ns.drop k).foldl (fun o n => o.bind fun st => stepT ds st n) (runT ds (ns.take k)) := by
    unfold runT
    rw [← List.foldl_append, List.take_append_drop]
  rw [e, h, foldl_none]
theorem typeOf_none {ds : List DefL} {ns : List NodeL} (h : runT ds ns = none) : typeOf ds ns = none := by
  unfold typeOf
  rw [h]
  split <;> rfl

def bnd (p : Int × Int) : Prop := 0 ≤ p.1 ∧ p.1 ≤ 12 ∧ 0 ≤ p.2 ∧ p.2 ≤ 12
def bndD (ds : List DefL) : Prop := ∀ k, k < ds.length → bnd ((dAt ds k).inp, (dAt ds k).out)
theorem findD_lt {ds : List DefL} {s : ByteArray} {i : Nat} (h : findD ds s = some i) : i < ds.length := by
  unfold findD at h
  rw [List.findIdx?_eq_some_iff_getElem] at h
  exact h.1
theorem leafW_bnd {n : NodeL} (h : leafB n = true) : bnd (leafW n) := by
  unfold leafB at h
  simp only [Bool.and_eq_true] at h
  obtain ⟨_, h2⟩ := h
  unfold leafW bnd
  by_cases h1 : n.kind = 1
  · rw [if_pos h1] at h2
    unfold inR at h2
    simp at h2
    simp only [if_pos h1]
    omega
  · simp only [if_neg h1]
    unfold tkI tkO tmIn tmOut
    refine ⟨?_, ?_, ?_, ?_⟩ <;> (repeat' split) <;> omega
theorem wireOf_bnd {ds : List DefL} {n : NodeL} {p : Int × Int} (hd : bndD ds) (h : wireOf ds n = some p) : bnd p := by
  unfold wireOf at h
  split at h
  · cases hf : findD ds n.name with
    | none => rw [hf] at h; cases h
    | some i =>
      rw [hf] at h
      dsimp only at h
      split at h
      · cases h
        exact hd i (findD_lt hf)
      · cases h
  · split at h
    · cases h
      exact leafW_bnd (by assumption)
    · cases h
theorem joinW_bnd {k : Int} {a b p : Int × Int} (ha : bnd a) (hb : bnd b) (h : joinW k a b = some p) : bnd p := by
  unfold joinW at h
  unfold bnd at ha hb ⊢
  split at h
  · split at h
    · cases h; dsimp only; omega
    · cases h
  · split at h
    · cases h; dsimp only; omega
    · cases h
theorem stepT_bnd {ds : List DefL} {st st' : List (Int × Int)} {n : NodeL} (hd : bndD ds) (hs : ∀ p ∈ st, bnd p) (h : stepT ds st n = some st') : ∀ p ∈ st', bnd p := by
  unfold stepT at h
  split at h
  · split at h
    · match st, hs, h with
      | b :: a :: st2, hs, h =>
        dsimp only at h
        cases hj : joinW n.kind a b with
        | none => rw [hj] at h; cases h
        | some p =>
          rw [hj] at h
          simp only [Option.map_some, Option.some.injEq] at h
          subst h
          intro q hq
          rcases List.mem_cons.1 hq with rfl | hq
          · exact joinW_bnd (hs a (by simp)) (hs b (by simp)) hj
          · exact hs q (by simp [hq])
    · cases h
  · cases hw : wireOf ds n with
    | none => rw [hw] at h; cases h
    | some p =>
      rw [hw] at h
      simp only [Option.map_some, Option.some.injEq] at h
      subst h
      intro q hq
      rcases List.mem_cons.1 hq with rfl | hq
      · exact wireOf_bnd hd hw
      · exact hs q hq
theorem runT_bnd {ds : List DefL} (hd : bndD ds) (ns : List NodeL) : ∀ k, k ≤ ns.length → ∀ st, runT ds (ns.take k) = some st → ∀ p ∈ st, bnd p := by
  intro k
  induction k with
  | zero =>
    intro _ st h
    simp [runT] at h
    subst h
    simp
  | succ k ih =>
    intro hk st h
    rw [runT_succ ds ns k (by omega)] at h
    cases hr : runT ds (ns.take k) with
    | none => rw [hr] at h; cases h
    | some st0 =>
      rw [hr] at h
      exact stepT_bnd hd (ih (by omega) st0 hr) h
theorem typeOf_bnd {ds : List DefL} (hd : bndD ds) {ns : List NodeL} {p : Int × Int} (h : typeOf ds ns = some p) : bnd p := by
  unfold typeOf at h
  split at h
  · cases hr : runT ds ns with
    | none => rw [hr] at h; cases h
    | some st =>
      rw [hr] at h
      match st, h with
      | [q], h =>
        cases h
        exact runT_bnd hd ns ns.length (Nat.le_refl _) [p] (by rw [List.take_length]; exact hr) p (by simp)
  · cases h

/-- The reference's table: for each node the first node of its part, and the part's wires. -/
abbrev Tri := List (Nat × Int × Int)
def joinS (k : Int) (a b : Int × Int) : Option (Int × Int) :=
  if k = 15 ∧ a.2 ≠ b.1 then none
  else if 12 < (if k = 15 then a.1 else a.1 + b.1) ∨ 12 < (if k = 15 then b.2 else a.2 + b.2) then none
  else some ((if k = 15 then a.1 else a.1 + b.1), (if k = 15 then b.2 else a.2 + b.2))
def frAt (tr : Tri) (i : Nat) : Nat := (tr[i]?.getD (0, 0, 0)).1
def wiAt (tr : Tri) (i : Nat) : Int × Int := (tr[i]?.getD (0, 0, 0)).2
def stepS (ds : List DefL) (tr : Tri) (n : NodeL) : Option Tri :=
  if leafB n = true ∨ n.kind = 17 then (wireOf ds n).map fun p => tr ++ [(tr.length, p)]
  else if ¬ (n.kind = 15 ∨ n.kind = 16) ∨ emptyB n.name = false ∨ n.value ≠ 0 ∨ tr.length < 2 ∨ frAt tr (tr.length - 1) < 1 then none
  else (joinS n.kind (wiAt tr (frAt tr (tr.length - 1) - 1)) (wiAt tr (tr.length - 1))).map fun p => tr ++ [(frAt tr (frAt tr (tr.length - 1) - 1), p)]
def runS (ds : List DefL) (ns : List NodeL) : Option Tri := ns.foldl (fun o n => o.bind fun st => stepS ds st n) (some [])
theorem runS_succ (ds : List DefL) (ns : List NodeL) (k : Nat) (h : k < ns.length) : runS ds (ns.take (k + 1)) = (runS ds (ns.take k)).bind fun st => stepS ds st (nAt ns k) := by
  unfold runS
  rw [take_oneN ns k h, List.foldl_append]
  rfl
theorem foldlS_none (ds : List DefL) (ns : List NodeL) : ns.foldl (fun o n => o.bind fun st => stepS ds st n) none = none := by
  induction ns with
  | nil => rfl
  | cons n ns ih => exact ih
theorem runS_none {ds : List DefL} {ns : List NodeL} {k : Nat} (h : runS ds (ns.take k) = none) : runS ds ns = none := by
  have e : runS ds ns = (ns.drop k).foldl (fun o n => o.bind fun st => stepS ds st n) (runS ds (ns.take k)) := by
    unfold runS
    rw [← List.foldl_append, List.take_append_drop]
  rw [e, h, foldlS_none]

/-- The stack is what the table says of the part that ends in front of a node, of the part in front of that, and so on. -/
inductive Chain (tr : Tri) : Nat → List (Int × Int) → Prop
  | nil : Chain tr 0 []
  | cons {i j : Nat} {p : Int × Int} {st : List (Int × Int)} (h : tr[i]? = some (j, p)) (hj : j ≤ i) (hc : Chain tr j st) : Chain tr (i + 1) (p :: st)
theorem Chain.app {tr l : Tri} {i : Nat} {st : List (Int × Int)} (h : Chain tr i st) : Chain (tr ++ l) i st := by
  induction h with
  | nil => exact .nil
  | cons h hj _ ih =>
    refine .cons ?_ hj ih
    rw [List.getElem?_append_left (List.getElem?_eq_some_iff.1 h).1]
    exact h
theorem joinS_eq {k : Int} {a b : Int × Int} (hk : k = 15 ∨ k = 16) (ha : bnd a) (hb : bnd b) : joinS k a b = joinW k a b := by
  unfold joinS joinW
  unfold bnd at ha hb
  rcases hk with rfl | rfl
  · by_cases h : a.2 = b.1
    · simp only [h, ne_eq, not_true_eq_false, and_false, if_false, if_true]
      rw [if_neg (by omega)]
    · simp [h]
  · simp only [show ¬ ((16 : Int) = 15) by decide, false_and, if_false]
    by_cases h : a.1 + b.1 ≤ 12 ∧ a.2 + b.2 ≤ 12
    · rw [if_pos h, if_neg (by omega)]
    · rw [if_neg h, if_pos (by omega)]
theorem leaf_kind {n : NodeL} (h : leafB n = true) : n.kind ≠ 15 ∧ n.kind ≠ 16 ∧ n.kind ≠ 17 := by
  unfold leafB inR at h
  simp at h
  omega
/-- One node: both fail, or both go on. -/
theorem step_sim {ds : List DefL} {tr : Tri} {st : List (Int × Int)} {n : NodeL} (hc : Chain tr tr.length st) (hs : ∀ p ∈ st, bnd p) :
    (stepS ds tr n = none ∧ stepT ds st n = none) ∨ ∃ tr' st', stepS ds tr n = some tr' ∧ stepT ds st n = some st' ∧ tr'.length = tr.length + 1 ∧ Chain tr' tr'.length st' := by
  unfold stepS stepT
  by_cases hl : leafB n = true ∨ n.kind = 17
  · have hk : ¬ (n.kind = 15 ∨ n.kind = 16) := by
      rcases hl with h | h
      · have := leaf_kind h; omega
      · omega
    rw [if_pos hl, if_neg hk]
    cases hw : wireOf ds n with
    | none => exact .inl ⟨rfl, rfl⟩
    | some p =>
      refine .inr ⟨tr ++ [(tr.length, p)], p :: st, rfl, rfl, by simp, ?_⟩
      have : (tr ++ [(tr.length, p)]).length = tr.length + 1 := by simp
      rw [this]
      exact .cons (j := tr.length) (by simp) (Nat.le_refl _) hc.app
  · rw [if_neg hl]
    by_cases hk : n.kind = 15 ∨ n.kind = 16
    · rw [if_pos hk]
      by_cases hv : n.value = 0 ∧ emptyB n.name = true
      · rw [if_pos hv]
        obtain ⟨m, hm⟩ : ∃ m, tr.length = m := ⟨_, rfl⟩
        rw [hm] at hc ⊢
        cases hc with
        | nil =>
          left
          refine ⟨?_, rfl⟩
          rw [if_pos]
          exact .inr (.inr (.inr (.inl (by omega))))
        | @cons i j b st1 h hj hc' =>
          have e1 : i + 1 - 1 = i := by omega
          have hfr : frAt tr i = j := by unfold frAt; rw [h]; rfl
          have hwb : wiAt tr i = b := by unfold wiAt; rw [h]; rfl
          rw [e1, hfr, hwb]
          cases hc' with
          | nil =>
            left
            refine ⟨?_, rfl⟩
            rw [if_pos]
            exact .inr (.inr (.inr (.inr (by omega))))
          | @cons i2 j2 a st2 h2 hj2 hc2 =>
            have e2 : i2 + 1 - 1 = i2 := by omega
            have hfr2 : frAt tr i2 = j2 := by unfold frAt; rw [h2]; rfl
            have hwa : wiAt tr i2 = a := by unfold wiAt; rw [h2]; rfl
            rw [e2, hfr2, hwa]
            rw [if_neg (by
              rintro (h' | h' | h' | h' | h')
              · exact h' hk
              · rw [hv.2] at h'; cases h'
              · exact h' hv.1
              · omega
              · omega)]
            rw [joinS_eq hk (hs a (by simp)) (hs b (by simp))]
            dsimp only
            cases hjw : joinW n.kind a b with
            | none => exact .inl ⟨rfl, rfl⟩
            | some p =>
              refine .inr ⟨tr ++ [(j2, p)], p :: st2, rfl, rfl, by simp [hm], ?_⟩
              have : (tr ++ [(j2, p)]).length = i + 1 + 1 := by simp [hm]
              rw [this]
              refine .cons (j := j2) ?_ (by omega) hc2.app
              rw [← hm]
              simp
      · rw [if_neg hv]
        left
        refine ⟨?_, rfl⟩
        rw [if_pos]
        by_cases h0 : n.value = 0
        · have : emptyB n.name = false := by
            cases he : emptyB n.name with
            | false => rfl
            | true => exact absurd ⟨h0, he⟩ hv
          exact .inr (.inl this)
        · exact .inr (.inr (.inl h0))
    · rw [if_neg hk]
      have hw : wireOf ds n = none := by
        unfold wireOf
        rw [if_neg (fun h => hl (.inr h)), if_neg (fun h => hl (.inl h))]
      rw [hw]
      exact .inl ⟨if_pos (.inl hk), rfl⟩

/-- Both runs, side by side. -/
theorem run_sim {ds : List DefL} (hd : bndD ds) (ns : List NodeL) : ∀ k, k ≤ ns.length →
    (runS ds (ns.take k) = none ∧ runT ds (ns.take k) = none) ∨ ∃ tr st, runS ds (ns.take k) = some tr ∧ runT ds (ns.take k) = some st ∧ tr.length = k ∧ Chain tr k st := by
  intro k
  induction k with
  | zero => intro _; exact .inr ⟨[], [], by simp [runS], by simp [runT], rfl, .nil⟩
  | succ k ih =>
    intro hk
    rw [runS_succ ds ns k (by omega), runT_succ ds ns k (by omega)]
    rcases ih (by omega) with ⟨h1, h2⟩ | ⟨tr, st, h1, h2, h3, h4⟩
    · rw [h1, h2]
      exact .inl ⟨rfl, rfl⟩
    · have hb := runT_bnd hd ns k (by omega) st h2
      rw [h1, h2]
      subst h3
      rcases step_sim (n := nAt ns tr.length) h4 hb with ⟨q1, q2⟩ | ⟨tr', st', q1, q2, q3, q4⟩
      · exact .inl ⟨q1, q2⟩
      · refine .inr ⟨tr', st', q1, q2, q3, ?_⟩
        rw [q3] at q4
        exact q4
/-- What the reference's scan returns. -/
def scanB (ds : List DefL) (ns : List NodeL) : Bool := decide (1 ≤ ns.length ∧ ns.length ≤ 400) && (match runS ds ns with
  | some tr => frAt tr (ns.length - 1) == 0
  | none => false)
theorem scan_type {ds : List DefL} (hd : bndD ds) (ns : List NodeL) :
    (scanB ds ns = false ∧ typeOf ds ns = none) ∨ ∃ tr p, scanB ds ns = true ∧ runS ds ns = some tr ∧ typeOf ds ns = some p ∧ tr.length = ns.length ∧ frAt tr (ns.length - 1) = 0 ∧ wiAt tr (ns.length - 1) = p := by
  unfold scanB typeOf
  by_cases hl : 1 ≤ ns.length ∧ ns.length ≤ 400
  · rw [if_pos hl, decide_eq_true hl, Bool.true_and]
    rcases run_sim hd ns ns.length (Nat.le_refl _) with ⟨h1, h2⟩ | ⟨tr, st, h1, h2, h3, h4⟩
    · rw [List.take_length] at h1 h2
      rw [h1, h2]
      exact .inl ⟨rfl, rfl⟩
    · rw [List.take_length] at h1 h2
      rw [h1, h2]
      dsimp only
      obtain ⟨m, hm⟩ : ∃ m, ns.length = m + 1 := ⟨ns.length - 1, by omega⟩
      rw [hm] at h4 ⊢
      have e1 : m + 1 - 1 = m := by omega
      rw [e1]
      cases h4 with
      | @cons _ j p st1 h hj hc =>
        have hfr : frAt tr m = j := by unfold frAt; rw [h]; rfl
        have hwb : wiAt tr m = p := by unfold wiAt; rw [h]; rfl
        rw [hfr]
        cases hc with
        | nil => exact .inr ⟨tr, p, rfl, rfl, rfl, by omega, hfr, hwb⟩
        | cons h2 hj2 hc2 => exact .inl ⟨rfl, rfl⟩
  · rw [if_neg hl, decide_eq_false hl]
    exact .inl ⟨rfl, rfl⟩

end Ints
end Go.Proofs.Ytoegbphkheohoaa
