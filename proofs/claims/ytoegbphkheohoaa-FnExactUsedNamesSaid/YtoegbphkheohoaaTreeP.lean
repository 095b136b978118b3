/- The tree of a term, its nodes and its text: the plain law. -/
import Derived.Test.YtoegbphkheohoaaGoodP
import Derived.Test.YtoegbphkheohoaaSizeP
import Derived.Test.YtoegbphkheohoaaBoxN
import Derived.Lib.Strings
namespace Go.Proofs.Ytoegbphkheohoaa
open Go.RowKit
namespace Ints
open Fld (inR)

inductive TreeL where
  | leaf (n : NodeL)
  | seq (a b : TreeL)
  | par (a b : TreeL)
def nodeK (k : Int) : NodeL := ⟨k, 0, ByteArray.empty⟩
def nodesT : TreeL → List NodeL
  | .leaf n => [n]
  | .seq a b => nodesT a ++ nodesT b ++ [nodeK 15]
  | .par a b => nodesT a ++ nodesT b ++ [nodeK 16]
/-- One node; the stack's top comes first. -/
def stepR (st : List TreeL) (n : NodeL) : List TreeL :=
  if n.kind = 15 then (match st with
    | b :: a :: st' => .seq a b :: st'
    | _ => st)
  else if n.kind = 16 then (match st with
    | b :: a :: st' => .par a b :: st'
    | _ => st)
  else .leaf n :: st
def runR (ns : List NodeL) : List TreeL := ns.foldl stepR []
theorem runR_succ (ns : List NodeL) (k : Nat) (h : k < ns.length) : runR (ns.take (k + 1)) = stepR (runR (ns.take k)) (nAt ns k) := by
  unfold runR
  rw [take_oneN ns k h, List.foldl_append]
  rfl
def goodT (ds : List DefL) : TreeL → Prop
  | .leaf n => wireOf ds n ≠ none ∧ n.kind ≠ 15 ∧ n.kind ≠ 16
  | .seq a b => goodT ds a ∧ goodT ds b
  | .par a b => goodT ds a ∧ goodT ds b
/-- The nodes of a stack, its top last. -/
def flatT : List TreeL → List NodeL
  | [] => []
  | t :: st => flatT st ++ nodesT t
theorem name_empty {s : ByteArray} (h : emptyB s = true) : s = ByteArray.empty := by
  unfold emptyB at h
  have h2 : s.toList = [] := by simpa using h
  rw [ByteArray.toList_eq] at h2
  exact Go.WideShapes.bytes_inj h2
/-- One node of a valid run: the trees' stack is as high as the wires' stack, and holds the nodes that were read. -/
theorem step_trees {ds : List DefL} {sw sw' : List (Int × Int)} {st : List TreeL} {n : NodeL} (hl : st.length = sw.length) (hg : ∀ t ∈ st, goodT ds t) (h : stepT ds sw n = some sw') :
    (stepR st n).length = sw'.length ∧ flatT (stepR st n) = flatT st ++ [n] ∧ (∀ t ∈ stepR st n, goodT ds t) ∧ ((n.kind = 15 ∨ n.kind = 16) → 2 ≤ st.length) := by
  unfold stepT at h
  by_cases hk : n.kind = 15 ∨ n.kind = 16
  · rw [if_pos hk] at h
    split at h
    · rename_i hv
      match sw, hl, h with
      | b :: a :: sw2, hl, h =>
        match st, hl, hg with
        | u :: t :: st2, hl, hg =>
          dsimp only at h
          cases hj : joinW n.kind a b with
          | none => rw [hj] at h; cases h
          | some p =>
            rw [hj] at h
            simp only [Option.map_some, Option.some.injEq] at h
            subst h
            have hn : ∀ k : Int, n.kind = k → n = nodeK k := by
              intro k hk
              obtain ⟨kd, vl, s⟩ := n
              dsimp only at hv hk
              subst hk
              rw [hv.1, name_empty hv.2]
              rfl
            have gu := hg u (by simp)
            have gt := hg t (by simp)
            have gr : ∀ x ∈ st2, goodT ds x := fun x hx => hg x (by simp [hx])
            simp only [List.length_cons] at hl
            rcases hk with hk | hk
            · have e : stepR (u :: t :: st2) n = .seq t u :: st2 := by unfold stepR; rw [if_pos hk]
              rw [e]
              refine ⟨by simp only [List.length_cons]; omega, ?_, ?_, fun _ => by simp⟩
              · simp only [flatT, nodesT, List.append_assoc]
                rw [← hn 15 hk]
              · intro x hx
                rcases List.mem_cons.1 hx with rfl | hx
                · exact ⟨gt, gu⟩
                · exact gr x hx
            · have e : stepR (u :: t :: st2) n = .par t u :: st2 := by unfold stepR; rw [if_neg (by omega), if_pos hk]
              rw [e]
              refine ⟨by simp only [List.length_cons]; omega, ?_, ?_, fun _ => by simp⟩
              · simp only [flatT, nodesT, List.append_assoc]
                rw [← hn 16 hk]
              · intro x hx
                rcases List.mem_cons.1 hx with rfl | hx
                · exact ⟨gt, gu⟩
                · exact gr x hx
    · cases h
  · rw [if_neg hk] at h
    cases hw : wireOf ds n with
    | none => rw [hw] at h; cases h
    | some p =>
      rw [hw] at h
      simp only [Option.map_some, Option.some.injEq] at h
      subst h
      have e : stepR st n = .leaf n :: st := by unfold stepR; rw [if_neg (by omega), if_neg (by omega)]
      rw [e]
      refine ⟨by simp [hl], rfl, ?_, fun hh => absurd hh hk⟩
      intro x hx
      rcases List.mem_cons.1 hx with rfl | hx
      · exact ⟨by rw [hw]; simp, by omega, by omega⟩
      · exact hg x hx
theorem run_trees {ds : List DefL} (ns : List NodeL) : ∀ k, k ≤ ns.length → ∀ sw, runT ds (ns.take k) = some sw →
    (runR (ns.take k)).length = sw.length ∧ flatT (runR (ns.take k)) = ns.take k ∧ ∀ t ∈ runR (ns.take k), goodT ds t := by
  intro k
  induction k with
  | zero =>
    intro _ sw h
    simp only [List.take_zero, runT, List.foldl_nil, Option.some.injEq] at h
    subst h
    exact ⟨rfl, rfl, fun t ht => by simp [runR] at ht⟩
  | succ k ih =>
    intro hk sw h
    rw [runT_succ ds ns k (by omega)] at h
    cases hr : runT ds (ns.take k) with
    | none => rw [hr] at h; cases h
    | some sw0 =>
      rw [hr, Option.bind_some] at h
      obtain ⟨h1, h2, h3⟩ := ih (by omega) sw0 hr
      obtain ⟨q1, q2, q3, _⟩ := step_trees h1 h3 h
      rw [runR_succ ns k (by omega)]
      exact ⟨q1, by rw [q2, h2, take_oneN ns k (by omega)], q3⟩
/-- In a valid run a join finds two trees. -/
theorem run_two {ds : List DefL} (ns : List NodeL) {sw : List (Int × Int)} (h : runT ds ns = some sw) (k : Nat) (hk : k < ns.length) (h15 : (nAt ns k).kind = 15 ∨ (nAt ns k).kind = 16) : 2 ≤ (runR (ns.take k)).length := by
  cases hr : runT ds (ns.take (k + 1)) with
  | none => rw [runT_none hr] at h; cases h
  | some sw1 =>
    rw [runT_succ ds ns k hk] at hr
    cases hr0 : runT ds (ns.take k) with
    | none => rw [hr0] at hr; cases hr
    | some sw0 =>
      rw [hr0, Option.bind_some] at hr
      obtain ⟨h1, _, h3⟩ := run_trees ns k (by omega) sw0 hr0
      exact (step_trees h1 h3 hr).2.2.2 h15
theorem runR_len (ns : List NodeL) : ∀ k, k ≤ ns.length → (runR (ns.take k)).length ≤ k := by
  intro k
  induction k with
  | zero => intro _; simp [runR]
  | succ k ih =>
    intro hk
    rw [runR_succ ns k (by omega)]
    have := ih (by omega)
    unfold stepR
    split
    · split
      · rename_i e; rw [e] at this; simp only [List.length_cons] at this ⊢; omega
      · omega
    · split
      · split
        · rename_i e; rw [e] at this; simp only [List.length_cons] at this ⊢; omega
        · omega
      · simp only [List.length_cons]; omega
/-- The tree of a valid term. -/
def treeN (ns : List NodeL) : TreeL := (runR ns).headD (.leaf (nodeK 0))
theorem tree_of {ds : List DefL} {ns : List NodeL} {p : Int × Int} (h : typeOf ds ns = some p) :
    runR ns = [treeN ns] ∧ nodesT (treeN ns) = ns ∧ goodT ds (treeN ns) ∧ 1 ≤ ns.length ∧ ns.length ≤ 400 ∧ ∃ sw, runT ds ns = some sw := by
  unfold typeOf at h
  split at h
  · rename_i hl
    cases hr : runT ds ns with
    | none => rw [hr] at h; cases h
    | some sw =>
      rw [hr] at h
      match sw, hr, h with
      | [q], hr, h =>
        obtain ⟨h1, h2, h3⟩ := run_trees (ds := ds) ns ns.length (Nat.le_refl _) [q] (by rw [List.take_length]; exact hr)
        rw [List.take_length] at h1 h2 h3
        unfold treeN
        match hst : runR ns, h1, h2, h3 with
        | [t], h1, h2, h3 => exact ⟨rfl, by simpa [flatT] using h2, h3 t (by simp), hl.1, hl.2, _, rfl⟩
  · cases h

/-- A decimal number under a hundred. -/
def dg1 (n : Nat) : ByteArray := ⟨#[48 + UInt8.ofNat n]⟩
def decS (v : Int) : ByteArray := if v < 10 then dg1 v.toNat else dg1 (v.toNat / 10) ++ dg1 (v.toNat % 10)
def kwS (k : Int) : ByteArray := sAt kwords k.toNat
/-- The text of a leaf. -/
def leafS (n : NodeL) : ByteArray :=
  if n.kind = 17 then n.name else if n.kind = 1 ∨ n.kind = 7 ∨ n.kind = 13 then kwS n.kind ++ (⟨#[32]⟩ ++ decS n.value) else kwS n.kind
def brkS (s : ByteArray) (b : Bool) : ByteArray := if b = true then ⟨#[40]⟩ ++ s ++ ⟨#[41]⟩ else s
def isSeqT : TreeL → Bool
  | .seq _ _ => true
  | _ => false
def isParT : TreeL → Bool
  | .par _ _ => true
  | _ => false
/-- The text of a tree. -/
def prT (full : Bool) : TreeL → ByteArray
  | .leaf n => leafS n
  | .seq a b => brkS (prT full a) (full && (isSeqT a || isParT a)) ++ ⟨#[32, 59, 32]⟩ ++ brkS (prT full b) (isSeqT b || full && isParT b)
  | .par a b => brkS (prT full a) (isSeqT a || full && isParT a) ++ ⟨#[32, 42, 32]⟩ ++ brkS (prT full b) (isSeqT b || isParT b)
/-- The kind of a tree's top. -/
def kindT : TreeL → Int
  | .leaf n => n.kind
  | .seq _ _ => 15
  | .par _ _ => 16
theorem isSeq_kind {ds : List DefL} {t : TreeL} (h : goodT ds t) : isSeqT t = (kindT t == 15) := by
  cases t with
  | leaf n => simp [isSeqT, kindT, h.2.1]
  | seq a b => rfl
  | par a b => rfl
theorem isPar_kind {ds : List DefL} {t : TreeL} (h : goodT ds t) : isParT t = (kindT t == 16) := by
  cases t with
  | leaf n => simp [isParT, kindT, h.2.2]
  | seq a b => rfl
  | par a b => rfl
/-- What a leaf of a valid term is. -/
theorem leaf_of {ds : List DefL} {n : NodeL} (h : wireOf ds n ≠ none) : leafB n = true ∨ n.kind = 17 ∧ ∃ i, findD ds n.name = some i := by
  unfold wireOf at h
  split at h
  · rename_i h17
    cases hf : findD ds n.name with
    | none => rw [hf] at h; exact absurd rfl h
    | some i => exact .inr ⟨h17, i, rfl⟩
  · split at h
    · rename_i hl; exact .inl hl
    · exact absurd rfl h
theorem leaf_rng {n : NodeL} (h : leafB n = true) : 1 ≤ n.kind ∧ n.kind ≤ 14 ∧ ((n.kind = 1 ∨ n.kind = 7 ∨ n.kind = 13) → 0 ≤ n.value ∧ n.value < 100) := by
  unfold leafB at h
  simp only [Bool.and_eq_true] at h
  obtain ⟨⟨_, h1⟩, h2⟩ := h
  unfold inR at h1
  simp at h1
  refine ⟨h1.1, h1.2, fun hv => ?_⟩
  by_cases hk : n.kind = 1
  · rw [if_pos hk] at h2
    unfold inR at h2
    simp at h2
    omega
  · rw [if_neg hk] at h2
    unfold valB at h2
    rw [if_pos (by omega)] at h2
    unfold inR at h2
    simp at h2
    omega
theorem name_small {s : ByteArray} (h : nameB s = true) : s.size ≤ 8 := by
  unfold nameB wordB inR at h
  simp at h
  omega
theorem def_small {ds : List DefL} (h : libB ds = true) {s : ByteArray} {i : Nat} (hf : findD ds s = some i) : s.size ≤ 8 := by
  have h1 := (defB_parts ((libB_all h).2.1 i (findD_lt hf))).1
  rw [findD_name hf] at h1
  exact name_small h1
theorem kwS_size (k : Int) : (kwS k).size ≤ 9 := by
  unfold kwS sAt
  obtain ⟨m, hm⟩ : ∃ m, k.toNat = m := ⟨_, rfl⟩
  rw [hm]
  by_cases h : m < 15
  · have : ∀ m, m < 15 → (kwords[m]?.getD ByteArray.empty).size ≤ 9 := by decide
    exact this m h
  · have : kwords[m]? = none := List.getElem?_eq_none (by show 15 ≤ m; omega)
    rw [this]
    exact Nat.zero_le _
theorem decS_size (v : Int) : (decS v).size ≤ 2 := by
  unfold decS
  split
  · exact Nat.le_succ 1
  · rw [ByteArray.size_append]
    exact Nat.le_refl 2
theorem leafS_size {ds : List DefL} (hl : libB ds = true) {n : NodeL} (h : wireOf ds n ≠ none) : (leafS n).size ≤ 12 := by
  unfold leafS
  split
  · rename_i h17
    rcases leaf_of h with h2 | ⟨_, i, hi⟩
    · exact absurd h17 (leaf_kind h2).2.2
    · have := def_small hl hi; omega
  · split
    · have h1 := kwS_size n.kind
      have h2 := decS_size n.value
      rw [ByteArray.size_append, ByteArray.size_append]
      show _ + (1 + _) ≤ 12
      omega
    · have h1 := kwS_size n.kind; omega
theorem brkS_size (s : ByteArray) (b : Bool) : (brkS s b).size ≤ s.size + 2 := by
  unfold brkS
  split
  · rw [ByteArray.size_append, ByteArray.size_append]
    show 1 + _ + 1 ≤ _
    omega
  · omega
theorem prT_size {ds : List DefL} (hl : libB ds = true) (full : Bool) : ∀ t, goodT ds t → (prT full t).size ≤ 12 * (nodesT t).length
  | .leaf n, h => by
    have := leafS_size hl h.1
    show (leafS n).size ≤ 12 * 1
    omega
  | .seq a b, h => by
    have h1 := prT_size hl full a h.1
    have h2 := prT_size hl full b h.2
    have h3 := brkS_size (prT full a) (full && (isSeqT a || isParT a))
    have h4 := brkS_size (prT full b) (isSeqT b || full && isParT b)
    show (_ ++ _ ++ _ : ByteArray).size ≤ 12 * (nodesT a ++ nodesT b ++ [nodeK 15]).length
    rw [ByteArray.size_append, ByteArray.size_append, List.length_append, List.length_append, List.length_singleton]
    have h5 : (⟨#[32, 59, 32]⟩ : ByteArray).size = 3 := rfl
    rw [h5]
    omega
  | .par a b, h => by
    have h1 := prT_size hl full a h.1
    have h2 := prT_size hl full b h.2
    have h3 := brkS_size (prT full a) (isSeqT a || full && isParT a)
    have h4 := brkS_size (prT full b) (isSeqT b || isParT b)
    show (_ ++ _ ++ _ : ByteArray).size ≤ 12 * (nodesT a ++ nodesT b ++ [nodeK 16]).length
    rw [ByteArray.size_append, ByteArray.size_append, List.length_append, List.length_append, List.length_singleton]
    have h5 : (⟨#[32, 42, 32]⟩ : ByteArray).size = 3 := rfl
    rw [h5]
    omega
/-- What the print functions return. -/
def prP (full : Bool) (ds : List DefL) (ns : List NodeL) : ByteArray := if (if libB ds = true then typeOf ds ns else none).isSome = true then prT full (treeN ns) else ByteArray.empty

end Ints
end Go.Proofs.Ytoegbphkheohoaa
