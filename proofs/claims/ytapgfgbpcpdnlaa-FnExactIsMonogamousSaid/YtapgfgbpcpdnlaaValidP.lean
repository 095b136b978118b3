/- A valid graph: every wire occurs, said by counts and by a table of wires seen. -/
import Derived.Test.YtapgfgbpcpdnlaaIsGraphI
import Derived.Test.YtapgfgbpcpdnlaaCounts
namespace Go.Proofs.Ytapgfgbpcpdnlaa
open Go.RowKit
namespace Ints
open Fld (inR)

theorem seenN_all (c : Nat) (A : List Int) : (seenN c A == c) = (List.range c).all fun i : Nat => decide ((i : Int) ∈ A) := by
  rw [Bool.eq_iff_iff, beq_iff_eq, List.all_eq_true]
  unfold seenN
  have h : (List.range c).countP (fun i : Nat => decide ((i : Int) ∈ A)) = c ↔ (List.range c).countP (fun i : Nat => decide ((i : Int) ∈ A)) = (List.range c).length := by simp
  rw [h, List.countP_eq_length]
theorem mem_edgeWires (es : List EdgeL) (x : Int) : x ∈ edgeWires es ↔ x ∈ insOf es ∨ x ∈ outsOf es := by
  unfold edgeWires insOf outsOf
  induction es with
  | nil => simp
  | cons e es ih =>
    simp only [List.map_cons, List.flatten_cons, List.mem_append, ih]
    constructor
    · rintro ((h | h) | (h | h)) <;> simp [h]
    · rintro ((h | h) | (h | h)) <;> simp [h]
theorem mem_wiresOf (L : GraphL) (x : Int) : x ∈ wiresOf L ↔ x ∈ fromL L ∨ x ∈ toL L := by
  unfold wiresOf fromL toL
  simp only [List.mem_append, mem_edgeWires]
  constructor
  · rintro ((h | h) | (h | h)) <;> simp [h]
  · rintro ((h | h) | (h | h)) <;> simp [h]
/-- Both counts of a wire are nothing. -/
def noneB (L : GraphL) (i : Nat) : Bool := ((((fromL L).count (i : Int) : Nat) : Int) + (((toL L).count (i : Int) : Nat) : Int)) == 0
theorem noneB_eq (L : GraphL) (i : Nat) : noneB L i = !decide ((i : Int) ∈ wiresOf L) := by
  rw [Bool.eq_iff_iff]
  unfold noneB
  rw [beq_iff_eq]
  have h1 := List.count_pos_iff (a := (i : Int)) (l := fromL L)
  have h2 := List.count_pos_iff (a := (i : Int)) (l := toL L)
  simp only [Bool.not_eq_true', decide_eq_false_iff_not, mem_wiresOf]
  constructor
  · intro h
    rintro (h3 | h3)
    · have := h1.2 h3; omega
    · have := h2.2 h3; omega
  · intro h
    have n1 : ¬ 0 < (fromL L).count (i : Int) := fun h3 => h (.inl (h1.1 h3))
    have n2 : ¬ 0 < (toL L).count (i : Int) := fun h3 => h (.inr (h2.1 h3))
    omega
/-- Every wire occurs: by the counts. -/
def allUsed (c : Nat) (L : GraphL) : Bool := (List.range c).all fun i => !noneB L i
theorem allUsed_eq (c : Nat) (L : GraphL) : allUsed c L = (seenN c (wiresOf L) == c) := by
  rw [seenN_all]
  unfold allUsed
  simp only [noneB_eq, Bool.not_not]
/-- The edges as the reference tests them. -/
def edgesR (c : Int) (es : List EdgeL) : Bool := es.all fun e => edgeB e.kind e.value e.ins.length e.outs.length && edgeR c e.ins e.outs
theorem edgesR_eq (c : Nat) (es : List EdgeL) : edgesR c es = (edgesB es && (edgeWires es).all (okB c)) := by
  unfold edgesR edgesB edgeWires edgeR okB
  induction es with
  | nil => rfl
  | cons e es ih =>
    simp only [List.all_cons, List.map_cons, List.flatten_cons, List.all_append, ih]
    generalize edgeB e.kind e.value e.ins.length e.outs.length = a
    generalize (e.ins.all fun x => inR x 0 ((c : Int) - 1)) = b
    generalize (e.outs.all fun x => inR x 0 ((c : Int) - 1)) = d
    cases a <;> cases b <;> cases d <;> simp
/-- What the reference computes is what the program computes. -/
theorem graphS_eq (c : Nat) (L : GraphL) : (inR (c : Int) 0 100 && !decide (60 < L.edges.length) && !decide (12 < L.ins.length) && !decide (12 < L.outs.length) && (L.ins.all fun a => inR a 0 ((c : Int) - 1)) && (L.outs.all fun a => inR a 0 ((c : Int) - 1)) && edgesR c L.edges && allUsed c L) = graphB c L := by
  unfold graphB wiresOf
  rw [edgesR_eq, allUsed_eq, List.all_append, List.all_append]
  have e : (c : Int).toNat = c := by omega
  rw [e]
  unfold wiresOf okB
  generalize inR (c : Int) 0 100 = a1
  generalize (L.ins.all fun x => inR x 0 ((c : Int) - 1)) = a2
  generalize (L.outs.all fun x => inR x 0 ((c : Int) - 1)) = a3
  generalize edgesB L.edges = a4
  cases a1 <;> cases a2 <;> cases a3 <;> cases a4 <;> simp [Bool.and_assoc]

end Ints
end Go.Proofs.Ytapgfgbpcpdnlaa
