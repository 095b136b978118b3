/- RelationFrom, both. (Printed by wip/gen_rel.py.) -/
import Derived.Test.YtimjlcnljefbbaaSpanF
import Derived.Test.YtimjlcnljefbbaaRel
import Derived.IntWalk
namespace Go.Proofs.Ytimjlcnljefbbaa
open Go.RowKit
namespace Ints

def fitsB (l r : Int) : Bool := Fld.inR l 0 24 && Fld.inR r 0 (24 - l)
def fitRel (p l r : Int) (A : List (List Int)) : Bool := Fld.goodB p && fitsB l r && decide (A.length ≤ 48) && rowsB p (l + r) A
def relOut (p l r : Int) (A : List (List Int)) : List (List Int) := if fitRel p l r A then reducedL p (l + r).toNat A else []
def relL (p l r : Int) (A : List (List Int)) : Int := if fitRel p l r A then l else 0
def relR (p l r : Int) (A : List (List Int)) : Int := if fitRel p l r A then r else 0
theorem fits_nats {l r : Int} (h : fitsB l r = true) : ∃ a b : Nat, l = a ∧ r = b ∧ a + b ≤ 24 := by
  simp only [fitsB, Bool.and_eq_true] at h
  obtain ⟨q1, q2⟩ := inR_parts h.1
  obtain ⟨q3, q4⟩ := inR_parts h.2
  exact ⟨l.toNat, r.toNat, by omega, by omega, by omega⟩
theorem fitRel_parts {p l r : Int} {A : List (List Int)} (h : fitRel p l r A = true) : ∃ a b : Nat, l = a ∧ r = b ∧ a + b ≤ 24 ∧ A.length ≤ 48 ∧ Fld.goodB p = true ∧ ElemsT p A.length (a + b) A := by
  simp only [fitRel, Bool.and_eq_true, decide_eq_true_eq] at h
  obtain ⟨⟨⟨h1, h2⟩, h3⟩, h4⟩ := h
  obtain ⟨a, b, rfl, rfl, hab⟩ := fits_nats h2
  have := rows_elems h4 (by omega)
  rw [show ((a : Int) + (b : Int)).toNat = a + b by omega] at this
  exact ⟨a, b, rfl, rfl, hab, h3, h1, this⟩
theorem relOut_ctr (p l r : Int) (A : List (List Int)) : (1 : Int) + (sumL (relOut p l r A) : Int) ≤ 1000000000 := by
  unfold relOut
  split
  · rename_i h
    obtain ⟨a, b, rfl, rfl, hab, hl, hg, hA⟩ := fitRel_parts h
    rw [show ((a : Int) + (b : Int)).toNat = a + b by omega]
    obtain ⟨h1, h2⟩ := reduced_elems hg hA
    exact ctr_elems' h1 (by omega) (by omega)
  · exact ctr_nil

/-- A relation in new memory, and whether there is one. -/
def OptRel (w : World) (b : Bool) (c d : Int) (R : List (List Int)) (e : Ending) (w' : World) : Prop :=
  ∃ v, e = .returned (.tuple #[.agg #[.int .i64 c, .int .i64 d, v], .bool b]) ∧ OwnsM (w.heap.size ≤ ·) w' v R ∧ Below w.heap.size w w'
theorem relBox_chg (W : World) (b : Nat) (x y z : Value) : Chg (fun g => g = b) W (((W.setCell ⟨b, 0, none⟩ x).setCell ⟨b, 1, none⟩ y).setCell ⟨b, 2, none⟩ z) :=
  ((Chg.set1 W ⟨b, 0, none⟩ x).setCell (p := ⟨b, 1, none⟩) (fun _ => rfl) y).setCell (p := ⟨b, 2, none⟩) (fun _ => rfl) z
theorem optRel_put {w w1 w2 : World} {b : Nat} {c d : Int} {v : Value} {R : List (List Int)} (h1 : Below w.heap.size w w1) (h2 : Below w1.heap.size w1 w2) (ho : OwnsM (w1.heap.size ≤ ·) w2 v R) (hb : w.heap.size ≤ b) (hs : b < w1.heap.size) :
    OptRel w true c d R (.returned (.tuple #[.agg #[.int .i64 c, .int .i64 d, v], .bool true])) (((w2.setCell ⟨b, 0, none⟩ (.int .i64 c)).setCell ⟨b, 1, none⟩ (.int .i64 d)).setCell ⟨b, 2, none⟩ v) := by
  have hc2 := relBox_chg w2 b (.int .i64 c) (.int .i64 d) v
  refine ⟨_, rfl, (ho.chg hc2 fun g hg e => by omega).mono fun g hg => by omega, ?_⟩
  have := h1.size
  have := h2.size
  exact (h1.trans (h2.mono (by omega))).trans (hc2.below (by omega) fun g e => by omega)
theorem optRel_none {w w1 : World} {b : Nat} (h1 : Below w.heap.size w w1) (hb : w.heap.size ≤ b) :
    OptRel w false 0 0 [] (.returned (.tuple #[.agg #[.int .i64 0, .int .i64 0, .slice none 0 0], .bool false])) (((w1.setCell ⟨b, 0, none⟩ (.int .i64 0)).setCell ⟨b, 1, none⟩ (.int .i64 0)).setCell ⟨b, 2, none⟩ (.slice none 0 0)) :=
  ⟨_, rfl, ownsM_nil _ _, h1.trans ((relBox_chg w1 b _ _ _).below h1.size fun g e => by omega)⟩

set_option maxHeartbeats 1000000 in
theorem fits_any (l r : Int) (hl : (Lit.int .i64 l).wf = true) (w : World) :
    Calls Try.prog 47 #[.int .i64 l, .int .i64 r] w fun e w' => e = .returned (.bool (fitsB l r)) ∧ w = w' := by
  have hc1 := Lib.hid (fun W => within_any l 0 24 W)
  have hc2 := Lib.hid (fun W => within_any r 0 24 W)
  obtain ⟨b1, hb1⟩ : ∃ b, Fld.inR l 0 24 = b := ⟨_, rfl⟩
  obtain ⟨b2, hb2⟩ : ∃ b, Fld.inR r 0 24 = b := ⟨_, rfl⟩
  rw [hb1] at hc1
  rw [hb2] at hc2
  have hno : ∀ {x y z : Int}, Fld.inR x y z = false → ¬ (y ≤ x ∧ x ≤ z) := fun {x y z} h e => by
    have := h
    unfold Fld.inR at this
    simp at this
    omega
  have hmk : ∀ {x y z : Int}, ¬ (y ≤ x ∧ x ≤ z) → Fld.inR x y z = false := fun {x y z} h => by
    unfold Fld.inR
    simp
    omega
  have hyes : ∀ {x y z : Int}, (y ≤ x ∧ x ≤ z) → Fld.inR x y z = true := fun {x y z} h => by
    unfold Fld.inR
    simp
    omega
  cases b1 with
  | false =>
    have e0 : fitsB l r = false := by simp [fitsB, hb1]
    rw [e0]
    clear hb1 hb2 e0 hno hmk hyes
    go_enter Try.func47, Try.ntmps47
    go_wp2_with (go_at_call 41; ((with_reducible refine (hc1.out _).mono ?_); rintro e w' ⟨rfl, rfl⟩))
    go_ret
    exact ⟨rfl, rfl⟩
  | true =>
    obtain ⟨q1, q2⟩ := inR_parts hb1
    cases b2 with
    | false =>
      have e0 : fitsB l r = false := by
        unfold fitsB
        rw [hmk (x := r) (z := 24 - l) (fun e => hno hb2 ⟨e.1, by omega⟩), Bool.and_false]
      rw [e0]
      clear hb1 hb2 e0 hno hmk hyes
      go_enter Try.func47, Try.ntmps47
      go_wp2_with (first | (go_at_call 41; ((with_reducible refine (hc1.out _).mono ?_); rintro e w' ⟨rfl, rfl⟩)) | (go_at_call 41; ((with_reducible refine (hc2.out _).mono ?_); rintro e w' ⟨rfl, rfl⟩)))
      go_ret
      exact ⟨rfl, rfl⟩
    | true =>
      obtain ⟨q3, q4⟩ := inR_parts hb2
      obtain ⟨a, rfl⟩ : ∃ a : Nat, l = a := ⟨l.toNat, by omega⟩
      obtain ⟨b, rfl⟩ : ∃ b : Nat, r = b := ⟨r.toNat, by omega⟩
      have hw : IntKind.i64.wrap ((a : Int) + (b : Int)) = (a : Int) + (b : Int) := IntWalk.i64_in _ (by omega)
      by_cases hs : a + b ≤ 24
      · have e0 : fitsB (a : Int) (b : Int) = true := by
          unfold fitsB
          rw [hb1, hyes (x := (b : Int)) ⟨q3, by omega⟩]
          rfl
        have hd1 : decide ((a : Int) + (b : Int) ≤ 24) = true := by simp; omega
        have hd2 : (a : Int) + (b : Int) ≤ 24 := by omega
        rw [e0]
        clear hb1 hb2 e0 hno hmk hyes
        go_enter Try.func47, Try.ntmps47
        go_wp2_with (first | (go_at_call 41; ((with_reducible refine (hc1.out _).mono ?_); rintro e w' ⟨rfl, rfl⟩)) | (go_at_call 41; ((with_reducible refine (hc2.out _).mono ?_); rintro e w' ⟨rfl, rfl⟩)))
        go_ret
        exact ⟨rfl, rfl⟩
      · have e0 : fitsB (a : Int) (b : Int) = false := by
          unfold fitsB
          rw [hmk (x := (b : Int)) (z := 24 - (a : Int)) (fun e => hs (by omega)), Bool.and_false]
        have hd1 : decide ((a : Int) + (b : Int) ≤ 24) = false := by simp; omega
        have hd2 : ¬ (a : Int) + (b : Int) ≤ 24 := by omega
        rw [e0]
        clear hb1 hb2 e0 hno hmk hyes
        go_enter Try.func47, Try.ntmps47
        go_wp2_with (first | (go_at_call 41; ((with_reducible refine (hc1.out _).mono ?_); rintro e w' ⟨rfl, rfl⟩)) | (go_at_call 41; ((with_reducible refine (hc2.out _).mono ?_); rintro e w' ⟨rfl, rfl⟩)))
        go_ret
        exact ⟨rfl, rfl⟩

end Ints
end Go.Proofs.Ytimjlcnljefbbaa
