/- What the laws' walks over matrices share. -/
import Derived.Test.YtmingbiiahoojaaDoorMem2
import Derived.Test.YtmingbiiahoojaaDoorMatLawBase
import Derived.WalkSpells
namespace Go.Proofs.YtmingbiiahoojaaDoor
open Go.RowKit
namespace Ints

theorem eqMatrix_same (c : Int) (va vb : Value) (L : List (List Int)) (w : World) (ha : ReadsM w va L) (hb : ReadsM w vb L) :
    Calls Tryd.prog 16 #[.agg #[.int .i64 c, va], .agg #[.int .i64 c, vb]] w fun e w' => e = .returned (.bool true) ∧ Below w.heap.size w w' := by
  have h := eqMatrix_any c c va vb L L w ha hb
  simpa using h

theorem sum_le_mul (f : List Int → Nat) (b : Nat) : ∀ (L : List (List Int)), (∀ l ∈ L, f l ≤ b) → (L.map f).sum ≤ L.length * b
  | [], _ => by simp
  | l :: L, h => by
    have h1 := sum_le_mul f b L (fun x hx => h x (List.mem_cons_of_mem _ hx))
    have h2 := h l List.mem_cons_self
    simp only [List.map_cons, List.sum_cons, List.length_cons, Nat.add_mul, Nat.one_mul]
    omega
theorem sumL_tab (r c : Nat) (f : Nat → Nat → Int) : sumL (tabT r c f) ≤ r * c := by
  have := sum_le_mul List.length c (tabT r c f) (fun l hl => by
    simp only [tabT, List.mem_map] at hl
    obtain ⟨i, _, rfl⟩ := hl
    rw [rowT_length]; exact Nat.le_refl _)
  rw [tabT_length] at this
  exact this
theorem ctr_tab {r c : Nat} (hr : r ≤ 1000) (hc : c ≤ 1000) (f : Nat → Nat → Int) : (1 : Int) + (sumL (tabT r c f) : Int) ≤ 1000000000 := by
  have h1 := sumL_tab r c f
  have h2 : r * c ≤ 1000 * 1000 := Nat.mul_le_mul hr hc
  omega
theorem ctr_nil : (1 : Int) + (sumL [] : Int) ≤ 1000000000 := by simp [sumL]

end Ints
end Go.Proofs.YtmingbiiahoojaaDoor
