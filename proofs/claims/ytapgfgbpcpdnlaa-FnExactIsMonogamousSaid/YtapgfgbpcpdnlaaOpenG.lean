/- A graph that comes in. -/
import Derived.Test.YtapgfgbpcpdnlaaOpenP
import Derived.Test.YtapgfgbpcpdnlaaEdges
import Derived.Deep.Slices
import Derived.Lib.SmallJoins
namespace Go.Proofs.Ytapgfgbpcpdnlaa
open Go.RowKit Go.ChangeShapes Go.WideShapes Go.Deep Go.Joins
namespace Ints

instance : Inhabited EdgeL := ⟨⟨0, 0, [], []⟩⟩

set_option maxRecDepth 100000 in
theorem readsE_of_trod {H : Type} {enc : TypeId × Value → H} {w : World} {base : Nat} {held : Bool} {fuel : Nat} {v : Value} {x : DataW H × List MemPlace}
    (hf : DataW.trod enc Try.prog w base (fun _ => true) held fuel 22 [v] = some x) : ∃ es, ReadsE w v es := by
  rcases open_slice Try.underlying22 hf with ⟨h1, _⟩ | ⟨a', len', cap', m, n, D, Pl, h1, _, hl, hm, hmm, _, hx⟩
  · simp only [List.cons.injEq, and_true] at h1
    rw [h1]
    exact ⟨[], none, 0, rfl, Nat.le_refl _, Nat.zero_le _, fun k hk => by simp at hk⟩
  · simp only [List.cons.injEq, and_true] at h1
    rw [h1]
    have hce : Try.prog.cellsOf 43 = 4 := by kernel_rfl
    have hci : Try.prog.cellsOf 3 = 1 := by kernel_rfl
    have hcs : Try.prog.cellsOf 23 = 1 := by kernel_rfl
    rw [hce] at hx
    simp only [if_true] at hmm
    have hfirst : 0 < len' → a' = ⟨a'.block, a'.off, none⟩ := by
      intro h0
      obtain ⟨cs', h2, _⟩ := hx 0 (by omega)
      obtain ⟨_, h4, h5⟩ := World.cells?_some h2
      have c0 := h5 0 (by omega)
      obtain ⟨z, hz⟩ : ∃ z, cs'[0]? = some z := ⟨_, List.getElem?_eq_getElem (by omega)⟩
      rw [hz, Go.Deep.add_add] at c0
      have e0 : a'.add (0 * 4 + 0) = a' := rfl
      rw [e0] at c0
      exact addr_of_cell c0
    have each : ∀ i, i < len' → ∃ p : EdgeL × Value × Value, EdgeAt w a'.block (a'.off + i * 4) p.1 p.2.1 p.2.2 ∧ a' = ⟨a'.block, a'.off, none⟩ := by
      intro i hi
      obtain ⟨cs', h2, h3⟩ := hx i (by omega)
      obtain ⟨_, h4, h5⟩ := World.cells?_some h2
      obtain ⟨y0, y1, y2, y3, n', _, _, k0, k1, k2, k3⟩ := trod_struct4 Try.underlying43 h3
      match cs', h4 with
      | [e0, e1, e2, e3], _ =>
        dsimp only at k0 k1 k2 k3
        rw [hci] at k0 k1
        rw [hcs] at k2 k3
        simp only [List.drop_zero, List.drop_succ_cons, List.take_succ_cons, List.take_zero] at k0 k1 k2 k3
        obtain ⟨z0, q0, _, _⟩ := DataW.trod_int Try.underlying3 k0
        obtain ⟨z1, q1, _, _⟩ := DataW.trod_int Try.underlying3 k1
        obtain ⟨l2, hl2⟩ := readsI_of_trod k2
        obtain ⟨l3, hl3⟩ := readsI_of_trod k3
        simp only [List.cons.injEq, and_true] at q0 q1
        have c0 := h5 0 (by omega)
        have c1 := h5 1 (by omega)
        have c2 := h5 2 (by omega)
        have c3 := h5 3 (by omega)
        simp only [List.getElem?_cons_zero, List.getElem?_cons_succ] at c0 c1 c2 c3
        rw [Go.Deep.add_add] at c0 c1 c2 c3
        have ha := hfirst (by omega)
        rw [ha, add_plain] at c0 c1 c2 c3
        rw [q0] at c0
        rw [q1] at c1
        exact ⟨(⟨z0, z1, l2, l3⟩, e2, e3), ⟨c0, c1, c2, c3, hl2, hl3⟩, ha⟩
    obtain ⟨f, hf⟩ := choose_lt (α := EdgeL × Value × Value) each
    refine ⟨(List.range len').map fun i => (f i).1, some a', cap', by simp, by simpa using hl, hm, fun k hk => ?_⟩
    have hk' : k < len' := by simpa using hk
    obtain ⟨h6, h7⟩ := hf k hk'
    have e1 : eAt ((List.range len').map fun i => (f i).1) k = (f k).1 := by simp [eAt, hk']
    rw [e1]
    exact ⟨a'.block, a'.off, (f k).2.1, (f k).2.2, by rw [← h7], h6⟩

set_option maxRecDepth 100000 in
theorem open_Graph {H : Type} {enc : TypeId × Value → H} {w : World} {base b0 : Nat} {held : Bool} {r : Reach} {v : Value} {d : DataW H} {p : List MemPlace}
    (hv : Value.okWide Try.prog w r b0 25 v) (h : DataW.Trod enc Try.prog w base (fun _ => true) held 25 v d p) : ∃ c u1 u2 u3 L, v = .agg #[.int .i64 c, u1, u2, u3] ∧ ReadsG w u1 u2 u3 L := by
  obtain ⟨v0, v1, v2, v3, y0, y1, y2, y3, n, rfl, _, _, hy0, hy1, hy2, hy3⟩ := open_agg4 Try.underlying25 (by kernel_rfl) (show Try.prog.cellsOf 25 = 4 by kernel_rfl) hv h
  obtain ⟨a, e0, _, _⟩ := DataW.trod_int Try.underlying3 hy0
  simp at e0
  subst e0
  obtain ⟨L1, h1⟩ := readsE_of_trod hy1
  obtain ⟨L2, h2⟩ := readsI_of_trod hy2
  obtain ⟨L3, h3⟩ := readsI_of_trod hy3
  exact ⟨a, v1, v2, v3, ⟨L1, L2, L3⟩, rfl, h1, h2, h3⟩

end Ints
end Go.Proofs.Ytapgfgbpcpdnlaa
