/- A term and a library that come in. -/
import Derived.Test.YtoegbphkheohoaaNodeE
import Derived.Test.YtoegbphkheohoaaOpens
import Derived.Deep.Slices
import Derived.Deep.Strs
import Derived.Lib.SmallJoins
namespace Go.Proofs.Ytoegbphkheohoaa
open Go.RowKit Go.ChangeShapes Go.WideShapes Go.Deep Go.Joins
namespace Ints

instance : Inhabited NodeL := ⟨⟨0, 0, ByteArray.empty⟩⟩
instance : Inhabited DefL := ⟨⟨ByteArray.empty, 0, 0, []⟩⟩

def InN (w : World) (v : Value) (ns : List NodeL) : Prop := ReadsN w v ns ∧ BigN ns
def InD (w : World) (v : Value) (ds : List DefL) : Prop := ReadsD w v ds ∧ BigD ds
section
variable {w w' : World} {v : Value} {ns : List NodeL} {ds : List DefL}
theorem InN.below (h : InN w v ns) (hb : Below w.heap.size w w') : InN w' v ns := ⟨h.1.below hb, h.2⟩
theorem InD.below (h : InD w v ds) (hb : Below w.heap.size w w') : InD w' v ds := ⟨h.1.below hb, h.2⟩
theorem InN.form (h : InN w v ns) : ∃ a cap, v = .slice a ns.length cap := h.1.form
theorem InD.form (h : InD w v ds) : ∃ a cap, v = .slice a ds.length cap := h.1.form
end
theorem szTerm_b (v : Value) (ns : List NodeL) (left : Int) (h0 : 0 ≤ left) (hl : left ≤ 1048576) (w : World) (h : InN w v ns) :
    Calls Try.prog 6 #[.agg #[v], .int .i64 left] w fun e w' => e = .returned (.int .i64 (szN (totN ns) left)) ∧ Below w.heap.size w w' := szTerm_any v ns left h0 hl w h.1 h.2
theorem szDefS_b (v : Value) (ds : List DefL) (left : Int) (h0 : 0 ≤ left) (hl : left ≤ 1048576) (w : World) (h : InD w v ds) :
    Calls Try.prog 5 #[v, .int .i64 left] w fun e w' => e = .returned (.int .i64 (szN (totD ds) left)) ∧ Below w.heap.size w w' := szDefS_any v ds left h0 hl w h.1 h.2
theorem toTerm_b (v : Value) (ns : List NodeL) (w : World) (h : InN w v ns) (hs : totN ns ≤ 1048576) : Calls Try.prog 9 #[.agg #[v]] w (NewTerm w ns) := toTerm_any v ns w h.1 hs
theorem toDefS_b (v : Value) (ds : List DefL) (w : World) (h : InD w v ds) (hs : totD ds ≤ 1048576) : Calls Try.prog 8 #[v] w (NewDefs w ds) := toDefS_any v ds w h.1 hs

set_option maxRecDepth 100000 in
theorem readsN_of_trod {H : Type} {enc : TypeId × Value → H} {w : World} {base : Nat} {held : Bool} {fuel : Nat} {v : Value} {x : DataW H × List MemPlace}
    (hf : DataW.trod enc Try.prog w base (fun _ => true) held fuel 23 [v] = some x) : ∃ ns, InN w v ns := by
  rcases open_slice Try.underlying23 hf with ⟨h1, _⟩ | ⟨a', len', cap', m, n, D, Pl, h1, _, hl, hm, hmm, _, hx⟩
  · simp only [List.cons.injEq, and_true] at h1
    rw [h1]
    exact ⟨[], readsN_of none 0 (Nat.le_refl _) (Nat.zero_le _) (fun k hk => by simp at hk), fun k hk => by simp at hk⟩
  · simp only [List.cons.injEq, and_true] at h1
    rw [h1]
    have hce : Try.prog.cellsOf 79 = 3 := by kernel_rfl
    have hci : Try.prog.cellsOf 3 = 1 := by kernel_rfl
    have hcs : Try.prog.cellsOf 9 = 1 := by kernel_rfl
    rw [hce] at hx
    simp only [if_true] at hmm
    have hfirst : 0 < len' → a' = ⟨a'.block, a'.off, none⟩ := by
      intro h0
      obtain ⟨cs', h2, _⟩ := hx 0 (by omega)
      obtain ⟨_, h4, h5⟩ := World.cells?_some h2
      have c0 := h5 0 (by omega)
      obtain ⟨z, hz⟩ : ∃ z, cs'[0]? = some z := ⟨_, List.getElem?_eq_getElem (by omega)⟩
      rw [hz, Go.Deep.add_add] at c0
      have e0 : a'.add (0 * 3 + 0) = a' := rfl
      rw [e0] at c0
      exact addr_of_cell c0
    have each : ∀ i, i < len' → ∃ p : NodeL, NodeAt w a'.block (a'.off + i * 3) p ∧ a' = ⟨a'.block, a'.off, none⟩ ∧ p.name.size ≤ maxLen := by
      intro i hi
      obtain ⟨cs', h2, h3⟩ := hx i (by omega)
      obtain ⟨_, h4, h5⟩ := World.cells?_some h2
      obtain ⟨y0, y1, y2, n', _, _, k0, k1, k2⟩ := trod_struct3 Try.underlying79 h3
      match cs', h4 with
      | [e0, e1, e2], _ =>
        dsimp only at k0 k1 k2
        rw [hci] at k0 k1
        rw [hcs] at k2
        simp only [List.drop_zero, List.drop_succ_cons, List.take_succ_cons, List.take_zero] at k0 k1 k2
        obtain ⟨z0, q0, _, _⟩ := DataW.trod_int Try.underlying3 k0
        obtain ⟨z1, q1, _, _⟩ := DataW.trod_int Try.underlying3 k1
        obtain ⟨s2, q2, _, hs2⟩ := DataW.trod_string Try.underlying9 k2
        simp only [List.cons.injEq, and_true] at q0 q1 q2
        have c0 := h5 0 (by omega)
        have c1 := h5 1 (by omega)
        have c2 := h5 2 (by omega)
        simp only [List.getElem?_cons_zero, List.getElem?_cons_succ] at c0 c1 c2
        rw [Go.Deep.add_add] at c0 c1 c2
        have ha := hfirst (by omega)
        rw [ha, add_plain] at c0 c1 c2
        rw [q0] at c0
        rw [q1] at c1
        rw [q2] at c2
        exact ⟨⟨z0, z1, s2⟩, ⟨c0, c1, c2⟩, ha, hs2⟩
    obtain ⟨f, hf⟩ := choose_lt (α := NodeL) each
    have hlen : ((List.range len').map f).length = len' := by simp
    have hat : ∀ k, k < len' → nAt ((List.range len').map f) k = f k := fun k hk => by simp [nAt, hk]
    refine ⟨(List.range len').map f, ?_, fun k hk => ?_⟩
    · have := readsN_of (w := w) (ns := (List.range len').map f) (some a') cap' (by rw [hlen]; exact hl) hm fun k hk => by
        rw [hlen] at hk
        rw [hat k hk]
        exact ⟨a'.block, a'.off, by rw [← (hf k hk).2.1], (hf k hk).1⟩
      rw [hlen] at this
      exact this
    · rw [hlen] at hk
      rw [hat k hk]
      exact (hf k hk).2.2

set_option maxRecDepth 100000 in
theorem open_Term {H : Type} {enc : TypeId × Value → H} {w : World} {base b0 : Nat} {held : Bool} {r : Reach} {v : Value} {d : DataW H} {p : List MemPlace}
    (hv : Value.okWide Try.prog w r b0 25 v) (h : DataW.Trod enc Try.prog w base (fun _ => true) held 25 v d p) : ∃ u ns, v = .agg #[u] ∧ InN w u ns := by
  have hs := Try.underlying25
  obtain ⟨cs, rfl, hsz⟩ := okWide_struct hs hv
  have hC : Try.prog.cellsOf 25 = 1 := by kernel_rfl
  rw [hC] at hsz
  obtain ⟨c0, rfl⟩ : ∃ c0, cs = #[c0] := by
    obtain ⟨l⟩ := cs
    match l, hsz with
    | [c0], _ => exact ⟨c0, rfl⟩
  obtain ⟨fuel, hf⟩ := h
  obtain ⟨y0, n, hx, _, h0⟩ := trod_struct1 hs hf
  have hcs : Try.prog.cellsOf 23 = 1 := by kernel_rfl
  have h0' : DataW.trod enc Try.prog w base (fun _ => true) held n 23 [c0] = some y0 := by
    first | exact h0 | simpa [hcs] using h0
  obtain ⟨ns, h1⟩ := readsN_of_trod h0'
  exact ⟨c0, ns, rfl, h1⟩

set_option maxRecDepth 100000 in
theorem readsD_of_trod {H : Type} {enc : TypeId × Value → H} {w : World} {base : Nat} {held : Bool} {fuel : Nat} {v : Value} {x : DataW H × List MemPlace}
    (hf : DataW.trod enc Try.prog w base (fun _ => true) held fuel 22 [v] = some x) : ∃ ds, InD w v ds := by
  rcases open_slice Try.underlying22 hf with ⟨h1, _⟩ | ⟨a', len', cap', m, n, D, Pl, h1, _, hl, hm, hmm, _, hx⟩
  · simp only [List.cons.injEq, and_true] at h1
    rw [h1]
    exact ⟨[], ⟨none, 0, rfl, Nat.le_refl _, Nat.zero_le _, fun k hk => by simp at hk⟩, fun k hk => by simp at hk⟩
  · simp only [List.cons.injEq, and_true] at h1
    rw [h1]
    have hce : Try.prog.cellsOf 49 = 4 := by kernel_rfl
    have hci : Try.prog.cellsOf 3 = 1 := by kernel_rfl
    have hcs : Try.prog.cellsOf 9 = 1 := by kernel_rfl
    have hct : Try.prog.cellsOf 25 = 1 := by kernel_rfl
    have hcn : Try.prog.cellsOf 23 = 1 := by kernel_rfl
    rw [hce] at hx
    simp only [if_true] at hmm
    have hfirst : 0 < len' → a' = ⟨a'.block, a'.off, none⟩ := by
      intro h0
      obtain ⟨cs', h2, _⟩ := hx 0 (by omega)
      obtain ⟨_, h4, h5⟩ := World.cells?_some h2
      have c0 := h5 0 (by omega)
      obtain ⟨z, hz⟩ : ∃ z, cs'[0]? = some z := ⟨_, List.getElem?_eq_getElem (by omega)⟩
      rw [hz, Go.Deep.add_add] at c0
      have e0 : a'.add (0 * 4 + 0) = a' := rfl
      rw [e0] at c0
      exact addr_of_cell c0
    have each : ∀ i, i < len' → ∃ p : DefL × Value, DefAt w a'.block (a'.off + i * 4) p.1 p.2 ∧ a' = ⟨a'.block, a'.off, none⟩ ∧ p.1.name.size ≤ maxLen ∧ BigN p.1.body := by
      intro i hi
      obtain ⟨cs', h2, h3⟩ := hx i (by omega)
      obtain ⟨_, h4, h5⟩ := World.cells?_some h2
      obtain ⟨y0, y1, y2, y3, n', _, _, k0, k1, k2, k3⟩ := trod_struct4 Try.underlying49 h3
      match cs', h4 with
      | [e0, e1, e2, e3], _ =>
        dsimp only at k0 k1 k2 k3
        rw [hcs] at k0
        rw [hci] at k1 k2
        rw [hct] at k3
        simp only [List.drop_zero, List.drop_succ_cons, List.take_succ_cons, List.take_zero] at k0 k1 k2 k3
        obtain ⟨s0, q0, _, hs0⟩ := DataW.trod_string Try.underlying9 k0
        obtain ⟨z1, q1, _, _⟩ := DataW.trod_int Try.underlying3 k1
        obtain ⟨z2, q2, _, _⟩ := DataW.trod_int Try.underlying3 k2
        obtain ⟨y4, n4, _, _, k4⟩ := trod_struct1 Try.underlying25 k3
        dsimp only at k4
        rw [hcn] at k4
        simp only [List.drop_zero, List.take_succ_cons, List.take_zero] at k4
        obtain ⟨l3, hl3, hb3⟩ := readsN_of_trod k4
        simp only [List.cons.injEq, and_true] at q0 q1 q2
        have c0 := h5 0 (by omega)
        have c1 := h5 1 (by omega)
        have c2 := h5 2 (by omega)
        have c3 := h5 3 (by omega)
        simp only [List.getElem?_cons_zero, List.getElem?_cons_succ] at c0 c1 c2 c3
        rw [Go.Deep.add_add] at c0 c1 c2 c3
        have ha := hfirst (by omega)
        rw [ha, add_plain] at c0 c1 c2 c3
        rw [q0] at c0
        rw [q1] at c1
        rw [q2] at c2
        exact ⟨(⟨s0, z1, z2, l3⟩, e3), ⟨c0, c1, c2, c3, hl3⟩, ha, hs0, hb3⟩
    obtain ⟨f, hf⟩ := choose_lt (α := DefL × Value) each
    have hlen : ((List.range len').map fun i => (f i).1).length = len' := by simp
    have hat : ∀ k, k < len' → dAt ((List.range len').map fun i => (f i).1) k = (f k).1 := fun k hk => by simp [dAt, hk]
    refine ⟨(List.range len').map fun i => (f i).1, ⟨some a', cap', by rw [hlen], by rw [hlen]; exact hl, hm, fun k hk => ?_⟩, fun k hk => ?_⟩
    · rw [hlen] at hk
      rw [hat k hk]
      exact ⟨a'.block, a'.off, (f k).2, by rw [← (hf k hk).2.1], (hf k hk).1⟩
    · rw [hlen] at hk
      rw [hat k hk]
      exact (hf k hk).2.2

set_option maxRecDepth 100000 in
theorem open_DefS {H : Type} {enc : TypeId × Value → H} {w : World} {base b0 : Nat} {held : Bool} {r : Reach} {v : Value} {d : DataW H} {p : List MemPlace}
    (hv : Value.okWide Try.prog w r b0 22 v) (h : DataW.Trod enc Try.prog w base (fun _ => true) held 22 v d p) : ∃ ds, InD w v ds := by
  obtain ⟨a, len, cap, rfl⟩ := okWide_slice Try.underlying22 hv
  obtain ⟨fuel, hf⟩ := h
  exact readsD_of_trod (v := .slice a len cap) hf

end Ints
end Go.Proofs.Ytoegbphkheohoaa
