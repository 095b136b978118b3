/- What the laws' walks ask of a definition that comes in. -/
import Derived.Test.YtlfcmlbffpmhkaaDoorOpenD
import Derived.Test.YtlfcmlbffpmhkaaDoorMarkD
import Derived.Test.YtlfcmlbffpmhkaaDoorAddD
namespace Go.Proofs.YtlfcmlbffpmhkaaDoor
open Go.RowKit Go.ChangeShapes Go.WideShapes Go.Deep Go.Joins
namespace Ints

abbrev ReadsB (w : World) (v : Value) (d : DefL) : Prop := ReadsN w v d.body
def InB (w : World) (v : Value) (d : DefL) : Prop := ReadsN w v d.body ∧ BigN d.body ∧ d.name.size ≤ maxLen
def totB (d : DefL) : Nat := cellsD d
def sumB (d : DefL) : Nat := sumN d.body
theorem sumB_tot (d : DefL) : sumB d ≤ 3 * totB d := by unfold sumB totB sumN cellsD totN; omega
section
variable {w w' : World} {v : Value} {d : DefL}
theorem InB.below (h : InB w v d) (hb : Below w.heap.size w w') : InB w' v d := ⟨h.1.below hb, h.2⟩
theorem InB.form (h : InB w v d) : ∃ a cap, v = .slice a d.body.length cap := h.1.form
end
theorem szDef_b (v : Value) (d : DefL) (left : Int) (h0 : 0 ≤ left) (hl : left ≤ 1048576) (w : World) (h : InB w v d) :
    Calls Tryd.prog 17 #[.agg #[.string d.name, .int .i64 d.inp, .int .i64 d.out, v], .int .i64 left] w fun e w' => e = .returned (.int .i64 (szN (totB d) left)) ∧ Below w.heap.size w w' := szDef_any d v left h0 hl h.2.2 w h.1 h.2.1
theorem toDef_b (v : Value) (d : DefL) (w : World) (h : InB w v d) (hs : totB d ≤ 1048576) :
    Calls Tryd.prog 19 #[.agg #[.string d.name, .int .i64 d.inp, .int .i64 d.out, v]] w (NewDef w d) := toDef_any d v w h.1 (by unfold totB cellsD at hs; omega)
theorem eqDef_b (va vb : Value) (d : DefL) (w : World) (ha : ReadsB w va d) (hb : ReadsB w vb d) :
    Calls Tryd.prog 21 #[.agg #[.string d.name, .int .i64 d.inp, .int .i64 d.out, va], .agg #[.string d.name, .int .i64 d.inp, .int .i64 d.out, vb]] w fun e w' => e = .returned (.bool true) ∧ Below w.heap.size w w' := eqDef_same d va vb w ha hb
theorem libO_ctr {ds : List DefL} (h : totD ds ≤ 100000000) : (1 : Int) + (sumDS (libO ds) : Int) ≤ 1000000000 := by
  have h1 := sumDS_tot (libO ds)
  have h2 : totD (libO ds) ≤ totD ds := by
    unfold libO
    split
    · exact Nat.le_refl _
    · exact Nat.zero_le _
  omega
theorem addR_ctr (ds : List DefL) (d : DefL) (h : totD ds ≤ 1048576) (h2 : totB d ≤ 1048576) : (1 : Int) + (sumDS (addR ds d) : Int) ≤ 1000000000 := by
  unfold addR
  split
  · exact libO_ctr (by rw [totD_snoc]; unfold totB at h2; omega)
  · simp [sumDS]

set_option maxRecDepth 100000 in
theorem open_Def {H : Type} {enc : TypeId × Value → H} {w : World} {base b0 : Nat} {held : Bool} {r : Reach} {v : Value} {d : DataW H} {p : List MemPlace}
    (hv : Value.okWide Tryd.prog w r b0 40 v) (h : DataW.Trod enc Tryd.prog w base (fun _ => true) held 40 v d p) : ∃ u d, v = .agg #[.string d.name, .int .i64 d.inp, .int .i64 d.out, u] ∧ InB w u d := by
  have hs := Tryd.underlying40
  obtain ⟨cs, rfl, hsz⟩ := okWide_struct hs hv
  have hC : Tryd.prog.cellsOf 40 = 4 := by kernel_rfl
  rw [hC] at hsz
  obtain ⟨e0, e1, e2, e3, rfl⟩ : ∃ e0 e1 e2 e3, cs = #[e0, e1, e2, e3] := by
    obtain ⟨l⟩ := cs
    match l, hsz with
    | [e0, e1, e2, e3], _ => exact ⟨e0, e1, e2, e3, rfl⟩
  obtain ⟨fuel, hf⟩ := h
  have hci : Tryd.prog.cellsOf 3 = 1 := by kernel_rfl
  have hcs : Tryd.prog.cellsOf 9 = 1 := by kernel_rfl
  have hct : Tryd.prog.cellsOf 25 = 1 := by kernel_rfl
  have hcn : Tryd.prog.cellsOf 23 = 1 := by kernel_rfl
  have hf2 : DataW.trod enc Tryd.prog w base (fun _ => true) held fuel 40 [e0, e1, e2, e3] = some (d, p) := by
    first | exact hf | simpa [Value.cells] using hf
  obtain ⟨y0, y1, y2, y3, n', _, _, k0, k1, k2, k3⟩ := trod_struct4 hs hf2
  dsimp only at k0 k1 k2 k3
  rw [hcs] at k0
  rw [hci] at k1 k2
  rw [hct] at k3
  simp only [List.drop_zero, List.drop_succ_cons, List.take_succ_cons, List.take_zero] at k0 k1 k2 k3
  obtain ⟨s0, q0, _, hs0⟩ := DataW.trod_string Tryd.underlying9 k0
  obtain ⟨z1, q1, _, _⟩ := DataW.trod_int Tryd.underlying3 k1
  obtain ⟨z2, q2, _, _⟩ := DataW.trod_int Tryd.underlying3 k2
  obtain ⟨y4, n4, _, _, k4⟩ := trod_struct1 Tryd.underlying25 k3
  dsimp only at k4
  rw [hcn] at k4
  simp only [List.drop_zero, List.take_succ_cons, List.take_zero] at k4
  obtain ⟨l3, hl3, hb3⟩ := readsN_of_trod k4
  simp only [List.cons.injEq, and_true] at q0 q1 q2
  subst q0 q1 q2
  exact ⟨e3, ⟨s0, z1, z2, l3⟩, rfl, hl3, hb3, hs0⟩

end Ints
end Go.Proofs.YtlfcmlbffpmhkaaDoor
